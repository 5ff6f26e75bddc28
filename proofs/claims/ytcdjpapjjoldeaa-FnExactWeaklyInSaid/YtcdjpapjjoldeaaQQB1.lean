/-
  Walks, one after the other (part 2).
-/
import Derived.Test.YtcdjpapjjoldeaaQQL1
import Derived.Test.YtcdjpapjjoldeaaQQB0
import Derived.Recover
import Derived.Tactics
import Derived.Tactics2
set_option linter.unusedSimpArgs false
set_option linter.unusedVariables false
namespace Go.Proofs.Ytcdjpapjjoldeaa
open Go X M Try

theorem endAtW_ok {F : FH} {L : List HP} {p : Nat} {arv : Value} {ar : List Int} (har : IntsF F arv ar) {tv : Value} {t : List Int} (ht : IntsF F tv t) (ho : TermW ar t) (hp : p < t.length) :
    Does prog 150 [.agg #[arv], tv, ii (p : Int)] F L (fun v F' L' => (ii ((endN ar t p : Nat) : Int) : Value) = v ∧ F = F' ∧ L = L') := by
  have hl := ho.len
  have h := endAt_spec (F := F) (L := L) (p := p) har ht ho.sig (by omega) (by omega)
  rw [ho.endZ hp] at h
  exact h


/- impl.subAt -/
theorem subAtW_spec {F : FH} {L : List HP} {arv : Value} {ar : List Int} (har : IntsF F arv ar) {tv : Value} {t : List Int} (ht : IntsF F tv t) {p : Nat} (ho : TermW ar t) (hp : p < t.length) (hnn : isNil tv = false) :
    Does prog 224 [.agg #[arv], tv, ii ((p : Int))] F (L) (fun v F' L' => F = F' ∧ L = L' ∧ IntsF F v (sub ar t p) ∧ isNil v = false) := by
 refine qI func224 rfl rfl rfl ?_
 have hsl := sigOk_spec ho.sig
 have htl := ho.len
 have hsig := ho.sig
 have hee := ho.endN hp
 refine qc (qa (cX (ja [arv] rfl rfl ?_)))
 intro b1
 refine qh (sN) rfl (qb (qc (qa (qf (tv) rfl (qf (ii ((p : Int))) rfl (cX (qB [arv] jd qJ rfl rfl (Rd.ownN [] rfl rfl) (qf (tv) rfl (qf (ii ((p : Int))) rfl (cX (qs (args := [.agg #[arv], tv, ii (p : Int)]) call150 rfl (endAtW_ok (p := p) har ht (ho := (by first | assumption | rfl | omega | (left; simp; done) | (right; simp; done))) (hp := (by first | assumption | rfl | omega | (left; simp; done) | (right; simp; done)))) ?_)))))))))))
 rintro _ _ _ _ ⟨rfl, rfl, rfl⟩
 refine cX (XOp.sliceI p (endN ar t p) qd qm rfl ht ⟨_, rfl⟩ ⟨_, rfl⟩ (by omega) (by omega) ?_)
 intro v1 hv1 hn1
 refine qh (v1) rfl (qb (qz (qu (L' := L) [v1] (v1) (.tmp rfl .nil) rfl rF rF (sD sR) ?_)))
 exact ⟨rfl, rfl, hv1, by rw [hn1]; exact hnn⟩

/- impl.argsAt -/
theorem argsAtW_spec {F : FH} {L : List HP} {arv : Value} {ar : List Int} (har : IntsF F arv ar) {tv : Value} {t : List Int} (ht : IntsF F tv t) {p : Nat} (ho : TermW ar t) (hp : p < t.length) :
    Does prog 222 [.agg #[arv], tv, ii ((p : Int))] F (L) (fun v F' L' => F = F' ∧ IsSl v ∧ intsH 3 v (argsL ar t p) :: L = L') := by
 refine qI func222 rfl rfl rfl ?_
 have hsl := sigOk_spec ho.sig
 have htl := ho.len
 have hsig := ho.sig
 have hA := arity_le hsig (ho.lt hp)
 have hge := ho.geD hp
 have hlt := ho.lt hp
 refine qc (qa (cX (ja [arv] rfl rfl ?_)))
 intro b1
 refine qh (sN) rfl (qb (qc (qa (qh (sN) rfl (qb (qc (qa (qf (ii ((p : Int))) rfl (cX (qM (((p + 1 : Nat) : Int)) rfl rfl (by omega) (by omega) (qh (ii (((p + 1 : Nat) : Int))) rfl (qb (qc (qc ?_))))))))))))))
 refine jh [cellsH b1 [arv] 29] L 5 [] [[], [], [], [1, 2], [3]] (phiL [qe (.agg #[arv]), qe tv, qe (ii ((p : Int)) : Value), qe (.pointer (some (elemA tv (p)))), qe (ii (t.getD p 0))]) (ownL []) mixed rfl rfl (by kernel_rfl) ?_ ?_
 ·refine pD (fun W R z9 => ?_) ?_
  ·refine qg (qB [arv] jd qJ rfl rfl (Rd.ownN [] rfl rfl) ?_)
   exact ⟨rfl, rfl, rfl⟩
  refine pD (fun W R z9 => ?_) ?_
  ·refine qg (qi (tv) rfl ?_)
   exact ⟨rfl, rfl, rfl⟩
  refine pD (fun W R z9 => ?_) ?_
  ·refine qg (qi (ii ((p : Int))) rfl ?_)
   exact ⟨rfl, rfl, rfl⟩
  refine pD (fun W R z9 => ?_) ?_
  ·rw [eS (l := [(1, _), (2, _)]) ⟨z9 1 rfl, z9 2 rfl, ⟨⟩⟩]
   refine qg (qk p qd qm rfl rfl rfl ht.slv (by omega) (Nat.mul_one _) ?_)
   exact ⟨rfl, rfl, rfl⟩
  refine pD (fun W R z9 => ?_) ?_
  ·rw [eS (l := [(3, _)]) ⟨z9 3 rfl, ⟨⟩⟩]
   refine qg (qj qC rfl (ht.rd (by omega)) ?_)
   exact ⟨rfl, rfl, rfl⟩
  exact stepsP.nil
 intro W hphi
 rw [eS (l := [(0, _), (4, _)]) ⟨(hphi 0 (by decide)), (hphi 4 (by decide)), ⟨⟩⟩]
 show XL _ _ _ _ _ _ _ (cellsH b1 [arv] 29 :: L)
 refine cX (qs (args := [.agg #[arv], ii (t.getD p 0)]) call243 rfl (arityAt_spec (n := t.getD p 0) har (hn := (by first | assumption | rfl | omega | simp))) ?_)
 rintro _ _ _ _ ⟨rfl, rfl, rfl⟩
 refine qh (ii (arity ar (t.getD p 0))) rfl (qb (qF (jg (α := Nat × Nat × Value × List Int) (fun xQ => [(1, tv), (3, ptr b1 0), (7, xQ.2.2.1), (8, ii (((xQ.2.1 : Nat) : Int))), (9, ii (((xQ.1 : Nat) : Int)))]) (fun xQ => intsH 3 xQ.2.2.1 xQ.2.2.2 :: cellsH b1 [arv] 29 :: L) (fun xQ F' => F = F' ∧ (IsSl xQ.2.2.1) ∧ (Stand ar t xQ.1 xQ.2.1 (endN ar t p)) ∧ (argsL ar t p = xQ.2.2.2 ++ argsGo ar t xQ.1 xQ.2.1) ∧ (xQ.2.2.2.length + xQ.1 ≤ 3)) (fun xQ => xQ.1) ((arity ar (t.getD p 0)).toNat, p + 1, sN, []) ⟨rfl, rfl, rfl, rfl, (vI (by first | omega | (rw [sArity_eq (by omega)]; omega))), ⟨⟩⟩ (qK (intsH.addNil 3 none _) (sC (sC sR))) ⟨rfl, (⟨_, _, _, rfl⟩), (ho.stand0 hp), (rfl), (by rw [List.length_nil]; omega)⟩ ?_)))
 rintro ⟨m, q, ov, os⟩ rE _ _ ⟨rfl, hov, hS, hos, hol⟩
 show X _ _ _ _ (envs [(1, tv), (3, ptr b1 0), (7, ov), (8, ii ((q : Int))), (9, ii ((m : Int)))] rE) _ (intsH 3 ov os :: cellsH b1 [arv] 29 :: L)
 dsimp only at hov hS hos hol
 have hst := fun (h : 1 ≤ m) => ho.stand (n := m - 1) (by rw [Nat.sub_add_cancel h]; exact hS)
 refine qc (qc (qa (qf (ii ((m : Int))) rfl (cX (jM rfl rfl (qb ?_))))))
 refine qx (p := (m : Int) > 0) rfl (fun h1 => ?_) (fun h1 => ?_)
 ·refine qw (qc (qF (qc (qa (qf (ov) rfl (qf (ii ((q : Int))) rfl (cX (qU (s := 1) [ii ((q : Int))] [ii (0)] [(0, [ii ((q : Int))])] jn jF zeroValue3 rfl (by decide) rfl (.cons rfl CellsAre.nil) rfl ?_))))))))
  intro v1 hv1
  refine cX (XOp.append1 (u := (q : Int)) [_] _ jn typeInfo3 rfl rfl rfl rfl rfl rfl (SlV.own [] rfl) (Rd.sl [] rfl rfl) (by (try simp only [List.length_append, List.length_nil, List.length_cons, List.length_singleton, List.length_take, List.length_drop]); omega) ?_)
  intro v2 hs1 hn1
  refine qh (v2) rfl (qb (qa (cX (qB [arv] jd qJ rfl rfl (Rd.ownN [_, _] rfl rfl) (qf (tv) rfl (qf (ii ((q : Int))) rfl (cX (qs (args := [.agg #[arv], tv, ii (q : Int)]) call150 rfl (endAtW_ok (p := q) har ht (ho := (by first | assumption | rfl | omega | (left; simp; done) | (right; simp; done))) (hp := (hst (by omega)).1)) ?_))))))))
  rintro _ _ _ _ ⟨rfl, rfl, rfl⟩
  refine qh (ii (((endN ar t q : Nat) : Int))) rfl (qb (qa (qf (ii ((m : Int))) rfl (cX (jb (((m : Int)) - 1) rfl rfl (by omega) (by omega) (qh (ii (((m : Int)) - 1)) rfl (qb ?_)))))))
  exact ⟨(m - 1, endN ar t q, v2, os ++ [(q : Int)]), _, FLe.refl _, rF, ⟨rfl, rfl, rfl, rfl, (vI (by omega)), ⟨⟩⟩, (sD (sC (sC sR))), ⟨rfl, (hs1), ((hst (by omega)).2.1), (args_nextW (by omega) hos), (by dsimp only; rw [List.length_append, List.length_singleton]; omega)⟩, (by omega)⟩
 refine jc (qt (qt (qL (qc (qa (qf (ov) rfl (qh (ov) rfl (qb (qz (qu (L' := intsH 3 ov os :: L) [ov] (ov) (.tmp rfl .nil) rfl rF rF (sC (sD sR)) ?_))))))))))
 refine ⟨rfl, hov, ?_⟩
 have hxs : (argsL ar t p : List Int) = os := by rw [hos, show m = 0 from by omega]; simp [argsGo]
 exact congrArg (fun z => intsH 3 _ z :: L) hxs

/- (*impl.unifier).root -/
theorem root_spec {F : FH} {L : List HP} {ub : Nat} {arv : Value} {ar : List Int} {bs : List Value} {bl : RowL} (har : IntsF F arv ar) (hbc : BindC F bs bl) (hb : BOk ar bl) {tv : Value} {t : List Int} (ht : IntsF F tv t) (ho : TermW ar t) (hnn : isNil tv = false) :
    Does prog 248 [ptr ub 0, tv] F (cellsH ub (arv :: bs) 200 :: L) (fun v F' L' => ∃ u : List Int, IntsF F v u ∧ isNil v = false ∧ Root ar bl t u ∧ F = F' ∧ cellsH ub (arv :: bs) 200 :: L = L') := by
 refine qI func248 rfl rfl rfl ?_
 obtain ⟨ρ, hρ⟩ := hb.acyc
 have hbl := hb.len
 refine qc (qa (qh (sN) rfl (qb (qc (qF (jg (α := Value × List Int) (fun xQ => [(0, ptr ub 0), (1, xQ.1)]) (fun xQ => cellsH ub (arv :: bs) 200 :: L) (fun xQ F' => F = F' ∧ (IntsF F xQ.1 xQ.2) ∧ (isNil xQ.1 = false) ∧ (RootTo ar bl t xQ.2)) (fun xQ => rootMu ρ xQ.2) (tv, t) ⟨rfl, rfl, ⟨⟩⟩ (sC sR) ⟨rfl, (ht), (hnn), (RootTo.refl ho)⟩ ?_))))))
 rintro ⟨uv, u⟩ rE _ _ ⟨rfl, huv, hun, hrt⟩
 show X _ _ _ _ (envs [(0, ptr ub 0), (1, uv)] rE) _ (cellsH ub (arv :: bs) 200 :: L)
 dsimp only at huv hun hrt
 have hul := hrt.1.len
 have hug := hrt.1.geD (p := 0) (by omega)
 refine qc (qc ?_)
 by_cases h1 : (u.getD 0 0 : Int) < 0
 ·have hx0 : u.getD 0 0 < 0 := h1
  refine jh [cellsH ub (arv :: bs) 200] L 12 [] [[], [0], [1], [2], [3], [4], [4], [4, 6], [4, 7], [4, 8], [4, 5], [4, 10]] (phiL [qe uv, qe (.pointer (some (elemA uv (0)))), qe (ii (u.getD 0 0)), qe (.bool (decide ((u.getD 0 0 : Int) < 0)) : Value), qe (.bool (decide ((u.getD 0 0 : Int) < 0)) : Value), qe (ptr ub 0), qe uv, qe (.pointer (some (elemA uv (0)))), qe (ii (u.getD 0 0)), qe (ii ((-1) - (u.getD 0 0))), qe (ptr ub 0), qe (ptr ub 1)]) (ownL []) mixed rfl rfl (by kernel_rfl) ?_ ?_
  ·refine pD (fun W R z9 => ?_) ?_
   ·refine qg (qi (uv) rfl ?_)
    exact ⟨rfl, rfl, rfl⟩
   refine pD (fun W R z9 => ?_) ?_
   ·rw [eS (l := [(0, _)]) ⟨z9 0 rfl, ⟨⟩⟩]
    refine qg (qk 0 qd qm rfl rfl rfl huv.slv (by omega) (Nat.mul_one _) ?_)
    exact ⟨rfl, rfl, rfl⟩
   refine pD (fun W R z9 => ?_) ?_
   ·rw [eS (l := [(1, _)]) ⟨z9 1 rfl, ⟨⟩⟩]
    refine qg (qj qC rfl (huv.rd (by omega)) ?_)
    exact ⟨rfl, rfl, rfl⟩
   refine pD (fun W R z9 => ?_) ?_
   ·rw [eS (l := [(2, _)]) ⟨z9 2 rfl, ⟨⟩⟩]
    refine qg (qG rfl rfl ?_)
    exact ⟨rfl, rfl, rfl⟩
   refine pD (fun W R z9 => ?_) ?_
   ·rw [eS (l := [(3, _)]) ⟨z9 3 rfl, ⟨⟩⟩]
    refine qg (qi (.bool (decide ((u.getD 0 0 : Int) < 0))) rfl ?_)
    exact ⟨rfl, rfl, rfl⟩
   refine pD (fun W R z9 => ?_) ?_
   ·rw [eS (l := [(4, _)]) ⟨z9 4 rfl, ⟨⟩⟩]
    refine qO (t := 9) rfl (vT h1) (qi (ptr ub 0) rfl ?_)
    exact ⟨rfl, rfl, rfl⟩
   refine pD (fun W R z9 => ?_) ?_
   ·rw [eS (l := [(4, _)]) ⟨z9 4 rfl, ⟨⟩⟩]
    refine qO (t := 9) rfl (vT h1) (qi (uv) rfl ?_)
    exact ⟨rfl, rfl, rfl⟩
   refine pD (fun W R z9 => ?_) ?_
   ·rw [eS (l := [(4, _), (6, _)]) ⟨z9 4 rfl, z9 6 rfl, ⟨⟩⟩]
    refine qO (t := 9) rfl (vT h1) (qk 0 qd qm rfl rfl rfl huv.slv (by omega) (Nat.mul_one _) ?_)
    exact ⟨rfl, rfl, rfl⟩
   refine pD (fun W R z9 => ?_) ?_
   ·rw [eS (l := [(4, _), (7, _)]) ⟨z9 4 rfl, z9 7 rfl, ⟨⟩⟩]
    refine qO (t := 9) rfl (vT h1) (qj qC rfl (huv.rd (by omega)) ?_)
    exact ⟨rfl, rfl, rfl⟩
   refine pD (fun W R z9 => ?_) ?_
   ·rw [eS (l := [(4, _), (8, _)]) ⟨z9 4 rfl, z9 8 rfl, ⟨⟩⟩]
    refine qO (t := 9) rfl (vT h1) (jb ((-1) - (u.getD 0 0)) rfl rfl (by omega) (by omega) ?_)
    exact ⟨rfl, rfl, rfl⟩
   refine pD (fun W R z9 => ?_) ?_
   ·rw [eS (l := [(4, _), (5, _)]) ⟨z9 4 rfl, z9 5 rfl, ⟨⟩⟩]
    refine qO (t := 9) rfl (vT h1) (qN rfl ?_)
    exact ⟨rfl, rfl, rfl⟩
   refine pD (fun W R z9 => ?_) ?_
   ·rw [eS (l := [(4, _), (10, _)]) ⟨z9 4 rfl, z9 10 rfl, ⟨⟩⟩]
    refine qO (t := 9) rfl (vT h1) (qo (1) qV rfl sizeOf198 (by decide) rfl rfl ?_)
    exact ⟨rfl, rfl, rfl⟩
   exact stepsP.nil
  intro W hphi
  rw [eS (l := [(4, _), (9, _), (11, _)]) ⟨(hphi 4 (by decide)), (hphi 9 (by decide)), (hphi 11 (by decide)), ⟨⟩⟩]
  show XL _ _ _ _ _ _ _ (cellsH ub (arv :: bs) 200 :: L)
  refine qr (t := 9) rfl (vT h1) (jL (i := (-1) - (u.getD 0 0)) (((-1) - (u.getD 0 0)).toNat) (1 + (((-1) - (u.getD 0 0)).toNat)) jA qq rfl rfl (by omega) (by omega) (by omega) ?_)
  obtain ⟨a1, ha1, hn1, he1⟩ := hbc.get (i := ((-1) - (u.getD 0 0)).toNat) (by omega)
  refine qr (t := 9) rfl (vT h1) (qj qQ rfl (Rd.own [] rfl (get_1 he1)) (qr (t := 9) rfl (vT h1) (XOp.neNil qd rfl rfl (qE ha1) (cX (qS (.bool (!isNil a1)) (vT h1) rfl (qb ?_))))))
  refine X.cond (t := !isNil a1) rfl (fun h2 => ?_) (fun h2 => ?_)
  ·have hbn := ne_of_notNil hn1 h2
   have hnb : isNil a1 = false := by rw [hn1]; exact decide_eq_false hbn
   refine qw (qF ?_)
   refine jh [cellsH ub (arv :: bs) 200] L 7 [] [[], [], [1], [2], [3], [0], [5]] (phiL [qe (ptr ub 0), qe uv, qe (.pointer (some (elemA uv (0)))), qe (ii (u.getD 0 0)), qe (ii ((-1) - (u.getD 0 0))), qe (ptr ub 0), qe (ptr ub 1)]) (ownL []) mixed rfl rfl (by kernel_rfl) ?_ ?_
   ·refine pD (fun W R z9 => ?_) ?_
    ·refine qg (qi (ptr ub 0) rfl ?_)
     exact ⟨rfl, rfl, rfl⟩
    refine pD (fun W R z9 => ?_) ?_
    ·refine qg (qi (uv) rfl ?_)
     exact ⟨rfl, rfl, rfl⟩
    refine pD (fun W R z9 => ?_) ?_
    ·rw [eS (l := [(1, _)]) ⟨z9 1 rfl, ⟨⟩⟩]
     refine qg (qk 0 qd qm rfl rfl rfl huv.slv (by omega) (Nat.mul_one _) ?_)
     exact ⟨rfl, rfl, rfl⟩
    refine pD (fun W R z9 => ?_) ?_
    ·rw [eS (l := [(2, _)]) ⟨z9 2 rfl, ⟨⟩⟩]
     refine qg (qj qC rfl (huv.rd (by omega)) ?_)
     exact ⟨rfl, rfl, rfl⟩
    refine pD (fun W R z9 => ?_) ?_
    ·rw [eS (l := [(3, _)]) ⟨z9 3 rfl, ⟨⟩⟩]
     refine qg (jb ((-1) - (u.getD 0 0)) rfl rfl (by omega) (by omega) ?_)
     exact ⟨rfl, rfl, rfl⟩
    refine pD (fun W R z9 => ?_) ?_
    ·rw [eS (l := [(0, _)]) ⟨z9 0 rfl, ⟨⟩⟩]
     refine qg (qN rfl ?_)
     exact ⟨rfl, rfl, rfl⟩
    refine pD (fun W R z9 => ?_) ?_
    ·rw [eS (l := [(5, _)]) ⟨z9 5 rfl, ⟨⟩⟩]
     refine qg (qo (1) qV rfl sizeOf198 (by decide) rfl rfl ?_)
     exact ⟨rfl, rfl, rfl⟩
    exact stepsP.nil
   intro W hphi
   rw [eS (l := [(4, _), (6, _)]) ⟨(hphi 4 (by decide)), (hphi 6 (by decide)), ⟨⟩⟩]
   show XL _ _ _ _ _ _ _ (cellsH ub (arv :: bs) 200 :: L)
   refine cX (jL (i := (-1) - (u.getD 0 0)) (((-1) - (u.getD 0 0)).toNat) (1 + (((-1) - (u.getD 0 0)).toNat)) jA qq rfl rfl (by omega) (by omega) (by omega) (cX (qj qQ rfl (Rd.own [] rfl (get_1 he1)) (qh (a1) rfl (qb ?_)))))
   exact ⟨(a1, (bl.getD (((-1) - (u.getD 0 0)).toNat) [])), _, FLe.refl _, rF, ⟨rfl, rfl, ⟨⟩⟩, (sC sR), ⟨rfl, (ha1), (hnb), (hrt.next hb hx0 hbn)⟩, (rootMu_lt hρ hb hx0 hbn)⟩
  have hbe := eq_of_isNil hn1 h2
  have htop : 0 ≤ u.getD 0 0 ∨ bl.getD (varIx (u.getD 0 0)) [] = [] := .inr hbe
  refine jc (qt (qt (qL (qc (qa (qf (uv) rfl (qh (uv) rfl (qb (qz (qu (L' := cellsH ub (arv :: bs) 200 :: L) [uv] (uv) (.tmp rfl .nil) rfl rF rF (sC sR) ?_))))))))))
  exact ⟨_, huv, hun, hrt.done htop, rfl, rfl⟩
 have htop : 0 ≤ u.getD 0 0 ∨ bl.getD (varIx (u.getD 0 0)) [] = [] := .inl (by omega)
 refine jh [cellsH ub (arv :: bs) 200] L 12 [] [[], [0], [1], [2], [3], [4], [4], [4, 6], [4, 7], [4, 8], [4, 5], [4, 10]] (phiL [qe uv, qe (.pointer (some (elemA uv (0)))), qe (ii (u.getD 0 0)), qe (.bool (decide ((u.getD 0 0 : Int) < 0)) : Value), qe (.bool (decide ((u.getD 0 0 : Int) < 0)) : Value), qe undef, qe undef, qe undef, qe undef, qe undef, qe undef, qe undef]) (ownL []) mixed rfl rfl (by kernel_rfl) ?_ ?_
 ·refine pD (fun W R z9 => ?_) ?_
  ·refine qg (qi (uv) rfl ?_)
   exact ⟨rfl, rfl, rfl⟩
  refine pD (fun W R z9 => ?_) ?_
  ·rw [eS (l := [(0, _)]) ⟨z9 0 rfl, ⟨⟩⟩]
   refine qg (qk 0 qd qm rfl rfl rfl huv.slv (by omega) (Nat.mul_one _) ?_)
   exact ⟨rfl, rfl, rfl⟩
  refine pD (fun W R z9 => ?_) ?_
  ·rw [eS (l := [(1, _)]) ⟨z9 1 rfl, ⟨⟩⟩]
   refine qg (qj qC rfl (huv.rd (by omega)) ?_)
   exact ⟨rfl, rfl, rfl⟩
  refine pD (fun W R z9 => ?_) ?_
  ·rw [eS (l := [(2, _)]) ⟨z9 2 rfl, ⟨⟩⟩]
   refine qg (qG rfl rfl ?_)
   exact ⟨rfl, rfl, rfl⟩
  refine pD (fun W R z9 => ?_) ?_
  ·rw [eS (l := [(3, _)]) ⟨z9 3 rfl, ⟨⟩⟩]
   refine qg (qi (.bool (decide ((u.getD 0 0 : Int) < 0))) rfl ?_)
   exact ⟨rfl, rfl, rfl⟩
  refine pD (fun W R z9 => ?_) ?_
  ·rw [eS (l := [(4, _)]) ⟨z9 4 rfl, ⟨⟩⟩]
   exact qX (t := 9) rfl (vF h1) ⟨rfl, rfl, rfl⟩
  refine pD (fun W R z9 => ?_) ?_
  ·rw [eS (l := [(4, _)]) ⟨z9 4 rfl, ⟨⟩⟩]
   exact qX (t := 9) rfl (vF h1) ⟨rfl, rfl, rfl⟩
  refine pD (fun W R z9 => ?_) ?_
  ·rw [eS (l := [(4, _), (6, undef)]) ⟨z9 4 rfl, z9 6 rfl, ⟨⟩⟩]
   exact qX (t := 9) rfl (vF h1) ⟨rfl, rfl, rfl⟩
  refine pD (fun W R z9 => ?_) ?_
  ·rw [eS (l := [(4, _), (7, undef)]) ⟨z9 4 rfl, z9 7 rfl, ⟨⟩⟩]
   exact qX (t := 9) rfl (vF h1) ⟨rfl, rfl, rfl⟩
  refine pD (fun W R z9 => ?_) ?_
  ·rw [eS (l := [(4, _), (8, undef)]) ⟨z9 4 rfl, z9 8 rfl, ⟨⟩⟩]
   exact qX (t := 9) rfl (vF h1) ⟨rfl, rfl, rfl⟩
  refine pD (fun W R z9 => ?_) ?_
  ·rw [eS (l := [(4, _), (5, undef)]) ⟨z9 4 rfl, z9 5 rfl, ⟨⟩⟩]
   exact qX (t := 9) rfl (vF h1) ⟨rfl, rfl, rfl⟩
  refine pD (fun W R z9 => ?_) ?_
  ·rw [eS (l := [(4, _), (10, undef)]) ⟨z9 4 rfl, z9 10 rfl, ⟨⟩⟩]
   exact qX (t := 9) rfl (vF h1) ⟨rfl, rfl, rfl⟩
  exact stepsP.nil
 intro W hphi
 rw [eS (l := [(4, _), (9, undef), (11, undef)]) ⟨(hphi 4 (by decide)), (hphi 9 (by decide)), (hphi 11 (by decide)), ⟨⟩⟩]
 show XL _ _ _ _ _ _ _ (cellsH ub (arv :: bs) 200 :: L)
 refine qp (t := 9) rfl (vF h1) (qp (t := 9) rfl (vF h1) (qp (t := 9) rfl (vF h1) (cX (qT (.bool (false)) (vF h1) rfl (qb (jy rfl (jc (qt (qt (qL (qc (qa (qf (uv) rfl (qh (uv) rfl ?_))))))))))))))
 refine qb (qz (qu (L' := cellsH ub (arv :: bs) 200 :: L) [uv] (uv) (.tmp rfl .nil) rfl rF rF (sC sR) ?_))
 exact ⟨_, huv, hun, hrt.done htop, rfl, rfl⟩

/- (*impl.unifier).occurs -/
set_option maxHeartbeats 1000000 in
theorem occurs_step {k : Nat} (ih : ∀ k9 : Nat, k9 < k → ∀ {F : FH} {L : List HP} {ub : Nat} {arv : Value} {ar : List Int} {bs : List Value} {bl : RowL} (har : IntsF F arv ar) (hbc : BindC F bs bl) (hb : BOk ar bl) {sb : Nat} {σ : Sbs} {ρ : Int → Nat} {n : Int} {tv : Value} {t : List Int} (ht : IntsF F tv t) {sn : List Bool} (hσ : Sol bl σ) (hρ : Acyc bl ρ) (hn : n < 0) (hnf : lkN bl n = []) (htk : ∀ m ∈ t, m < 0 → ρ m < k9) (htg : ∀ i, i < t.length → -48 ≤ t.getD i 0) (htl : t.length ≤ 60) (hsl : sn.length = 48) (hcl : ClearM σ ρ n k9 sn), Does prog 249 [ptr ub 0, ii (n), tv, ptr sb 0] F (cellsH ub (arv :: bs) 200 :: cellsH sb (bools sn) 241 :: L) (fun v F' L' => ∃ s9 : List Bool, (.bool (decide (n ∈ ap σ t)) : Value) = v ∧ s9.length = 48 ∧ (n ∉ ap σ t → MarkR σ n sn s9) ∧ F = F' ∧ cellsH ub (arv :: bs) 200 :: cellsH sb (bools s9) 241 :: L = L')) {F : FH} {L : List HP} {ub : Nat} {arv : Value} {ar : List Int} {bs : List Value} {bl : RowL} (har : IntsF F arv ar) (hbc : BindC F bs bl) (hb : BOk ar bl) {sb : Nat} {σ : Sbs} {ρ : Int → Nat} {n : Int} {tv : Value} {t : List Int} (ht : IntsF F tv t) {sn : List Bool} (hσ : Sol bl σ) (hρ : Acyc bl ρ) (hn : n < 0) (hnf : lkN bl n = []) (htk : ∀ m ∈ t, m < 0 → ρ m < k) (htg : ∀ i, i < t.length → -48 ≤ t.getD i 0) (htl : t.length ≤ 60) (hsl : sn.length = 48) (hcl : ClearM σ ρ n k sn) :
    Does prog 249 [ptr ub 0, ii (n), tv, ptr sb 0] F (cellsH ub (arv :: bs) 200 :: cellsH sb (bools sn) 241 :: L) (fun v F' L' => ∃ s9 : List Bool, (.bool (decide (n ∈ ap σ t)) : Value) = v ∧ s9.length = 48 ∧ (n ∉ ap σ t → MarkR σ n sn s9) ∧ F = F' ∧ cellsH ub (arv :: bs) 200 :: cellsH sb (bools s9) 241 :: L = L') := by
 refine qI func249 rfl rfl rfl ?_
 have hbl := hb.len
 refine qc (qa (qh (.bool (false)) rfl (qb (qc (qc (qa (qf (tv) rfl (cX (qD qd rfl ht.slv (qf (ii (0)) rfl (qb (qF (jg (α := Nat × List Bool) (fun xQ => [(0, ptr ub 0), (1, ii (n)), (3, ptr sb 0), (12, tv), (13, ii ((t.length : Int))), (14, ii (((xQ.1 : Nat) : Int)))]) (fun xQ => cellsH ub (arv :: bs) 200 :: cellsH sb (bools xQ.2) 241 :: L) (fun xQ F' => F = F' ∧ (xQ.1 ≤ t.length) ∧ (xQ.2.length = 48) ∧ (MarkR σ n sn xQ.2) ∧ (∀ i, i < xQ.1 → n ∉ σ (t.getD i 0))) (fun xQ => t.length - xQ.1) (0, sn) ⟨rfl, rfl, rfl, rfl, rfl, rfl, ⟨⟩⟩ (sC (sC sR)) ⟨rfl, (by (try dsimp only) <;> omega), (hsl), (MarkR.refl), (fun i hi => absurd hi (by omega))⟩ ?_)))))))))))))
 rintro ⟨j, sm⟩ rE _ _ ⟨rfl, hj, hml, hmr, hno⟩
 show X _ _ _ _ (envs [(0, ptr ub 0), (1, ii (n)), (3, ptr sb 0), (12, tv), (13, ii ((t.length : Int))), (14, ii ((j : Int)))] rE) _ (cellsH ub (arv :: bs) 200 :: cellsH sb (bools sm) 241 :: L)
 dsimp only at hj hml hmr hno
 have hgj := fun h : j < t.length => htg j h
 refine qc (qa (cX (qG rfl rfl (qb (qc ?_)))))
 refine qx (p := (j : Int) < (t.length : Int)) rfl (fun h1 => ?_) (fun h1 => ?_)
 ·refine qw (qc (qF (qc (qa (cX (qk j qd qm rfl rfl rfl ht.slv (by omega) (Nat.mul_one _) (cX (qj qC rfl (ht.rd (by omega)) (qh (ii (t.getD j 0)) rfl (qb (qc (qc (qa (qf (ii (t.getD j 0)) rfl (qf (ii (n)) rfl (cX (jH rfl rfl (qb ?_))))))))))))))))))
  refine qx (p := (t.getD j 0 : Int) = n) rfl (fun h2 => ?_) (fun h2 => ?_)
  ·refine qc (qa (qh (.bool (true)) rfl (qb (qz (ql (qy (ql (ql (qy (ql (qu (L' := cellsH ub (arv :: bs) 200 :: cellsH sb (bools sm) 241 :: L) [.bool (true)] (.bool (true)) (.tmp rfl .nil) rfl rF rF (sC (sC sR)) ?_)))))))))))
   have hnt : decide (n ∈ ap σ t) = true := decide_eq_true (occ_here (j := j) hnf hσ (by omega) (by assumption))
   exact ⟨_, congrArg Value.bool hnt, hml, fun h9 => absurd (of_decide_eq_true hnt) h9, rfl, rfl⟩
  have hne : t.getD j 0 ≠ n := h2
  refine qw (qc (qc (qa (qf (ii (t.getD j 0)) rfl (cX (jI rfl rfl (qf (.bool (decide ((t.getD j 0 : Int) ≥ 0))) rfl ?_)))))))
  by_cases h3 : (t.getD j 0 : Int) ≥ 0
  ·have hnx : n ∉ σ (t.getD j 0) := sym_no hσ hn (by omega)
   have hmk := hmr
   refine qp (t := 23) rfl (vT h3) (qp (t := 23) rfl (vT h3) (qp (t := 23) rfl (vT h3) (qp (t := 23) rfl (vT h3) (qp (t := 23) rfl (vT h3) (qp (t := 23) rfl (vT h3) (cX (qS (.bool (true)) (vT h3) rfl (qb (jw rfl (jc (qt (qL ?_))))))))))))
   refine qa (cX (qM (((j + 1 : Nat) : Int)) rfl rfl (by omega) (by omega) (qf (ii (((j + 1 : Nat) : Int))) rfl (qb ?_))))
   exact ⟨(j + 1, sm), _, FLe.refl _, rF, ⟨rfl, rfl, rfl, rfl, rfl, rfl, ⟨⟩⟩, (sC (sC sR)), ⟨rfl, (by (try dsimp only) <;> omega), (hml), (hmk), (fun i hi => (Nat.lt_or_ge i j).elim (fun h => hno i h) (fun h => by obtain rfl : i = j := (by omega); exact hnx))⟩, (by omega)⟩
  have hj0 : t.getD j 0 < 0 := by omega
  have hgj2 := hgj (by omega)
  have hrj := htk _ (mem_of_getD (k := j) (by omega) rfl) hj0
  refine qr (t := 23) rfl (vF h3) (qi (ptr sb 0) rfl (qr (t := 23) rfl (vF h3) (qi (ii (t.getD j 0)) rfl (qr (t := 23) rfl (vF h3) (jb ((-1) - (t.getD j 0)) rfl rfl (by omega) (by omega) (qr (t := 23) rfl (vF h3) (qN rfl (qr (t := 23) rfl (vF h3) (jL (i := (-1) - (t.getD j 0)) (((-1) - (t.getD j 0)).toNat) (((-1) - (t.getD j 0)).toNat) runUnderlying241 sizeOf4 rfl rfl (by omega) (by omega) (by omega) (qr (t := 23) rfl (vF h3) (qj isAgg4 rfl (Rd.own [_] rfl (bools_get (by rw [hml]; omega))) (cX (qT (.bool (sm.getD (((-1) - (t.getD j 0)).toNat) false)) (vF h3) rfl (qb ?_))))))))))))))
  refine X.cond (t := sm.getD (((-1) - (t.getD j 0)).toNat) false) rfl (fun h4 => ?_) (fun h4 => ?_)
  ·have hnx : n ∉ σ (t.getD j 0) := hcl.seen hmr hj0 h4 hrj
   have hmk := hmr
   refine jc (qt (qL (qa (cX (qM (((j + 1 : Nat) : Int)) rfl rfl (by omega) (by omega) (qf (ii (((j + 1 : Nat) : Int))) rfl (qb ?_)))))))
   exact ⟨(j + 1, sm), _, FLe.refl _, rF, ⟨rfl, rfl, rfl, rfl, rfl, rfl, ⟨⟩⟩, (sC (sC sR)), ⟨rfl, (by (try dsimp only) <;> omega), (hml), (hmk), (fun i hi => (Nat.lt_or_ge i j).elim (fun h => hno i h) (fun h => by obtain rfl : i = j := (by omega); exact hnx))⟩, (by omega)⟩
  have hun := h4
  refine qw (qc (qa (qf (ptr sb 0) rfl (qf (ii (t.getD j 0)) rfl (cX (jb ((-1) - (t.getD j 0)) rfl rfl (by omega) (by omega) (cX (qN rfl (cX (jL (i := (-1) - (t.getD j 0)) (((-1) - (t.getD j 0)).toNat) (((-1) - (t.getD j 0)).toNat) runUnderlying241 sizeOf4 rfl rfl (by omega) (by omega) (by omega) (cX (js [_] _ (bools (sm.set (((-1) - (t.getD j 0)).toNat) true)) sizeOf4 rfl rfl rfl rfl (bools_blt (by rw [hml]; omega)) bools_set ?_))))))))))))
  have hl1 : (sm.set (((-1) - (t.getD j 0)).toNat) true).length = 48 := by rw [List.length_set]; exact hml
  refine qb (qc (qa (qf (ptr ub 0) rfl (qf (ii (t.getD j 0)) rfl (cX (jb ((-1) - (t.getD j 0)) rfl rfl (by omega) (by omega) (cX (qN rfl (cX (qo (1) qV rfl sizeOf198 (by decide) rfl rfl (cX (jL (i := (-1) - (t.getD j 0)) (((-1) - (t.getD j 0)).toNat) (1 + (((-1) - (t.getD j 0)).toNat)) jA qq rfl rfl (by omega) (by omega) (by omega) ?_))))))))))))
  obtain ⟨a1, ha1, hn1, he1⟩ := hbc.get (i := ((-1) - (t.getD j 0)).toNat) (by omega)
  refine cX (qj qQ rfl (Rd.own [] rfl (get_1 he1)) (qh (a1) rfl (qb (qc (qa (qf (a1) rfl (cX (XOp.neNil qd rfl rfl (qE ha1) (qf (.bool (!isNil a1)) rfl ?_)))))))))
  by_cases h5 : (!isNil a1) = true
  ·have hbn := ne_of_notNil hn1 h5
   have hnb : isNil a1 = false := by rw [hn1]; exact decide_eq_false hbn
   have hlj : lkN bl (t.getD j 0) ≠ [] := by rw [lkN_get hj0]; exact hbn
   have hwj := hb.wt _ hj0 hlj
   rw [lkN_get hj0] at hwj
   refine qr (t := 45) rfl (vB h5) (qi (ptr ub 0) rfl (qr (t := 45) rfl (vB h5) (qi (ii (n)) rfl (qr (t := 45) rfl (vB h5) (qi (a1) rfl (qr (t := 45) rfl (vB h5) (qi (ptr sb 0) rfl (qZ (qA (A := [_])) ?_))))))))
   show XL _ _ _ _ _ _ _ (cellsH sb (bools ((sm.set (((-1) - (t.getD j 0)).toNat) true))) 241 :: cellsH ub (arv :: bs) 200 :: L)
   refine qZ (qA (A := [_])) ?_
   show XL _ _ _ _ _ _ _ (cellsH ub (arv :: bs) 200 :: cellsH sb (bools ((sm.set (((-1) - (t.getD j 0)).toNat) true))) 241 :: L)
   refine qr (t := 45) rfl (vB h5) (qs (args := [ptr ub 0, ii (n), a1, ptr sb 0]) call249 rfl (ih _ hrj har hbc (by assumption) ha1 hσ hρ hn hnf (fun m hm h0 => by have := hρ _ hj0 m (by rw [lkN_get hj0]; exact hm) h0; exact this) (fun i hi => hwj.geD hi) hwj.len.2 hl1 (hcl.down hmr hml hj0 hgj2 hrj)) ?_)
   rintro _ _ _ _ ⟨s1, rfl, hs1, hm1, rfl, rfl⟩
   refine cX (qS (.bool (decide (n ∈ ap σ ((bl.getD (((-1) - (t.getD j 0)).toNat) []))))) (vB h5) rfl (qb ?_))
   refine qx (p := n ∈ ap σ ((bl.getD (((-1) - (t.getD j 0)).toNat) []))) rfl (fun h6 => ?_) (fun h6 => ?_)
   ·have hoc := h6
    refine qc (qa (qh (.bool (true)) rfl (qb (qz (qy (ql (ql (qy (ql (qu (L' := cellsH ub (arv :: bs) 200 :: cellsH sb (bools s1) 241 :: L) [.bool (true)] (.bool (true)) (.tmp rfl .nil) rfl rF rF (sC (sC sR)) ?_))))))))))
    have hnt : decide (n ∈ ap σ t) = true := decide_eq_true (occ_in (j := j) hσ (by omega) rfl hlj (by rw [lkN_get hj0]; exact hoc))
    exact ⟨_, congrArg Value.bool hnt, hs1, fun h9 => absurd (of_decide_eq_true hnt) h9, rfl, rfl⟩
   have hnx : n ∉ σ (t.getD j 0) := bound_no hσ hlj (by rw [lkN_get hj0]; exact h6)
   have hmk := hmr.step hml hj0 hgj2 (hm1 h6) hnx
   refine qw (qa (cX (qM (((j + 1 : Nat) : Int)) rfl rfl (by omega) (by omega) (qf (ii (((j + 1 : Nat) : Int))) rfl (qb ?_)))))
   exact ⟨(j + 1, s1), _, FLe.refl _, rF, ⟨rfl, rfl, rfl, rfl, rfl, rfl, ⟨⟩⟩, (sC (sC sR)), ⟨rfl, (by (try dsimp only) <;> omega), (hs1), (hmk), (fun i hi => (Nat.lt_or_ge i j).elim (fun h => hno i h) (fun h => by obtain rfl : i = j := (by omega); exact hnx))⟩, (by omega)⟩
  rw [Bool.not_eq_true] at h5
  have hbe := eq_of_isNil hn1 h5
  have hnx : n ∉ σ (t.getD j 0) := free_no hσ hne (by rw [lkN_get hj0]; exact hbe)
  have hmk := hmr.set hml hj0 hgj2 hnx
  refine qp (t := 45) rfl (vB h5) (qp (t := 45) rfl (vB h5) (qp (t := 45) rfl (vB h5) (qp (t := 45) rfl (vB h5) (qp (t := 45) rfl (vB h5) (cX (qT (.bool (false)) (vB h5) rfl (qb (jy rfl (qw (qa (cX (qM (((j + 1 : Nat) : Int)) rfl rfl (by omega) (by omega) ?_))))))))))))
  refine qf (ii (((j + 1 : Nat) : Int))) rfl (qb ?_)
  exact ⟨(j + 1, (sm.set (((-1) - (t.getD j 0)).toNat) true)), _, FLe.refl _, rF, ⟨rfl, rfl, rfl, rfl, rfl, rfl, ⟨⟩⟩, (sC (sC sR)), ⟨rfl, (by (try dsimp only) <;> omega), (hl1), (hmk), (fun i hi => (Nat.lt_or_ge i j).elim (fun h => hno i h) (fun h => by obtain rfl : i = j := (by omega); exact hnx))⟩, (by omega)⟩
 refine jc (qt (qt (qL (qc (qa (qh (.bool (false)) rfl (qb (qz (qu (L' := cellsH ub (arv :: bs) 200 :: cellsH sb (bools sm) 241 :: L) [.bool (false)] (.bool (false)) (.tmp rfl .nil) rfl rF rF (sC (sC sR)) ?_)))))))))
 have hnt : n ∉ ap σ t := occ_not (fun i hi => hno i (by omega))
 exact ⟨_, congrArg Value.bool (decide_eq_false hnt), hml, fun _ => hmr, rfl, rfl⟩

theorem occurs_spec (k : Nat) : ∀ {F : FH} {L : List HP} {ub : Nat} {arv : Value} {ar : List Int} {bs : List Value} {bl : RowL} (har : IntsF F arv ar) (hbc : BindC F bs bl) (hb : BOk ar bl) {sb : Nat} {σ : Sbs} {ρ : Int → Nat} {n : Int} {tv : Value} {t : List Int} (ht : IntsF F tv t) {sn : List Bool} (hσ : Sol bl σ) (hρ : Acyc bl ρ) (hn : n < 0) (hnf : lkN bl n = []) (htk : ∀ m ∈ t, m < 0 → ρ m < k) (htg : ∀ i, i < t.length → -48 ≤ t.getD i 0) (htl : t.length ≤ 60) (hsl : sn.length = 48) (hcl : ClearM σ ρ n k sn), Does prog 249 [ptr ub 0, ii (n), tv, ptr sb 0] F (cellsH ub (arv :: bs) 200 :: cellsH sb (bools sn) 241 :: L) (fun v F' L' => ∃ s9 : List Bool, (.bool (decide (n ∈ ap σ t)) : Value) = v ∧ s9.length = 48 ∧ (n ∉ ap σ t → MarkR σ n sn s9) ∧ F = F' ∧ cellsH ub (arv :: bs) 200 :: cellsH sb (bools s9) 241 :: L = L') := by
  induction k using Nat.strongRecOn with
  | _ k ih =>
    intros
    exact occurs_step ih (by assumption) (by assumption) (by assumption) (by assumption) (by assumption) (by assumption) (by assumption) (by assumption) (by assumption) (by assumption) (by assumption) (by assumption) (by assumption)


/- (*impl.unifier).equate -/
set_option maxHeartbeats 2000000 in
set_option maxRecDepth 20000 in
theorem equate_step {k N : Nat} (ih : ∀ (k1 N1 : Nat), (k1 < k ∨ k1 = k ∧ N1 < N) → ∀ {F : FH} {L : List HP} {ub : Nat} {arv : Value} {ar : List Int} {bs : List Value} {bl : RowL} (har : IntsF F arv ar) (hbc : BindC F bs bl) (hb : BOk ar bl) {σ : Sbs} {av : Value} {a : List Int} (ha : IntsF F av a) {cv : Value} {c : List Int} (hc : IntsF F cv c) (hσ : Sol bl σ) (hoa : TermW ar a) (hoc : TermW ar c) (hna : isNil av = false) (hnc : isNil cv = false) (hk : unb bl ≤ k1) (hN : (ap σ a).length ≤ N1), DoesP prog 237 [ptr ub 0, av, cv] F (cellsH ub (arv :: bs) 200 :: L) (fun v F' L' => ∃ (b9 : List Value) (l9 : RowL), (.tuple #[] : Value) = v ∧ BindC F' b9 l9 ∧ Solves ar bl l9 (fun θ => ap θ a = ap θ c) ∧ cellsH ub (arv :: b9) 200 :: L = L') (fun ch F' L' => ∃ (b9 : List Value) (l9 : RowL), ch = [{ v := .iface 230 (.agg #[]), recovered := false }] ∧ BindC F' b9 l9 ∧ (∀ θ, GoodS ar θ → SatB bl θ → ap θ a ≠ ap θ c) ∧ cellsH ub (arv :: b9) 200 :: L = L')) {F : FH} {L : List HP} {ub : Nat} {arv : Value} {ar : List Int} {bs : List Value} {bl : RowL} (har : IntsF F arv ar) (hbc : BindC F bs bl) (hb : BOk ar bl) {σ : Sbs} {av : Value} {a : List Int} (ha : IntsF F av a) {cv : Value} {c : List Int} (hc : IntsF F cv c) (hσ : Sol bl σ) (hoa : TermW ar a) (hoc : TermW ar c) (hna : isNil av = false) (hnc : isNil cv = false) (hk : unb bl ≤ k) (hN : (ap σ a).length ≤ N) :
    DoesP prog 237 [ptr ub 0, av, cv] F (cellsH ub (arv :: bs) 200 :: L) (fun v F' L' => ∃ (b9 : List Value) (l9 : RowL), (.tuple #[] : Value) = v ∧ BindC F' b9 l9 ∧ Solves ar bl l9 (fun θ => ap θ a = ap θ c) ∧ cellsH ub (arv :: b9) 200 :: L = L') (fun ch F' L' => ∃ (b9 : List Value) (l9 : RowL), ch = [{ v := .iface 230 (.agg #[]), recovered := false }] ∧ BindC F' b9 l9 ∧ (∀ θ, GoodS ar θ → SatB bl θ → ap θ a ≠ ap θ c) ∧ cellsH ub (arv :: b9) 200 :: L = L') := by
 refine DoesP.of_X func237 rfl rfl rfl (qc (qa (qf (ptr ub 0) rfl (qf (av) rfl (cX (qs (args := [ptr ub 0, av]) call248 rfl (root_spec har hbc (by assumption) ha (ho := by assumption) (hnn := by assumption)) ?_))))))
 rintro v1 _ _ _ ⟨u1, hv1, hn1, hru1, rfl, rfl⟩
 refine qf (ptr ub 0) rfl (qf (cv) rfl (cX (qs (args := [ptr ub 0, cv]) call248 rfl (root_spec har hbc (by assumption) hc (ho := by assumption) (hnn := by assumption)) ?_)))
 rintro v2 _ _ _ ⟨u2, hv2, hn2, hru2, rfl, rfl⟩
 refine qh (v1) rfl (qh (v2) rfl ?_)
 have hl1 := hru1.w.len
 have hl2 := hru2.w.len
 refine qb (qc (qc ?_))
 refine jh [cellsH ub (arv :: bs) 200] L 6 [] [[], [0], [1], [], [3], [4]] (phiL [qe v1, qe (.pointer (some (elemA v1 (0)))), qe (ii (u1.getD 0 0)), qe v2, qe (.pointer (some (elemA v2 (0)))), qe (ii (u2.getD 0 0))]) (ownL []) mixed rfl rfl (by kernel_rfl) ?_ ?_
 ·refine pD (fun W R z9 => ?_) ?_
  ·refine qg (qi (v1) rfl ?_)
   exact ⟨rfl, rfl, rfl⟩
  refine pD (fun W R z9 => ?_) ?_
  ·rw [eS (l := [(0, _)]) ⟨z9 0 rfl, ⟨⟩⟩]
   refine qg (qk 0 qd qm rfl rfl rfl hv1.slv (by omega) (Nat.mul_one _) ?_)
   exact ⟨rfl, rfl, rfl⟩
  refine pD (fun W R z9 => ?_) ?_
  ·rw [eS (l := [(1, _)]) ⟨z9 1 rfl, ⟨⟩⟩]
   refine qg (qj qC rfl (hv1.rd (by omega)) ?_)
   exact ⟨rfl, rfl, rfl⟩
  refine pD (fun W R z9 => ?_) ?_
  ·refine qg (qi (v2) rfl ?_)
   exact ⟨rfl, rfl, rfl⟩
  refine pD (fun W R z9 => ?_) ?_
  ·rw [eS (l := [(3, _)]) ⟨z9 3 rfl, ⟨⟩⟩]
   refine qg (qk 0 qd qm rfl rfl rfl hv2.slv (by omega) (Nat.mul_one _) ?_)
   exact ⟨rfl, rfl, rfl⟩
  refine pD (fun W R z9 => ?_) ?_
  ·rw [eS (l := [(4, _)]) ⟨z9 4 rfl, ⟨⟩⟩]
   refine qg (qj qC rfl (hv2.rd (by omega)) ?_)
   exact ⟨rfl, rfl, rfl⟩
  exact stepsP.nil
 intro W hphi
 rw [eS (l := [(2, _), (5, _)]) ⟨(hphi 2 (by decide)), (hphi 5 (by decide)), ⟨⟩⟩]
 show XL _ _ _ _ _ _ _ (cellsH ub (arv :: bs) 200 :: L)
 refine cX (jH rfl rfl (qf (.bool (decide ((u1.getD 0 0 : Int) = u2.getD 0 0))) rfl ?_))
 by_cases h1 : (u1.getD 0 0 : Int) = u2.getD 0 0
 ·refine qr (t := 22) rfl (vT h1) (qi (v1) rfl (qr (t := 22) rfl (vT h1) (qk 0 qd qm rfl rfl rfl hv1.slv (by omega) (Nat.mul_one _) (qr (t := 22) rfl (vT h1) (qj qC rfl (hv1.rd (by omega)) (qr (t := 22) rfl (vT h1) (qG rfl rfl (cX (qS (.bool (decide ((u1.getD 0 0 : Int) < 0))) (vT h1) rfl (qb ?_))))))))))
  refine qx (p := (u1.getD 0 0 : Int) < 0) rfl (fun h2 => ?_) (fun h2 => ?_)
  ·refine qz (ql (retEndP (L' := cellsH ub (arv :: bs) 200 :: L) [] (.tuple #[]) (by exact .nil) rfl rF rF (sC sR) ?_))
   exact ⟨_, _, rfl, hbc, same_eq hb hru1 hru2 (by omega) (by omega), rfl⟩
  refine qw (qc (qc ?_))
  by_cases h3 : (u2.getD 0 0 : Int) < 0
  ·by_cases h4 : (u1.getD 0 0 : Int) ≥ 0
   ·refine jh [cellsH ub (arv :: bs) 200] L 16 [] [[], [0], [1], [2], [3], [4], [4, 5], [4, 6], [4, 7], [4, 8], [9], [9, 10], [9, 11], [9], [9, 13], [9, 14]] (phiL [qe v2, qe (.pointer (some (elemA v2 (0)))), qe (ii (u2.getD 0 0)), qe (.bool (decide ((u2.getD 0 0 : Int) < 0)) : Value), qe (.bool (decide ((u2.getD 0 0 : Int) < 0)) : Value), qe v1, qe (.pointer (some (elemA v1 (0)))), qe (ii (u1.getD 0 0)), qe (.bool (decide ((u1.getD 0 0 : Int) ≥ 0)) : Value), qe (.bool (decide ((u1.getD 0 0 : Int) ≥ 0)) : Value), qe undef, qe undef, qe undef, qe undef, qe undef, qe undef]) (ownL []) mixed rfl rfl (by kernel_rfl) ?_ ?_
    ·refine pD (fun W R z9 => ?_) ?_
     ·refine qg (qi (v2) rfl ?_)
      exact ⟨rfl, rfl, rfl⟩
     refine pD (fun W R z9 => ?_) ?_
     ·rw [eS (l := [(0, _)]) ⟨z9 0 rfl, ⟨⟩⟩]
      refine qg (qk 0 qd qm rfl rfl rfl hv2.slv (by omega) (Nat.mul_one _) ?_)
      exact ⟨rfl, rfl, rfl⟩
     refine pD (fun W R z9 => ?_) ?_
     ·rw [eS (l := [(1, _)]) ⟨z9 1 rfl, ⟨⟩⟩]
      refine qg (qj qC rfl (hv2.rd (by omega)) ?_)
      exact ⟨rfl, rfl, rfl⟩
     refine pD (fun W R z9 => ?_) ?_
     ·rw [eS (l := [(2, _)]) ⟨z9 2 rfl, ⟨⟩⟩]
      refine qg (qG rfl rfl ?_)
      exact ⟨rfl, rfl, rfl⟩
     refine pD (fun W R z9 => ?_) ?_
     ·rw [eS (l := [(3, _)]) ⟨z9 3 rfl, ⟨⟩⟩]
      refine qg (qi (.bool (decide ((u2.getD 0 0 : Int) < 0))) rfl ?_)
      exact ⟨rfl, rfl, rfl⟩
     refine pD (fun W R z9 => ?_) ?_
     ·rw [eS (l := [(4, _)]) ⟨z9 4 rfl, ⟨⟩⟩]
      refine qO (t := 32) rfl (vT h3) (qi (v1) rfl ?_)
      exact ⟨rfl, rfl, rfl⟩
     refine pD (fun W R z9 => ?_) ?_
     ·rw [eS (l := [(4, _), (5, _)]) ⟨z9 4 rfl, z9 5 rfl, ⟨⟩⟩]
      refine qO (t := 32) rfl (vT h3) (qk 0 qd qm rfl rfl rfl hv1.slv (by omega) (Nat.mul_one _) ?_)
      exact ⟨rfl, rfl, rfl⟩
     refine pD (fun W R z9 => ?_) ?_
     ·rw [eS (l := [(4, _), (6, _)]) ⟨z9 4 rfl, z9 6 rfl, ⟨⟩⟩]
      refine qO (t := 32) rfl (vT h3) (qj qC rfl (hv1.rd (by omega)) ?_)
      exact ⟨rfl, rfl, rfl⟩
     refine pD (fun W R z9 => ?_) ?_
     ·rw [eS (l := [(4, _), (7, _)]) ⟨z9 4 rfl, z9 7 rfl, ⟨⟩⟩]
      refine qO (t := 32) rfl (vT h3) (jI rfl rfl ?_)
      exact ⟨rfl, rfl, rfl⟩
     refine pD (fun W R z9 => ?_) ?_
     ·rw [eS (l := [(4, _), (8, _)]) ⟨z9 4 rfl, z9 8 rfl, ⟨⟩⟩]
      refine qO (t := 32) rfl (vT h3) (qi (.bool (decide ((u1.getD 0 0 : Int) ≥ 0))) rfl ?_)
      exact ⟨rfl, rfl, rfl⟩
     refine pD (fun W R z9 => ?_) ?_
     ·rw [eS (l := [(9, _)]) ⟨z9 9 rfl, ⟨⟩⟩]
      exact qX (t := 37) rfl (vT h4) ⟨rfl, rfl, rfl⟩
     refine pD (fun W R z9 => ?_) ?_
     ·rw [eS (l := [(9, _), (10, undef)]) ⟨z9 9 rfl, z9 10 rfl, ⟨⟩⟩]
      exact qX (t := 37) rfl (vT h4) ⟨rfl, rfl, rfl⟩
     refine pD (fun W R z9 => ?_) ?_
     ·rw [eS (l := [(9, _), (11, undef)]) ⟨z9 9 rfl, z9 11 rfl, ⟨⟩⟩]
      exact qX (t := 37) rfl (vT h4) ⟨rfl, rfl, rfl⟩
     refine pD (fun W R z9 => ?_) ?_
     ·rw [eS (l := [(9, _)]) ⟨z9 9 rfl, ⟨⟩⟩]
      exact qX (t := 37) rfl (vT h4) ⟨rfl, rfl, rfl⟩
     refine pD (fun W R z9 => ?_) ?_
     ·rw [eS (l := [(9, _), (13, undef)]) ⟨z9 9 rfl, z9 13 rfl, ⟨⟩⟩]
      exact qX (t := 37) rfl (vT h4) ⟨rfl, rfl, rfl⟩
     refine pD (fun W R z9 => ?_) ?_
     ·rw [eS (l := [(9, _), (14, undef)]) ⟨z9 9 rfl, z9 14 rfl, ⟨⟩⟩]
      exact qX (t := 37) rfl (vT h4) ⟨rfl, rfl, rfl⟩
     exact stepsP.nil
    intro W hphi
    rw [eS (l := [(4, _), (9, _), (12, undef), (15, undef)]) ⟨(hphi 4 (by decide)), (hphi 9 (by decide)), (hphi 12 (by decide)), (hphi 15 (by decide)), ⟨⟩⟩]
    show XL _ _ _ _ _ _ _ (cellsH ub (arv :: bs) 200 :: L)
    refine qp (t := 37) rfl (vT h4) (qr (t := 32) rfl (vT h3) (qS (.bool (true)) (vT h4) rfl (cX (qS (.bool (true)) (vT h3) rfl (qb (jw rfl (qa (qf (v2) rfl (qf (v1) rfl (qh (v2) rfl (qh (v1) rfl ?_)))))))))))
    refine qb (qc (qc (qa ?_)))
    have hrx := hru2
    have hry := hru1
    have hnx := hn2
    have hny := hn1
    have hwx := hrx.w
    have hwy := hry.w
    have hxl := hrx.w.len
    have hyl := hry.w.len
    have hxg := hrx.w.geD (p := 0) (by omega)
    have hyg := hry.w.geD (p := 0) (by omega)
    have hbl := hb.len
    skip
    refine qf (v2) rfl (cX (qk 0 qd qm rfl rfl rfl hv2.slv (by omega) (Nat.mul_one _) (cX (qj qC rfl (hv2.rd (by omega)) (cX (qG rfl rfl (qb (jw (vT h3) (qc (qc (qa (qf (v1) rfl (cX (qk 0 qd qm rfl rfl rfl hv1.slv (by omega) (Nat.mul_one _) (cX (qj qC rfl (hv1.rd (by omega)) ?_))))))))))))))))
    refine cX (jI rfl rfl (qf (.bool (decide ((u1.getD 0 0 : Int) ≥ 0))) rfl (qr (t := 57) rfl (vT h4) (qi (ptr ub 0) rfl (qr (t := 57) rfl (vT h4) (qi (v2) rfl (qr (t := 57) rfl (vT h4) (qk 0 qd qm rfl rfl rfl hv2.slv (by omega) (Nat.mul_one _) (qr (t := 57) rfl (vT h4) (qj qC rfl (hv2.rd (by omega)) (qr (t := 57) rfl (vT h4) (qi (v1) rfl (qr (t := 57) rfl (vT h4) (XOp.build0 (bools (List.replicate 48 false)) runUnderlying241 ⟨_, sizeOf4⟩ zeroValue241 rfl (qr (t := 57) rfl (vT h4) (ja (bools (List.replicate 48 false)) rfl rfl ?_))))))))))))))))
    intro b1
    have hl1 : (List.replicate 48 false).length = 48 := rfl
    have hx0 : u2.getD 0 0 < 0 := by omega
    obtain ⟨ρ9, hρ9⟩ := hb.acyc
    obtain ⟨k9, hk9⟩ := maxRank u1 ρ9
    refine qZ (qA (A := [_])) ?_
    show XL _ _ _ _ _ _ _ (cellsH ub (arv :: bs) 200 :: cellsH b1 (bools ((List.replicate 48 false))) 241 :: L)
    refine qr (t := 57) rfl (vT h4) (qs (args := [ptr ub 0, ii (u2.getD 0 0), v1, ptr b1 0]) call249 rfl (occurs_spec k9 har hbc (by assumption) hv1 hσ hρ9 hx0 (hrx.top.resolve_left (by omega)) (fun m hm _ => hk9 m hm) (fun i hi => hry.w.geD hi) hyl.2 hl1 ClearM.nils) ?_)
    rintro _ _ _ _ ⟨s1, rfl, hs1, hm1, rfl, rfl⟩
    refine cX (qS (.bool (decide (u2.getD 0 0 ∈ ap σ u1))) (vT h4) rfl (qb ?_))
    refine qx (p := u2.getD 0 0 ∈ ap σ u1) rfl (fun h5 => ?_) (fun h5 => ?_)
    ·have hoy := h5
     refine qa ?_
     skip
     refine cX (jq [] [] [] [] jm zeroValue230 rfl PlacesAre.nil rfl CellsAre.nil (cX (XOp.iface jm rfl (qZ ((sC (sD sR))) (XL.panicI rfl ?_)))))
     exact .inr ⟨_, rfl, _, _, rfl, hbc, (no_swap (occ_eq hb hσ hrx hry (by omega) (by omega) hoy)), rfl⟩
    have hoy := h5
    refine qw (qc ?_)
    refine jh [cellsH ub (arv :: bs) 200, cellsH b1 (bools s1) 241] L 8 [] [[], [], [1], [2], [3], [], [0], [6]] (phiL [qe (ptr ub 0), qe v2, qe (.pointer (some (elemA v2 (0)))), qe (ii (u2.getD 0 0)), qe (ii ((-1) - (u2.getD 0 0))), qe v1, qe (ptr ub 0), qe (ptr ub 1)]) (ownL []) mixed rfl rfl (by kernel_rfl) ?_ ?_
    ·refine pD (fun W R z9 => ?_) ?_
     ·refine qg (qi (ptr ub 0) rfl ?_)
      exact ⟨rfl, rfl, rfl⟩
     refine pD (fun W R z9 => ?_) ?_
     ·refine qg (qi (v2) rfl ?_)
      exact ⟨rfl, rfl, rfl⟩
     refine pD (fun W R z9 => ?_) ?_
     ·rw [eS (l := [(1, _)]) ⟨z9 1 rfl, ⟨⟩⟩]
      refine qg (qk 0 qd qm rfl rfl rfl hv2.slv (by omega) (Nat.mul_one _) ?_)
      exact ⟨rfl, rfl, rfl⟩
     refine pD (fun W R z9 => ?_) ?_
     ·rw [eS (l := [(2, _)]) ⟨z9 2 rfl, ⟨⟩⟩]
      refine qg (qj qC rfl (hv2.rd (by omega)) ?_)
      exact ⟨rfl, rfl, rfl⟩
     refine pD (fun W R z9 => ?_) ?_
     ·rw [eS (l := [(3, _)]) ⟨z9 3 rfl, ⟨⟩⟩]
      refine qg (jb ((-1) - (u2.getD 0 0)) rfl rfl (by omega) (by omega) ?_)
      exact ⟨rfl, rfl, rfl⟩
     refine pD (fun W R z9 => ?_) ?_
     ·refine qg (qi (v1) rfl ?_)
      exact ⟨rfl, rfl, rfl⟩
     refine pD (fun W R z9 => ?_) ?_
     ·rw [eS (l := [(0, _)]) ⟨z9 0 rfl, ⟨⟩⟩]
      refine qg (qN rfl ?_)
      exact ⟨rfl, rfl, rfl⟩
     refine pD (fun W R z9 => ?_) ?_
     ·rw [eS (l := [(6, _)]) ⟨z9 6 rfl, ⟨⟩⟩]
      refine qg (qo (1) qV rfl sizeOf198 (by decide) rfl rfl ?_)
      exact ⟨rfl, rfl, rfl⟩
     exact stepsP.nil
    intro W hphi
    rw [eS (l := [(4, _), (5, _), (7, _)]) ⟨(hphi 4 (by decide)), (hphi 5 (by decide)), (hphi 7 (by decide)), ⟨⟩⟩]
    show XL _ _ _ _ _ _ _ (cellsH ub (arv :: bs) 200 :: cellsH b1 (bools s1) 241 :: L)
    refine cX (jL (i := (-1) - (u2.getD 0 0)) (((-1) - (u2.getD 0 0)).toNat) (1 + (((-1) - (u2.getD 0 0)).toNat)) jA qq rfl rfl (by omega) (by omega) (by omega) (cX (js [] _ (arv :: (bs.set (((-1) - (u2.getD 0 0)).toNat) v1)) qq rfl rfl (je (qE hv1)) rfl (blt_1 (by have := CO.len hbc; (try simp only [List.length_set, List.length_replicate] at this ⊢) <;> omega)) set_1 ?_)))
    have hc1 := hbc.set (((-1) - (u2.getD 0 0)).toNat) hv1 (by rw [hny]; exact (decide_eq_false hry.w.ne).symm)
    refine qb (qz (ql (retEndP (L' := cellsH ub (arv :: ((bs.set (((-1) - (u2.getD 0 0)).toNat) v1))) 200 :: L) [] (.tuple #[]) (by exact .nil) rfl rF rF (sC (sD sR)) ?_)))
    exact ⟨_, _, rfl, hc1, (Solves.swap (bind_eq hb hσ hrx hry (by omega) (by first | exact hoy | exact bind_var hσ hry (by omega) (by omega)))), rfl⟩
   refine jh [cellsH ub (arv :: bs) 200] L 16 [] [[], [0], [1], [2], [3], [4], [4, 5], [4, 6], [4, 7], [4, 8], [9], [9, 10], [9, 11], [9], [9, 13], [9, 14]] (phiL [qe v2, qe (.pointer (some (elemA v2 (0)))), qe (ii (u2.getD 0 0)), qe (.bool (decide ((u2.getD 0 0 : Int) < 0)) : Value), qe (.bool (decide ((u2.getD 0 0 : Int) < 0)) : Value), qe v1, qe (.pointer (some (elemA v1 (0)))), qe (ii (u1.getD 0 0)), qe (.bool (decide ((u1.getD 0 0 : Int) ≥ 0)) : Value), qe (.bool (decide ((u1.getD 0 0 : Int) ≥ 0)) : Value), qe v2, qe (.pointer (some (elemA v2 (0)))), qe (ii (u2.getD 0 0)), qe v1, qe (.pointer (some (elemA v1 (0)))), qe (ii (u1.getD 0 0))]) (ownL []) mixed rfl rfl (by kernel_rfl) ?_ ?_
   ·refine pD (fun W R z9 => ?_) ?_
    ·refine qg (qi (v2) rfl ?_)
     exact ⟨rfl, rfl, rfl⟩
    refine pD (fun W R z9 => ?_) ?_
    ·rw [eS (l := [(0, _)]) ⟨z9 0 rfl, ⟨⟩⟩]
     refine qg (qk 0 qd qm rfl rfl rfl hv2.slv (by omega) (Nat.mul_one _) ?_)
     exact ⟨rfl, rfl, rfl⟩
    refine pD (fun W R z9 => ?_) ?_
    ·rw [eS (l := [(1, _)]) ⟨z9 1 rfl, ⟨⟩⟩]
     refine qg (qj qC rfl (hv2.rd (by omega)) ?_)
     exact ⟨rfl, rfl, rfl⟩
    refine pD (fun W R z9 => ?_) ?_
    ·rw [eS (l := [(2, _)]) ⟨z9 2 rfl, ⟨⟩⟩]
     refine qg (qG rfl rfl ?_)
     exact ⟨rfl, rfl, rfl⟩
    refine pD (fun W R z9 => ?_) ?_
    ·rw [eS (l := [(3, _)]) ⟨z9 3 rfl, ⟨⟩⟩]
     refine qg (qi (.bool (decide ((u2.getD 0 0 : Int) < 0))) rfl ?_)
     exact ⟨rfl, rfl, rfl⟩
    refine pD (fun W R z9 => ?_) ?_
    ·rw [eS (l := [(4, _)]) ⟨z9 4 rfl, ⟨⟩⟩]
     refine qO (t := 32) rfl (vT h3) (qi (v1) rfl ?_)
     exact ⟨rfl, rfl, rfl⟩
    refine pD (fun W R z9 => ?_) ?_
    ·rw [eS (l := [(4, _), (5, _)]) ⟨z9 4 rfl, z9 5 rfl, ⟨⟩⟩]
     refine qO (t := 32) rfl (vT h3) (qk 0 qd qm rfl rfl rfl hv1.slv (by omega) (Nat.mul_one _) ?_)
     exact ⟨rfl, rfl, rfl⟩
    refine pD (fun W R z9 => ?_) ?_
    ·rw [eS (l := [(4, _), (6, _)]) ⟨z9 4 rfl, z9 6 rfl, ⟨⟩⟩]
     refine qO (t := 32) rfl (vT h3) (qj qC rfl (hv1.rd (by omega)) ?_)
     exact ⟨rfl, rfl, rfl⟩
    refine pD (fun W R z9 => ?_) ?_
    ·rw [eS (l := [(4, _), (7, _)]) ⟨z9 4 rfl, z9 7 rfl, ⟨⟩⟩]
     refine qO (t := 32) rfl (vT h3) (jI rfl rfl ?_)
     exact ⟨rfl, rfl, rfl⟩
    refine pD (fun W R z9 => ?_) ?_
    ·rw [eS (l := [(4, _), (8, _)]) ⟨z9 4 rfl, z9 8 rfl, ⟨⟩⟩]
     refine qO (t := 32) rfl (vT h3) (qi (.bool (decide ((u1.getD 0 0 : Int) ≥ 0))) rfl ?_)
     exact ⟨rfl, rfl, rfl⟩
    refine pD (fun W R z9 => ?_) ?_
    ·rw [eS (l := [(9, _)]) ⟨z9 9 rfl, ⟨⟩⟩]
     refine qO (t := 37) rfl (vF h4) (qi (v2) rfl ?_)
     exact ⟨rfl, rfl, rfl⟩
    refine pD (fun W R z9 => ?_) ?_
    ·rw [eS (l := [(9, _), (10, _)]) ⟨z9 9 rfl, z9 10 rfl, ⟨⟩⟩]
     refine qO (t := 37) rfl (vF h4) (qk 0 qd qm rfl rfl rfl hv2.slv (by omega) (Nat.mul_one _) ?_)
     exact ⟨rfl, rfl, rfl⟩
    refine pD (fun W R z9 => ?_) ?_
    ·rw [eS (l := [(9, _), (11, _)]) ⟨z9 9 rfl, z9 11 rfl, ⟨⟩⟩]
     refine qO (t := 37) rfl (vF h4) (qj qC rfl (hv2.rd (by omega)) ?_)
     exact ⟨rfl, rfl, rfl⟩
    refine pD (fun W R z9 => ?_) ?_
    ·rw [eS (l := [(9, _)]) ⟨z9 9 rfl, ⟨⟩⟩]
     refine qO (t := 37) rfl (vF h4) (qi (v1) rfl ?_)
     exact ⟨rfl, rfl, rfl⟩
    refine pD (fun W R z9 => ?_) ?_
    ·rw [eS (l := [(9, _), (13, _)]) ⟨z9 9 rfl, z9 13 rfl, ⟨⟩⟩]
     refine qO (t := 37) rfl (vF h4) (qk 0 qd qm rfl rfl rfl hv1.slv (by omega) (Nat.mul_one _) ?_)
     exact ⟨rfl, rfl, rfl⟩
    refine pD (fun W R z9 => ?_) ?_
    ·rw [eS (l := [(9, _), (14, _)]) ⟨z9 9 rfl, z9 14 rfl, ⟨⟩⟩]
     refine qO (t := 37) rfl (vF h4) (qj qC rfl (hv1.rd (by omega)) ?_)
     exact ⟨rfl, rfl, rfl⟩
    exact stepsP.nil
   intro W hphi
   rw [eS (l := [(4, _), (9, _), (12, _), (15, _)]) ⟨(hphi 4 (by decide)), (hphi 9 (by decide)), (hphi 12 (by decide)), (hphi 15 (by decide)), ⟨⟩⟩]
   show XL _ _ _ _ _ _ _ (cellsH ub (arv :: bs) 200 :: L)
   refine qr (t := 37) rfl (vF h4) (qG rfl rfl (qr (t := 32) rfl (vT h3) (qT (.bool (decide ((u2.getD 0 0 : Int) < u1.getD 0 0))) (vF h4) rfl (cX (qS (.bool (decide ((u2.getD 0 0 : Int) < u1.getD 0 0))) (vT h3) rfl (qb ?_))))))
   refine qx (p := (u2.getD 0 0 : Int) < u1.getD 0 0) rfl (fun h6 => ?_) (fun h6 => ?_)
   ·refine qa (qf (v2) rfl (qf (v1) rfl (qh (v2) rfl (qh (v1) rfl (qb (qc (qc (qa ?_))))))))
    have hrx := hru2
    have hry := hru1
    have hnx := hn2
    have hny := hn1
    have hwx := hrx.w
    have hwy := hry.w
    have hxl := hrx.w.len
    have hyl := hry.w.len
    have hxg := hrx.w.geD (p := 0) (by omega)
    have hyg := hry.w.geD (p := 0) (by omega)
    have hbl := hb.len
    skip
    refine qf (v2) rfl (cX (qk 0 qd qm rfl rfl rfl hv2.slv (by omega) (Nat.mul_one _) (cX (qj qC rfl (hv2.rd (by omega)) (cX (qG rfl rfl (qb (jw (vT h3) (qc (qc (qa (qf (v1) rfl (cX (qk 0 qd qm rfl rfl rfl hv1.slv (by omega) (Nat.mul_one _) (cX (qj qC rfl (hv1.rd (by omega)) ?_))))))))))))))))
    refine cX (jI rfl rfl (qf (.bool (decide ((u1.getD 0 0 : Int) ≥ 0))) rfl (qp (t := 57) rfl (vF h4) (qp (t := 57) rfl (vF h4) (qp (t := 57) rfl (vF h4) (qp (t := 57) rfl (vF h4) (qp (t := 57) rfl (vF h4) (qp (t := 57) rfl (vF h4) (qp (t := 57) rfl (vF h4) (qp (t := 57) rfl (vF h4) ?_))))))))))
    refine cX (qT (.bool (false)) (vF h4) rfl (qb (jy rfl (qw (qc ?_)))))
    refine jh [cellsH ub (arv :: bs) 200] L 8 [] [[], [], [1], [2], [3], [], [0], [6]] (phiL [qe (ptr ub 0), qe v2, qe (.pointer (some (elemA v2 (0)))), qe (ii (u2.getD 0 0)), qe (ii ((-1) - (u2.getD 0 0))), qe v1, qe (ptr ub 0), qe (ptr ub 1)]) (ownL []) mixed rfl rfl (by kernel_rfl) ?_ ?_
    ·refine pD (fun W R z9 => ?_) ?_
     ·refine qg (qi (ptr ub 0) rfl ?_)
      exact ⟨rfl, rfl, rfl⟩
     refine pD (fun W R z9 => ?_) ?_
     ·refine qg (qi (v2) rfl ?_)
      exact ⟨rfl, rfl, rfl⟩
     refine pD (fun W R z9 => ?_) ?_
     ·rw [eS (l := [(1, _)]) ⟨z9 1 rfl, ⟨⟩⟩]
      refine qg (qk 0 qd qm rfl rfl rfl hv2.slv (by omega) (Nat.mul_one _) ?_)
      exact ⟨rfl, rfl, rfl⟩
     refine pD (fun W R z9 => ?_) ?_
     ·rw [eS (l := [(2, _)]) ⟨z9 2 rfl, ⟨⟩⟩]
      refine qg (qj qC rfl (hv2.rd (by omega)) ?_)
      exact ⟨rfl, rfl, rfl⟩
     refine pD (fun W R z9 => ?_) ?_
     ·rw [eS (l := [(3, _)]) ⟨z9 3 rfl, ⟨⟩⟩]
      refine qg (jb ((-1) - (u2.getD 0 0)) rfl rfl (by omega) (by omega) ?_)
      exact ⟨rfl, rfl, rfl⟩
     refine pD (fun W R z9 => ?_) ?_
     ·refine qg (qi (v1) rfl ?_)
      exact ⟨rfl, rfl, rfl⟩
     refine pD (fun W R z9 => ?_) ?_
     ·rw [eS (l := [(0, _)]) ⟨z9 0 rfl, ⟨⟩⟩]
      refine qg (qN rfl ?_)
      exact ⟨rfl, rfl, rfl⟩
     refine pD (fun W R z9 => ?_) ?_
     ·rw [eS (l := [(6, _)]) ⟨z9 6 rfl, ⟨⟩⟩]
      refine qg (qo (1) qV rfl sizeOf198 (by decide) rfl rfl ?_)
      exact ⟨rfl, rfl, rfl⟩
     exact stepsP.nil
    intro W hphi
    rw [eS (l := [(4, _), (5, _), (7, _)]) ⟨(hphi 4 (by decide)), (hphi 5 (by decide)), (hphi 7 (by decide)), ⟨⟩⟩]
    show XL _ _ _ _ _ _ _ (cellsH ub (arv :: bs) 200 :: L)
    refine cX (jL (i := (-1) - (u2.getD 0 0)) (((-1) - (u2.getD 0 0)).toNat) (1 + (((-1) - (u2.getD 0 0)).toNat)) jA qq rfl rfl (by omega) (by omega) (by omega) (cX (js [] _ (arv :: (bs.set (((-1) - (u2.getD 0 0)).toNat) v1)) qq rfl rfl (je (qE hv1)) rfl (blt_1 (by have := CO.len hbc; (try simp only [List.length_set, List.length_replicate] at this ⊢) <;> omega)) set_1 ?_)))
    have hc2 := hbc.set (((-1) - (u2.getD 0 0)).toNat) hv1 (by rw [hny]; exact (decide_eq_false hry.w.ne).symm)
    refine qb (qz (ql (retEndP (L' := cellsH ub (arv :: ((bs.set (((-1) - (u2.getD 0 0)).toNat) v1))) 200 :: L) [] (.tuple #[]) (by exact .nil) rfl rF rF (sC sR) ?_)))
    exact ⟨_, _, rfl, hc2, (Solves.swap (bind_eq hb hσ hrx hry (by omega) (by first | exact hoy | exact bind_var hσ hry (by omega) (by omega)))), rfl⟩
   refine qw (qc (qc (qa ?_)))
   have hrx := hru1
   have hry := hru2
   have hnx := hn1
   have hny := hn2
   have hwx := hrx.w
   have hwy := hry.w
   have hxl := hrx.w.len
   have hyl := hry.w.len
   have hxg := hrx.w.geD (p := 0) (by omega)
   have hyg := hry.w.geD (p := 0) (by omega)
   have hbl := hb.len
   skip
   refine qf (v1) rfl (cX (qk 0 qd qm rfl rfl rfl hv1.slv (by omega) (Nat.mul_one _) (cX (qj qC rfl (hv1.rd (by omega)) (cX (qG rfl rfl (qb (jy (vF h2) (qw (qc (qc ?_)))))))))))
   refine jh [cellsH ub (arv :: bs) 200] L 6 [] [[], [0], [1], [], [3], [4]] (phiL [qe v1, qe (.pointer (some (elemA v1 (0)))), qe (ii (u1.getD 0 0)), qe v2, qe (.pointer (some (elemA v2 (0)))), qe (ii (u2.getD 0 0))]) (ownL []) mixed rfl rfl (by kernel_rfl) ?_ ?_
   ·refine pD (fun W R z9 => ?_) ?_
    ·refine qg (qi (v1) rfl ?_)
     exact ⟨rfl, rfl, rfl⟩
    refine pD (fun W R z9 => ?_) ?_
    ·rw [eS (l := [(0, _)]) ⟨z9 0 rfl, ⟨⟩⟩]
     refine qg (qk 0 qd qm rfl rfl rfl hv1.slv (by omega) (Nat.mul_one _) ?_)
     exact ⟨rfl, rfl, rfl⟩
    refine pD (fun W R z9 => ?_) ?_
    ·rw [eS (l := [(1, _)]) ⟨z9 1 rfl, ⟨⟩⟩]
     refine qg (qj qC rfl (hv1.rd (by omega)) ?_)
     exact ⟨rfl, rfl, rfl⟩
    refine pD (fun W R z9 => ?_) ?_
    ·refine qg (qi (v2) rfl ?_)
     exact ⟨rfl, rfl, rfl⟩
    refine pD (fun W R z9 => ?_) ?_
    ·rw [eS (l := [(3, _)]) ⟨z9 3 rfl, ⟨⟩⟩]
     refine qg (qk 0 qd qm rfl rfl rfl hv2.slv (by omega) (Nat.mul_one _) ?_)
     exact ⟨rfl, rfl, rfl⟩
    refine pD (fun W R z9 => ?_) ?_
    ·rw [eS (l := [(4, _)]) ⟨z9 4 rfl, ⟨⟩⟩]
     refine qg (qj qC rfl (hv2.rd (by omega)) ?_)
     exact ⟨rfl, rfl, rfl⟩
    exact stepsP.nil
   intro W hphi
   rw [eS (l := [(2, _), (5, _)]) ⟨(hphi 2 (by decide)), (hphi 5 (by decide)), ⟨⟩⟩]
   show XL _ _ _ _ _ _ _ (cellsH ub (arv :: bs) 200 :: L)
   refine cX (XOp.neq rfl rfl (qb ?_))
   refine qx (p := (u1.getD 0 0 : Int) ≠ u2.getD 0 0) rfl (fun h7 => ?_) (fun h7 => ?_)
   ·refine qa ?_
    skip
    refine cX (jq [] [] [] [] jm zeroValue230 rfl PlacesAre.nil rfl CellsAre.nil (cX (XOp.iface jm rfl (qZ ((sC sR)) (XL.panicI rfl ?_)))))
    exact .inr ⟨_, rfl, _, _, rfl, hbc, (heads_ne hrx hry (by omega) (by omega) (by omega)), rfl⟩
   have hhd : u1.getD 0 0 = u2.getD 0 0 := by omega
   refine qw (qc ?_)
   refine X.drawG [cellsH ub (arv :: bs) 200] L 11 [] [[], [0], [1], [2], [], [3, 4], [], [6], [7], [8]] [] (phiG [pe (ptr ub 0), pe (ptr ub 0), pe (ptr ub 0), pe (.agg #[arv]), pe v1, fun FF us v => ((v) : Value) = v ∧ (IntsF FF (v) (argsL ar u1 0)), pe (ptr ub 0), pe (ptr ub 0), pe (ptr ub 0), pe (.agg #[arv]), pe v2]) (ownL []) mixed rfl rfl (by kernel_rfl) (by kernel_rfl) (MonoG.get (m1 (m1 (m1 (m1 (m1 (mC (fun le h => ⟨h.1, h.2.mono le⟩) (m1 (m1 (m1 (m1 (m1 MonoG.nil)))))))))))) ?_ ?_
   ·refine gD (fun W Fs R lF z9 => ?_) ?_
    ·refine qg (qi (ptr ub 0) rfl ?_)
     exact ⟨rfl, rfl⟩
    refine gD (fun W Fs R lF z9 => ?_) ?_
    ·replace har := har.mono lF
     replace hbc := hbc.mono lF
     replace hv1 := hv1.mono lF
     replace hv2 := hv2.mono lF
     rw [eS (l := [(0, _)]) ⟨z9 0 rfl, ⟨⟩⟩]
     refine qg (qN rfl ?_)
     exact ⟨rfl, rfl⟩
    refine gD (fun W Fs R lF z9 => ?_) ?_
    ·rw [eS (l := [(1, _)]) ⟨z9 1 rfl, ⟨⟩⟩]
     refine qg (qo (0) qV rfl qJ (by decide) rfl rfl ?_)
     exact ⟨rfl, rfl⟩
    refine gD (fun W Fs R lF z9 => ?_) ?_
    ·replace har := har.mono lF
     replace hbc := hbc.mono lF
     replace hv1 := hv1.mono lF
     replace hv2 := hv2.mono lF
     rw [eS (l := [(2, _)]) ⟨z9 2 rfl, ⟨⟩⟩]
     refine qg (qB [arv] jd qJ rfl rfl (Rd.ownN [] rfl rfl) ?_)
     exact ⟨rfl, rfl⟩
    refine gD (fun W Fs R lF z9 => ?_) ?_
    ·refine qg (qi (v1) rfl ?_)
     exact ⟨rfl, rfl⟩
    refine gD (fun W Fs R lF z9 => ?_) ?_
    ·replace har := har.mono lF
     replace hbc := hbc.mono lF
     replace hv1 := hv1.mono lF
     replace hv2 := hv2.mono lF
     rw [eS (l := [(3, _), (4, _)]) ⟨z9 3 rfl, z9 4 rfl, ⟨⟩⟩]
     refine qg (jD <| qs (args := [.agg #[arv], v1, ii ((0 : Nat) : Int)]) call222 rfl (argsAtW_spec (p := 0) har hv1 (ho := (by first | assumption | rfl | omega | simp)) (hp := (by first | assumption | rfl | omega | simp))) ?_)
     rintro v4 _ _ _ ⟨rfl, hs3, rfl⟩
     refine ⟨_, _, rfl, fun F1 le1 hz1 => ?_⟩
     replace har := har.mono le1
     replace hbc := hbc.mono le1
     replace hv1 := hv1.mono le1
     replace hv2 := hv2.mono le1
     have hf1 : IntsF F1 v4 ((argsL ar u1 0)) := intsH.fz (xs := (argsL ar u1 0)) hz1.fz
     exact ⟨⟨rfl, hf1⟩, rfl⟩
    refine gD (fun W Fs R lF z9 => ?_) ?_
    ·refine qg (qi (ptr ub 0) rfl ?_)
     exact ⟨rfl, rfl⟩
    refine gD (fun W Fs R lF z9 => ?_) ?_
    ·replace har := har.mono lF
     replace hbc := hbc.mono lF
     replace hv1 := hv1.mono lF
     replace hv2 := hv2.mono lF
     rw [eS (l := [(6, _)]) ⟨z9 6 rfl, ⟨⟩⟩]
     refine qg (qN rfl ?_)
     exact ⟨rfl, rfl⟩
    refine gD (fun W Fs R lF z9 => ?_) ?_
    ·rw [eS (l := [(7, _)]) ⟨z9 7 rfl, ⟨⟩⟩]
     refine qg (qo (0) qV rfl qJ (by decide) rfl rfl ?_)
     exact ⟨rfl, rfl⟩
    refine gD (fun W Fs R lF z9 => ?_) ?_
    ·replace har := har.mono lF
     replace hbc := hbc.mono lF
     replace hv1 := hv1.mono lF
     replace hv2 := hv2.mono lF
     rw [eS (l := [(8, _)]) ⟨z9 8 rfl, ⟨⟩⟩]
     refine qg (qB [arv] jd qJ rfl rfl (Rd.ownN [] rfl rfl) ?_)
     exact ⟨rfl, rfl⟩
    refine gD (fun W Fs R lF z9 => ?_) ?_
    ·refine qg (qi (v2) rfl ?_)
     exact ⟨rfl, rfl⟩
    exact stepsG.nil
   intro W F2 le2 hphi
   obtain ⟨e5, f5_9ha⟩ := hphi 5 (by decide)
   generalize hu1 : ((W 5)) = u3 at e5 f5_9ha
   rw [eS (l := [(5, u3), (9, _), (10, _)]) ⟨hu1, (hphi 9 (by decide)), (hphi 10 (by decide)), ⟨⟩⟩]
   replace har := har.mono le2
   replace hbc := hbc.mono le2
   replace hv1 := hv1.mono le2
   replace hv2 := hv2.mono le2
   show XL _ _ _ _ _ _ _ (cellsH ub (arv :: bs) 200 :: L)
   refine cX (jD <| qs (args := [.agg #[arv], v2, ii ((0 : Nat) : Int)]) call222 rfl (argsAtW_spec (p := 0) har hv2 (ho := (by first | assumption | rfl | omega | simp)) (hp := (by first | assumption | rfl | omega | simp))) ?_)
   rintro v5 _ _ _ ⟨rfl, hs4, rfl⟩
   refine ⟨_, _, rfl, fun F3 le3 hz2 => ?_⟩
   replace har := har.mono le3
   replace hbc := hbc.mono le3
   replace hv1 := hv1.mono le3
   replace hv2 := hv2.mono le3
   replace f5_9ha := f5_9ha.mono le3
   have hf2 : IntsF F3 v5 ((argsL ar u2 0)) := intsH.fz (xs := (argsL ar u2 0)) hz2.fz
   refine qh (u3) rfl (qh (v5) rfl (qb (qc (qa (qf (u3) rfl (cX (qD jn rfl f5_9ha.slv (qf (ii (0)) rfl (qb (qF (jg (α := Nat × List Value × RowL × FH) (fun xQ => [(0, ptr ub 0), (1, v1), (2, v2), (6, u3), (7, v5), (100, ii (((((argsL ar u1 0)).length : Nat) : Int))), (101, ii (((xQ.1 : Nat) : Int)))]) (fun xQ => cellsH ub (arv :: xQ.2.1) 200 :: L) (fun xQ F' => xQ.2.2.2 = F' ∧ F3 ≤ xQ.2.2.2 ∧ (BindC xQ.2.2.2 xQ.2.1 xQ.2.2.1) ∧ (xQ.1 ≤ (argsL ar u1 0).length) ∧ (Solves ar bl xQ.2.2.1 (EqTo ar u1 u2 xQ.1))) (fun xQ => (argsL ar u1 0).length - xQ.1) (0, bs, bl, F3) ⟨rfl, rfl, rfl, rfl, rfl, rfl, rfl, ⟨⟩⟩ (sC sR) ⟨rfl, FLe.refl _, (hbc), (Nat.zero_le _), (EqTo.start hb)⟩ ?_)))))))))))
   rintro ⟨j, bj, lj, G1⟩ rE _ _ ⟨rfl, leG, hbj, hj, hso⟩
   show X _ _ _ _ (envs [(0, ptr ub 0), (1, v1), (2, v2), (6, u3), (7, v5), (100, ii (((((argsL ar u1 0)).length : Nat) : Int))), (101, ii ((j : Int)))] rE) _ (cellsH ub (arv :: bj) 200 :: L)
   replace leG : F3 ≤ G1 := leG
   dsimp only at hbj hj hso
   have hajx := fun h : j < (argsL ar u1 0).length => hrx.w.args_in (p := 0) (by omega) h
   have hajy := fun h : j < (argsL ar u2 0).length => hry.w.args_in (p := 0) (by omega) h
   have hlax := args_same (ar := ar) hhd
   have hla3 := hrx.w.args_le (p := 0) (by omega)
   have hex0 := hrx.w.end0
   have hey0 := hry.w.end0
   have leG1 := leG
   replace har := har.mono leG1
   replace hbc := hbc.mono leG1
   replace hv1 := hv1.mono leG1
   replace hv2 := hv2.mono leG1
   replace f5_9ha := f5_9ha.mono leG1
   replace hf2 := hf2.mono leG1
   refine qc (qa (cX (qG rfl rfl (qb (qc ?_)))))
   refine qx (p := (j : Int) < ((((argsL ar u1 0)).length : Nat) : Int)) rfl (fun h8 => ?_) (fun h8 => ?_)
   ·have hjx : j < (argsL ar u1 0).length := by omega
    have hjy : j < (argsL ar u2 0).length := by omega
    obtain ⟨σ1, k1, N1, hσ1, hk1, hN1, hless⟩ := EqTo.less hso hb hσ hrx (by rw [parts_args]; exact hjx) hk hN
    have hpx := parts_W hrx.w hjx
    have hpy := parts_W hry.w hjy
    have hb2 := hso.ok
    rw [parts_get hjx] at hpx hN1
    rw [parts_get hjy] at hpy
    refine qw (qc (qF (qc (qa (qf (ii ((j : Int))) rfl (qh (ii ((j : Int))) rfl (qb ?_)))))))
    refine X.drawG [cellsH ub (arv :: bj) 200] L 21 [] [[], [], [1], [2], [3], [], [], [], [6, 7], [8], [4, 5, 9], [], [11], [12], [13], [], [], [], [16, 17], [18], [14, 15, 19]] [] (phiG [pe (ptr ub 0), pe (ptr ub 0), pe (ptr ub 0), pe (ptr ub 0), pe (.agg #[arv]), pe v1, pe u3, pe (ii ((j : Int)) : Value), pe (.pointer (some (elemA u3 (j)))), pe (ii (((argsL ar u1 0)).getD j 0)), fun FF us v => ((v) : Value) = v ∧ (IntsF FF (v) (sub ar u1 ((((argsL ar u1 0)).getD j 0).toNat))) ∧ (isNil (v) = false), pe (ptr ub 0), pe (ptr ub 0), pe (ptr ub 0), pe (.agg #[arv]), pe v2, pe v5, pe (ii ((j : Int)) : Value), pe (.pointer (some (elemA v5 (j)))), pe (ii (((argsL ar u2 0)).getD j 0)), fun FF us v => ((v) : Value) = v ∧ (IntsF FF (v) (sub ar u2 ((((argsL ar u2 0)).getD j 0).toNat))) ∧ (isNil (v) = false)]) (ownL []) mixed rfl rfl (by kernel_rfl) (by kernel_rfl) (MonoG.get (m1 (m1 (m1 (m1 (m1 (m1 (m1 (m1 (m1 (m1 (mC (fun le h => ⟨h.1, h.2.1.mono le, h.2.2⟩) (m1 (m1 (m1 (m1 (m1 (m1 (m1 (m1 (m1 (mC (fun le h => ⟨h.1, h.2.1.mono le, h.2.2⟩) MonoG.nil)))))))))))))))))))))) ?_ ?_
    ·refine gD (fun W Fs R lF z9 => ?_) ?_
     ·refine qg (qi (ptr ub 0) rfl ?_)
      exact ⟨rfl, rfl⟩
     refine gD (fun W Fs R lF z9 => ?_) ?_
     ·refine qg (qi (ptr ub 0) rfl ?_)
      exact ⟨rfl, rfl⟩
     refine gD (fun W Fs R lF z9 => ?_) ?_
     ·replace har := har.mono lF
      replace hbc := hbc.mono lF
      replace hv1 := hv1.mono lF
      replace hv2 := hv2.mono lF
      replace f5_9ha := f5_9ha.mono lF
      replace hf2 := hf2.mono lF
      replace hbj := hbj.mono lF
      rw [eS (l := [(1, _)]) ⟨z9 1 rfl, ⟨⟩⟩]
      refine qg (qN rfl ?_)
      exact ⟨rfl, rfl⟩
     refine gD (fun W Fs R lF z9 => ?_) ?_
     ·rw [eS (l := [(2, _)]) ⟨z9 2 rfl, ⟨⟩⟩]
      refine qg (qo (0) qV rfl qJ (by decide) rfl rfl ?_)
      exact ⟨rfl, rfl⟩
     refine gD (fun W Fs R lF z9 => ?_) ?_
     ·replace har := har.mono lF
      replace hbc := hbc.mono lF
      replace hv1 := hv1.mono lF
      replace hv2 := hv2.mono lF
      replace f5_9ha := f5_9ha.mono lF
      replace hf2 := hf2.mono lF
      replace hbj := hbj.mono lF
      rw [eS (l := [(3, _)]) ⟨z9 3 rfl, ⟨⟩⟩]
      refine qg (qB [arv] jd qJ rfl rfl (Rd.ownN [] rfl rfl) ?_)
      exact ⟨rfl, rfl⟩
     refine gD (fun W Fs R lF z9 => ?_) ?_
     ·refine qg (qi (v1) rfl ?_)
      exact ⟨rfl, rfl⟩
     refine gD (fun W Fs R lF z9 => ?_) ?_
     ·refine qg (qi (u3) rfl ?_)
      exact ⟨rfl, rfl⟩
     refine gD (fun W Fs R lF z9 => ?_) ?_
     ·refine qg (qi (ii ((j : Int))) rfl ?_)
      exact ⟨rfl, rfl⟩
     refine gD (fun W Fs R lF z9 => ?_) ?_
     ·replace har := har.mono lF
      replace hbc := hbc.mono lF
      replace hv1 := hv1.mono lF
      replace hv2 := hv2.mono lF
      replace f5_9ha := f5_9ha.mono lF
      replace hf2 := hf2.mono lF
      replace hbj := hbj.mono lF
      rw [eS (l := [(6, _), (7, _)]) ⟨z9 6 rfl, z9 7 rfl, ⟨⟩⟩]
      refine qg (qk j jn jF rfl rfl rfl f5_9ha.slv (by omega) (Nat.mul_one _) ?_)
      exact ⟨rfl, rfl⟩
     refine gD (fun W Fs R lF z9 => ?_) ?_
     ·replace har := har.mono lF
      replace hbc := hbc.mono lF
      replace hv1 := hv1.mono lF
      replace hv2 := hv2.mono lF
      replace f5_9ha := f5_9ha.mono lF
      replace hf2 := hf2.mono lF
      replace hbj := hbj.mono lF
      rw [eS (l := [(8, _)]) ⟨z9 8 rfl, ⟨⟩⟩]
      refine qg (qj isAgg3 rfl (f5_9ha.rd (by omega)) ?_)
      exact ⟨rfl, rfl⟩
     refine gD (fun W Fs R lF z9 => ?_) ?_
     ·replace har := har.mono lF
      replace hbc := hbc.mono lF
      replace hv1 := hv1.mono lF
      replace hv2 := hv2.mono lF
      replace hf2 := hf2.mono lF
      replace hbj := hbj.mono lF
      rw [eS (l := [(4, _), (5, _), (9, _)]) ⟨z9 4 rfl, z9 5 rfl, z9 9 rfl, ⟨⟩⟩]
      refine qg (qs (args := [.agg #[arv], v1, ii (((((argsL ar u1 0)).getD j 0).toNat : Nat) : Int)]) call224 (by rw [show (((((argsL ar u1 0)).getD j 0).toNat : Nat) : Int) = ((argsL ar u1 0)).getD j 0 from by omega]; rfl) (subAtW_spec (p := (((argsL ar u1 0)).getD j 0).toNat) har hv1 (ho := (by first | assumption | rfl | omega | simp)) (hp := (by first | assumption | rfl | omega | simp)) (hnn := (by first | assumption | rfl | omega | simp))) ?_)
      rintro v8 _ _ _ ⟨rfl, rfl, hv5, hn5⟩
      exact ⟨⟨rfl, hv5, hn5⟩, rfl⟩
     refine gD (fun W Fs R lF z9 => ?_) ?_
     ·refine qg (qi (ptr ub 0) rfl ?_)
      exact ⟨rfl, rfl⟩
     refine gD (fun W Fs R lF z9 => ?_) ?_
     ·replace har := har.mono lF
      replace hbc := hbc.mono lF
      replace hv1 := hv1.mono lF
      replace hv2 := hv2.mono lF
      replace hf2 := hf2.mono lF
      replace hbj := hbj.mono lF
      rw [eS (l := [(11, _)]) ⟨z9 11 rfl, ⟨⟩⟩]
      refine qg (qN rfl ?_)
      exact ⟨rfl, rfl⟩
     refine gD (fun W Fs R lF z9 => ?_) ?_
     ·rw [eS (l := [(12, _)]) ⟨z9 12 rfl, ⟨⟩⟩]
      refine qg (qo (0) qV rfl qJ (by decide) rfl rfl ?_)
      exact ⟨rfl, rfl⟩
     refine gD (fun W Fs R lF z9 => ?_) ?_
     ·replace har := har.mono lF
      replace hbc := hbc.mono lF
      replace hv1 := hv1.mono lF
      replace hv2 := hv2.mono lF
      replace hf2 := hf2.mono lF
      replace hbj := hbj.mono lF
      rw [eS (l := [(13, _)]) ⟨z9 13 rfl, ⟨⟩⟩]
      refine qg (qB [arv] jd qJ rfl rfl (Rd.ownN [] rfl rfl) ?_)
      exact ⟨rfl, rfl⟩
     refine gD (fun W Fs R lF z9 => ?_) ?_
     ·refine qg (qi (v2) rfl ?_)
      exact ⟨rfl, rfl⟩
     refine gD (fun W Fs R lF z9 => ?_) ?_
     ·refine qg (qi (v5) rfl ?_)
      exact ⟨rfl, rfl⟩
     refine gD (fun W Fs R lF z9 => ?_) ?_
     ·refine qg (qi (ii ((j : Int))) rfl ?_)
      exact ⟨rfl, rfl⟩
     refine gD (fun W Fs R lF z9 => ?_) ?_
     ·replace har := har.mono lF
      replace hbc := hbc.mono lF
      replace hv1 := hv1.mono lF
      replace hv2 := hv2.mono lF
      replace hf2 := hf2.mono lF
      replace hbj := hbj.mono lF
      rw [eS (l := [(16, _), (17, _)]) ⟨z9 16 rfl, z9 17 rfl, ⟨⟩⟩]
      refine qg (qk j jn jF rfl rfl rfl hf2.slv (by omega) (Nat.mul_one _) ?_)
      exact ⟨rfl, rfl⟩
     refine gD (fun W Fs R lF z9 => ?_) ?_
     ·replace har := har.mono lF
      replace hbc := hbc.mono lF
      replace hv1 := hv1.mono lF
      replace hv2 := hv2.mono lF
      replace hf2 := hf2.mono lF
      replace hbj := hbj.mono lF
      rw [eS (l := [(18, _)]) ⟨z9 18 rfl, ⟨⟩⟩]
      refine qg (qj isAgg3 rfl (hf2.rd (by omega)) ?_)
      exact ⟨rfl, rfl⟩
     refine gD (fun W Fs R lF z9 => ?_) ?_
     ·replace har := har.mono lF
      replace hbc := hbc.mono lF
      replace hv1 := hv1.mono lF
      replace hv2 := hv2.mono lF
      replace hbj := hbj.mono lF
      rw [eS (l := [(14, _), (15, _), (19, _)]) ⟨z9 14 rfl, z9 15 rfl, z9 19 rfl, ⟨⟩⟩]
      refine qg (qs (args := [.agg #[arv], v2, ii (((((argsL ar u2 0)).getD j 0).toNat : Nat) : Int)]) call224 (by rw [show (((((argsL ar u2 0)).getD j 0).toNat : Nat) : Int) = ((argsL ar u2 0)).getD j 0 from by omega]; rfl) (subAtW_spec (p := (((argsL ar u2 0)).getD j 0).toNat) har hv2 (ho := (by first | assumption | rfl | omega | simp)) (hp := (by first | assumption | rfl | omega | simp)) (hnn := (by first | assumption | rfl | omega | simp))) ?_)
      rintro v9 _ _ _ ⟨rfl, rfl, hv6, hn6⟩
      exact ⟨⟨rfl, hv6, hn6⟩, rfl⟩
     exact stepsG.nil
    intro W F4 le4 hphi
    obtain ⟨e10, f10_10ha, f10_10hn⟩ := hphi 10 (by decide)
    obtain ⟨e20, f20_10ha, f20_10hn⟩ := hphi 20 (by decide)
    generalize hu2 : ((W 10)) = u4 at e10 f10_10ha f10_10hn e20 f20_10ha f20_10hn
    generalize hu3 : ((W 20)) = u5 at e10 f10_10ha f10_10hn e20 f20_10ha f20_10hn
    rw [eS (l := [(0, _), (10, u4), (20, u5)]) ⟨(hphi 0 (by decide)), hu2, hu3, ⟨⟩⟩]
    replace har := har.mono le4
    replace hbc := hbc.mono le4
    replace hv1 := hv1.mono le4
    replace hv2 := hv2.mono le4
    replace hbj := hbj.mono le4
    show XL _ _ _ _ _ _ _ (cellsH ub (arv :: bj) 200 :: L)
    refine XL.callP [ptr ub 0, u4, u5] call237 rfl (ih k1 N1 hless har hbj hb2 f10_10ha f20_10ha hσ1 hpx hpy (by assumption) (by assumption) hk1 hN1) ?_ ?_
    ·rintro _ _ _ _ ⟨b9, l9, rfl, hb9, hne9, rfl⟩
     rw [← parts_get hjx, ← parts_get hjy] at hne9
     exact .inr ⟨_, rfl, b9, l9, rfl, hb9, (EqTo.stop hso hrx hry (by rw [parts_args]; exact hjx) (by omega) hhd hne9), rfl⟩
    rintro _ F5 _ le5 ⟨b2, l1, rfl, hb1, hso1, rfl⟩
    replace har := har.mono le5
    replace hbc := hbc.mono le5
    replace hv1 := hv1.mono le5
    replace hv2 := hv2.mono le5
    replace hbj := hbj.mono le5
    rw [← parts_get hjx, ← parts_get hjy] at hso1
    have hso2 := EqTo.next hso hso1
    refine qb (qa (cX (qM (((j + 1 : Nat) : Int)) rfl rfl (by omega) (by omega) (qf (ii (((j + 1 : Nat) : Int))) rfl (qb ?_)))))
    exact ⟨(j + 1, b2, l1, F5), _, (qn (qn leG1 le4) le5), rF, ⟨rfl, rfl, rfl, rfl, rfl, rfl, rfl, ⟨⟩⟩, (sC sR), ⟨rfl, (qn (qn leG1 le4) le5), (hb1), (by (try dsimp only) <;> omega), (hso2)⟩, (by omega)⟩
   refine jc (qt (qt (qL (id (retEndNP (L' := cellsH ub (arv :: bj) 200 :: L) [] (.tuple #[]) (by exact .nil) rfl (qn (qn le2 le3) leG1) rF (sC sR) ?_)))))
   exact ⟨_, _, rfl, hbj, (EqTo.done hso hrx hry (by rw [parts_args]; omega) (by omega) hhd), rfl⟩
  refine jh [cellsH ub (arv :: bs) 200] L 16 [] [[], [0], [1], [2], [3], [4], [4, 5], [4, 6], [4, 7], [4, 8], [9], [9, 10], [9, 11], [9], [9, 13], [9, 14]] (phiL [qe v2, qe (.pointer (some (elemA v2 (0)))), qe (ii (u2.getD 0 0)), qe (.bool (decide ((u2.getD 0 0 : Int) < 0)) : Value), qe (.bool (decide ((u2.getD 0 0 : Int) < 0)) : Value), qe undef, qe undef, qe undef, qe undef, qe undef, qe undef, qe undef, qe undef, qe undef, qe undef, qe undef]) (ownL []) mixed rfl rfl (by kernel_rfl) ?_ ?_
  ·refine pD (fun W R z9 => ?_) ?_
   ·refine qg (qi (v2) rfl ?_)
    exact ⟨rfl, rfl, rfl⟩
   refine pD (fun W R z9 => ?_) ?_
   ·rw [eS (l := [(0, _)]) ⟨z9 0 rfl, ⟨⟩⟩]
    refine qg (qk 0 qd qm rfl rfl rfl hv2.slv (by omega) (Nat.mul_one _) ?_)
    exact ⟨rfl, rfl, rfl⟩
   refine pD (fun W R z9 => ?_) ?_
   ·rw [eS (l := [(1, _)]) ⟨z9 1 rfl, ⟨⟩⟩]
    refine qg (qj qC rfl (hv2.rd (by omega)) ?_)
    exact ⟨rfl, rfl, rfl⟩
   refine pD (fun W R z9 => ?_) ?_
   ·rw [eS (l := [(2, _)]) ⟨z9 2 rfl, ⟨⟩⟩]
    refine qg (qG rfl rfl ?_)
    exact ⟨rfl, rfl, rfl⟩
   refine pD (fun W R z9 => ?_) ?_
   ·rw [eS (l := [(3, _)]) ⟨z9 3 rfl, ⟨⟩⟩]
    refine qg (qi (.bool (decide ((u2.getD 0 0 : Int) < 0))) rfl ?_)
    exact ⟨rfl, rfl, rfl⟩
   refine pD (fun W R z9 => ?_) ?_
   ·rw [eS (l := [(4, _)]) ⟨z9 4 rfl, ⟨⟩⟩]
    exact qX (t := 32) rfl (vF h3) ⟨rfl, rfl, rfl⟩
   refine pD (fun W R z9 => ?_) ?_
   ·rw [eS (l := [(4, _), (5, undef)]) ⟨z9 4 rfl, z9 5 rfl, ⟨⟩⟩]
    exact qX (t := 32) rfl (vF h3) ⟨rfl, rfl, rfl⟩
   refine pD (fun W R z9 => ?_) ?_
   ·rw [eS (l := [(4, _), (6, undef)]) ⟨z9 4 rfl, z9 6 rfl, ⟨⟩⟩]
    exact qX (t := 32) rfl (vF h3) ⟨rfl, rfl, rfl⟩
   refine pD (fun W R z9 => ?_) ?_
   ·rw [eS (l := [(4, _), (7, undef)]) ⟨z9 4 rfl, z9 7 rfl, ⟨⟩⟩]
    exact qX (t := 32) rfl (vF h3) ⟨rfl, rfl, rfl⟩
   refine pD (fun W R z9 => ?_) ?_
   ·rw [eS (l := [(4, _), (8, undef)]) ⟨z9 4 rfl, z9 8 rfl, ⟨⟩⟩]
    exact qX (t := 32) rfl (vF h3) ⟨rfl, rfl, rfl⟩
   refine pD (fun W R z9 => ?_) ?_
   ·rw [eS (l := [(9, undef)]) ⟨z9 9 rfl, ⟨⟩⟩]
    exact XG.noU (t := 37) rfl rfl ⟨rfl, rfl, rfl⟩
   refine pD (fun W R z9 => ?_) ?_
   ·rw [eS (l := [(9, undef), (10, undef)]) ⟨z9 9 rfl, z9 10 rfl, ⟨⟩⟩]
    exact XG.noU (t := 37) rfl rfl ⟨rfl, rfl, rfl⟩
   refine pD (fun W R z9 => ?_) ?_
   ·rw [eS (l := [(9, undef), (11, undef)]) ⟨z9 9 rfl, z9 11 rfl, ⟨⟩⟩]
    exact XG.noU (t := 37) rfl rfl ⟨rfl, rfl, rfl⟩
   refine pD (fun W R z9 => ?_) ?_
   ·rw [eS (l := [(9, undef)]) ⟨z9 9 rfl, ⟨⟩⟩]
    exact XG.noU (t := 37) rfl rfl ⟨rfl, rfl, rfl⟩
   refine pD (fun W R z9 => ?_) ?_
   ·rw [eS (l := [(9, undef), (13, undef)]) ⟨z9 9 rfl, z9 13 rfl, ⟨⟩⟩]
    exact XG.noU (t := 37) rfl rfl ⟨rfl, rfl, rfl⟩
   refine pD (fun W R z9 => ?_) ?_
   ·rw [eS (l := [(9, undef), (14, undef)]) ⟨z9 9 rfl, z9 14 rfl, ⟨⟩⟩]
    exact XG.noU (t := 37) rfl rfl ⟨rfl, rfl, rfl⟩
   exact stepsP.nil
  intro W hphi
  rw [eS (l := [(4, _), (9, undef), (12, undef), (15, undef)]) ⟨(hphi 4 (by decide)), (hphi 9 (by decide)), (hphi 12 (by decide)), (hphi 15 (by decide)), ⟨⟩⟩]
  show XL _ _ _ _ _ _ _ (cellsH ub (arv :: bs) 200 :: L)
  refine XL.noU (t := 37) rfl rfl (qp (t := 32) rfl (vF h3) (cX (qT (.bool (false)) (vF h3) rfl (qb (jy rfl (qw (qc (qc (qa ?_)))))))))
  have hrx := hru1
  have hry := hru2
  have hnx := hn1
  have hny := hn2
  have hwx := hrx.w
  have hwy := hry.w
  have hxl := hrx.w.len
  have hyl := hry.w.len
  have hxg := hrx.w.geD (p := 0) (by omega)
  have hyg := hry.w.geD (p := 0) (by omega)
  have hbl := hb.len
  skip
  refine qf (v1) rfl (cX (qk 0 qd qm rfl rfl rfl hv1.slv (by omega) (Nat.mul_one _) (cX (qj qC rfl (hv1.rd (by omega)) (cX (qG rfl rfl (qb (jy (vF h2) (qw (qc (qc ?_)))))))))))
  refine jh [cellsH ub (arv :: bs) 200] L 6 [] [[], [0], [1], [], [3], [4]] (phiL [qe v1, qe (.pointer (some (elemA v1 (0)))), qe (ii (u1.getD 0 0)), qe v2, qe (.pointer (some (elemA v2 (0)))), qe (ii (u2.getD 0 0))]) (ownL []) mixed rfl rfl (by kernel_rfl) ?_ ?_
  ·refine pD (fun W R z9 => ?_) ?_
   ·refine qg (qi (v1) rfl ?_)
    exact ⟨rfl, rfl, rfl⟩
   refine pD (fun W R z9 => ?_) ?_
   ·rw [eS (l := [(0, _)]) ⟨z9 0 rfl, ⟨⟩⟩]
    refine qg (qk 0 qd qm rfl rfl rfl hv1.slv (by omega) (Nat.mul_one _) ?_)
    exact ⟨rfl, rfl, rfl⟩
   refine pD (fun W R z9 => ?_) ?_
   ·rw [eS (l := [(1, _)]) ⟨z9 1 rfl, ⟨⟩⟩]
    refine qg (qj qC rfl (hv1.rd (by omega)) ?_)
    exact ⟨rfl, rfl, rfl⟩
   refine pD (fun W R z9 => ?_) ?_
   ·refine qg (qi (v2) rfl ?_)
    exact ⟨rfl, rfl, rfl⟩
   refine pD (fun W R z9 => ?_) ?_
   ·rw [eS (l := [(3, _)]) ⟨z9 3 rfl, ⟨⟩⟩]
    refine qg (qk 0 qd qm rfl rfl rfl hv2.slv (by omega) (Nat.mul_one _) ?_)
    exact ⟨rfl, rfl, rfl⟩
   refine pD (fun W R z9 => ?_) ?_
   ·rw [eS (l := [(4, _)]) ⟨z9 4 rfl, ⟨⟩⟩]
    refine qg (qj qC rfl (hv2.rd (by omega)) ?_)
    exact ⟨rfl, rfl, rfl⟩
   exact stepsP.nil
  intro W hphi
  rw [eS (l := [(2, _), (5, _)]) ⟨(hphi 2 (by decide)), (hphi 5 (by decide)), ⟨⟩⟩]
  show XL _ _ _ _ _ _ _ (cellsH ub (arv :: bs) 200 :: L)
  refine cX (XOp.neq rfl rfl (qb ?_))
  refine qx (p := (u1.getD 0 0 : Int) ≠ u2.getD 0 0) rfl (fun h9 => ?_) (fun h9 => ?_)
  ·refine qa ?_
   skip
   refine cX (jq [] [] [] [] jm zeroValue230 rfl PlacesAre.nil rfl CellsAre.nil (cX (XOp.iface jm rfl (qZ ((sC sR)) (XL.panicI rfl ?_)))))
   exact .inr ⟨_, rfl, _, _, rfl, hbc, (heads_ne hrx hry (by omega) (by omega) (by omega)), rfl⟩
  have hhd : u1.getD 0 0 = u2.getD 0 0 := by omega
  refine qw (qc ?_)
  refine X.drawG [cellsH ub (arv :: bs) 200] L 11 [] [[], [0], [1], [2], [], [3, 4], [], [6], [7], [8]] [] (phiG [pe (ptr ub 0), pe (ptr ub 0), pe (ptr ub 0), pe (.agg #[arv]), pe v1, fun FF us v => ((v) : Value) = v ∧ (IntsF FF (v) (argsL ar u1 0)), pe (ptr ub 0), pe (ptr ub 0), pe (ptr ub 0), pe (.agg #[arv]), pe v2]) (ownL []) mixed rfl rfl (by kernel_rfl) (by kernel_rfl) (MonoG.get (m1 (m1 (m1 (m1 (m1 (mC (fun le h => ⟨h.1, h.2.mono le⟩) (m1 (m1 (m1 (m1 (m1 MonoG.nil)))))))))))) ?_ ?_
  ·refine gD (fun W Fs R lF z9 => ?_) ?_
   ·refine qg (qi (ptr ub 0) rfl ?_)
    exact ⟨rfl, rfl⟩
   refine gD (fun W Fs R lF z9 => ?_) ?_
   ·replace har := har.mono lF
    replace hbc := hbc.mono lF
    replace hv1 := hv1.mono lF
    replace hv2 := hv2.mono lF
    rw [eS (l := [(0, _)]) ⟨z9 0 rfl, ⟨⟩⟩]
    refine qg (qN rfl ?_)
    exact ⟨rfl, rfl⟩
   refine gD (fun W Fs R lF z9 => ?_) ?_
   ·rw [eS (l := [(1, _)]) ⟨z9 1 rfl, ⟨⟩⟩]
    refine qg (qo (0) qV rfl qJ (by decide) rfl rfl ?_)
    exact ⟨rfl, rfl⟩
   refine gD (fun W Fs R lF z9 => ?_) ?_
   ·replace har := har.mono lF
    replace hbc := hbc.mono lF
    replace hv1 := hv1.mono lF
    replace hv2 := hv2.mono lF
    rw [eS (l := [(2, _)]) ⟨z9 2 rfl, ⟨⟩⟩]
    refine qg (qB [arv] jd qJ rfl rfl (Rd.ownN [] rfl rfl) ?_)
    exact ⟨rfl, rfl⟩
   refine gD (fun W Fs R lF z9 => ?_) ?_
   ·refine qg (qi (v1) rfl ?_)
    exact ⟨rfl, rfl⟩
   refine gD (fun W Fs R lF z9 => ?_) ?_
   ·replace har := har.mono lF
    replace hbc := hbc.mono lF
    replace hv1 := hv1.mono lF
    replace hv2 := hv2.mono lF
    rw [eS (l := [(3, _), (4, _)]) ⟨z9 3 rfl, z9 4 rfl, ⟨⟩⟩]
    refine qg (jD <| qs (args := [.agg #[arv], v1, ii ((0 : Nat) : Int)]) call222 rfl (argsAtW_spec (p := 0) har hv1 (ho := (by first | assumption | rfl | omega | simp)) (hp := (by first | assumption | rfl | omega | simp))) ?_)
    rintro v11 _ _ _ ⟨rfl, hs6, rfl⟩
    refine ⟨_, _, rfl, fun F6 le6 hz3 => ?_⟩
    replace har := har.mono le6
    replace hbc := hbc.mono le6
    replace hv1 := hv1.mono le6
    replace hv2 := hv2.mono le6
    have hf3 : IntsF F6 v11 ((argsL ar u1 0)) := intsH.fz (xs := (argsL ar u1 0)) hz3.fz
    exact ⟨⟨rfl, hf3⟩, rfl⟩
   refine gD (fun W Fs R lF z9 => ?_) ?_
   ·refine qg (qi (ptr ub 0) rfl ?_)
    exact ⟨rfl, rfl⟩
   refine gD (fun W Fs R lF z9 => ?_) ?_
   ·replace har := har.mono lF
    replace hbc := hbc.mono lF
    replace hv1 := hv1.mono lF
    replace hv2 := hv2.mono lF
    rw [eS (l := [(6, _)]) ⟨z9 6 rfl, ⟨⟩⟩]
    refine qg (qN rfl ?_)
    exact ⟨rfl, rfl⟩
   refine gD (fun W Fs R lF z9 => ?_) ?_
   ·rw [eS (l := [(7, _)]) ⟨z9 7 rfl, ⟨⟩⟩]
    refine qg (qo (0) qV rfl qJ (by decide) rfl rfl ?_)
    exact ⟨rfl, rfl⟩
   refine gD (fun W Fs R lF z9 => ?_) ?_
   ·replace har := har.mono lF
    replace hbc := hbc.mono lF
    replace hv1 := hv1.mono lF
    replace hv2 := hv2.mono lF
    rw [eS (l := [(8, _)]) ⟨z9 8 rfl, ⟨⟩⟩]
    refine qg (qB [arv] jd qJ rfl rfl (Rd.ownN [] rfl rfl) ?_)
    exact ⟨rfl, rfl⟩
   refine gD (fun W Fs R lF z9 => ?_) ?_
   ·refine qg (qi (v2) rfl ?_)
    exact ⟨rfl, rfl⟩
   exact stepsG.nil
  intro W F7 le7 hphi
  obtain ⟨e5, f5_13ha⟩ := hphi 5 (by decide)
  generalize hu4 : ((W 5)) = u6 at e5 f5_13ha
  rw [eS (l := [(5, u6), (9, _), (10, _)]) ⟨hu4, (hphi 9 (by decide)), (hphi 10 (by decide)), ⟨⟩⟩]
  replace har := har.mono le7
  replace hbc := hbc.mono le7
  replace hv1 := hv1.mono le7
  replace hv2 := hv2.mono le7
  show XL _ _ _ _ _ _ _ (cellsH ub (arv :: bs) 200 :: L)
  refine cX (jD <| qs (args := [.agg #[arv], v2, ii ((0 : Nat) : Int)]) call222 rfl (argsAtW_spec (p := 0) har hv2 (ho := (by first | assumption | rfl | omega | simp)) (hp := (by first | assumption | rfl | omega | simp))) ?_)
  rintro v12 _ _ _ ⟨rfl, hs7, rfl⟩
  refine ⟨_, _, rfl, fun F8 le8 hz4 => ?_⟩
  replace har := har.mono le8
  replace hbc := hbc.mono le8
  replace hv1 := hv1.mono le8
  replace hv2 := hv2.mono le8
  replace f5_13ha := f5_13ha.mono le8
  have hf4 : IntsF F8 v12 ((argsL ar u2 0)) := intsH.fz (xs := (argsL ar u2 0)) hz4.fz
  refine qh (u6) rfl (qh (v12) rfl (qb (qc (qa (qf (u6) rfl (cX (qD jn rfl f5_13ha.slv (qf (ii (0)) rfl (qb (qF (jg (α := Nat × List Value × RowL × FH) (fun xQ => [(0, ptr ub 0), (1, v1), (2, v2), (6, u6), (7, v12), (100, ii (((((argsL ar u1 0)).length : Nat) : Int))), (101, ii (((xQ.1 : Nat) : Int)))]) (fun xQ => cellsH ub (arv :: xQ.2.1) 200 :: L) (fun xQ F' => xQ.2.2.2 = F' ∧ F8 ≤ xQ.2.2.2 ∧ (BindC xQ.2.2.2 xQ.2.1 xQ.2.2.1) ∧ (xQ.1 ≤ (argsL ar u1 0).length) ∧ (Solves ar bl xQ.2.2.1 (EqTo ar u1 u2 xQ.1))) (fun xQ => (argsL ar u1 0).length - xQ.1) (0, bs, bl, F8) ⟨rfl, rfl, rfl, rfl, rfl, rfl, rfl, ⟨⟩⟩ (sC sR) ⟨rfl, FLe.refl _, (hbc), (Nat.zero_le _), (EqTo.start hb)⟩ ?_)))))))))))
  rintro ⟨j, bj, lj, G2⟩ rE _ _ ⟨rfl, leG, hbj, hj, hso⟩
  show X _ _ _ _ (envs [(0, ptr ub 0), (1, v1), (2, v2), (6, u6), (7, v12), (100, ii (((((argsL ar u1 0)).length : Nat) : Int))), (101, ii ((j : Int)))] rE) _ (cellsH ub (arv :: bj) 200 :: L)
  replace leG : F8 ≤ G2 := leG
  dsimp only at hbj hj hso
  have hajx := fun h : j < (argsL ar u1 0).length => hrx.w.args_in (p := 0) (by omega) h
  have hajy := fun h : j < (argsL ar u2 0).length => hry.w.args_in (p := 0) (by omega) h
  have hlax := args_same (ar := ar) hhd
  have hla3 := hrx.w.args_le (p := 0) (by omega)
  have hex0 := hrx.w.end0
  have hey0 := hry.w.end0
  have leG2 := leG
  replace har := har.mono leG2
  replace hbc := hbc.mono leG2
  replace hv1 := hv1.mono leG2
  replace hv2 := hv2.mono leG2
  replace f5_13ha := f5_13ha.mono leG2
  replace hf4 := hf4.mono leG2
  refine qc (qa (cX (qG rfl rfl (qb (qc ?_)))))
  refine qx (p := (j : Int) < ((((argsL ar u1 0)).length : Nat) : Int)) rfl (fun h10 => ?_) (fun h10 => ?_)
  ·have hjx : j < (argsL ar u1 0).length := by omega
   have hjy : j < (argsL ar u2 0).length := by omega
   obtain ⟨σ1, k1, N1, hσ1, hk1, hN1, hless⟩ := EqTo.less hso hb hσ hrx (by rw [parts_args]; exact hjx) hk hN
   have hpx := parts_W hrx.w hjx
   have hpy := parts_W hry.w hjy
   have hb2 := hso.ok
   rw [parts_get hjx] at hpx hN1
   rw [parts_get hjy] at hpy
   refine qw (qc (qF (qc (qa (qf (ii ((j : Int))) rfl (qh (ii ((j : Int))) rfl (qb ?_)))))))
   refine X.drawG [cellsH ub (arv :: bj) 200] L 21 [] [[], [], [1], [2], [3], [], [], [], [6, 7], [8], [4, 5, 9], [], [11], [12], [13], [], [], [], [16, 17], [18], [14, 15, 19]] [] (phiG [pe (ptr ub 0), pe (ptr ub 0), pe (ptr ub 0), pe (ptr ub 0), pe (.agg #[arv]), pe v1, pe u6, pe (ii ((j : Int)) : Value), pe (.pointer (some (elemA u6 (j)))), pe (ii (((argsL ar u1 0)).getD j 0)), fun FF us v => ((v) : Value) = v ∧ (IntsF FF (v) (sub ar u1 ((((argsL ar u1 0)).getD j 0).toNat))) ∧ (isNil (v) = false), pe (ptr ub 0), pe (ptr ub 0), pe (ptr ub 0), pe (.agg #[arv]), pe v2, pe v12, pe (ii ((j : Int)) : Value), pe (.pointer (some (elemA v12 (j)))), pe (ii (((argsL ar u2 0)).getD j 0)), fun FF us v => ((v) : Value) = v ∧ (IntsF FF (v) (sub ar u2 ((((argsL ar u2 0)).getD j 0).toNat))) ∧ (isNil (v) = false)]) (ownL []) mixed rfl rfl (by kernel_rfl) (by kernel_rfl) (MonoG.get (m1 (m1 (m1 (m1 (m1 (m1 (m1 (m1 (m1 (m1 (mC (fun le h => ⟨h.1, h.2.1.mono le, h.2.2⟩) (m1 (m1 (m1 (m1 (m1 (m1 (m1 (m1 (m1 (mC (fun le h => ⟨h.1, h.2.1.mono le, h.2.2⟩) MonoG.nil)))))))))))))))))))))) ?_ ?_
   ·refine gD (fun W Fs R lF z9 => ?_) ?_
    ·refine qg (qi (ptr ub 0) rfl ?_)
     exact ⟨rfl, rfl⟩
    refine gD (fun W Fs R lF z9 => ?_) ?_
    ·refine qg (qi (ptr ub 0) rfl ?_)
     exact ⟨rfl, rfl⟩
    refine gD (fun W Fs R lF z9 => ?_) ?_
    ·replace har := har.mono lF
     replace hbc := hbc.mono lF
     replace hv1 := hv1.mono lF
     replace hv2 := hv2.mono lF
     replace f5_13ha := f5_13ha.mono lF
     replace hf4 := hf4.mono lF
     replace hbj := hbj.mono lF
     rw [eS (l := [(1, _)]) ⟨z9 1 rfl, ⟨⟩⟩]
     refine qg (qN rfl ?_)
     exact ⟨rfl, rfl⟩
    refine gD (fun W Fs R lF z9 => ?_) ?_
    ·rw [eS (l := [(2, _)]) ⟨z9 2 rfl, ⟨⟩⟩]
     refine qg (qo (0) qV rfl qJ (by decide) rfl rfl ?_)
     exact ⟨rfl, rfl⟩
    refine gD (fun W Fs R lF z9 => ?_) ?_
    ·replace har := har.mono lF
     replace hbc := hbc.mono lF
     replace hv1 := hv1.mono lF
     replace hv2 := hv2.mono lF
     replace f5_13ha := f5_13ha.mono lF
     replace hf4 := hf4.mono lF
     replace hbj := hbj.mono lF
     rw [eS (l := [(3, _)]) ⟨z9 3 rfl, ⟨⟩⟩]
     refine qg (qB [arv] jd qJ rfl rfl (Rd.ownN [] rfl rfl) ?_)
     exact ⟨rfl, rfl⟩
    refine gD (fun W Fs R lF z9 => ?_) ?_
    ·refine qg (qi (v1) rfl ?_)
     exact ⟨rfl, rfl⟩
    refine gD (fun W Fs R lF z9 => ?_) ?_
    ·refine qg (qi (u6) rfl ?_)
     exact ⟨rfl, rfl⟩
    refine gD (fun W Fs R lF z9 => ?_) ?_
    ·refine qg (qi (ii ((j : Int))) rfl ?_)
     exact ⟨rfl, rfl⟩
    refine gD (fun W Fs R lF z9 => ?_) ?_
    ·replace har := har.mono lF
     replace hbc := hbc.mono lF
     replace hv1 := hv1.mono lF
     replace hv2 := hv2.mono lF
     replace f5_13ha := f5_13ha.mono lF
     replace hf4 := hf4.mono lF
     replace hbj := hbj.mono lF
     rw [eS (l := [(6, _), (7, _)]) ⟨z9 6 rfl, z9 7 rfl, ⟨⟩⟩]
     refine qg (qk j jn jF rfl rfl rfl f5_13ha.slv (by omega) (Nat.mul_one _) ?_)
     exact ⟨rfl, rfl⟩
    refine gD (fun W Fs R lF z9 => ?_) ?_
    ·replace har := har.mono lF
     replace hbc := hbc.mono lF
     replace hv1 := hv1.mono lF
     replace hv2 := hv2.mono lF
     replace f5_13ha := f5_13ha.mono lF
     replace hf4 := hf4.mono lF
     replace hbj := hbj.mono lF
     rw [eS (l := [(8, _)]) ⟨z9 8 rfl, ⟨⟩⟩]
     refine qg (qj isAgg3 rfl (f5_13ha.rd (by omega)) ?_)
     exact ⟨rfl, rfl⟩
    refine gD (fun W Fs R lF z9 => ?_) ?_
    ·replace har := har.mono lF
     replace hbc := hbc.mono lF
     replace hv1 := hv1.mono lF
     replace hv2 := hv2.mono lF
     replace hf4 := hf4.mono lF
     replace hbj := hbj.mono lF
     rw [eS (l := [(4, _), (5, _), (9, _)]) ⟨z9 4 rfl, z9 5 rfl, z9 9 rfl, ⟨⟩⟩]
     refine qg (qs (args := [.agg #[arv], v1, ii (((((argsL ar u1 0)).getD j 0).toNat : Nat) : Int)]) call224 (by rw [show (((((argsL ar u1 0)).getD j 0).toNat : Nat) : Int) = ((argsL ar u1 0)).getD j 0 from by omega]; rfl) (subAtW_spec (p := (((argsL ar u1 0)).getD j 0).toNat) har hv1 (ho := (by first | assumption | rfl | omega | simp)) (hp := (by first | assumption | rfl | omega | simp)) (hnn := (by first | assumption | rfl | omega | simp))) ?_)
     rintro v15 _ _ _ ⟨rfl, rfl, hv9, hn9⟩
     exact ⟨⟨rfl, hv9, hn9⟩, rfl⟩
    refine gD (fun W Fs R lF z9 => ?_) ?_
    ·refine qg (qi (ptr ub 0) rfl ?_)
     exact ⟨rfl, rfl⟩
    refine gD (fun W Fs R lF z9 => ?_) ?_
    ·replace har := har.mono lF
     replace hbc := hbc.mono lF
     replace hv1 := hv1.mono lF
     replace hv2 := hv2.mono lF
     replace hf4 := hf4.mono lF
     replace hbj := hbj.mono lF
     rw [eS (l := [(11, _)]) ⟨z9 11 rfl, ⟨⟩⟩]
     refine qg (qN rfl ?_)
     exact ⟨rfl, rfl⟩
    refine gD (fun W Fs R lF z9 => ?_) ?_
    ·rw [eS (l := [(12, _)]) ⟨z9 12 rfl, ⟨⟩⟩]
     refine qg (qo (0) qV rfl qJ (by decide) rfl rfl ?_)
     exact ⟨rfl, rfl⟩
    refine gD (fun W Fs R lF z9 => ?_) ?_
    ·replace har := har.mono lF
     replace hbc := hbc.mono lF
     replace hv1 := hv1.mono lF
     replace hv2 := hv2.mono lF
     replace hf4 := hf4.mono lF
     replace hbj := hbj.mono lF
     rw [eS (l := [(13, _)]) ⟨z9 13 rfl, ⟨⟩⟩]
     refine qg (qB [arv] jd qJ rfl rfl (Rd.ownN [] rfl rfl) ?_)
     exact ⟨rfl, rfl⟩
    refine gD (fun W Fs R lF z9 => ?_) ?_
    ·refine qg (qi (v2) rfl ?_)
     exact ⟨rfl, rfl⟩
    refine gD (fun W Fs R lF z9 => ?_) ?_
    ·refine qg (qi (v12) rfl ?_)
     exact ⟨rfl, rfl⟩
    refine gD (fun W Fs R lF z9 => ?_) ?_
    ·refine qg (qi (ii ((j : Int))) rfl ?_)
     exact ⟨rfl, rfl⟩
    refine gD (fun W Fs R lF z9 => ?_) ?_
    ·replace har := har.mono lF
     replace hbc := hbc.mono lF
     replace hv1 := hv1.mono lF
     replace hv2 := hv2.mono lF
     replace hf4 := hf4.mono lF
     replace hbj := hbj.mono lF
     rw [eS (l := [(16, _), (17, _)]) ⟨z9 16 rfl, z9 17 rfl, ⟨⟩⟩]
     refine qg (qk j jn jF rfl rfl rfl hf4.slv (by omega) (Nat.mul_one _) ?_)
     exact ⟨rfl, rfl⟩
    refine gD (fun W Fs R lF z9 => ?_) ?_
    ·replace har := har.mono lF
     replace hbc := hbc.mono lF
     replace hv1 := hv1.mono lF
     replace hv2 := hv2.mono lF
     replace hf4 := hf4.mono lF
     replace hbj := hbj.mono lF
     rw [eS (l := [(18, _)]) ⟨z9 18 rfl, ⟨⟩⟩]
     refine qg (qj isAgg3 rfl (hf4.rd (by omega)) ?_)
     exact ⟨rfl, rfl⟩
    refine gD (fun W Fs R lF z9 => ?_) ?_
    ·replace har := har.mono lF
     replace hbc := hbc.mono lF
     replace hv1 := hv1.mono lF
     replace hv2 := hv2.mono lF
     replace hbj := hbj.mono lF
     rw [eS (l := [(14, _), (15, _), (19, _)]) ⟨z9 14 rfl, z9 15 rfl, z9 19 rfl, ⟨⟩⟩]
     refine qg (qs (args := [.agg #[arv], v2, ii (((((argsL ar u2 0)).getD j 0).toNat : Nat) : Int)]) call224 (by rw [show (((((argsL ar u2 0)).getD j 0).toNat : Nat) : Int) = ((argsL ar u2 0)).getD j 0 from by omega]; rfl) (subAtW_spec (p := (((argsL ar u2 0)).getD j 0).toNat) har hv2 (ho := (by first | assumption | rfl | omega | simp)) (hp := (by first | assumption | rfl | omega | simp)) (hnn := (by first | assumption | rfl | omega | simp))) ?_)
     rintro v16 _ _ _ ⟨rfl, rfl, hv10, hn10⟩
     exact ⟨⟨rfl, hv10, hn10⟩, rfl⟩
    exact stepsG.nil
   intro W F9 le9 hphi
   obtain ⟨e10, f10_14ha, f10_14hn⟩ := hphi 10 (by decide)
   obtain ⟨e20, f20_14ha, f20_14hn⟩ := hphi 20 (by decide)
   generalize hu5 : ((W 10)) = u7 at e10 f10_14ha f10_14hn e20 f20_14ha f20_14hn
   generalize hu6 : ((W 20)) = u8 at e10 f10_14ha f10_14hn e20 f20_14ha f20_14hn
   rw [eS (l := [(0, _), (10, u7), (20, u8)]) ⟨(hphi 0 (by decide)), hu5, hu6, ⟨⟩⟩]
   replace har := har.mono le9
   replace hbc := hbc.mono le9
   replace hv1 := hv1.mono le9
   replace hv2 := hv2.mono le9
   replace hbj := hbj.mono le9
   show XL _ _ _ _ _ _ _ (cellsH ub (arv :: bj) 200 :: L)
   refine XL.callP [ptr ub 0, u7, u8] call237 rfl (ih k1 N1 hless har hbj hb2 f10_14ha f20_14ha hσ1 hpx hpy (by assumption) (by assumption) hk1 hN1) ?_ ?_
   ·rintro _ _ _ _ ⟨b9, l9, rfl, hb9, hne9, rfl⟩
    rw [← parts_get hjx, ← parts_get hjy] at hne9
    exact .inr ⟨_, rfl, b9, l9, rfl, hb9, (EqTo.stop hso hrx hry (by rw [parts_args]; exact hjx) (by omega) hhd hne9), rfl⟩
   rintro _ F10 _ le10 ⟨b3, l2, rfl, hb2, hso2, rfl⟩
   replace har := har.mono le10
   replace hbc := hbc.mono le10
   replace hv1 := hv1.mono le10
   replace hv2 := hv2.mono le10
   replace hbj := hbj.mono le10
   rw [← parts_get hjx, ← parts_get hjy] at hso2
   have hso2 := EqTo.next hso hso2
   refine qb (qa (cX (qM (((j + 1 : Nat) : Int)) rfl rfl (by omega) (by omega) (qf (ii (((j + 1 : Nat) : Int))) rfl (qb ?_)))))
   exact ⟨(j + 1, b3, l2, F10), _, (qn (qn leG2 le9) le10), rF, ⟨rfl, rfl, rfl, rfl, rfl, rfl, rfl, ⟨⟩⟩, (sC sR), ⟨rfl, (qn (qn leG2 le9) le10), (hb2), (by (try dsimp only) <;> omega), (hso2)⟩, (by omega)⟩
  refine jc (qt (qt (qL (id (retEndNP (L' := cellsH ub (arv :: bj) 200 :: L) [] (.tuple #[]) (by exact .nil) rfl (qn (qn le7 le8) leG2) rF (sC sR) ?_)))))
  exact ⟨_, _, rfl, hbj, (EqTo.done hso hrx hry (by rw [parts_args]; omega) (by omega) hhd), rfl⟩
 refine qp (t := 22) rfl (vF h1) (qp (t := 22) rfl (vF h1) (qp (t := 22) rfl (vF h1) (qp (t := 22) rfl (vF h1) (cX (qT (.bool (false)) (vF h1) rfl (qb (jy rfl (qw (qc (qc ?_))))))))))
 by_cases h11 : (u2.getD 0 0 : Int) < 0
 ·by_cases h12 : (u1.getD 0 0 : Int) ≥ 0
  ·refine jh [cellsH ub (arv :: bs) 200] L 16 [] [[], [0], [1], [2], [3], [4], [4, 5], [4, 6], [4, 7], [4, 8], [9], [9, 10], [9, 11], [9], [9, 13], [9, 14]] (phiL [qe v2, qe (.pointer (some (elemA v2 (0)))), qe (ii (u2.getD 0 0)), qe (.bool (decide ((u2.getD 0 0 : Int) < 0)) : Value), qe (.bool (decide ((u2.getD 0 0 : Int) < 0)) : Value), qe v1, qe (.pointer (some (elemA v1 (0)))), qe (ii (u1.getD 0 0)), qe (.bool (decide ((u1.getD 0 0 : Int) ≥ 0)) : Value), qe (.bool (decide ((u1.getD 0 0 : Int) ≥ 0)) : Value), qe undef, qe undef, qe undef, qe undef, qe undef, qe undef]) (ownL []) mixed rfl rfl (by kernel_rfl) ?_ ?_
   ·refine pD (fun W R z9 => ?_) ?_
    ·refine qg (qi (v2) rfl ?_)
     exact ⟨rfl, rfl, rfl⟩
    refine pD (fun W R z9 => ?_) ?_
    ·rw [eS (l := [(0, _)]) ⟨z9 0 rfl, ⟨⟩⟩]
     refine qg (qk 0 qd qm rfl rfl rfl hv2.slv (by omega) (Nat.mul_one _) ?_)
     exact ⟨rfl, rfl, rfl⟩
    refine pD (fun W R z9 => ?_) ?_
    ·rw [eS (l := [(1, _)]) ⟨z9 1 rfl, ⟨⟩⟩]
     refine qg (qj qC rfl (hv2.rd (by omega)) ?_)
     exact ⟨rfl, rfl, rfl⟩
    refine pD (fun W R z9 => ?_) ?_
    ·rw [eS (l := [(2, _)]) ⟨z9 2 rfl, ⟨⟩⟩]
     refine qg (qG rfl rfl ?_)
     exact ⟨rfl, rfl, rfl⟩
    refine pD (fun W R z9 => ?_) ?_
    ·rw [eS (l := [(3, _)]) ⟨z9 3 rfl, ⟨⟩⟩]
     refine qg (qi (.bool (decide ((u2.getD 0 0 : Int) < 0))) rfl ?_)
     exact ⟨rfl, rfl, rfl⟩
    refine pD (fun W R z9 => ?_) ?_
    ·rw [eS (l := [(4, _)]) ⟨z9 4 rfl, ⟨⟩⟩]
     refine qO (t := 32) rfl (vT h11) (qi (v1) rfl ?_)
     exact ⟨rfl, rfl, rfl⟩
    refine pD (fun W R z9 => ?_) ?_
    ·rw [eS (l := [(4, _), (5, _)]) ⟨z9 4 rfl, z9 5 rfl, ⟨⟩⟩]
     refine qO (t := 32) rfl (vT h11) (qk 0 qd qm rfl rfl rfl hv1.slv (by omega) (Nat.mul_one _) ?_)
     exact ⟨rfl, rfl, rfl⟩
    refine pD (fun W R z9 => ?_) ?_
    ·rw [eS (l := [(4, _), (6, _)]) ⟨z9 4 rfl, z9 6 rfl, ⟨⟩⟩]
     refine qO (t := 32) rfl (vT h11) (qj qC rfl (hv1.rd (by omega)) ?_)
     exact ⟨rfl, rfl, rfl⟩
    refine pD (fun W R z9 => ?_) ?_
    ·rw [eS (l := [(4, _), (7, _)]) ⟨z9 4 rfl, z9 7 rfl, ⟨⟩⟩]
     refine qO (t := 32) rfl (vT h11) (jI rfl rfl ?_)
     exact ⟨rfl, rfl, rfl⟩
    refine pD (fun W R z9 => ?_) ?_
    ·rw [eS (l := [(4, _), (8, _)]) ⟨z9 4 rfl, z9 8 rfl, ⟨⟩⟩]
     refine qO (t := 32) rfl (vT h11) (qi (.bool (decide ((u1.getD 0 0 : Int) ≥ 0))) rfl ?_)
     exact ⟨rfl, rfl, rfl⟩
    refine pD (fun W R z9 => ?_) ?_
    ·rw [eS (l := [(9, _)]) ⟨z9 9 rfl, ⟨⟩⟩]
     exact qX (t := 37) rfl (vT h12) ⟨rfl, rfl, rfl⟩
    refine pD (fun W R z9 => ?_) ?_
    ·rw [eS (l := [(9, _), (10, undef)]) ⟨z9 9 rfl, z9 10 rfl, ⟨⟩⟩]
     exact qX (t := 37) rfl (vT h12) ⟨rfl, rfl, rfl⟩
    refine pD (fun W R z9 => ?_) ?_
    ·rw [eS (l := [(9, _), (11, undef)]) ⟨z9 9 rfl, z9 11 rfl, ⟨⟩⟩]
     exact qX (t := 37) rfl (vT h12) ⟨rfl, rfl, rfl⟩
    refine pD (fun W R z9 => ?_) ?_
    ·rw [eS (l := [(9, _)]) ⟨z9 9 rfl, ⟨⟩⟩]
     exact qX (t := 37) rfl (vT h12) ⟨rfl, rfl, rfl⟩
    refine pD (fun W R z9 => ?_) ?_
    ·rw [eS (l := [(9, _), (13, undef)]) ⟨z9 9 rfl, z9 13 rfl, ⟨⟩⟩]
     exact qX (t := 37) rfl (vT h12) ⟨rfl, rfl, rfl⟩
    refine pD (fun W R z9 => ?_) ?_
    ·rw [eS (l := [(9, _), (14, undef)]) ⟨z9 9 rfl, z9 14 rfl, ⟨⟩⟩]
     exact qX (t := 37) rfl (vT h12) ⟨rfl, rfl, rfl⟩
    exact stepsP.nil
   intro W hphi
   rw [eS (l := [(4, _), (9, _), (12, undef), (15, undef)]) ⟨(hphi 4 (by decide)), (hphi 9 (by decide)), (hphi 12 (by decide)), (hphi 15 (by decide)), ⟨⟩⟩]
   show XL _ _ _ _ _ _ _ (cellsH ub (arv :: bs) 200 :: L)
   refine qp (t := 37) rfl (vT h12) (qr (t := 32) rfl (vT h11) (qS (.bool (true)) (vT h12) rfl (cX (qS (.bool (true)) (vT h11) rfl (qb (jw rfl (qa (qf (v2) rfl (qf (v1) rfl (qh (v2) rfl (qh (v1) rfl ?_)))))))))))
   refine qb (qc (qc (qa ?_)))
   have hrx := hru2
   have hry := hru1
   have hnx := hn2
   have hny := hn1
   have hwx := hrx.w
   have hwy := hry.w
   have hxl := hrx.w.len
   have hyl := hry.w.len
   have hxg := hrx.w.geD (p := 0) (by omega)
   have hyg := hry.w.geD (p := 0) (by omega)
   have hbl := hb.len
   skip
   refine qf (v2) rfl (cX (qk 0 qd qm rfl rfl rfl hv2.slv (by omega) (Nat.mul_one _) (cX (qj qC rfl (hv2.rd (by omega)) (cX (qG rfl rfl (qb (jw (vT h11) (qc (qc (qa (qf (v1) rfl (cX (qk 0 qd qm rfl rfl rfl hv1.slv (by omega) (Nat.mul_one _) (cX (qj qC rfl (hv1.rd (by omega)) ?_))))))))))))))))
   refine cX (jI rfl rfl (qf (.bool (decide ((u1.getD 0 0 : Int) ≥ 0))) rfl (qr (t := 57) rfl (vT h12) (qi (ptr ub 0) rfl (qr (t := 57) rfl (vT h12) (qi (v2) rfl (qr (t := 57) rfl (vT h12) (qk 0 qd qm rfl rfl rfl hv2.slv (by omega) (Nat.mul_one _) (qr (t := 57) rfl (vT h12) (qj qC rfl (hv2.rd (by omega)) (qr (t := 57) rfl (vT h12) (qi (v1) rfl (qr (t := 57) rfl (vT h12) (XOp.build0 (bools (List.replicate 48 false)) runUnderlying241 ⟨_, sizeOf4⟩ zeroValue241 rfl (qr (t := 57) rfl (vT h12) (ja (bools (List.replicate 48 false)) rfl rfl ?_))))))))))))))))
   intro b4
   have hl2 : (List.replicate 48 false).length = 48 := rfl
   have hx0 : u2.getD 0 0 < 0 := by omega
   obtain ⟨ρ9, hρ9⟩ := hb.acyc
   obtain ⟨k9, hk9⟩ := maxRank u1 ρ9
   refine qZ (qA (A := [_])) ?_
   show XL _ _ _ _ _ _ _ (cellsH ub (arv :: bs) 200 :: cellsH b4 (bools ((List.replicate 48 false))) 241 :: L)
   refine qr (t := 57) rfl (vT h12) (qs (args := [ptr ub 0, ii (u2.getD 0 0), v1, ptr b4 0]) call249 rfl (occurs_spec k9 har hbc (by assumption) hv1 hσ hρ9 hx0 (hrx.top.resolve_left (by omega)) (fun m hm _ => hk9 m hm) (fun i hi => hry.w.geD hi) hyl.2 hl2 ClearM.nils) ?_)
   rintro _ _ _ _ ⟨s2, rfl, hs8, hm2, rfl, rfl⟩
   refine cX (qS (.bool (decide (u2.getD 0 0 ∈ ap σ u1))) (vT h12) rfl (qb ?_))
   refine qx (p := u2.getD 0 0 ∈ ap σ u1) rfl (fun h13 => ?_) (fun h13 => ?_)
   ·have hoy := h13
    refine qa ?_
    skip
    refine cX (jq [] [] [] [] jm zeroValue230 rfl PlacesAre.nil rfl CellsAre.nil (cX (XOp.iface jm rfl (qZ ((sC (sD sR))) (XL.panicI rfl ?_)))))
    exact .inr ⟨_, rfl, _, _, rfl, hbc, (no_swap (occ_eq hb hσ hrx hry (by omega) (by omega) hoy)), rfl⟩
   have hoy := h13
   refine qw (qc ?_)
   refine jh [cellsH ub (arv :: bs) 200, cellsH b4 (bools s2) 241] L 8 [] [[], [], [1], [2], [3], [], [0], [6]] (phiL [qe (ptr ub 0), qe v2, qe (.pointer (some (elemA v2 (0)))), qe (ii (u2.getD 0 0)), qe (ii ((-1) - (u2.getD 0 0))), qe v1, qe (ptr ub 0), qe (ptr ub 1)]) (ownL []) mixed rfl rfl (by kernel_rfl) ?_ ?_
   ·refine pD (fun W R z9 => ?_) ?_
    ·refine qg (qi (ptr ub 0) rfl ?_)
     exact ⟨rfl, rfl, rfl⟩
    refine pD (fun W R z9 => ?_) ?_
    ·refine qg (qi (v2) rfl ?_)
     exact ⟨rfl, rfl, rfl⟩
    refine pD (fun W R z9 => ?_) ?_
    ·rw [eS (l := [(1, _)]) ⟨z9 1 rfl, ⟨⟩⟩]
     refine qg (qk 0 qd qm rfl rfl rfl hv2.slv (by omega) (Nat.mul_one _) ?_)
     exact ⟨rfl, rfl, rfl⟩
    refine pD (fun W R z9 => ?_) ?_
    ·rw [eS (l := [(2, _)]) ⟨z9 2 rfl, ⟨⟩⟩]
     refine qg (qj qC rfl (hv2.rd (by omega)) ?_)
     exact ⟨rfl, rfl, rfl⟩
    refine pD (fun W R z9 => ?_) ?_
    ·rw [eS (l := [(3, _)]) ⟨z9 3 rfl, ⟨⟩⟩]
     refine qg (jb ((-1) - (u2.getD 0 0)) rfl rfl (by omega) (by omega) ?_)
     exact ⟨rfl, rfl, rfl⟩
    refine pD (fun W R z9 => ?_) ?_
    ·refine qg (qi (v1) rfl ?_)
     exact ⟨rfl, rfl, rfl⟩
    refine pD (fun W R z9 => ?_) ?_
    ·rw [eS (l := [(0, _)]) ⟨z9 0 rfl, ⟨⟩⟩]
     refine qg (qN rfl ?_)
     exact ⟨rfl, rfl, rfl⟩
    refine pD (fun W R z9 => ?_) ?_
    ·rw [eS (l := [(6, _)]) ⟨z9 6 rfl, ⟨⟩⟩]
     refine qg (qo (1) qV rfl sizeOf198 (by decide) rfl rfl ?_)
     exact ⟨rfl, rfl, rfl⟩
    exact stepsP.nil
   intro W hphi
   rw [eS (l := [(4, _), (5, _), (7, _)]) ⟨(hphi 4 (by decide)), (hphi 5 (by decide)), (hphi 7 (by decide)), ⟨⟩⟩]
   show XL _ _ _ _ _ _ _ (cellsH ub (arv :: bs) 200 :: cellsH b4 (bools s2) 241 :: L)
   refine cX (jL (i := (-1) - (u2.getD 0 0)) (((-1) - (u2.getD 0 0)).toNat) (1 + (((-1) - (u2.getD 0 0)).toNat)) jA qq rfl rfl (by omega) (by omega) (by omega) (cX (js [] _ (arv :: (bs.set (((-1) - (u2.getD 0 0)).toNat) v1)) qq rfl rfl (je (qE hv1)) rfl (blt_1 (by have := CO.len hbc; (try simp only [List.length_set, List.length_replicate] at this ⊢) <;> omega)) set_1 ?_)))
   have hc3 := hbc.set (((-1) - (u2.getD 0 0)).toNat) hv1 (by rw [hny]; exact (decide_eq_false hry.w.ne).symm)
   refine qb (qz (ql (retEndP (L' := cellsH ub (arv :: ((bs.set (((-1) - (u2.getD 0 0)).toNat) v1))) 200 :: L) [] (.tuple #[]) (by exact .nil) rfl rF rF (sC (sD sR)) ?_)))
   exact ⟨_, _, rfl, hc3, (Solves.swap (bind_eq hb hσ hrx hry (by omega) (by first | exact hoy | exact bind_var hσ hry (by omega) (by omega)))), rfl⟩
  refine jh [cellsH ub (arv :: bs) 200] L 16 [] [[], [0], [1], [2], [3], [4], [4, 5], [4, 6], [4, 7], [4, 8], [9], [9, 10], [9, 11], [9], [9, 13], [9, 14]] (phiL [qe v2, qe (.pointer (some (elemA v2 (0)))), qe (ii (u2.getD 0 0)), qe (.bool (decide ((u2.getD 0 0 : Int) < 0)) : Value), qe (.bool (decide ((u2.getD 0 0 : Int) < 0)) : Value), qe v1, qe (.pointer (some (elemA v1 (0)))), qe (ii (u1.getD 0 0)), qe (.bool (decide ((u1.getD 0 0 : Int) ≥ 0)) : Value), qe (.bool (decide ((u1.getD 0 0 : Int) ≥ 0)) : Value), qe v2, qe (.pointer (some (elemA v2 (0)))), qe (ii (u2.getD 0 0)), qe v1, qe (.pointer (some (elemA v1 (0)))), qe (ii (u1.getD 0 0))]) (ownL []) mixed rfl rfl (by kernel_rfl) ?_ ?_
  ·refine pD (fun W R z9 => ?_) ?_
   ·refine qg (qi (v2) rfl ?_)
    exact ⟨rfl, rfl, rfl⟩
   refine pD (fun W R z9 => ?_) ?_
   ·rw [eS (l := [(0, _)]) ⟨z9 0 rfl, ⟨⟩⟩]
    refine qg (qk 0 qd qm rfl rfl rfl hv2.slv (by omega) (Nat.mul_one _) ?_)
    exact ⟨rfl, rfl, rfl⟩
   refine pD (fun W R z9 => ?_) ?_
   ·rw [eS (l := [(1, _)]) ⟨z9 1 rfl, ⟨⟩⟩]
    refine qg (qj qC rfl (hv2.rd (by omega)) ?_)
    exact ⟨rfl, rfl, rfl⟩
   refine pD (fun W R z9 => ?_) ?_
   ·rw [eS (l := [(2, _)]) ⟨z9 2 rfl, ⟨⟩⟩]
    refine qg (qG rfl rfl ?_)
    exact ⟨rfl, rfl, rfl⟩
   refine pD (fun W R z9 => ?_) ?_
   ·rw [eS (l := [(3, _)]) ⟨z9 3 rfl, ⟨⟩⟩]
    refine qg (qi (.bool (decide ((u2.getD 0 0 : Int) < 0))) rfl ?_)
    exact ⟨rfl, rfl, rfl⟩
   refine pD (fun W R z9 => ?_) ?_
   ·rw [eS (l := [(4, _)]) ⟨z9 4 rfl, ⟨⟩⟩]
    refine qO (t := 32) rfl (vT h11) (qi (v1) rfl ?_)
    exact ⟨rfl, rfl, rfl⟩
   refine pD (fun W R z9 => ?_) ?_
   ·rw [eS (l := [(4, _), (5, _)]) ⟨z9 4 rfl, z9 5 rfl, ⟨⟩⟩]
    refine qO (t := 32) rfl (vT h11) (qk 0 qd qm rfl rfl rfl hv1.slv (by omega) (Nat.mul_one _) ?_)
    exact ⟨rfl, rfl, rfl⟩
   refine pD (fun W R z9 => ?_) ?_
   ·rw [eS (l := [(4, _), (6, _)]) ⟨z9 4 rfl, z9 6 rfl, ⟨⟩⟩]
    refine qO (t := 32) rfl (vT h11) (qj qC rfl (hv1.rd (by omega)) ?_)
    exact ⟨rfl, rfl, rfl⟩
   refine pD (fun W R z9 => ?_) ?_
   ·rw [eS (l := [(4, _), (7, _)]) ⟨z9 4 rfl, z9 7 rfl, ⟨⟩⟩]
    refine qO (t := 32) rfl (vT h11) (jI rfl rfl ?_)
    exact ⟨rfl, rfl, rfl⟩
   refine pD (fun W R z9 => ?_) ?_
   ·rw [eS (l := [(4, _), (8, _)]) ⟨z9 4 rfl, z9 8 rfl, ⟨⟩⟩]
    refine qO (t := 32) rfl (vT h11) (qi (.bool (decide ((u1.getD 0 0 : Int) ≥ 0))) rfl ?_)
    exact ⟨rfl, rfl, rfl⟩
   refine pD (fun W R z9 => ?_) ?_
   ·rw [eS (l := [(9, _)]) ⟨z9 9 rfl, ⟨⟩⟩]
    refine qO (t := 37) rfl (vF h12) (qi (v2) rfl ?_)
    exact ⟨rfl, rfl, rfl⟩
   refine pD (fun W R z9 => ?_) ?_
   ·rw [eS (l := [(9, _), (10, _)]) ⟨z9 9 rfl, z9 10 rfl, ⟨⟩⟩]
    refine qO (t := 37) rfl (vF h12) (qk 0 qd qm rfl rfl rfl hv2.slv (by omega) (Nat.mul_one _) ?_)
    exact ⟨rfl, rfl, rfl⟩
   refine pD (fun W R z9 => ?_) ?_
   ·rw [eS (l := [(9, _), (11, _)]) ⟨z9 9 rfl, z9 11 rfl, ⟨⟩⟩]
    refine qO (t := 37) rfl (vF h12) (qj qC rfl (hv2.rd (by omega)) ?_)
    exact ⟨rfl, rfl, rfl⟩
   refine pD (fun W R z9 => ?_) ?_
   ·rw [eS (l := [(9, _)]) ⟨z9 9 rfl, ⟨⟩⟩]
    refine qO (t := 37) rfl (vF h12) (qi (v1) rfl ?_)
    exact ⟨rfl, rfl, rfl⟩
   refine pD (fun W R z9 => ?_) ?_
   ·rw [eS (l := [(9, _), (13, _)]) ⟨z9 9 rfl, z9 13 rfl, ⟨⟩⟩]
    refine qO (t := 37) rfl (vF h12) (qk 0 qd qm rfl rfl rfl hv1.slv (by omega) (Nat.mul_one _) ?_)
    exact ⟨rfl, rfl, rfl⟩
   refine pD (fun W R z9 => ?_) ?_
   ·rw [eS (l := [(9, _), (14, _)]) ⟨z9 9 rfl, z9 14 rfl, ⟨⟩⟩]
    refine qO (t := 37) rfl (vF h12) (qj qC rfl (hv1.rd (by omega)) ?_)
    exact ⟨rfl, rfl, rfl⟩
   exact stepsP.nil
  intro W hphi
  rw [eS (l := [(4, _), (9, _), (12, _), (15, _)]) ⟨(hphi 4 (by decide)), (hphi 9 (by decide)), (hphi 12 (by decide)), (hphi 15 (by decide)), ⟨⟩⟩]
  show XL _ _ _ _ _ _ _ (cellsH ub (arv :: bs) 200 :: L)
  refine qr (t := 37) rfl (vF h12) (qG rfl rfl (qr (t := 32) rfl (vT h11) (qT (.bool (decide ((u2.getD 0 0 : Int) < u1.getD 0 0))) (vF h12) rfl (cX (qS (.bool (decide ((u2.getD 0 0 : Int) < u1.getD 0 0))) (vT h11) rfl (qb ?_))))))
  refine qx (p := (u2.getD 0 0 : Int) < u1.getD 0 0) rfl (fun h14 => ?_) (fun h14 => ?_)
  ·refine qa (qf (v2) rfl (qf (v1) rfl (qh (v2) rfl (qh (v1) rfl (qb (qc (qc (qa ?_))))))))
   have hrx := hru2
   have hry := hru1
   have hnx := hn2
   have hny := hn1
   have hwx := hrx.w
   have hwy := hry.w
   have hxl := hrx.w.len
   have hyl := hry.w.len
   have hxg := hrx.w.geD (p := 0) (by omega)
   have hyg := hry.w.geD (p := 0) (by omega)
   have hbl := hb.len
   skip
   refine qf (v2) rfl (cX (qk 0 qd qm rfl rfl rfl hv2.slv (by omega) (Nat.mul_one _) (cX (qj qC rfl (hv2.rd (by omega)) (cX (qG rfl rfl (qb (jw (vT h11) (qc (qc (qa (qf (v1) rfl (cX (qk 0 qd qm rfl rfl rfl hv1.slv (by omega) (Nat.mul_one _) (cX (qj qC rfl (hv1.rd (by omega)) ?_))))))))))))))))
   refine cX (jI rfl rfl (qf (.bool (decide ((u1.getD 0 0 : Int) ≥ 0))) rfl (qp (t := 57) rfl (vF h12) (qp (t := 57) rfl (vF h12) (qp (t := 57) rfl (vF h12) (qp (t := 57) rfl (vF h12) (qp (t := 57) rfl (vF h12) (qp (t := 57) rfl (vF h12) (qp (t := 57) rfl (vF h12) (qp (t := 57) rfl (vF h12) ?_))))))))))
   refine cX (qT (.bool (false)) (vF h12) rfl (qb (jy rfl (qw (qc ?_)))))
   refine jh [cellsH ub (arv :: bs) 200] L 8 [] [[], [], [1], [2], [3], [], [0], [6]] (phiL [qe (ptr ub 0), qe v2, qe (.pointer (some (elemA v2 (0)))), qe (ii (u2.getD 0 0)), qe (ii ((-1) - (u2.getD 0 0))), qe v1, qe (ptr ub 0), qe (ptr ub 1)]) (ownL []) mixed rfl rfl (by kernel_rfl) ?_ ?_
   ·refine pD (fun W R z9 => ?_) ?_
    ·refine qg (qi (ptr ub 0) rfl ?_)
     exact ⟨rfl, rfl, rfl⟩
    refine pD (fun W R z9 => ?_) ?_
    ·refine qg (qi (v2) rfl ?_)
     exact ⟨rfl, rfl, rfl⟩
    refine pD (fun W R z9 => ?_) ?_
    ·rw [eS (l := [(1, _)]) ⟨z9 1 rfl, ⟨⟩⟩]
     refine qg (qk 0 qd qm rfl rfl rfl hv2.slv (by omega) (Nat.mul_one _) ?_)
     exact ⟨rfl, rfl, rfl⟩
    refine pD (fun W R z9 => ?_) ?_
    ·rw [eS (l := [(2, _)]) ⟨z9 2 rfl, ⟨⟩⟩]
     refine qg (qj qC rfl (hv2.rd (by omega)) ?_)
     exact ⟨rfl, rfl, rfl⟩
    refine pD (fun W R z9 => ?_) ?_
    ·rw [eS (l := [(3, _)]) ⟨z9 3 rfl, ⟨⟩⟩]
     refine qg (jb ((-1) - (u2.getD 0 0)) rfl rfl (by omega) (by omega) ?_)
     exact ⟨rfl, rfl, rfl⟩
    refine pD (fun W R z9 => ?_) ?_
    ·refine qg (qi (v1) rfl ?_)
     exact ⟨rfl, rfl, rfl⟩
    refine pD (fun W R z9 => ?_) ?_
    ·rw [eS (l := [(0, _)]) ⟨z9 0 rfl, ⟨⟩⟩]
     refine qg (qN rfl ?_)
     exact ⟨rfl, rfl, rfl⟩
    refine pD (fun W R z9 => ?_) ?_
    ·rw [eS (l := [(6, _)]) ⟨z9 6 rfl, ⟨⟩⟩]
     refine qg (qo (1) qV rfl sizeOf198 (by decide) rfl rfl ?_)
     exact ⟨rfl, rfl, rfl⟩
    exact stepsP.nil
   intro W hphi
   rw [eS (l := [(4, _), (5, _), (7, _)]) ⟨(hphi 4 (by decide)), (hphi 5 (by decide)), (hphi 7 (by decide)), ⟨⟩⟩]
   show XL _ _ _ _ _ _ _ (cellsH ub (arv :: bs) 200 :: L)
   refine cX (jL (i := (-1) - (u2.getD 0 0)) (((-1) - (u2.getD 0 0)).toNat) (1 + (((-1) - (u2.getD 0 0)).toNat)) jA qq rfl rfl (by omega) (by omega) (by omega) (cX (js [] _ (arv :: (bs.set (((-1) - (u2.getD 0 0)).toNat) v1)) qq rfl rfl (je (qE hv1)) rfl (blt_1 (by have := CO.len hbc; (try simp only [List.length_set, List.length_replicate] at this ⊢) <;> omega)) set_1 ?_)))
   have hc4 := hbc.set (((-1) - (u2.getD 0 0)).toNat) hv1 (by rw [hny]; exact (decide_eq_false hry.w.ne).symm)
   refine qb (qz (ql (retEndP (L' := cellsH ub (arv :: ((bs.set (((-1) - (u2.getD 0 0)).toNat) v1))) 200 :: L) [] (.tuple #[]) (by exact .nil) rfl rF rF (sC sR) ?_)))
   exact ⟨_, _, rfl, hc4, (Solves.swap (bind_eq hb hσ hrx hry (by omega) (by first | exact hoy | exact bind_var hσ hry (by omega) (by omega)))), rfl⟩
  refine qw (qc (qc (qa ?_)))
  have hrx := hru1
  have hry := hru2
  have hnx := hn1
  have hny := hn2
  have hwx := hrx.w
  have hwy := hry.w
  have hxl := hrx.w.len
  have hyl := hry.w.len
  have hxg := hrx.w.geD (p := 0) (by omega)
  have hyg := hry.w.geD (p := 0) (by omega)
  have hbl := hb.len
  skip
  refine qf (v1) rfl (cX (qk 0 qd qm rfl rfl rfl hv1.slv (by omega) (Nat.mul_one _) (cX (qj qC rfl (hv1.rd (by omega)) (cX (qG rfl rfl (qb ?_)))))))
  refine qx (p := (u1.getD 0 0 : Int) < 0) rfl (fun h15 => ?_) (fun h15 => ?_)
  ·refine qc (qc (qa (qf (v2) rfl (cX (qk 0 qd qm rfl rfl rfl hv2.slv (by omega) (Nat.mul_one _) (cX (qj qC rfl (hv2.rd (by omega)) (cX (jI rfl rfl (qf (.bool (decide ((u2.getD 0 0 : Int) ≥ 0))) rfl ?_))))))))))
   by_cases h16 : (u2.getD 0 0 : Int) ≥ 0
   ·refine qr (t := 57) rfl (vT h16) (qi (ptr ub 0) rfl (qr (t := 57) rfl (vT h16) (qi (v1) rfl (qr (t := 57) rfl (vT h16) (qk 0 qd qm rfl rfl rfl hv1.slv (by omega) (Nat.mul_one _) (qr (t := 57) rfl (vT h16) (qj qC rfl (hv1.rd (by omega)) (qr (t := 57) rfl (vT h16) (qi (v2) rfl (qr (t := 57) rfl (vT h16) (XOp.build0 (bools (List.replicate 48 false)) runUnderlying241 ⟨_, sizeOf4⟩ zeroValue241 rfl (qr (t := 57) rfl (vT h16) (ja (bools (List.replicate 48 false)) rfl rfl ?_)))))))))))))
    intro b5
    have hl3 : (List.replicate 48 false).length = 48 := rfl
    have hx0 : u1.getD 0 0 < 0 := by omega
    obtain ⟨ρ9, hρ9⟩ := hb.acyc
    obtain ⟨k9, hk9⟩ := maxRank u2 ρ9
    refine qZ (qA (A := [_])) ?_
    show XL _ _ _ _ _ _ _ (cellsH ub (arv :: bs) 200 :: cellsH b5 (bools ((List.replicate 48 false))) 241 :: L)
    refine qr (t := 57) rfl (vT h16) (qs (args := [ptr ub 0, ii (u1.getD 0 0), v2, ptr b5 0]) call249 rfl (occurs_spec k9 har hbc (by assumption) hv2 hσ hρ9 hx0 (hrx.top.resolve_left (by omega)) (fun m hm _ => hk9 m hm) (fun i hi => hry.w.geD hi) hyl.2 hl3 ClearM.nils) ?_)
    rintro _ _ _ _ ⟨s3, rfl, hs9, hm3, rfl, rfl⟩
    refine cX (qS (.bool (decide (u1.getD 0 0 ∈ ap σ u2))) (vT h16) rfl (qb ?_))
    refine qx (p := u1.getD 0 0 ∈ ap σ u2) rfl (fun h17 => ?_) (fun h17 => ?_)
    ·have hoy := h17
     refine qa ?_
     skip
     refine cX (jq [] [] [] [] jm zeroValue230 rfl PlacesAre.nil rfl CellsAre.nil (cX (XOp.iface jm rfl (qZ ((sC (sD sR))) (XL.panicI rfl ?_)))))
     exact .inr ⟨_, rfl, _, _, rfl, hbc, (occ_eq hb hσ hrx hry (by omega) (by omega) hoy), rfl⟩
    have hoy := h17
    refine qw (qc ?_)
    refine jh [cellsH ub (arv :: bs) 200, cellsH b5 (bools s3) 241] L 8 [] [[], [], [1], [2], [3], [], [0], [6]] (phiL [qe (ptr ub 0), qe v1, qe (.pointer (some (elemA v1 (0)))), qe (ii (u1.getD 0 0)), qe (ii ((-1) - (u1.getD 0 0))), qe v2, qe (ptr ub 0), qe (ptr ub 1)]) (ownL []) mixed rfl rfl (by kernel_rfl) ?_ ?_
    ·refine pD (fun W R z9 => ?_) ?_
     ·refine qg (qi (ptr ub 0) rfl ?_)
      exact ⟨rfl, rfl, rfl⟩
     refine pD (fun W R z9 => ?_) ?_
     ·refine qg (qi (v1) rfl ?_)
      exact ⟨rfl, rfl, rfl⟩
     refine pD (fun W R z9 => ?_) ?_
     ·rw [eS (l := [(1, _)]) ⟨z9 1 rfl, ⟨⟩⟩]
      refine qg (qk 0 qd qm rfl rfl rfl hv1.slv (by omega) (Nat.mul_one _) ?_)
      exact ⟨rfl, rfl, rfl⟩
     refine pD (fun W R z9 => ?_) ?_
     ·rw [eS (l := [(2, _)]) ⟨z9 2 rfl, ⟨⟩⟩]
      refine qg (qj qC rfl (hv1.rd (by omega)) ?_)
      exact ⟨rfl, rfl, rfl⟩
     refine pD (fun W R z9 => ?_) ?_
     ·rw [eS (l := [(3, _)]) ⟨z9 3 rfl, ⟨⟩⟩]
      refine qg (jb ((-1) - (u1.getD 0 0)) rfl rfl (by omega) (by omega) ?_)
      exact ⟨rfl, rfl, rfl⟩
     refine pD (fun W R z9 => ?_) ?_
     ·refine qg (qi (v2) rfl ?_)
      exact ⟨rfl, rfl, rfl⟩
     refine pD (fun W R z9 => ?_) ?_
     ·rw [eS (l := [(0, _)]) ⟨z9 0 rfl, ⟨⟩⟩]
      refine qg (qN rfl ?_)
      exact ⟨rfl, rfl, rfl⟩
     refine pD (fun W R z9 => ?_) ?_
     ·rw [eS (l := [(6, _)]) ⟨z9 6 rfl, ⟨⟩⟩]
      refine qg (qo (1) qV rfl sizeOf198 (by decide) rfl rfl ?_)
      exact ⟨rfl, rfl, rfl⟩
     exact stepsP.nil
    intro W hphi
    rw [eS (l := [(4, _), (5, _), (7, _)]) ⟨(hphi 4 (by decide)), (hphi 5 (by decide)), (hphi 7 (by decide)), ⟨⟩⟩]
    show XL _ _ _ _ _ _ _ (cellsH ub (arv :: bs) 200 :: cellsH b5 (bools s3) 241 :: L)
    refine cX (jL (i := (-1) - (u1.getD 0 0)) (((-1) - (u1.getD 0 0)).toNat) (1 + (((-1) - (u1.getD 0 0)).toNat)) jA qq rfl rfl (by omega) (by omega) (by omega) (cX (js [] _ (arv :: (bs.set (((-1) - (u1.getD 0 0)).toNat) v2)) qq rfl rfl (je (qE hv2)) rfl (blt_1 (by have := CO.len hbc; (try simp only [List.length_set, List.length_replicate] at this ⊢) <;> omega)) set_1 ?_)))
    have hc5 := hbc.set (((-1) - (u1.getD 0 0)).toNat) hv2 (by rw [hny]; exact (decide_eq_false hry.w.ne).symm)
    refine qb (qz (ql (retEndP (L' := cellsH ub (arv :: ((bs.set (((-1) - (u1.getD 0 0)).toNat) v2))) 200 :: L) [] (.tuple #[]) (by exact .nil) rfl rF rF (sC (sD sR)) ?_)))
    exact ⟨_, _, rfl, hc5, (bind_eq hb hσ hrx hry (by omega) (by first | exact hoy | exact bind_var hσ hry (by omega) (by omega))), rfl⟩
   refine qp (t := 57) rfl (vF h16) (qp (t := 57) rfl (vF h16) (qp (t := 57) rfl (vF h16) (qp (t := 57) rfl (vF h16) (qp (t := 57) rfl (vF h16) (qp (t := 57) rfl (vF h16) (qp (t := 57) rfl (vF h16) (qp (t := 57) rfl (vF h16) (cX (qT (.bool (false)) (vF h16) rfl (qb ?_))))))))))
   refine jy rfl (qw (qc ?_))
   refine jh [cellsH ub (arv :: bs) 200] L 8 [] [[], [], [1], [2], [3], [], [0], [6]] (phiL [qe (ptr ub 0), qe v1, qe (.pointer (some (elemA v1 (0)))), qe (ii (u1.getD 0 0)), qe (ii ((-1) - (u1.getD 0 0))), qe v2, qe (ptr ub 0), qe (ptr ub 1)]) (ownL []) mixed rfl rfl (by kernel_rfl) ?_ ?_
   ·refine pD (fun W R z9 => ?_) ?_
    ·refine qg (qi (ptr ub 0) rfl ?_)
     exact ⟨rfl, rfl, rfl⟩
    refine pD (fun W R z9 => ?_) ?_
    ·refine qg (qi (v1) rfl ?_)
     exact ⟨rfl, rfl, rfl⟩
    refine pD (fun W R z9 => ?_) ?_
    ·rw [eS (l := [(1, _)]) ⟨z9 1 rfl, ⟨⟩⟩]
     refine qg (qk 0 qd qm rfl rfl rfl hv1.slv (by omega) (Nat.mul_one _) ?_)
     exact ⟨rfl, rfl, rfl⟩
    refine pD (fun W R z9 => ?_) ?_
    ·rw [eS (l := [(2, _)]) ⟨z9 2 rfl, ⟨⟩⟩]
     refine qg (qj qC rfl (hv1.rd (by omega)) ?_)
     exact ⟨rfl, rfl, rfl⟩
    refine pD (fun W R z9 => ?_) ?_
    ·rw [eS (l := [(3, _)]) ⟨z9 3 rfl, ⟨⟩⟩]
     refine qg (jb ((-1) - (u1.getD 0 0)) rfl rfl (by omega) (by omega) ?_)
     exact ⟨rfl, rfl, rfl⟩
    refine pD (fun W R z9 => ?_) ?_
    ·refine qg (qi (v2) rfl ?_)
     exact ⟨rfl, rfl, rfl⟩
    refine pD (fun W R z9 => ?_) ?_
    ·rw [eS (l := [(0, _)]) ⟨z9 0 rfl, ⟨⟩⟩]
     refine qg (qN rfl ?_)
     exact ⟨rfl, rfl, rfl⟩
    refine pD (fun W R z9 => ?_) ?_
    ·rw [eS (l := [(6, _)]) ⟨z9 6 rfl, ⟨⟩⟩]
     refine qg (qo (1) qV rfl sizeOf198 (by decide) rfl rfl ?_)
     exact ⟨rfl, rfl, rfl⟩
    exact stepsP.nil
   intro W hphi
   rw [eS (l := [(4, _), (5, _), (7, _)]) ⟨(hphi 4 (by decide)), (hphi 5 (by decide)), (hphi 7 (by decide)), ⟨⟩⟩]
   show XL _ _ _ _ _ _ _ (cellsH ub (arv :: bs) 200 :: L)
   refine cX (jL (i := (-1) - (u1.getD 0 0)) (((-1) - (u1.getD 0 0)).toNat) (1 + (((-1) - (u1.getD 0 0)).toNat)) jA qq rfl rfl (by omega) (by omega) (by omega) (cX (js [] _ (arv :: (bs.set (((-1) - (u1.getD 0 0)).toNat) v2)) qq rfl rfl (je (qE hv2)) rfl (blt_1 (by have := CO.len hbc; (try simp only [List.length_set, List.length_replicate] at this ⊢) <;> omega)) set_1 ?_)))
   have hc6 := hbc.set (((-1) - (u1.getD 0 0)).toNat) hv2 (by rw [hny]; exact (decide_eq_false hry.w.ne).symm)
   refine qb (qz (ql (retEndP (L' := cellsH ub (arv :: ((bs.set (((-1) - (u1.getD 0 0)).toNat) v2))) 200 :: L) [] (.tuple #[]) (by exact .nil) rfl rF rF (sC sR) ?_)))
   exact ⟨_, _, rfl, hc6, (bind_eq hb hσ hrx hry (by omega) (by first | exact hoy | exact bind_var hσ hry (by omega) (by omega))), rfl⟩
  refine qw (qc (qc ?_))
  refine jh [cellsH ub (arv :: bs) 200] L 6 [] [[], [0], [1], [], [3], [4]] (phiL [qe v1, qe (.pointer (some (elemA v1 (0)))), qe (ii (u1.getD 0 0)), qe v2, qe (.pointer (some (elemA v2 (0)))), qe (ii (u2.getD 0 0))]) (ownL []) mixed rfl rfl (by kernel_rfl) ?_ ?_
  ·refine pD (fun W R z9 => ?_) ?_
   ·refine qg (qi (v1) rfl ?_)
    exact ⟨rfl, rfl, rfl⟩
   refine pD (fun W R z9 => ?_) ?_
   ·rw [eS (l := [(0, _)]) ⟨z9 0 rfl, ⟨⟩⟩]
    refine qg (qk 0 qd qm rfl rfl rfl hv1.slv (by omega) (Nat.mul_one _) ?_)
    exact ⟨rfl, rfl, rfl⟩
   refine pD (fun W R z9 => ?_) ?_
   ·rw [eS (l := [(1, _)]) ⟨z9 1 rfl, ⟨⟩⟩]
    refine qg (qj qC rfl (hv1.rd (by omega)) ?_)
    exact ⟨rfl, rfl, rfl⟩
   refine pD (fun W R z9 => ?_) ?_
   ·refine qg (qi (v2) rfl ?_)
    exact ⟨rfl, rfl, rfl⟩
   refine pD (fun W R z9 => ?_) ?_
   ·rw [eS (l := [(3, _)]) ⟨z9 3 rfl, ⟨⟩⟩]
    refine qg (qk 0 qd qm rfl rfl rfl hv2.slv (by omega) (Nat.mul_one _) ?_)
    exact ⟨rfl, rfl, rfl⟩
   refine pD (fun W R z9 => ?_) ?_
   ·rw [eS (l := [(4, _)]) ⟨z9 4 rfl, ⟨⟩⟩]
    refine qg (qj qC rfl (hv2.rd (by omega)) ?_)
    exact ⟨rfl, rfl, rfl⟩
   exact stepsP.nil
  intro W hphi
  rw [eS (l := [(2, _), (5, _)]) ⟨(hphi 2 (by decide)), (hphi 5 (by decide)), ⟨⟩⟩]
  show XL _ _ _ _ _ _ _ (cellsH ub (arv :: bs) 200 :: L)
  refine cX (XOp.neq rfl rfl (qb ?_))
  refine qx (p := (u1.getD 0 0 : Int) ≠ u2.getD 0 0) rfl (fun h18 => ?_) (fun h18 => ?_)
  ·refine qa ?_
   skip
   refine cX (jq [] [] [] [] jm zeroValue230 rfl PlacesAre.nil rfl CellsAre.nil (cX (XOp.iface jm rfl (qZ ((sC sR)) (XL.panicI rfl ?_)))))
   exact .inr ⟨_, rfl, _, _, rfl, hbc, (heads_ne hrx hry (by omega) (by omega) (by omega)), rfl⟩
  have hhd : u1.getD 0 0 = u2.getD 0 0 := by omega
  refine qw (qc ?_)
  refine X.drawG [cellsH ub (arv :: bs) 200] L 11 [] [[], [0], [1], [2], [], [3, 4], [], [6], [7], [8]] [] (phiG [pe (ptr ub 0), pe (ptr ub 0), pe (ptr ub 0), pe (.agg #[arv]), pe v1, fun FF us v => ((v) : Value) = v ∧ (IntsF FF (v) (argsL ar u1 0)), pe (ptr ub 0), pe (ptr ub 0), pe (ptr ub 0), pe (.agg #[arv]), pe v2]) (ownL []) mixed rfl rfl (by kernel_rfl) (by kernel_rfl) (MonoG.get (m1 (m1 (m1 (m1 (m1 (mC (fun le h => ⟨h.1, h.2.mono le⟩) (m1 (m1 (m1 (m1 (m1 MonoG.nil)))))))))))) ?_ ?_
  ·refine gD (fun W Fs R lF z9 => ?_) ?_
   ·refine qg (qi (ptr ub 0) rfl ?_)
    exact ⟨rfl, rfl⟩
   refine gD (fun W Fs R lF z9 => ?_) ?_
   ·replace har := har.mono lF
    replace hbc := hbc.mono lF
    replace hv1 := hv1.mono lF
    replace hv2 := hv2.mono lF
    rw [eS (l := [(0, _)]) ⟨z9 0 rfl, ⟨⟩⟩]
    refine qg (qN rfl ?_)
    exact ⟨rfl, rfl⟩
   refine gD (fun W Fs R lF z9 => ?_) ?_
   ·rw [eS (l := [(1, _)]) ⟨z9 1 rfl, ⟨⟩⟩]
    refine qg (qo (0) qV rfl qJ (by decide) rfl rfl ?_)
    exact ⟨rfl, rfl⟩
   refine gD (fun W Fs R lF z9 => ?_) ?_
   ·replace har := har.mono lF
    replace hbc := hbc.mono lF
    replace hv1 := hv1.mono lF
    replace hv2 := hv2.mono lF
    rw [eS (l := [(2, _)]) ⟨z9 2 rfl, ⟨⟩⟩]
    refine qg (qB [arv] jd qJ rfl rfl (Rd.ownN [] rfl rfl) ?_)
    exact ⟨rfl, rfl⟩
   refine gD (fun W Fs R lF z9 => ?_) ?_
   ·refine qg (qi (v1) rfl ?_)
    exact ⟨rfl, rfl⟩
   refine gD (fun W Fs R lF z9 => ?_) ?_
   ·replace har := har.mono lF
    replace hbc := hbc.mono lF
    replace hv1 := hv1.mono lF
    replace hv2 := hv2.mono lF
    rw [eS (l := [(3, _), (4, _)]) ⟨z9 3 rfl, z9 4 rfl, ⟨⟩⟩]
    refine qg (jD <| qs (args := [.agg #[arv], v1, ii ((0 : Nat) : Int)]) call222 rfl (argsAtW_spec (p := 0) har hv1 (ho := (by first | assumption | rfl | omega | simp)) (hp := (by first | assumption | rfl | omega | simp))) ?_)
    rintro v18 _ _ _ ⟨rfl, hs11, rfl⟩
    refine ⟨_, _, rfl, fun F11 le11 hz5 => ?_⟩
    replace har := har.mono le11
    replace hbc := hbc.mono le11
    replace hv1 := hv1.mono le11
    replace hv2 := hv2.mono le11
    have hf5 : IntsF F11 v18 ((argsL ar u1 0)) := intsH.fz (xs := (argsL ar u1 0)) hz5.fz
    exact ⟨⟨rfl, hf5⟩, rfl⟩
   refine gD (fun W Fs R lF z9 => ?_) ?_
   ·refine qg (qi (ptr ub 0) rfl ?_)
    exact ⟨rfl, rfl⟩
   refine gD (fun W Fs R lF z9 => ?_) ?_
   ·replace har := har.mono lF
    replace hbc := hbc.mono lF
    replace hv1 := hv1.mono lF
    replace hv2 := hv2.mono lF
    rw [eS (l := [(6, _)]) ⟨z9 6 rfl, ⟨⟩⟩]
    refine qg (qN rfl ?_)
    exact ⟨rfl, rfl⟩
   refine gD (fun W Fs R lF z9 => ?_) ?_
   ·rw [eS (l := [(7, _)]) ⟨z9 7 rfl, ⟨⟩⟩]
    refine qg (qo (0) qV rfl qJ (by decide) rfl rfl ?_)
    exact ⟨rfl, rfl⟩
   refine gD (fun W Fs R lF z9 => ?_) ?_
   ·replace har := har.mono lF
    replace hbc := hbc.mono lF
    replace hv1 := hv1.mono lF
    replace hv2 := hv2.mono lF
    rw [eS (l := [(8, _)]) ⟨z9 8 rfl, ⟨⟩⟩]
    refine qg (qB [arv] jd qJ rfl rfl (Rd.ownN [] rfl rfl) ?_)
    exact ⟨rfl, rfl⟩
   refine gD (fun W Fs R lF z9 => ?_) ?_
   ·refine qg (qi (v2) rfl ?_)
    exact ⟨rfl, rfl⟩
   exact stepsG.nil
  intro W F12 le12 hphi
  obtain ⟨e5, f5_24ha⟩ := hphi 5 (by decide)
  generalize hu7 : ((W 5)) = u9 at e5 f5_24ha
  rw [eS (l := [(5, u9), (9, _), (10, _)]) ⟨hu7, (hphi 9 (by decide)), (hphi 10 (by decide)), ⟨⟩⟩]
  replace har := har.mono le12
  replace hbc := hbc.mono le12
  replace hv1 := hv1.mono le12
  replace hv2 := hv2.mono le12
  show XL _ _ _ _ _ _ _ (cellsH ub (arv :: bs) 200 :: L)
  refine cX (jD <| qs (args := [.agg #[arv], v2, ii ((0 : Nat) : Int)]) call222 rfl (argsAtW_spec (p := 0) har hv2 (ho := (by first | assumption | rfl | omega | simp)) (hp := (by first | assumption | rfl | omega | simp))) ?_)
  rintro v19 _ _ _ ⟨rfl, hs12, rfl⟩
  refine ⟨_, _, rfl, fun F13 le13 hz6 => ?_⟩
  replace har := har.mono le13
  replace hbc := hbc.mono le13
  replace hv1 := hv1.mono le13
  replace hv2 := hv2.mono le13
  replace f5_24ha := f5_24ha.mono le13
  have hf6 : IntsF F13 v19 ((argsL ar u2 0)) := intsH.fz (xs := (argsL ar u2 0)) hz6.fz
  refine qh (u9) rfl (qh (v19) rfl (qb (qc (qa (qf (u9) rfl (cX (qD jn rfl f5_24ha.slv (qf (ii (0)) rfl (qb (qF (jg (α := Nat × List Value × RowL × FH) (fun xQ => [(0, ptr ub 0), (1, v1), (2, v2), (6, u9), (7, v19), (100, ii (((((argsL ar u1 0)).length : Nat) : Int))), (101, ii (((xQ.1 : Nat) : Int)))]) (fun xQ => cellsH ub (arv :: xQ.2.1) 200 :: L) (fun xQ F' => xQ.2.2.2 = F' ∧ F13 ≤ xQ.2.2.2 ∧ (BindC xQ.2.2.2 xQ.2.1 xQ.2.2.1) ∧ (xQ.1 ≤ (argsL ar u1 0).length) ∧ (Solves ar bl xQ.2.2.1 (EqTo ar u1 u2 xQ.1))) (fun xQ => (argsL ar u1 0).length - xQ.1) (0, bs, bl, F13) ⟨rfl, rfl, rfl, rfl, rfl, rfl, rfl, ⟨⟩⟩ (sC sR) ⟨rfl, FLe.refl _, (hbc), (Nat.zero_le _), (EqTo.start hb)⟩ ?_)))))))))))
  rintro ⟨j, bj, lj, G3⟩ rE _ _ ⟨rfl, leG, hbj, hj, hso⟩
  show X _ _ _ _ (envs [(0, ptr ub 0), (1, v1), (2, v2), (6, u9), (7, v19), (100, ii (((((argsL ar u1 0)).length : Nat) : Int))), (101, ii ((j : Int)))] rE) _ (cellsH ub (arv :: bj) 200 :: L)
  replace leG : F13 ≤ G3 := leG
  dsimp only at hbj hj hso
  have hajx := fun h : j < (argsL ar u1 0).length => hrx.w.args_in (p := 0) (by omega) h
  have hajy := fun h : j < (argsL ar u2 0).length => hry.w.args_in (p := 0) (by omega) h
  have hlax := args_same (ar := ar) hhd
  have hla3 := hrx.w.args_le (p := 0) (by omega)
  have hex0 := hrx.w.end0
  have hey0 := hry.w.end0
  have leG3 := leG
  replace har := har.mono leG3
  replace hbc := hbc.mono leG3
  replace hv1 := hv1.mono leG3
  replace hv2 := hv2.mono leG3
  replace f5_24ha := f5_24ha.mono leG3
  replace hf6 := hf6.mono leG3
  refine qc (qa (cX (qG rfl rfl (qb (qc ?_)))))
  refine qx (p := (j : Int) < ((((argsL ar u1 0)).length : Nat) : Int)) rfl (fun h19 => ?_) (fun h19 => ?_)
  ·have hjx : j < (argsL ar u1 0).length := by omega
   have hjy : j < (argsL ar u2 0).length := by omega
   obtain ⟨σ1, k1, N1, hσ1, hk1, hN1, hless⟩ := EqTo.less hso hb hσ hrx (by rw [parts_args]; exact hjx) hk hN
   have hpx := parts_W hrx.w hjx
   have hpy := parts_W hry.w hjy
   have hb2 := hso.ok
   rw [parts_get hjx] at hpx hN1
   rw [parts_get hjy] at hpy
   refine qw (qc (qF (qc (qa (qf (ii ((j : Int))) rfl (qh (ii ((j : Int))) rfl (qb ?_)))))))
   refine X.drawG [cellsH ub (arv :: bj) 200] L 21 [] [[], [], [1], [2], [3], [], [], [], [6, 7], [8], [4, 5, 9], [], [11], [12], [13], [], [], [], [16, 17], [18], [14, 15, 19]] [] (phiG [pe (ptr ub 0), pe (ptr ub 0), pe (ptr ub 0), pe (ptr ub 0), pe (.agg #[arv]), pe v1, pe u9, pe (ii ((j : Int)) : Value), pe (.pointer (some (elemA u9 (j)))), pe (ii (((argsL ar u1 0)).getD j 0)), fun FF us v => ((v) : Value) = v ∧ (IntsF FF (v) (sub ar u1 ((((argsL ar u1 0)).getD j 0).toNat))) ∧ (isNil (v) = false), pe (ptr ub 0), pe (ptr ub 0), pe (ptr ub 0), pe (.agg #[arv]), pe v2, pe v19, pe (ii ((j : Int)) : Value), pe (.pointer (some (elemA v19 (j)))), pe (ii (((argsL ar u2 0)).getD j 0)), fun FF us v => ((v) : Value) = v ∧ (IntsF FF (v) (sub ar u2 ((((argsL ar u2 0)).getD j 0).toNat))) ∧ (isNil (v) = false)]) (ownL []) mixed rfl rfl (by kernel_rfl) (by kernel_rfl) (MonoG.get (m1 (m1 (m1 (m1 (m1 (m1 (m1 (m1 (m1 (m1 (mC (fun le h => ⟨h.1, h.2.1.mono le, h.2.2⟩) (m1 (m1 (m1 (m1 (m1 (m1 (m1 (m1 (m1 (mC (fun le h => ⟨h.1, h.2.1.mono le, h.2.2⟩) MonoG.nil)))))))))))))))))))))) ?_ ?_
   ·refine gD (fun W Fs R lF z9 => ?_) ?_
    ·refine qg (qi (ptr ub 0) rfl ?_)
     exact ⟨rfl, rfl⟩
    refine gD (fun W Fs R lF z9 => ?_) ?_
    ·refine qg (qi (ptr ub 0) rfl ?_)
     exact ⟨rfl, rfl⟩
    refine gD (fun W Fs R lF z9 => ?_) ?_
    ·replace har := har.mono lF
     replace hbc := hbc.mono lF
     replace hv1 := hv1.mono lF
     replace hv2 := hv2.mono lF
     replace f5_24ha := f5_24ha.mono lF
     replace hf6 := hf6.mono lF
     replace hbj := hbj.mono lF
     rw [eS (l := [(1, _)]) ⟨z9 1 rfl, ⟨⟩⟩]
     refine qg (qN rfl ?_)
     exact ⟨rfl, rfl⟩
    refine gD (fun W Fs R lF z9 => ?_) ?_
    ·rw [eS (l := [(2, _)]) ⟨z9 2 rfl, ⟨⟩⟩]
     refine qg (qo (0) qV rfl qJ (by decide) rfl rfl ?_)
     exact ⟨rfl, rfl⟩
    refine gD (fun W Fs R lF z9 => ?_) ?_
    ·replace har := har.mono lF
     replace hbc := hbc.mono lF
     replace hv1 := hv1.mono lF
     replace hv2 := hv2.mono lF
     replace f5_24ha := f5_24ha.mono lF
     replace hf6 := hf6.mono lF
     replace hbj := hbj.mono lF
     rw [eS (l := [(3, _)]) ⟨z9 3 rfl, ⟨⟩⟩]
     refine qg (qB [arv] jd qJ rfl rfl (Rd.ownN [] rfl rfl) ?_)
     exact ⟨rfl, rfl⟩
    refine gD (fun W Fs R lF z9 => ?_) ?_
    ·refine qg (qi (v1) rfl ?_)
     exact ⟨rfl, rfl⟩
    refine gD (fun W Fs R lF z9 => ?_) ?_
    ·refine qg (qi (u9) rfl ?_)
     exact ⟨rfl, rfl⟩
    refine gD (fun W Fs R lF z9 => ?_) ?_
    ·refine qg (qi (ii ((j : Int))) rfl ?_)
     exact ⟨rfl, rfl⟩
    refine gD (fun W Fs R lF z9 => ?_) ?_
    ·replace har := har.mono lF
     replace hbc := hbc.mono lF
     replace hv1 := hv1.mono lF
     replace hv2 := hv2.mono lF
     replace f5_24ha := f5_24ha.mono lF
     replace hf6 := hf6.mono lF
     replace hbj := hbj.mono lF
     rw [eS (l := [(6, _), (7, _)]) ⟨z9 6 rfl, z9 7 rfl, ⟨⟩⟩]
     refine qg (qk j jn jF rfl rfl rfl f5_24ha.slv (by omega) (Nat.mul_one _) ?_)
     exact ⟨rfl, rfl⟩
    refine gD (fun W Fs R lF z9 => ?_) ?_
    ·replace har := har.mono lF
     replace hbc := hbc.mono lF
     replace hv1 := hv1.mono lF
     replace hv2 := hv2.mono lF
     replace f5_24ha := f5_24ha.mono lF
     replace hf6 := hf6.mono lF
     replace hbj := hbj.mono lF
     rw [eS (l := [(8, _)]) ⟨z9 8 rfl, ⟨⟩⟩]
     refine qg (qj isAgg3 rfl (f5_24ha.rd (by omega)) ?_)
     exact ⟨rfl, rfl⟩
    refine gD (fun W Fs R lF z9 => ?_) ?_
    ·replace har := har.mono lF
     replace hbc := hbc.mono lF
     replace hv1 := hv1.mono lF
     replace hv2 := hv2.mono lF
     replace hf6 := hf6.mono lF
     replace hbj := hbj.mono lF
     rw [eS (l := [(4, _), (5, _), (9, _)]) ⟨z9 4 rfl, z9 5 rfl, z9 9 rfl, ⟨⟩⟩]
     refine qg (qs (args := [.agg #[arv], v1, ii (((((argsL ar u1 0)).getD j 0).toNat : Nat) : Int)]) call224 (by rw [show (((((argsL ar u1 0)).getD j 0).toNat : Nat) : Int) = ((argsL ar u1 0)).getD j 0 from by omega]; rfl) (subAtW_spec (p := (((argsL ar u1 0)).getD j 0).toNat) har hv1 (ho := (by first | assumption | rfl | omega | simp)) (hp := (by first | assumption | rfl | omega | simp)) (hnn := (by first | assumption | rfl | omega | simp))) ?_)
     rintro v22 _ _ _ ⟨rfl, rfl, hv13, hn13⟩
     exact ⟨⟨rfl, hv13, hn13⟩, rfl⟩
    refine gD (fun W Fs R lF z9 => ?_) ?_
    ·refine qg (qi (ptr ub 0) rfl ?_)
     exact ⟨rfl, rfl⟩
    refine gD (fun W Fs R lF z9 => ?_) ?_
    ·replace har := har.mono lF
     replace hbc := hbc.mono lF
     replace hv1 := hv1.mono lF
     replace hv2 := hv2.mono lF
     replace hf6 := hf6.mono lF
     replace hbj := hbj.mono lF
     rw [eS (l := [(11, _)]) ⟨z9 11 rfl, ⟨⟩⟩]
     refine qg (qN rfl ?_)
     exact ⟨rfl, rfl⟩
    refine gD (fun W Fs R lF z9 => ?_) ?_
    ·rw [eS (l := [(12, _)]) ⟨z9 12 rfl, ⟨⟩⟩]
     refine qg (qo (0) qV rfl qJ (by decide) rfl rfl ?_)
     exact ⟨rfl, rfl⟩
    refine gD (fun W Fs R lF z9 => ?_) ?_
    ·replace har := har.mono lF
     replace hbc := hbc.mono lF
     replace hv1 := hv1.mono lF
     replace hv2 := hv2.mono lF
     replace hf6 := hf6.mono lF
     replace hbj := hbj.mono lF
     rw [eS (l := [(13, _)]) ⟨z9 13 rfl, ⟨⟩⟩]
     refine qg (qB [arv] jd qJ rfl rfl (Rd.ownN [] rfl rfl) ?_)
     exact ⟨rfl, rfl⟩
    refine gD (fun W Fs R lF z9 => ?_) ?_
    ·refine qg (qi (v2) rfl ?_)
     exact ⟨rfl, rfl⟩
    refine gD (fun W Fs R lF z9 => ?_) ?_
    ·refine qg (qi (v19) rfl ?_)
     exact ⟨rfl, rfl⟩
    refine gD (fun W Fs R lF z9 => ?_) ?_
    ·refine qg (qi (ii ((j : Int))) rfl ?_)
     exact ⟨rfl, rfl⟩
    refine gD (fun W Fs R lF z9 => ?_) ?_
    ·replace har := har.mono lF
     replace hbc := hbc.mono lF
     replace hv1 := hv1.mono lF
     replace hv2 := hv2.mono lF
     replace hf6 := hf6.mono lF
     replace hbj := hbj.mono lF
     rw [eS (l := [(16, _), (17, _)]) ⟨z9 16 rfl, z9 17 rfl, ⟨⟩⟩]
     refine qg (qk j jn jF rfl rfl rfl hf6.slv (by omega) (Nat.mul_one _) ?_)
     exact ⟨rfl, rfl⟩
    refine gD (fun W Fs R lF z9 => ?_) ?_
    ·replace har := har.mono lF
     replace hbc := hbc.mono lF
     replace hv1 := hv1.mono lF
     replace hv2 := hv2.mono lF
     replace hf6 := hf6.mono lF
     replace hbj := hbj.mono lF
     rw [eS (l := [(18, _)]) ⟨z9 18 rfl, ⟨⟩⟩]
     refine qg (qj isAgg3 rfl (hf6.rd (by omega)) ?_)
     exact ⟨rfl, rfl⟩
    refine gD (fun W Fs R lF z9 => ?_) ?_
    ·replace har := har.mono lF
     replace hbc := hbc.mono lF
     replace hv1 := hv1.mono lF
     replace hv2 := hv2.mono lF
     replace hbj := hbj.mono lF
     rw [eS (l := [(14, _), (15, _), (19, _)]) ⟨z9 14 rfl, z9 15 rfl, z9 19 rfl, ⟨⟩⟩]
     refine qg (qs (args := [.agg #[arv], v2, ii (((((argsL ar u2 0)).getD j 0).toNat : Nat) : Int)]) call224 (by rw [show (((((argsL ar u2 0)).getD j 0).toNat : Nat) : Int) = ((argsL ar u2 0)).getD j 0 from by omega]; rfl) (subAtW_spec (p := (((argsL ar u2 0)).getD j 0).toNat) har hv2 (ho := (by first | assumption | rfl | omega | simp)) (hp := (by first | assumption | rfl | omega | simp)) (hnn := (by first | assumption | rfl | omega | simp))) ?_)
     rintro v23 _ _ _ ⟨rfl, rfl, hv14, hn14⟩
     exact ⟨⟨rfl, hv14, hn14⟩, rfl⟩
    exact stepsG.nil
   intro W F14 le14 hphi
   obtain ⟨e10, f10_25ha, f10_25hn⟩ := hphi 10 (by decide)
   obtain ⟨e20, f20_25ha, f20_25hn⟩ := hphi 20 (by decide)
   generalize hu8 : ((W 10)) = u10 at e10 f10_25ha f10_25hn e20 f20_25ha f20_25hn
   generalize hu9 : ((W 20)) = u11 at e10 f10_25ha f10_25hn e20 f20_25ha f20_25hn
   rw [eS (l := [(0, _), (10, u10), (20, u11)]) ⟨(hphi 0 (by decide)), hu8, hu9, ⟨⟩⟩]
   replace har := har.mono le14
   replace hbc := hbc.mono le14
   replace hv1 := hv1.mono le14
   replace hv2 := hv2.mono le14
   replace hbj := hbj.mono le14
   show XL _ _ _ _ _ _ _ (cellsH ub (arv :: bj) 200 :: L)
   refine XL.callP [ptr ub 0, u10, u11] call237 rfl (ih k1 N1 hless har hbj hb2 f10_25ha f20_25ha hσ1 hpx hpy (by assumption) (by assumption) hk1 hN1) ?_ ?_
   ·rintro _ _ _ _ ⟨b9, l9, rfl, hb9, hne9, rfl⟩
    rw [← parts_get hjx, ← parts_get hjy] at hne9
    exact .inr ⟨_, rfl, b9, l9, rfl, hb9, (EqTo.stop hso hrx hry (by rw [parts_args]; exact hjx) (by omega) hhd hne9), rfl⟩
   rintro _ F15 _ le15 ⟨b6, l3, rfl, hb3, hso3, rfl⟩
   replace har := har.mono le15
   replace hbc := hbc.mono le15
   replace hv1 := hv1.mono le15
   replace hv2 := hv2.mono le15
   replace hbj := hbj.mono le15
   rw [← parts_get hjx, ← parts_get hjy] at hso3
   have hso2 := EqTo.next hso hso3
   refine qb (qa (cX (qM (((j + 1 : Nat) : Int)) rfl rfl (by omega) (by omega) (qf (ii (((j + 1 : Nat) : Int))) rfl (qb ?_)))))
   exact ⟨(j + 1, b6, l3, F15), _, (qn (qn leG3 le14) le15), rF, ⟨rfl, rfl, rfl, rfl, rfl, rfl, rfl, ⟨⟩⟩, (sC sR), ⟨rfl, (qn (qn leG3 le14) le15), (hb3), (by (try dsimp only) <;> omega), (hso2)⟩, (by omega)⟩
  refine jc (qt (qt (qL (id (retEndNP (L' := cellsH ub (arv :: bj) 200 :: L) [] (.tuple #[]) (by exact .nil) rfl (qn (qn le12 le13) leG3) rF (sC sR) ?_)))))
  exact ⟨_, _, rfl, hbj, (EqTo.done hso hrx hry (by rw [parts_args]; omega) (by omega) hhd), rfl⟩
 refine jh [cellsH ub (arv :: bs) 200] L 16 [] [[], [0], [1], [2], [3], [4], [4, 5], [4, 6], [4, 7], [4, 8], [9], [9, 10], [9, 11], [9], [9, 13], [9, 14]] (phiL [qe v2, qe (.pointer (some (elemA v2 (0)))), qe (ii (u2.getD 0 0)), qe (.bool (decide ((u2.getD 0 0 : Int) < 0)) : Value), qe (.bool (decide ((u2.getD 0 0 : Int) < 0)) : Value), qe undef, qe undef, qe undef, qe undef, qe undef, qe undef, qe undef, qe undef, qe undef, qe undef, qe undef]) (ownL []) mixed rfl rfl (by kernel_rfl) ?_ ?_
 ·refine pD (fun W R z9 => ?_) ?_
  ·refine qg (qi (v2) rfl ?_)
   exact ⟨rfl, rfl, rfl⟩
  refine pD (fun W R z9 => ?_) ?_
  ·rw [eS (l := [(0, _)]) ⟨z9 0 rfl, ⟨⟩⟩]
   refine qg (qk 0 qd qm rfl rfl rfl hv2.slv (by omega) (Nat.mul_one _) ?_)
   exact ⟨rfl, rfl, rfl⟩
  refine pD (fun W R z9 => ?_) ?_
  ·rw [eS (l := [(1, _)]) ⟨z9 1 rfl, ⟨⟩⟩]
   refine qg (qj qC rfl (hv2.rd (by omega)) ?_)
   exact ⟨rfl, rfl, rfl⟩
  refine pD (fun W R z9 => ?_) ?_
  ·rw [eS (l := [(2, _)]) ⟨z9 2 rfl, ⟨⟩⟩]
   refine qg (qG rfl rfl ?_)
   exact ⟨rfl, rfl, rfl⟩
  refine pD (fun W R z9 => ?_) ?_
  ·rw [eS (l := [(3, _)]) ⟨z9 3 rfl, ⟨⟩⟩]
   refine qg (qi (.bool (decide ((u2.getD 0 0 : Int) < 0))) rfl ?_)
   exact ⟨rfl, rfl, rfl⟩
  refine pD (fun W R z9 => ?_) ?_
  ·rw [eS (l := [(4, _)]) ⟨z9 4 rfl, ⟨⟩⟩]
   exact qX (t := 32) rfl (vF h11) ⟨rfl, rfl, rfl⟩
  refine pD (fun W R z9 => ?_) ?_
  ·rw [eS (l := [(4, _), (5, undef)]) ⟨z9 4 rfl, z9 5 rfl, ⟨⟩⟩]
   exact qX (t := 32) rfl (vF h11) ⟨rfl, rfl, rfl⟩
  refine pD (fun W R z9 => ?_) ?_
  ·rw [eS (l := [(4, _), (6, undef)]) ⟨z9 4 rfl, z9 6 rfl, ⟨⟩⟩]
   exact qX (t := 32) rfl (vF h11) ⟨rfl, rfl, rfl⟩
  refine pD (fun W R z9 => ?_) ?_
  ·rw [eS (l := [(4, _), (7, undef)]) ⟨z9 4 rfl, z9 7 rfl, ⟨⟩⟩]
   exact qX (t := 32) rfl (vF h11) ⟨rfl, rfl, rfl⟩
  refine pD (fun W R z9 => ?_) ?_
  ·rw [eS (l := [(4, _), (8, undef)]) ⟨z9 4 rfl, z9 8 rfl, ⟨⟩⟩]
   exact qX (t := 32) rfl (vF h11) ⟨rfl, rfl, rfl⟩
  refine pD (fun W R z9 => ?_) ?_
  ·rw [eS (l := [(9, undef)]) ⟨z9 9 rfl, ⟨⟩⟩]
   exact XG.noU (t := 37) rfl rfl ⟨rfl, rfl, rfl⟩
  refine pD (fun W R z9 => ?_) ?_
  ·rw [eS (l := [(9, undef), (10, undef)]) ⟨z9 9 rfl, z9 10 rfl, ⟨⟩⟩]
   exact XG.noU (t := 37) rfl rfl ⟨rfl, rfl, rfl⟩
  refine pD (fun W R z9 => ?_) ?_
  ·rw [eS (l := [(9, undef), (11, undef)]) ⟨z9 9 rfl, z9 11 rfl, ⟨⟩⟩]
   exact XG.noU (t := 37) rfl rfl ⟨rfl, rfl, rfl⟩
  refine pD (fun W R z9 => ?_) ?_
  ·rw [eS (l := [(9, undef)]) ⟨z9 9 rfl, ⟨⟩⟩]
   exact XG.noU (t := 37) rfl rfl ⟨rfl, rfl, rfl⟩
  refine pD (fun W R z9 => ?_) ?_
  ·rw [eS (l := [(9, undef), (13, undef)]) ⟨z9 9 rfl, z9 13 rfl, ⟨⟩⟩]
   exact XG.noU (t := 37) rfl rfl ⟨rfl, rfl, rfl⟩
  refine pD (fun W R z9 => ?_) ?_
  ·rw [eS (l := [(9, undef), (14, undef)]) ⟨z9 9 rfl, z9 14 rfl, ⟨⟩⟩]
   exact XG.noU (t := 37) rfl rfl ⟨rfl, rfl, rfl⟩
  exact stepsP.nil
 intro W hphi
 rw [eS (l := [(4, _), (9, undef), (12, undef), (15, undef)]) ⟨(hphi 4 (by decide)), (hphi 9 (by decide)), (hphi 12 (by decide)), (hphi 15 (by decide)), ⟨⟩⟩]
 show XL _ _ _ _ _ _ _ (cellsH ub (arv :: bs) 200 :: L)
 refine XL.noU (t := 37) rfl rfl (qp (t := 32) rfl (vF h11) (cX (qT (.bool (false)) (vF h11) rfl (qb (jy rfl (qw (qc (qc (qa ?_)))))))))
 have hrx := hru1
 have hry := hru2
 have hnx := hn1
 have hny := hn2
 have hwx := hrx.w
 have hwy := hry.w
 have hxl := hrx.w.len
 have hyl := hry.w.len
 have hxg := hrx.w.geD (p := 0) (by omega)
 have hyg := hry.w.geD (p := 0) (by omega)
 have hbl := hb.len
 skip
 refine qf (v1) rfl (cX (qk 0 qd qm rfl rfl rfl hv1.slv (by omega) (Nat.mul_one _) (cX (qj qC rfl (hv1.rd (by omega)) (cX (qG rfl rfl (qb ?_)))))))
 refine qx (p := (u1.getD 0 0 : Int) < 0) rfl (fun h20 => ?_) (fun h20 => ?_)
 ·refine qc (qc (qa (qf (v2) rfl (cX (qk 0 qd qm rfl rfl rfl hv2.slv (by omega) (Nat.mul_one _) (cX (qj qC rfl (hv2.rd (by omega)) (cX (jI rfl rfl (qf (.bool (decide ((u2.getD 0 0 : Int) ≥ 0))) rfl ?_))))))))))
  by_cases h21 : (u2.getD 0 0 : Int) ≥ 0
  ·refine qr (t := 57) rfl (vT h21) (qi (ptr ub 0) rfl (qr (t := 57) rfl (vT h21) (qi (v1) rfl (qr (t := 57) rfl (vT h21) (qk 0 qd qm rfl rfl rfl hv1.slv (by omega) (Nat.mul_one _) (qr (t := 57) rfl (vT h21) (qj qC rfl (hv1.rd (by omega)) (qr (t := 57) rfl (vT h21) (qi (v2) rfl (qr (t := 57) rfl (vT h21) (XOp.build0 (bools (List.replicate 48 false)) runUnderlying241 ⟨_, sizeOf4⟩ zeroValue241 rfl (qr (t := 57) rfl (vT h21) (ja (bools (List.replicate 48 false)) rfl rfl ?_)))))))))))))
   intro b7
   have hl4 : (List.replicate 48 false).length = 48 := rfl
   have hx0 : u1.getD 0 0 < 0 := by omega
   obtain ⟨ρ9, hρ9⟩ := hb.acyc
   obtain ⟨k9, hk9⟩ := maxRank u2 ρ9
   refine qZ (qA (A := [_])) ?_
   show XL _ _ _ _ _ _ _ (cellsH ub (arv :: bs) 200 :: cellsH b7 (bools ((List.replicate 48 false))) 241 :: L)
   refine qr (t := 57) rfl (vT h21) (qs (args := [ptr ub 0, ii (u1.getD 0 0), v2, ptr b7 0]) call249 rfl (occurs_spec k9 har hbc (by assumption) hv2 hσ hρ9 hx0 (hrx.top.resolve_left (by omega)) (fun m hm _ => hk9 m hm) (fun i hi => hry.w.geD hi) hyl.2 hl4 ClearM.nils) ?_)
   rintro _ _ _ _ ⟨s4, rfl, hs13, hm4, rfl, rfl⟩
   refine cX (qS (.bool (decide (u1.getD 0 0 ∈ ap σ u2))) (vT h21) rfl (qb ?_))
   refine qx (p := u1.getD 0 0 ∈ ap σ u2) rfl (fun h22 => ?_) (fun h22 => ?_)
   ·have hoy := h22
    refine qa ?_
    skip
    refine cX (jq [] [] [] [] jm zeroValue230 rfl PlacesAre.nil rfl CellsAre.nil (cX (XOp.iface jm rfl (qZ ((sC (sD sR))) (XL.panicI rfl ?_)))))
    exact .inr ⟨_, rfl, _, _, rfl, hbc, (occ_eq hb hσ hrx hry (by omega) (by omega) hoy), rfl⟩
   have hoy := h22
   refine qw (qc ?_)
   refine jh [cellsH ub (arv :: bs) 200, cellsH b7 (bools s4) 241] L 8 [] [[], [], [1], [2], [3], [], [0], [6]] (phiL [qe (ptr ub 0), qe v1, qe (.pointer (some (elemA v1 (0)))), qe (ii (u1.getD 0 0)), qe (ii ((-1) - (u1.getD 0 0))), qe v2, qe (ptr ub 0), qe (ptr ub 1)]) (ownL []) mixed rfl rfl (by kernel_rfl) ?_ ?_
   ·refine pD (fun W R z9 => ?_) ?_
    ·refine qg (qi (ptr ub 0) rfl ?_)
     exact ⟨rfl, rfl, rfl⟩
    refine pD (fun W R z9 => ?_) ?_
    ·refine qg (qi (v1) rfl ?_)
     exact ⟨rfl, rfl, rfl⟩
    refine pD (fun W R z9 => ?_) ?_
    ·rw [eS (l := [(1, _)]) ⟨z9 1 rfl, ⟨⟩⟩]
     refine qg (qk 0 qd qm rfl rfl rfl hv1.slv (by omega) (Nat.mul_one _) ?_)
     exact ⟨rfl, rfl, rfl⟩
    refine pD (fun W R z9 => ?_) ?_
    ·rw [eS (l := [(2, _)]) ⟨z9 2 rfl, ⟨⟩⟩]
     refine qg (qj qC rfl (hv1.rd (by omega)) ?_)
     exact ⟨rfl, rfl, rfl⟩
    refine pD (fun W R z9 => ?_) ?_
    ·rw [eS (l := [(3, _)]) ⟨z9 3 rfl, ⟨⟩⟩]
     refine qg (jb ((-1) - (u1.getD 0 0)) rfl rfl (by omega) (by omega) ?_)
     exact ⟨rfl, rfl, rfl⟩
    refine pD (fun W R z9 => ?_) ?_
    ·refine qg (qi (v2) rfl ?_)
     exact ⟨rfl, rfl, rfl⟩
    refine pD (fun W R z9 => ?_) ?_
    ·rw [eS (l := [(0, _)]) ⟨z9 0 rfl, ⟨⟩⟩]
     refine qg (qN rfl ?_)
     exact ⟨rfl, rfl, rfl⟩
    refine pD (fun W R z9 => ?_) ?_
    ·rw [eS (l := [(6, _)]) ⟨z9 6 rfl, ⟨⟩⟩]
     refine qg (qo (1) qV rfl sizeOf198 (by decide) rfl rfl ?_)
     exact ⟨rfl, rfl, rfl⟩
    exact stepsP.nil
   intro W hphi
   rw [eS (l := [(4, _), (5, _), (7, _)]) ⟨(hphi 4 (by decide)), (hphi 5 (by decide)), (hphi 7 (by decide)), ⟨⟩⟩]
   show XL _ _ _ _ _ _ _ (cellsH ub (arv :: bs) 200 :: cellsH b7 (bools s4) 241 :: L)
   refine cX (jL (i := (-1) - (u1.getD 0 0)) (((-1) - (u1.getD 0 0)).toNat) (1 + (((-1) - (u1.getD 0 0)).toNat)) jA qq rfl rfl (by omega) (by omega) (by omega) (cX (js [] _ (arv :: (bs.set (((-1) - (u1.getD 0 0)).toNat) v2)) qq rfl rfl (je (qE hv2)) rfl (blt_1 (by have := CO.len hbc; (try simp only [List.length_set, List.length_replicate] at this ⊢) <;> omega)) set_1 ?_)))
   have hc7 := hbc.set (((-1) - (u1.getD 0 0)).toNat) hv2 (by rw [hny]; exact (decide_eq_false hry.w.ne).symm)
   refine qb (qz (ql (retEndP (L' := cellsH ub (arv :: ((bs.set (((-1) - (u1.getD 0 0)).toNat) v2))) 200 :: L) [] (.tuple #[]) (by exact .nil) rfl rF rF (sC (sD sR)) ?_)))
   exact ⟨_, _, rfl, hc7, (bind_eq hb hσ hrx hry (by omega) (by first | exact hoy | exact bind_var hσ hry (by omega) (by omega))), rfl⟩
  refine qp (t := 57) rfl (vF h21) (qp (t := 57) rfl (vF h21) (qp (t := 57) rfl (vF h21) (qp (t := 57) rfl (vF h21) (qp (t := 57) rfl (vF h21) (qp (t := 57) rfl (vF h21) (qp (t := 57) rfl (vF h21) (qp (t := 57) rfl (vF h21) (cX (qT (.bool (false)) (vF h21) rfl (qb ?_))))))))))
  refine jy rfl (qw (qc ?_))
  refine jh [cellsH ub (arv :: bs) 200] L 8 [] [[], [], [1], [2], [3], [], [0], [6]] (phiL [qe (ptr ub 0), qe v1, qe (.pointer (some (elemA v1 (0)))), qe (ii (u1.getD 0 0)), qe (ii ((-1) - (u1.getD 0 0))), qe v2, qe (ptr ub 0), qe (ptr ub 1)]) (ownL []) mixed rfl rfl (by kernel_rfl) ?_ ?_
  ·refine pD (fun W R z9 => ?_) ?_
   ·refine qg (qi (ptr ub 0) rfl ?_)
    exact ⟨rfl, rfl, rfl⟩
   refine pD (fun W R z9 => ?_) ?_
   ·refine qg (qi (v1) rfl ?_)
    exact ⟨rfl, rfl, rfl⟩
   refine pD (fun W R z9 => ?_) ?_
   ·rw [eS (l := [(1, _)]) ⟨z9 1 rfl, ⟨⟩⟩]
    refine qg (qk 0 qd qm rfl rfl rfl hv1.slv (by omega) (Nat.mul_one _) ?_)
    exact ⟨rfl, rfl, rfl⟩
   refine pD (fun W R z9 => ?_) ?_
   ·rw [eS (l := [(2, _)]) ⟨z9 2 rfl, ⟨⟩⟩]
    refine qg (qj qC rfl (hv1.rd (by omega)) ?_)
    exact ⟨rfl, rfl, rfl⟩
   refine pD (fun W R z9 => ?_) ?_
   ·rw [eS (l := [(3, _)]) ⟨z9 3 rfl, ⟨⟩⟩]
    refine qg (jb ((-1) - (u1.getD 0 0)) rfl rfl (by omega) (by omega) ?_)
    exact ⟨rfl, rfl, rfl⟩
   refine pD (fun W R z9 => ?_) ?_
   ·refine qg (qi (v2) rfl ?_)
    exact ⟨rfl, rfl, rfl⟩
   refine pD (fun W R z9 => ?_) ?_
   ·rw [eS (l := [(0, _)]) ⟨z9 0 rfl, ⟨⟩⟩]
    refine qg (qN rfl ?_)
    exact ⟨rfl, rfl, rfl⟩
   refine pD (fun W R z9 => ?_) ?_
   ·rw [eS (l := [(6, _)]) ⟨z9 6 rfl, ⟨⟩⟩]
    refine qg (qo (1) qV rfl sizeOf198 (by decide) rfl rfl ?_)
    exact ⟨rfl, rfl, rfl⟩
   exact stepsP.nil
  intro W hphi
  rw [eS (l := [(4, _), (5, _), (7, _)]) ⟨(hphi 4 (by decide)), (hphi 5 (by decide)), (hphi 7 (by decide)), ⟨⟩⟩]
  show XL _ _ _ _ _ _ _ (cellsH ub (arv :: bs) 200 :: L)
  refine cX (jL (i := (-1) - (u1.getD 0 0)) (((-1) - (u1.getD 0 0)).toNat) (1 + (((-1) - (u1.getD 0 0)).toNat)) jA qq rfl rfl (by omega) (by omega) (by omega) (cX (js [] _ (arv :: (bs.set (((-1) - (u1.getD 0 0)).toNat) v2)) qq rfl rfl (je (qE hv2)) rfl (blt_1 (by have := CO.len hbc; (try simp only [List.length_set, List.length_replicate] at this ⊢) <;> omega)) set_1 ?_)))
  have hc8 := hbc.set (((-1) - (u1.getD 0 0)).toNat) hv2 (by rw [hny]; exact (decide_eq_false hry.w.ne).symm)
  refine qb (qz (ql (retEndP (L' := cellsH ub (arv :: ((bs.set (((-1) - (u1.getD 0 0)).toNat) v2))) 200 :: L) [] (.tuple #[]) (by exact .nil) rfl rF rF (sC sR) ?_)))
  exact ⟨_, _, rfl, hc8, (bind_eq hb hσ hrx hry (by omega) (by first | exact hoy | exact bind_var hσ hry (by omega) (by omega))), rfl⟩
 refine qw (qc (qc ?_))
 refine jh [cellsH ub (arv :: bs) 200] L 6 [] [[], [0], [1], [], [3], [4]] (phiL [qe v1, qe (.pointer (some (elemA v1 (0)))), qe (ii (u1.getD 0 0)), qe v2, qe (.pointer (some (elemA v2 (0)))), qe (ii (u2.getD 0 0))]) (ownL []) mixed rfl rfl (by kernel_rfl) ?_ ?_
 ·refine pD (fun W R z9 => ?_) ?_
  ·refine qg (qi (v1) rfl ?_)
   exact ⟨rfl, rfl, rfl⟩
  refine pD (fun W R z9 => ?_) ?_
  ·rw [eS (l := [(0, _)]) ⟨z9 0 rfl, ⟨⟩⟩]
   refine qg (qk 0 qd qm rfl rfl rfl hv1.slv (by omega) (Nat.mul_one _) ?_)
   exact ⟨rfl, rfl, rfl⟩
  refine pD (fun W R z9 => ?_) ?_
  ·rw [eS (l := [(1, _)]) ⟨z9 1 rfl, ⟨⟩⟩]
   refine qg (qj qC rfl (hv1.rd (by omega)) ?_)
   exact ⟨rfl, rfl, rfl⟩
  refine pD (fun W R z9 => ?_) ?_
  ·refine qg (qi (v2) rfl ?_)
   exact ⟨rfl, rfl, rfl⟩
  refine pD (fun W R z9 => ?_) ?_
  ·rw [eS (l := [(3, _)]) ⟨z9 3 rfl, ⟨⟩⟩]
   refine qg (qk 0 qd qm rfl rfl rfl hv2.slv (by omega) (Nat.mul_one _) ?_)
   exact ⟨rfl, rfl, rfl⟩
  refine pD (fun W R z9 => ?_) ?_
  ·rw [eS (l := [(4, _)]) ⟨z9 4 rfl, ⟨⟩⟩]
   refine qg (qj qC rfl (hv2.rd (by omega)) ?_)
   exact ⟨rfl, rfl, rfl⟩
  exact stepsP.nil
 intro W hphi
 rw [eS (l := [(2, _), (5, _)]) ⟨(hphi 2 (by decide)), (hphi 5 (by decide)), ⟨⟩⟩]
 show XL _ _ _ _ _ _ _ (cellsH ub (arv :: bs) 200 :: L)
 refine cX (XOp.neq rfl rfl (qb ?_))
 refine qx (p := (u1.getD 0 0 : Int) ≠ u2.getD 0 0) rfl (fun h23 => ?_) (fun h23 => ?_)
 ·refine qa ?_
  skip
  refine cX (jq [] [] [] [] jm zeroValue230 rfl PlacesAre.nil rfl CellsAre.nil (cX (XOp.iface jm rfl (qZ ((sC sR)) (XL.panicI rfl ?_)))))
  exact .inr ⟨_, rfl, _, _, rfl, hbc, (heads_ne hrx hry (by omega) (by omega) (by omega)), rfl⟩
 have hhd : u1.getD 0 0 = u2.getD 0 0 := by omega
 refine qw (qc ?_)
 refine X.drawG [cellsH ub (arv :: bs) 200] L 11 [] [[], [0], [1], [2], [], [3, 4], [], [6], [7], [8]] [] (phiG [pe (ptr ub 0), pe (ptr ub 0), pe (ptr ub 0), pe (.agg #[arv]), pe v1, fun FF us v => ((v) : Value) = v ∧ (IntsF FF (v) (argsL ar u1 0)), pe (ptr ub 0), pe (ptr ub 0), pe (ptr ub 0), pe (.agg #[arv]), pe v2]) (ownL []) mixed rfl rfl (by kernel_rfl) (by kernel_rfl) (MonoG.get (m1 (m1 (m1 (m1 (m1 (mC (fun le h => ⟨h.1, h.2.mono le⟩) (m1 (m1 (m1 (m1 (m1 MonoG.nil)))))))))))) ?_ ?_
 ·refine gD (fun W Fs R lF z9 => ?_) ?_
  ·refine qg (qi (ptr ub 0) rfl ?_)
   exact ⟨rfl, rfl⟩
  refine gD (fun W Fs R lF z9 => ?_) ?_
  ·replace har := har.mono lF
   replace hbc := hbc.mono lF
   replace hv1 := hv1.mono lF
   replace hv2 := hv2.mono lF
   rw [eS (l := [(0, _)]) ⟨z9 0 rfl, ⟨⟩⟩]
   refine qg (qN rfl ?_)
   exact ⟨rfl, rfl⟩
  refine gD (fun W Fs R lF z9 => ?_) ?_
  ·rw [eS (l := [(1, _)]) ⟨z9 1 rfl, ⟨⟩⟩]
   refine qg (qo (0) qV rfl qJ (by decide) rfl rfl ?_)
   exact ⟨rfl, rfl⟩
  refine gD (fun W Fs R lF z9 => ?_) ?_
  ·replace har := har.mono lF
   replace hbc := hbc.mono lF
   replace hv1 := hv1.mono lF
   replace hv2 := hv2.mono lF
   rw [eS (l := [(2, _)]) ⟨z9 2 rfl, ⟨⟩⟩]
   refine qg (qB [arv] jd qJ rfl rfl (Rd.ownN [] rfl rfl) ?_)
   exact ⟨rfl, rfl⟩
  refine gD (fun W Fs R lF z9 => ?_) ?_
  ·refine qg (qi (v1) rfl ?_)
   exact ⟨rfl, rfl⟩
  refine gD (fun W Fs R lF z9 => ?_) ?_
  ·replace har := har.mono lF
   replace hbc := hbc.mono lF
   replace hv1 := hv1.mono lF
   replace hv2 := hv2.mono lF
   rw [eS (l := [(3, _), (4, _)]) ⟨z9 3 rfl, z9 4 rfl, ⟨⟩⟩]
   refine qg (jD <| qs (args := [.agg #[arv], v1, ii ((0 : Nat) : Int)]) call222 rfl (argsAtW_spec (p := 0) har hv1 (ho := (by first | assumption | rfl | omega | simp)) (hp := (by first | assumption | rfl | omega | simp))) ?_)
   rintro v25 _ _ _ ⟨rfl, hs15, rfl⟩
   refine ⟨_, _, rfl, fun F16 le16 hz7 => ?_⟩
   replace har := har.mono le16
   replace hbc := hbc.mono le16
   replace hv1 := hv1.mono le16
   replace hv2 := hv2.mono le16
   have hf7 : IntsF F16 v25 ((argsL ar u1 0)) := intsH.fz (xs := (argsL ar u1 0)) hz7.fz
   exact ⟨⟨rfl, hf7⟩, rfl⟩
  refine gD (fun W Fs R lF z9 => ?_) ?_
  ·refine qg (qi (ptr ub 0) rfl ?_)
   exact ⟨rfl, rfl⟩
  refine gD (fun W Fs R lF z9 => ?_) ?_
  ·replace har := har.mono lF
   replace hbc := hbc.mono lF
   replace hv1 := hv1.mono lF
   replace hv2 := hv2.mono lF
   rw [eS (l := [(6, _)]) ⟨z9 6 rfl, ⟨⟩⟩]
   refine qg (qN rfl ?_)
   exact ⟨rfl, rfl⟩
  refine gD (fun W Fs R lF z9 => ?_) ?_
  ·rw [eS (l := [(7, _)]) ⟨z9 7 rfl, ⟨⟩⟩]
   refine qg (qo (0) qV rfl qJ (by decide) rfl rfl ?_)
   exact ⟨rfl, rfl⟩
  refine gD (fun W Fs R lF z9 => ?_) ?_
  ·replace har := har.mono lF
   replace hbc := hbc.mono lF
   replace hv1 := hv1.mono lF
   replace hv2 := hv2.mono lF
   rw [eS (l := [(8, _)]) ⟨z9 8 rfl, ⟨⟩⟩]
   refine qg (qB [arv] jd qJ rfl rfl (Rd.ownN [] rfl rfl) ?_)
   exact ⟨rfl, rfl⟩
  refine gD (fun W Fs R lF z9 => ?_) ?_
  ·refine qg (qi (v2) rfl ?_)
   exact ⟨rfl, rfl⟩
  exact stepsG.nil
 intro W F17 le17 hphi
 obtain ⟨e5, f5_30ha⟩ := hphi 5 (by decide)
 generalize hu10 : ((W 5)) = u12 at e5 f5_30ha
 rw [eS (l := [(5, u12), (9, _), (10, _)]) ⟨hu10, (hphi 9 (by decide)), (hphi 10 (by decide)), ⟨⟩⟩]
 replace har := har.mono le17
 replace hbc := hbc.mono le17
 replace hv1 := hv1.mono le17
 replace hv2 := hv2.mono le17
 show XL _ _ _ _ _ _ _ (cellsH ub (arv :: bs) 200 :: L)
 refine cX (jD <| qs (args := [.agg #[arv], v2, ii ((0 : Nat) : Int)]) call222 rfl (argsAtW_spec (p := 0) har hv2 (ho := (by first | assumption | rfl | omega | simp)) (hp := (by first | assumption | rfl | omega | simp))) ?_)
 rintro v26 _ _ _ ⟨rfl, hs16, rfl⟩
 refine ⟨_, _, rfl, fun F18 le18 hz8 => ?_⟩
 replace har := har.mono le18
 replace hbc := hbc.mono le18
 replace hv1 := hv1.mono le18
 replace hv2 := hv2.mono le18
 replace f5_30ha := f5_30ha.mono le18
 have hf8 : IntsF F18 v26 ((argsL ar u2 0)) := intsH.fz (xs := (argsL ar u2 0)) hz8.fz
 refine qh (u12) rfl (qh (v26) rfl (qb (qc (qa (qf (u12) rfl (cX (qD jn rfl f5_30ha.slv (qf (ii (0)) rfl (qb (qF (jg (α := Nat × List Value × RowL × FH) (fun xQ => [(0, ptr ub 0), (1, v1), (2, v2), (6, u12), (7, v26), (100, ii (((((argsL ar u1 0)).length : Nat) : Int))), (101, ii (((xQ.1 : Nat) : Int)))]) (fun xQ => cellsH ub (arv :: xQ.2.1) 200 :: L) (fun xQ F' => xQ.2.2.2 = F' ∧ F18 ≤ xQ.2.2.2 ∧ (BindC xQ.2.2.2 xQ.2.1 xQ.2.2.1) ∧ (xQ.1 ≤ (argsL ar u1 0).length) ∧ (Solves ar bl xQ.2.2.1 (EqTo ar u1 u2 xQ.1))) (fun xQ => (argsL ar u1 0).length - xQ.1) (0, bs, bl, F18) ⟨rfl, rfl, rfl, rfl, rfl, rfl, rfl, ⟨⟩⟩ (sC sR) ⟨rfl, FLe.refl _, (hbc), (Nat.zero_le _), (EqTo.start hb)⟩ ?_)))))))))))
 rintro ⟨j, bj, lj, G4⟩ rE _ _ ⟨rfl, leG, hbj, hj, hso⟩
 show X _ _ _ _ (envs [(0, ptr ub 0), (1, v1), (2, v2), (6, u12), (7, v26), (100, ii (((((argsL ar u1 0)).length : Nat) : Int))), (101, ii ((j : Int)))] rE) _ (cellsH ub (arv :: bj) 200 :: L)
 replace leG : F18 ≤ G4 := leG
 dsimp only at hbj hj hso
 have hajx := fun h : j < (argsL ar u1 0).length => hrx.w.args_in (p := 0) (by omega) h
 have hajy := fun h : j < (argsL ar u2 0).length => hry.w.args_in (p := 0) (by omega) h
 have hlax := args_same (ar := ar) hhd
 have hla3 := hrx.w.args_le (p := 0) (by omega)
 have hex0 := hrx.w.end0
 have hey0 := hry.w.end0
 have leG4 := leG
 replace har := har.mono leG4
 replace hv1 := hv1.mono leG4
 replace hv2 := hv2.mono leG4
 replace f5_30ha := f5_30ha.mono leG4
 replace hf8 := hf8.mono leG4
 refine qc (qa (cX (qG rfl rfl (qb (qc ?_)))))
 refine qx (p := (j : Int) < ((((argsL ar u1 0)).length : Nat) : Int)) rfl (fun h24 => ?_) (fun h24 => ?_)
 ·have hjx : j < (argsL ar u1 0).length := by omega
  have hjy : j < (argsL ar u2 0).length := by omega
  obtain ⟨σ1, k1, N1, hσ1, hk1, hN1, hless⟩ := EqTo.less hso hb hσ hrx (by rw [parts_args]; exact hjx) hk hN
  have hpx := parts_W hrx.w hjx
  have hpy := parts_W hry.w hjy
  have hb2 := hso.ok
  rw [parts_get hjx] at hpx hN1
  rw [parts_get hjy] at hpy
  refine qw (qc (qF (qc (qa (qf (ii ((j : Int))) rfl (qh (ii ((j : Int))) rfl (qb ?_)))))))
  refine X.drawG [cellsH ub (arv :: bj) 200] L 21 [] [[], [], [1], [2], [3], [], [], [], [6, 7], [8], [4, 5, 9], [], [11], [12], [13], [], [], [], [16, 17], [18], [14, 15, 19]] [] (phiG [pe (ptr ub 0), pe (ptr ub 0), pe (ptr ub 0), pe (ptr ub 0), pe (.agg #[arv]), pe v1, pe u12, pe (ii ((j : Int)) : Value), pe (.pointer (some (elemA u12 (j)))), pe (ii (((argsL ar u1 0)).getD j 0)), fun FF us v => ((v) : Value) = v ∧ (IntsF FF (v) (sub ar u1 ((((argsL ar u1 0)).getD j 0).toNat))) ∧ (isNil (v) = false), pe (ptr ub 0), pe (ptr ub 0), pe (ptr ub 0), pe (.agg #[arv]), pe v2, pe v26, pe (ii ((j : Int)) : Value), pe (.pointer (some (elemA v26 (j)))), pe (ii (((argsL ar u2 0)).getD j 0)), fun FF us v => ((v) : Value) = v ∧ (IntsF FF (v) (sub ar u2 ((((argsL ar u2 0)).getD j 0).toNat))) ∧ (isNil (v) = false)]) (ownL []) mixed rfl rfl (by kernel_rfl) (by kernel_rfl) (MonoG.get (m1 (m1 (m1 (m1 (m1 (m1 (m1 (m1 (m1 (m1 (mC (fun le h => ⟨h.1, h.2.1.mono le, h.2.2⟩) (m1 (m1 (m1 (m1 (m1 (m1 (m1 (m1 (m1 (mC (fun le h => ⟨h.1, h.2.1.mono le, h.2.2⟩) MonoG.nil)))))))))))))))))))))) ?_ ?_
  ·refine gD (fun W Fs R lF z9 => ?_) ?_
   ·refine qg (qi (ptr ub 0) rfl ?_)
    exact ⟨rfl, rfl⟩
   refine gD (fun W Fs R lF z9 => ?_) ?_
   ·refine qg (qi (ptr ub 0) rfl ?_)
    exact ⟨rfl, rfl⟩
   refine gD (fun W Fs R lF z9 => ?_) ?_
   ·replace har := har.mono lF
    replace hv1 := hv1.mono lF
    replace hv2 := hv2.mono lF
    replace f5_30ha := f5_30ha.mono lF
    replace hf8 := hf8.mono lF
    replace hbj := hbj.mono lF
    rw [eS (l := [(1, _)]) ⟨z9 1 rfl, ⟨⟩⟩]
    refine qg (qN rfl ?_)
    exact ⟨rfl, rfl⟩
   refine gD (fun W Fs R lF z9 => ?_) ?_
   ·rw [eS (l := [(2, _)]) ⟨z9 2 rfl, ⟨⟩⟩]
    refine qg (qo (0) qV rfl qJ (by decide) rfl rfl ?_)
    exact ⟨rfl, rfl⟩
   refine gD (fun W Fs R lF z9 => ?_) ?_
   ·replace har := har.mono lF
    replace hv1 := hv1.mono lF
    replace hv2 := hv2.mono lF
    replace f5_30ha := f5_30ha.mono lF
    replace hf8 := hf8.mono lF
    replace hbj := hbj.mono lF
    rw [eS (l := [(3, _)]) ⟨z9 3 rfl, ⟨⟩⟩]
    refine qg (qB [arv] jd qJ rfl rfl (Rd.ownN [] rfl rfl) ?_)
    exact ⟨rfl, rfl⟩
   refine gD (fun W Fs R lF z9 => ?_) ?_
   ·refine qg (qi (v1) rfl ?_)
    exact ⟨rfl, rfl⟩
   refine gD (fun W Fs R lF z9 => ?_) ?_
   ·refine qg (qi (u12) rfl ?_)
    exact ⟨rfl, rfl⟩
   refine gD (fun W Fs R lF z9 => ?_) ?_
   ·refine qg (qi (ii ((j : Int))) rfl ?_)
    exact ⟨rfl, rfl⟩
   refine gD (fun W Fs R lF z9 => ?_) ?_
   ·replace har := har.mono lF
    replace hv1 := hv1.mono lF
    replace hv2 := hv2.mono lF
    replace f5_30ha := f5_30ha.mono lF
    replace hf8 := hf8.mono lF
    replace hbj := hbj.mono lF
    rw [eS (l := [(6, _), (7, _)]) ⟨z9 6 rfl, z9 7 rfl, ⟨⟩⟩]
    refine qg (qk j jn jF rfl rfl rfl f5_30ha.slv (by omega) (Nat.mul_one _) ?_)
    exact ⟨rfl, rfl⟩
   refine gD (fun W Fs R lF z9 => ?_) ?_
   ·replace har := har.mono lF
    replace hv1 := hv1.mono lF
    replace hv2 := hv2.mono lF
    replace f5_30ha := f5_30ha.mono lF
    replace hf8 := hf8.mono lF
    replace hbj := hbj.mono lF
    rw [eS (l := [(8, _)]) ⟨z9 8 rfl, ⟨⟩⟩]
    refine qg (qj isAgg3 rfl (f5_30ha.rd (by omega)) ?_)
    exact ⟨rfl, rfl⟩
   refine gD (fun W Fs R lF z9 => ?_) ?_
   ·replace har := har.mono lF
    replace hv1 := hv1.mono lF
    replace hv2 := hv2.mono lF
    replace hf8 := hf8.mono lF
    replace hbj := hbj.mono lF
    rw [eS (l := [(4, _), (5, _), (9, _)]) ⟨z9 4 rfl, z9 5 rfl, z9 9 rfl, ⟨⟩⟩]
    refine qg (qs (args := [.agg #[arv], v1, ii (((((argsL ar u1 0)).getD j 0).toNat : Nat) : Int)]) call224 (by rw [show (((((argsL ar u1 0)).getD j 0).toNat : Nat) : Int) = ((argsL ar u1 0)).getD j 0 from by omega]; rfl) (subAtW_spec (p := (((argsL ar u1 0)).getD j 0).toNat) har hv1 (ho := (by first | assumption | rfl | omega | simp)) (hp := (by first | assumption | rfl | omega | simp)) (hnn := (by first | assumption | rfl | omega | simp))) ?_)
    rintro v29 _ _ _ ⟨rfl, rfl, hv17, hn17⟩
    exact ⟨⟨rfl, hv17, hn17⟩, rfl⟩
   refine gD (fun W Fs R lF z9 => ?_) ?_
   ·refine qg (qi (ptr ub 0) rfl ?_)
    exact ⟨rfl, rfl⟩
   refine gD (fun W Fs R lF z9 => ?_) ?_
   ·replace har := har.mono lF
    replace hv2 := hv2.mono lF
    replace hf8 := hf8.mono lF
    replace hbj := hbj.mono lF
    rw [eS (l := [(11, _)]) ⟨z9 11 rfl, ⟨⟩⟩]
    refine qg (qN rfl ?_)
    exact ⟨rfl, rfl⟩
   refine gD (fun W Fs R lF z9 => ?_) ?_
   ·rw [eS (l := [(12, _)]) ⟨z9 12 rfl, ⟨⟩⟩]
    refine qg (qo (0) qV rfl qJ (by decide) rfl rfl ?_)
    exact ⟨rfl, rfl⟩
   refine gD (fun W Fs R lF z9 => ?_) ?_
   ·replace har := har.mono lF
    replace hv2 := hv2.mono lF
    replace hf8 := hf8.mono lF
    replace hbj := hbj.mono lF
    rw [eS (l := [(13, _)]) ⟨z9 13 rfl, ⟨⟩⟩]
    refine qg (qB [arv] jd qJ rfl rfl (Rd.ownN [] rfl rfl) ?_)
    exact ⟨rfl, rfl⟩
   refine gD (fun W Fs R lF z9 => ?_) ?_
   ·refine qg (qi (v2) rfl ?_)
    exact ⟨rfl, rfl⟩
   refine gD (fun W Fs R lF z9 => ?_) ?_
   ·refine qg (qi (v26) rfl ?_)
    exact ⟨rfl, rfl⟩
   refine gD (fun W Fs R lF z9 => ?_) ?_
   ·refine qg (qi (ii ((j : Int))) rfl ?_)
    exact ⟨rfl, rfl⟩
   refine gD (fun W Fs R lF z9 => ?_) ?_
   ·replace har := har.mono lF
    replace hv2 := hv2.mono lF
    replace hf8 := hf8.mono lF
    replace hbj := hbj.mono lF
    rw [eS (l := [(16, _), (17, _)]) ⟨z9 16 rfl, z9 17 rfl, ⟨⟩⟩]
    refine qg (qk j jn jF rfl rfl rfl hf8.slv (by omega) (Nat.mul_one _) ?_)
    exact ⟨rfl, rfl⟩
   refine gD (fun W Fs R lF z9 => ?_) ?_
   ·replace har := har.mono lF
    replace hv2 := hv2.mono lF
    replace hf8 := hf8.mono lF
    replace hbj := hbj.mono lF
    rw [eS (l := [(18, _)]) ⟨z9 18 rfl, ⟨⟩⟩]
    refine qg (qj isAgg3 rfl (hf8.rd (by omega)) ?_)
    exact ⟨rfl, rfl⟩
   refine gD (fun W Fs R lF z9 => ?_) ?_
   ·replace har := har.mono lF
    replace hv2 := hv2.mono lF
    replace hbj := hbj.mono lF
    rw [eS (l := [(14, _), (15, _), (19, _)]) ⟨z9 14 rfl, z9 15 rfl, z9 19 rfl, ⟨⟩⟩]
    refine qg (qs (args := [.agg #[arv], v2, ii (((((argsL ar u2 0)).getD j 0).toNat : Nat) : Int)]) call224 (by rw [show (((((argsL ar u2 0)).getD j 0).toNat : Nat) : Int) = ((argsL ar u2 0)).getD j 0 from by omega]; rfl) (subAtW_spec (p := (((argsL ar u2 0)).getD j 0).toNat) har hv2 (ho := (by first | assumption | rfl | omega | simp)) (hp := (by first | assumption | rfl | omega | simp)) (hnn := (by first | assumption | rfl | omega | simp))) ?_)
    rintro v30 _ _ _ ⟨rfl, rfl, hv18, hn18⟩
    exact ⟨⟨rfl, hv18, hn18⟩, rfl⟩
   exact stepsG.nil
  intro W F19 le19 hphi
  obtain ⟨e10, f10_31ha, f10_31hn⟩ := hphi 10 (by decide)
  obtain ⟨e20, f20_31ha, f20_31hn⟩ := hphi 20 (by decide)
  generalize hu11 : ((W 10)) = u13 at e10 f10_31ha f10_31hn e20 f20_31ha f20_31hn
  generalize hu12 : ((W 20)) = u14 at e10 f10_31ha f10_31hn e20 f20_31ha f20_31hn
  rw [eS (l := [(0, _), (10, u13), (20, u14)]) ⟨(hphi 0 (by decide)), hu11, hu12, ⟨⟩⟩]
  replace har := har.mono le19
  replace hbj := hbj.mono le19
  show XL _ _ _ _ _ _ _ (cellsH ub (arv :: bj) 200 :: L)
  refine XL.callP [ptr ub 0, u13, u14] call237 rfl (ih k1 N1 hless har hbj hb2 f10_31ha f20_31ha hσ1 hpx hpy (by assumption) (by assumption) hk1 hN1) ?_ ?_
  ·rintro _ _ _ _ ⟨b9, l9, rfl, hb9, hne9, rfl⟩
   rw [← parts_get hjx, ← parts_get hjy] at hne9
   exact .inr ⟨_, rfl, b9, l9, rfl, hb9, (EqTo.stop hso hrx hry (by rw [parts_args]; exact hjx) (by omega) hhd hne9), rfl⟩
  rintro _ F20 _ le20 ⟨b8, l4, rfl, hb4, hso4, rfl⟩
  replace hbj := hbj.mono le20
  rw [← parts_get hjx, ← parts_get hjy] at hso4
  have hso2 := EqTo.next hso hso4
  refine qb (qa (cX (qM (((j + 1 : Nat) : Int)) rfl rfl (by omega) (by omega) (qf (ii (((j + 1 : Nat) : Int))) rfl (qb ?_)))))
  exact ⟨(j + 1, b8, l4, F20), _, (qn (qn leG4 le19) le20), rF, ⟨rfl, rfl, rfl, rfl, rfl, rfl, rfl, ⟨⟩⟩, (sC sR), ⟨rfl, (qn (qn leG4 le19) le20), (hb4), (by (try dsimp only) <;> omega), (hso2)⟩, (by omega)⟩
 refine jc (qt (qt (qL (id (retEndNP (L' := cellsH ub (arv :: bj) 200 :: L) [] (.tuple #[]) (by exact .nil) rfl (qn (qn le17 le18) leG4) rF (sC sR) ?_)))))
 exact ⟨_, _, rfl, hbj, (EqTo.done hso hrx hry (by rw [parts_args]; omega) (by omega) hhd), rfl⟩

theorem equate_spec (k N : Nat) : ∀ {F : FH} {L : List HP} {ub : Nat} {arv : Value} {ar : List Int} {bs : List Value} {bl : RowL} (har : IntsF F arv ar) (hbc : BindC F bs bl) (hb : BOk ar bl) {σ : Sbs} {av : Value} {a : List Int} (ha : IntsF F av a) {cv : Value} {c : List Int} (hc : IntsF F cv c) (hσ : Sol bl σ) (hoa : TermW ar a) (hoc : TermW ar c) (hna : isNil av = false) (hnc : isNil cv = false) (hk : unb bl ≤ k) (hN : (ap σ a).length ≤ N), DoesP prog 237 [ptr ub 0, av, cv] F (cellsH ub (arv :: bs) 200 :: L) (fun v F' L' => ∃ (b9 : List Value) (l9 : RowL), (.tuple #[] : Value) = v ∧ BindC F' b9 l9 ∧ Solves ar bl l9 (fun θ => ap θ a = ap θ c) ∧ cellsH ub (arv :: b9) 200 :: L = L') (fun ch F' L' => ∃ (b9 : List Value) (l9 : RowL), ch = [{ v := .iface 230 (.agg #[]), recovered := false }] ∧ BindC F' b9 l9 ∧ (∀ θ, GoodS ar θ → SatB bl θ → ap θ a ≠ ap θ c) ∧ cellsH ub (arv :: b9) 200 :: L = L') := by
  induction k using Nat.strongRecOn generalizing N with
  | _ k ihk =>
    induction N using Nat.strongRecOn with
    | _ N ihN =>
      intros
      refine equate_step (fun k1 N1 h => ?_) (by assumption) (by assumption) (by assumption) (by assumption) (by assumption) (by assumption) (by assumption) (by assumption) (by assumption) (by assumption) (by assumption) (by assumption)
      rcases h with h | ⟨rfl, h⟩
      · exact ihk k1 h N1
      · exact ihN N1 h


set_option maxRecDepth 20000 in
theorem solve_catch {F : FH} {L : List HP} {b : Nat} {x : Bool} {w : World} (H : Holds F (cellsH b [.bool x] 4 :: L) w) :
    CallsD prog 236 #[.pointer (some ⟨b, 0, none⟩)] (.panicking [{ v := .iface 230 (.agg #[]), recovered := false }]) w fun e u' w' =>
      e = .returned (.tuple #[]) ∧ u' = .panicking [{ v := .iface 230 (.agg #[]), recovered := true }] ∧ Holds F (cellsH b [.bool false] 4 :: L) w' := by
  refine callsD_of_wpS func236 rfl fun c₀ cs hu => ?_
  apply wpS_seq
  apply wpS_region
  simp [wpOpsS, go_sem, recoverD, hu, ntmps236, Exit.thenS]
  apply wpS_seq
  apply wpS_region
  simp [wpOpsS, go_sem, recoverD, hu, ntmps236, Exit.thenS]
  refine wpS_cond (t := true) (by simp [Act.eval, Array.replicate]) ?_
  simp only [if_true]
  refine wpS_of_wp (Code.wp_mono ?_ (wp_of_X (n := 15) (Q := fun e ρ F' L' => e = .normal ∧ Sub L' (cellsH b [.bool false] 4 :: L)) [(0, ptr b 0), (1, .iface 230 (.agg #[]))] (by simp) rfl ⟨by simp, by simp [Array.replicate], ⟨⟩⟩ rfl (fun rE => ?_) H))
  · rintro e a' w' ⟨ρ, F', L', r, le, H', rfl, s⟩
    exact ⟨r.defers, _, rfl, _, results_none rfl _ _ _, rfl, rfl, s.holds (H'.forget le)⟩
  · skip
    refine qc (qc (qa (qf ((.iface 230 (.agg #[]))) rfl (cX (XOp.assertOk jm rfl (qf (.tuple #[.agg #[], .bool (true)]) rfl (cX (qY (.agg #[]) rfl rfl (cX (qY (.bool (true)) rfl rfl (cX (jB [] zeroValue230 rfl ?_))))))))))))
    intro b1
    refine cX (jk [] _ [] sizeOf230 rfl rfl rfl jl rfl rfl rfl (qh (.bool (true)) rfl (qb (qc (qa (qf (.bool (true)) rfl (cX (jr rfl (qb (jy rfl (qw (qa (cX (js [_] _ [.bool (false)] sizeOf4 rfl rfl rfl rfl rfl rfl (qb ?_)))))))))))))))
    exact ⟨rfl, (sD (sC sR))⟩


theorem solve_idle {p : Value} {w : World} :
    CallsD prog 236 #[p] .returning w fun e u' w' => e = .returned (.tuple #[]) ∧ u' = .returning ∧ w' = w := by
  refine callsD_of_wpS func236 rfl fun c₀ cs hu => ?_
  apply wpS_seq
  apply wpS_region
  simp [wpOpsS, go_sem, recoverD, hu, ntmps236, Exit.thenS]
  apply wpS_seq
  apply wpS_region
  simp [wpOpsS, go_sem, recoverD, hu, ntmps236, Exit.thenS]
  refine wpS_cond (t := false) (by simp [Act.eval, Array.replicate]) ?_
  simp only [Bool.false_eq_true, if_false]
  refine wpS_of_wp (wp_skip ?_)
  cases c₀
  simp_all [bodyPostS, results, results236]


set_option maxRecDepth 20000 in
theorem solve_spec {F : FH} {L : List HP} {ub : Nat} {arv : Value} {ar : List Int} {bs : List Value} {bl : RowL} (har : IntsF F arv ar) (hbc : BindC F bs bl) (hb : BOk ar bl) {av : Value} {a : List Int} (ha : IntsF F av a) {cv : Value} {c : List Int} (hc : IntsF F cv c) (hoa : TermW ar a) (hoc : TermW ar c) (hna : isNil av = false) (hnc : isNil cv = false) :
    Does prog 208 [ptr ub 0, av, cv] F (cellsH ub (arv :: bs) 200 :: L) (fun v F' L' => ∃ (ok : Bool) (b9 : List Value) (l9 : RowL), (.bool ok : Value) = v ∧ BindC F' b9 l9 ∧ (ok = true → Solves ar bl l9 (fun θ => ap θ a = ap θ c)) ∧ (ok = false → ∀ θ, GoodS ar θ → SatB bl θ → ap θ a ≠ ap θ c) ∧ cellsH ub (arv :: b9) 200 :: L = L') := by
  obtain ⟨σ, hσ⟩ := hb.sol
  intro w H
  have hmf : ∀ (fn : Go.Fn) (first cap : Array Value) (w : World), (Instr.makeFunc fn first cap).run prog w = .ok (.func fn first cap) w := fun _ _ _ _ => rfl
  refine (?_ : ∀ R : Ending → World → Prop, (∀ v F' L' w', F ≤ F' → Holds F' L' w' → (∃ (ok : Bool) (b9 : List Value) (l9 : RowL), (.bool ok : Value) = v ∧ BindC F' b9 l9 ∧ (ok = true → Solves ar bl l9 (fun θ => ap θ a = ap θ c)) ∧ (ok = false → ∀ θ, GoodS ar θ → SatB bl θ → ap θ a ≠ ap θ c) ∧ cellsH ub (arv :: b9) 200 :: L = L') → R (.returned v) w') → Calls prog 208 #[ptr ub 0, av, cv] w R) _ fun v F' L' w' le H' q => ⟨v, F', L', rfl, le, H', q⟩
  intro R hR
  go_enter_defers func208, ntmps208
  refine wp_seq (wp_region_lit (wpList_one rfl ?_))
  simp only [Oper.wp, execOp]
  simp [wpList, go_sem, Exit.then]
  refine wp_seq (wp_region_lit (wpList_one rfl ?_))
  simp [go_sem, hmf]
  refine wpList_one rfl ?_
  simp [go_sem, hmf]
  show Code.wp _ _ _ _ _
  refine wp_seq (wp_region_lit (wpList_one rfl ?_))
  simp [go_sem]
  refine wpList_one rfl ?_
  simp [go_sem]
  refine wpList_one rfl ?_
  simp [go_sem]
  refine wpList_one rfl ?_
  simp [go_sem, Oper.upon]
  have H1 : Holds F (cellsH w.heap.size [.bool false] 4 :: cellsH ub (arv :: bs) 200 :: L) (w.alloc (.cells #[.bool false] 4)) := H.new _
  have H2 : Holds F (cellsH ub (arv :: bs) 200 :: cellsH w.heap.size [.bool false] 4 :: L) (w.alloc (.cells #[.bool false] 4)) := (Sub.perm (List.Perm.swap ..)).holds H1
  refine (equate_spec _ _ har hbc hb ha hc hσ hoa hoc hna hnc (Nat.le_refl _) (Nat.le_refl _) _ H2).mono ?_
  rintro e w2 (⟨v, F2, L2, rfl, le, H3, b9, l9, rfl, hb9, hso, rfl⟩ | ⟨ch, F2, L2, rfl, le, H3, b9, l9, rfl, hb9, hne, rfl⟩)
  · show Code.wp _ _ _ _ _
    refine wp_seq (wp_region_lit (wpList_one rfl (wp_XOp_raw (F := F2) (K := fun v F' L' => F' = F2 ∧ L' = [cellsH ub (arv :: b9) 200] ++ cellsH w.heap.size [.bool true] 4 :: L) (js (b := w.heap.size) (o := 0) (v := .bool true) [_] _ [.bool true] sizeOf4 rfl rfl rfl rfl rfl rfl ⟨rfl, rfl⟩) H3 ?_)))
    rintro v F' L' w3 _ H4 ⟨rfl, rfl⟩
    show Code.wp _ _ _ _ _
    refine wp_ret ?_
    show Leaves _ _ _ _ _ _ _
    refine leaves_cons (f := 236) (args := #[.pointer (some ⟨w.heap.size, 0, none⟩)]) (by simp) (by simp [go_sem]) (solve_idle.mono ?_)
    rintro e u' w'' ⟨rfl, rfl, rfl⟩
    have hcell : w''.cell? ⟨w.heap.size, 0, none⟩ = some (.bool true) := cell_of_heap H4.getCells rfl
    exact ⟨.bool true, by simp [results, results208, go_sem, hcell], hR (.bool true) F' _ _ le ((sC (sD sR)).holds H4) ⟨true, b9, l9, rfl, hb9, fun _ => hso, fun h => (by cases h), rfl⟩⟩
  · show Leaves _ _ _ _ _ _ _
    refine leaves_cons (f := 236) (args := #[.pointer (some ⟨w.heap.size, 0, none⟩)]) (by simp) (by simp [go_sem]) ?_
    have H3' := (Sub.perm (List.Perm.swap ..)).holds H3
    refine (solve_catch H3').mono ?_
    rintro e u' w3 ⟨rfl, rfl, H4⟩
    have hcell : w3.cell? ⟨w.heap.size, 0, none⟩ = some (.bool false) := cell_of_heap (H4.getCells (A := [])) rfl
    exact ⟨.bool false, by simp [results, results208, go_sem, hcell], hR (.bool false) F2 _ _ le ((sD sR).holds H4) ⟨false, b9, l9, rfl, hb9, fun h => (by cases h), fun _ => hne, rfl⟩⟩


/- (*impl.unifier).resolve -/
set_option maxHeartbeats 1000000 in
theorem resolve_step {k : Nat} (ih : ∀ k9 : Nat, k9 < k → ∀ {F : FH} {L : List HP} {ub : Nat} {arv : Value} {ar : List Int} {bs : List Value} {bl : RowL} (har : IntsF F arv ar) (hbc : BindC F bs bl) (hb : BOk ar bl) {σ : Sbs} {ρ : Int → Nat} {ov : Value} {os : List Int} {tv : Value} {t : List Int} (ht : IntsF F tv t) (hov : IsSl ov) (hol : os.length ≤ 60) (hσ : Sol bl σ) (hρ : Acyc bl ρ) (htk : ∀ m ∈ t, m < 0 → ρ m < k9) (htg : ∀ i, i < t.length → -48 ≤ t.getD i 0) (htl : t.length ≤ 60), Does prog 182 [ptr ub 0, ov, tv] F (intsH 2 ov os :: cellsH ub (arv :: bs) 200 :: L) (fun v F' L' => ∃ a9 : Value, (.tuple #[a9, .bool (resOk σ os t)] : Value) = v ∧ IsSl a9 ∧ F = F' ∧ intsH 2 a9 ((resX σ os t)) :: cellsH ub (arv :: bs) 200 :: L = L')) {F : FH} {L : List HP} {ub : Nat} {arv : Value} {ar : List Int} {bs : List Value} {bl : RowL} (har : IntsF F arv ar) (hbc : BindC F bs bl) (hb : BOk ar bl) {σ : Sbs} {ρ : Int → Nat} {ov : Value} {os : List Int} {tv : Value} {t : List Int} (ht : IntsF F tv t) (hov : IsSl ov) (hol : os.length ≤ 60) (hσ : Sol bl σ) (hρ : Acyc bl ρ) (htk : ∀ m ∈ t, m < 0 → ρ m < k) (htg : ∀ i, i < t.length → -48 ≤ t.getD i 0) (htl : t.length ≤ 60) :
    Does prog 182 [ptr ub 0, ov, tv] F (intsH 2 ov os :: cellsH ub (arv :: bs) 200 :: L) (fun v F' L' => ∃ a9 : Value, (.tuple #[a9, .bool (resOk σ os t)] : Value) = v ∧ IsSl a9 ∧ F = F' ∧ intsH 2 a9 ((resX σ os t)) :: cellsH ub (arv :: bs) 200 :: L = L') := by
 refine qI func182 rfl rfl rfl ?_
 have hbl := hb.len
 refine qc (qa (qh (sN) rfl (qh (.bool (false)) rfl (qb (qc (qc (qa (qf (tv) rfl (cX (qD qd rfl ht.slv (qf (ii (0)) rfl (qb (qF (jg (α := Nat × Value × List Int) (fun xQ => [(0, ptr ub 0), (1, xQ.2.1), (11, tv), (12, ii ((t.length : Int))), (13, ii (((xQ.1 : Nat) : Int)))]) (fun xQ => intsH 2 xQ.2.1 xQ.2.2 :: cellsH ub (arv :: bs) 200 :: L) (fun xQ F' => F = F' ∧ (IsSl xQ.2.1) ∧ (xQ.1 ≤ t.length) ∧ (xQ.2.2 = os ++ ap σ (t.take xQ.1)) ∧ (xQ.2.2.length ≤ 60)) (fun xQ => t.length - xQ.1) (0, ov, os) ⟨rfl, rfl, rfl, rfl, rfl, ⟨⟩⟩ (sC (sC sR)) ⟨rfl, (hov), (by (try dsimp only) <;> omega), (by simp [ap]), (hol)⟩ ?_))))))))))))))
 rintro ⟨j, wv, ws⟩ rE _ _ ⟨rfl, hwv, hj, hws, hwl⟩
 show X _ _ _ _ (envs [(0, ptr ub 0), (1, wv), (11, tv), (12, ii ((t.length : Int))), (13, ii ((j : Int)))] rE) _ (intsH 2 wv ws :: cellsH ub (arv :: bs) 200 :: L)
 dsimp only at hwv hj hws hwl
 have hgj := fun h : j < t.length => htg j h
 have hwl2 : ws.length = os.length + (ap σ (t.take j)).length := by rw [hws, List.length_append]
 refine qc (qa (cX (qG rfl rfl (qb (qc ?_)))))
 refine qx (p := (j : Int) < (t.length : Int)) rfl (fun h1 => ?_) (fun h1 => ?_)
 ·refine qw (qc (qF (qc (qa (cX (qk j qd qm rfl rfl rfl ht.slv (by omega) (Nat.mul_one _) (cX (qj qC rfl (ht.rd (by omega)) (qh (ii (t.getD j 0)) rfl (qb (qc (qc (qa (qf (ii (t.getD j 0)) rfl (cX (qG rfl rfl (qf (.bool (decide ((t.getD j 0 : Int) < 0))) rfl ?_)))))))))))))))))
  by_cases h2 : (t.getD j 0 : Int) < 0
  ·have hj0 : t.getD j 0 < 0 := h2
   have hgj2 := hgj (by omega)
   have hrj := htk _ (mem_of_getD (k := j) (by omega) rfl) hj0
   refine qr (t := 19) rfl (vT h2) (qi (ptr ub 0) rfl (qr (t := 19) rfl (vT h2) (qi (ii (t.getD j 0)) rfl (qr (t := 19) rfl (vT h2) (jb ((-1) - (t.getD j 0)) rfl rfl (by omega) (by omega) (qr (t := 19) rfl (vT h2) (qN rfl (qr (t := 19) rfl (vT h2) (qo (1) qV rfl sizeOf198 (by decide) rfl rfl (qr (t := 19) rfl (vT h2) (jL (i := (-1) - (t.getD j 0)) (((-1) - (t.getD j 0)).toNat) (1 + (((-1) - (t.getD j 0)).toNat)) jA qq rfl rfl (by omega) (by omega) (by omega) ?_)))))))))))
   obtain ⟨a1, ha1, hn1, he1⟩ := hbc.get (i := ((-1) - (t.getD j 0)).toNat) (by omega)
   refine qr (t := 19) rfl (vT h2) (qj qQ rfl (Rd.own [_] rfl (get_1 he1)) (qr (t := 19) rfl (vT h2) (XOp.neNil qd rfl rfl (qE ha1) (cX (qS (.bool (!isNil a1)) (vT h2) rfl (qb ?_))))))
   refine X.cond (t := !isNil a1) rfl (fun h3 => ?_) (fun h3 => ?_)
   ·have hbn := ne_of_notNil hn1 h3
    have hnb : isNil a1 = false := by rw [hn1]; exact decide_eq_false hbn
    have hlj : lkN bl (t.getD j 0) ≠ [] := by rw [lkN_get hj0]; exact hbn
    have hwj := hb.wt _ hj0 hlj
    rw [lkN_get hj0] at hwj
    have hsj : σ (t.getD j 0) = ap σ (bl.getD (varIx (t.getD j 0)) []) := by rw [hσ.bound hlj, lkN_get hj0]
    refine qc (qa (qh (.bool (false)) rfl (qb (qc (qc (qa (qf (ptr ub 0) rfl (qf (wv) rfl (qf (ptr ub 0) rfl (qf (ii (t.getD j 0)) rfl (cX (jb ((-1) - (t.getD j 0)) rfl rfl (by omega) (by omega) (cX (qN rfl (cX (qo (1) qV rfl sizeOf198 (by decide) rfl rfl ?_))))))))))))))))
    refine cX (jL (i := (-1) - (t.getD j 0)) (((-1) - (t.getD j 0)).toNat) (1 + (((-1) - (t.getD j 0)).toNat)) jA qq rfl rfl (by omega) (by omega) (by omega) (cX (qj qQ rfl (Rd.own [_] rfl (get_1 he1)) (qZ (qA (A := [_])) ?_))))
    show XL _ _ _ _ _ _ _ (cellsH ub (arv :: bs) 200 :: intsH 2 wv ws :: L)
    refine qZ (qA (A := [_])) ?_
    show XL _ _ _ _ _ _ _ (intsH 2 wv ws :: cellsH ub (arv :: bs) 200 :: L)
    refine cX (qs (args := [ptr ub 0, wv, a1]) call182 rfl (ih _ hrj har hbc (by assumption) (os := ws) ha1 hwv hwl hσ hρ (fun m hm h0 => hρ _ hj0 m (by rw [lkN_get hj0]; exact hm) h0) (fun i hi => hwj.geD hi) hwj.len.2) ?_)
    rintro _ _ _ _ ⟨v1, rfl, hs1, rfl, rfl⟩
    refine qf (.tuple #[v1, .bool (resOk σ ws ((bl.getD (((-1) - (t.getD j 0)).toNat) [])))]) rfl (cX (qY (v1) rfl rfl (cX (qY (.bool (resOk σ ws ((bl.getD (((-1) - (t.getD j 0)).toNat) [])))) rfl rfl (qh (v1) rfl (qh (.bool (resOk σ ws ((bl.getD (((-1) - (t.getD j 0)).toNat) [])))) rfl (qb (qc (qa (qf (.bool (resOk σ ws ((bl.getD (((-1) - (t.getD j 0)).toNat) [])))) rfl (cX (jr rfl (qb ?_)))))))))))))
    refine X.cond (t := !(resOk σ ws ((bl.getD (((-1) - (t.getD j 0)).toNat) [])))) rfl (fun h4 => ?_) (fun h4 => ?_)
    ·have hro : resOk σ ws (bl.getD (varIx (t.getD j 0)) []) = false := Bool.not_inj (y := false) h4
     have hrn := of_decide_eq_false hro
     refine qc (qa (qh (sN) rfl (qh (.bool (false)) rfl (qb (qz (ql (ql (qy (ql (ql (qy (ql (qu (L' := intsH 2 (sN) ([]) :: cellsH ub (arv :: bs) 200 :: L) [sN, .bool (false)] (.tuple #[sN, .bool (false)]) (.tmp rfl (.tmp rfl .nil)) rfl rF rF (qK (intsH.addNil 2 none _) (sC (sD (sC sR)))) ?_)))))))))))))
     have e9 : resOk σ os t = false := res_no (j := j) (by omega) (by rw [hsj]; first | omega | (rw [List.length_singleton]; omega))
     have e8 : resX σ os t = [] := by unfold resX; rw [if_neg (by rw [e9]; simp)]
     rw [e9, e8]
     exact ⟨_, rfl, ⟨_, _, _, rfl⟩, rfl, rfl⟩
    have hro : resOk σ ws (bl.getD (varIx (t.getD j 0)) []) = true := Bool.not_inj (y := true) h4
    have hrn := of_decide_eq_true hro
    have hnext : resX σ ws (bl.getD (varIx (t.getD j 0)) []) = ws ++ σ (t.getD j 0) := by unfold resX; rw [if_pos hro, hsj]
    have hnlen : (resX σ ws (bl.getD (varIx (t.getD j 0)) [])).length ≤ 60 := by rw [hnext, List.length_append, hsj]; exact hrn
    refine qw (jc (qt (qL (qa (cX (qM (((j + 1 : Nat) : Int)) rfl rfl (by omega) (by omega) (qf (ii (((j + 1 : Nat) : Int))) rfl (qb ?_))))))))
    exact ⟨(j + 1, v1, (resX σ ws ((bl.getD (((-1) - (t.getD j 0)).toNat) [])))), _, FLe.refl _, rF, ⟨rfl, rfl, rfl, rfl, rfl, ⟨⟩⟩, (sC (sC sR)), ⟨rfl, (hs1), (by (try dsimp only) <;> omega), (by (try dsimp only); rw [ap_take (by omega), ← List.append_assoc, ← hws]; exact hnext), (by (try dsimp only); exact hnlen)⟩, (by omega)⟩
   have hbe := eq_of_isNil hn1 h3
   have hsj : σ (t.getD j 0) = [(t.getD j 0)] := hσ.free (by rw [lkN_get hj0]; exact hbe)
   refine qw (qc (qc (qa (qf (wv) rfl (cX (qD qd rfl (intsH.slv [] rfl) (cX (jH rfl rfl (qb ?_)))))))))
   refine qx (p := ((ws.length : Int) : Int) = 60) rfl (fun h5 => ?_) (fun h5 => ?_)
   ·refine qc (qa (qh (sN) rfl (qh (.bool (false)) rfl (qb (qz (ql (qy (ql (ql (qy (ql (qu (L' := intsH 2 (sN) ([]) :: cellsH ub (arv :: bs) 200 :: L) [sN, .bool (false)] (.tuple #[sN, .bool (false)]) (.tmp rfl (.tmp rfl .nil)) rfl rF rF (qK (intsH.addNil 2 none _) (sC (sD (sC sR)))) ?_))))))))))))
    have e9 : resOk σ os t = false := res_no (j := j) (by omega) (by rw [hsj]; first | omega | (rw [List.length_singleton]; omega))
    have e8 : resX σ os t = [] := by unfold resX; rw [if_neg (by rw [e9]; simp)]
    rw [e9, e8]
    exact ⟨_, rfl, ⟨_, _, _, rfl⟩, rfl, rfl⟩
   have hnext : ws ++ [(t.getD j 0)] = ws ++ σ (t.getD j 0) := by rw [hsj]
   have hnlen : (ws ++ [(t.getD j 0)]).length ≤ 60 := by rw [List.length_append, List.length_singleton]; omega
   refine qw (qa (qf (wv) rfl (qf (ii (t.getD j 0)) rfl (cX (qU (s := 1) [ii (t.getD j 0)] [ii (0)] [(0, [ii (t.getD j 0)])] qd qm jx rfl (by decide) rfl (.cons rfl CellsAre.nil) rfl ?_)))))
   intro v2 hv1
   refine cX (XOp.append1 (u := t.getD j 0) [_] _ qd typeInfo2 rfl rfl rfl rfl rfl rfl (SlV.own [] rfl) (Rd.sl [] rfl rfl) (by (try simp only [List.length_append, List.length_nil, List.length_cons, List.length_singleton, List.length_take, List.length_drop]); omega) ?_)
   intro v3 hs2 hn2
   refine qh (v3) rfl (qb (qa (cX (qM (((j + 1 : Nat) : Int)) rfl rfl (by omega) (by omega) (qf (ii (((j + 1 : Nat) : Int))) rfl (qb ?_))))))
   exact ⟨(j + 1, v3, ws ++ [t.getD j 0]), _, FLe.refl _, rF, ⟨rfl, rfl, rfl, rfl, rfl, ⟨⟩⟩, (sD (sC (sC sR))), ⟨rfl, (hs2), (by (try dsimp only) <;> omega), (by (try dsimp only); rw [ap_take (by omega), ← List.append_assoc, ← hws]; exact hnext), (by (try dsimp only); exact hnlen)⟩, (by omega)⟩
  have hsj : σ (t.getD j 0) = [(t.getD j 0)] := hσ.sym (by omega)
  refine qp (t := 19) rfl (vF h2) (qp (t := 19) rfl (vF h2) (qp (t := 19) rfl (vF h2) (qp (t := 19) rfl (vF h2) (qp (t := 19) rfl (vF h2) (qp (t := 19) rfl (vF h2) (qp (t := 19) rfl (vF h2) (qp (t := 19) rfl (vF h2) (cX (qT (.bool (false)) (vF h2) rfl (qb ?_))))))))))
  refine jy rfl (qw (qc (qc (qa (qf (wv) rfl (cX (qD qd rfl (intsH.slv [] rfl) (cX (jH rfl rfl (qb ?_))))))))))
  refine qx (p := ((ws.length : Int) : Int) = 60) rfl (fun h6 => ?_) (fun h6 => ?_)
  ·refine qc (qa (qh (sN) rfl (qh (.bool (false)) rfl (qb (qz (ql (qy (ql (ql (qy (ql (qu (L' := intsH 2 (sN) ([]) :: cellsH ub (arv :: bs) 200 :: L) [sN, .bool (false)] (.tuple #[sN, .bool (false)]) (.tmp rfl (.tmp rfl .nil)) rfl rF rF (qK (intsH.addNil 2 none _) (sC (sD (sC sR)))) ?_))))))))))))
   have e9 : resOk σ os t = false := res_no (j := j) (by omega) (by rw [hsj]; first | omega | (rw [List.length_singleton]; omega))
   have e8 : resX σ os t = [] := by unfold resX; rw [if_neg (by rw [e9]; simp)]
   rw [e9, e8]
   exact ⟨_, rfl, ⟨_, _, _, rfl⟩, rfl, rfl⟩
  have hnext : ws ++ [(t.getD j 0)] = ws ++ σ (t.getD j 0) := by rw [hsj]
  have hnlen : (ws ++ [(t.getD j 0)]).length ≤ 60 := by rw [List.length_append, List.length_singleton]; omega
  refine qw (qa (qf (wv) rfl (qf (ii (t.getD j 0)) rfl (cX (qU (s := 1) [ii (t.getD j 0)] [ii (0)] [(0, [ii (t.getD j 0)])] qd qm jx rfl (by decide) rfl (.cons rfl CellsAre.nil) rfl ?_)))))
  intro v4 hv2
  refine cX (XOp.append1 (u := t.getD j 0) [_] _ qd typeInfo2 rfl rfl rfl rfl rfl rfl (SlV.own [] rfl) (Rd.sl [] rfl rfl) (by (try simp only [List.length_append, List.length_nil, List.length_cons, List.length_singleton, List.length_take, List.length_drop]); omega) ?_)
  intro v5 hs3 hn3
  refine qh (v5) rfl (qb (qa (cX (qM (((j + 1 : Nat) : Int)) rfl rfl (by omega) (by omega) (qf (ii (((j + 1 : Nat) : Int))) rfl (qb ?_))))))
  exact ⟨(j + 1, v5, ws ++ [t.getD j 0]), _, FLe.refl _, rF, ⟨rfl, rfl, rfl, rfl, rfl, ⟨⟩⟩, (sD (sC (sC sR))), ⟨rfl, (hs3), (by (try dsimp only) <;> omega), (by (try dsimp only); rw [ap_take (by omega), ← List.append_assoc, ← hws]; exact hnext), (by (try dsimp only); exact hnlen)⟩, (by omega)⟩
 refine jc (qt (qt (qL (qc (qa (qf (wv) rfl (qh (wv) rfl (qh (.bool (true)) rfl (qb (qz (qu (L' := intsH 2 wv ws :: cellsH ub (arv :: bs) 200 :: L) [wv, .bool (true)] (.tuple #[wv, .bool (true)]) (.tmp rfl (.tmp rfl .nil)) rfl rF rF (sC (sC sR)) ?_)))))))))))
 obtain ⟨e9, e8⟩ := res_end (σ := σ) (os := os) (t := t) (j := j) (by omega) (by omega)
 rw [e9, e8, ← hws]
 exact ⟨_, rfl, hwv, rfl, rfl⟩

theorem resolve_spec (k : Nat) : ∀ {F : FH} {L : List HP} {ub : Nat} {arv : Value} {ar : List Int} {bs : List Value} {bl : RowL} (har : IntsF F arv ar) (hbc : BindC F bs bl) (hb : BOk ar bl) {σ : Sbs} {ρ : Int → Nat} {ov : Value} {os : List Int} {tv : Value} {t : List Int} (ht : IntsF F tv t) (hov : IsSl ov) (hol : os.length ≤ 60) (hσ : Sol bl σ) (hρ : Acyc bl ρ) (htk : ∀ m ∈ t, m < 0 → ρ m < k) (htg : ∀ i, i < t.length → -48 ≤ t.getD i 0) (htl : t.length ≤ 60), Does prog 182 [ptr ub 0, ov, tv] F (intsH 2 ov os :: cellsH ub (arv :: bs) 200 :: L) (fun v F' L' => ∃ a9 : Value, (.tuple #[a9, .bool (resOk σ os t)] : Value) = v ∧ IsSl a9 ∧ F = F' ∧ intsH 2 a9 ((resX σ os t)) :: cellsH ub (arv :: bs) 200 :: L = L') := by
  induction k using Nat.strongRecOn with
  | _ k ih =>
    intros
    exact resolve_step ih (by assumption) (by assumption) (by assumption) (by assumption) (by assumption) (by assumption) (by assumption) (by assumption) (by assumption) (by assumption) (by assumption)


/- impl.away -/
theorem away_spec {F : FH} {L : List HP} {tv : Value} {t : List Int} (ht : IntsF F tv t) (hlt : t.length ≤ 4000000) (htg : ∀ i, i < t.length → -4000000 ≤ t.getD i 0) :
    Does prog 183 [tv] F (L) (fun v F' L' => F = F' ∧ IsSl v ∧ intsH 2 v (awayL t) :: L = L') := by
 refine qI func183 rfl rfl rfl (qc (qa (qh (sN) rfl (qb (qc (qa (qf (tv) rfl (cX (qs (args := [tv]) call188 rfl (Clone_spec ht (hlt := (by first | assumption | rfl | omega | simp))) ?_)))))))))
 rintro v1 _ _ _ ⟨rfl, hs1, rfl⟩
 refine qh (v1) rfl (qb (qc (qc (qa (qf (v1) rfl (cX (qD qd rfl (intsH.slv [] rfl) (qf (ii (0)) rfl (qb (qF (jg (α := Nat × List Int) (fun xQ => [(3, v1), (8, v1), (9, ii (((((t)).length : Nat) : Int))), (10, ii (((xQ.1 : Nat) : Int)))]) (fun xQ => intsH 2 v1 xQ.2 :: L) (fun xQ F' => F = F' ∧ (xQ.1 ≤ t.length) ∧ (xQ.2 = awayL (t.take xQ.1) ++ t.drop xQ.1)) (fun xQ => t.length - xQ.1) (0, t) ⟨rfl, rfl, rfl, rfl, ⟨⟩⟩ (sC sR) ⟨rfl, (by (try dsimp only) <;> omega), (by simp [awayL])⟩ ?_)))))))))))
 rintro ⟨k, ws⟩ rE _ _ ⟨rfl, hk, hws⟩
 show X _ _ _ _ (envs [(3, v1), (8, v1), (9, ii (((((t)).length : Nat) : Int))), (10, ii ((k : Int)))] rE) _ (intsH 2 v1 ws :: L)
 dsimp only at hk hws
 have hwl : ws.length = t.length := by rw [hws]; simp [awayL]; omega
 have hgk := htg k
 have hwk : k < t.length → ws.getD k 0 = t.getD k 0 := fun h => by rw [hws]; exact away_at h
 refine qc (qa (cX (qG rfl rfl (qb (qc ?_)))))
 refine qx (p := (k : Int) < ((((t)).length : Nat) : Int)) rfl (fun h1 => ?_) (fun h1 => ?_)
 ·refine qw (qc (qF (qc (qa (qf (ii ((k : Int))) rfl (cX (qk k qd qm rfl rfl rfl (intsH.slv [] rfl) (by omega) (Nat.mul_one _) (cX (qj qC rfl (intsH.rd [] rfl (by omega)) (qh (ii ((k : Int))) rfl (qh (ii (ws.getD k 0)) rfl (qb (qc (qa (qf (ii (ws.getD k 0)) rfl (cX (qG rfl rfl (qb ?_))))))))))))))))))
  refine qx (p := (ws.getD k 0 : Int) < 0) rfl (fun h2 => ?_) (fun h2 => ?_)
  ·refine qa (qf (v1) rfl (qf (ii ((k : Int))) rfl (qf (ii (ws.getD k 0)) rfl (cX (jb ((ws.getD k 0) - 24) rfl rfl (by omega) (by omega) (cX (qk k qd qm rfl rfl rfl (intsH.slv [] rfl) (by omega) (Nat.mul_one _) (cX (intsH.storeX (i := k) (v := v1) [] _ (ws.set k ((ws.getD k 0) - 24)) qm rfl rfl rfl (by omega) rfl (qb (qa (cX (qM (((k + 1 : Nat) : Int)) rfl rfl (by omega) (by omega) (qf (ii (((k + 1 : Nat) : Int))) rfl ?_))))))))))))))
   refine qb ?_
   exact ⟨(k + 1, (ws.set k ((ws.getD k 0) - 24))), _, FLe.refl _, rF, ⟨rfl, rfl, rfl, rfl, ⟨⟩⟩, (sC sR), ⟨rfl, (by (try dsimp only) <;> omega), (away_next (by omega) hws (by first | (right; exact ⟨rfl, by omega⟩) | (left; exact ⟨by rw [hwk (by omega)], by omega⟩)))⟩, (by omega)⟩
  refine qw (qa (cX (qM (((k + 1 : Nat) : Int)) rfl rfl (by omega) (by omega) (qf (ii (((k + 1 : Nat) : Int))) rfl (qb ?_)))))
  exact ⟨(k + 1, ws), _, FLe.refl _, rF, ⟨rfl, rfl, rfl, rfl, ⟨⟩⟩, (sC sR), ⟨rfl, (by (try dsimp only) <;> omega), (away_next (by omega) hws (by first | (right; exact ⟨rfl, by omega⟩) | (left; exact ⟨by rw [hwk (by omega)], by omega⟩)))⟩, (by omega)⟩
 refine jc (qt (qt (qL (qc (qa (qf (v1) rfl (qh (v1) rfl (qb (qz (qu (L' := intsH 2 v1 ws :: L) [v1] (v1) (.tmp rfl .nil) rfl rF rF (sC sR) ?_))))))))))
 refine ⟨rfl, hs1, ?_⟩
 have hxs : (awayL t : List Int) = ws := by rw [hws, show k = t.length from by omega]; simp
 exact congrArg (fun z => intsH 2 _ z :: L) hxs
end Go.Proofs.Ytcdjpapjjoldeaa
