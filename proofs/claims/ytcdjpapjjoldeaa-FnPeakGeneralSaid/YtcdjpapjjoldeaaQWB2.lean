/-
  Walks, one after the other (part 3).
-/
import Derived.Test.YtcdjpapjjoldeaaQWL1
import Derived.Test.YtcdjpapjjoldeaaQWB1
import Derived.Recover
import Derived.Tactics
import Derived.Tactics2
set_option linter.unusedSimpArgs false
set_option linter.unusedVariables false
namespace Go.Proofs.Ytcdjpapjjoldeaa
open Go X M Try

theorem endAtW_ok {F : FH} {L : List HP} {p : Nat} {arv : Value} {ar : List Int} (har : IntsF F arv ar) {tv : Value} {t : List Int} (ht : IntsF F tv t) (ho : TermW ar t) (hp : p < t.length) :
    Does prog 150 [.agg #[arv], tv, ii (p : Int)] F L (fun v F' L' => (ii ((endN ar t p : Nat) : Int) : Value) = v ∧ F = F' ∧ L = L') := by
  have hl := ho.len
  have h := endAt_spec (F := F) (L := L) (p := p) har ht ho.sig (by omega) (by omega)
  rw [ho.endZ hp] at h
  exact h


/- impl.subAt -/
theorem subAtW_spec {F : FH} {L : List HP} {arv : Value} {ar : List Int} (har : IntsF F arv ar) {tv : Value} {t : List Int} (ht : IntsF F tv t) {p : Nat} (ho : TermW ar t) (hp : p < t.length) (hnn : isNil tv = false) :
    Does prog 224 [.agg #[arv], tv, ii ((p : Int))] F (L) (fun v F' L' => F = F' ∧ L = L' ∧ IntsF F v (sub ar t p) ∧ isNil v = false) := by
 refine qI func224 rfl rfl rfl ?_
 have hsl := sigOk_spec ho.sig
 have htl := ho.len
 have hsig := ho.sig
 have hee := ho.endN hp
 refine qc (qa (cX (jc [arv] rfl rfl ?_)))
 intro b1
 refine qg (sN) rfl (qb (qc (qa (qf (tv) rfl (qf (ii ((p : Int))) rfl (cX (qy [arv] ja qF rfl rfl (Rd.ownN [] rfl rfl) (qf (tv) rfl (qf (ii ((p : Int))) rfl (cX (qr (args := [.agg #[arv], tv, ii (p : Int)]) call150 rfl (endAtW_ok (p := p) har ht (ho := (by first | assumption | rfl | omega | (left; simp; done) | (right; simp; done))) (hp := (by first | assumption | rfl | omega | (left; simp; done) | (right; simp; done)))) ?_)))))))))))
 rintro _ _ _ _ ⟨rfl, rfl, rfl⟩
 refine cX (yf p (endN ar t p) qd qm rfl ht ⟨_, rfl⟩ ⟨_, rfl⟩ (by omega) (by omega) ?_)
 intro v1 hv1 hn1
 refine qg (v1) rfl (qb (qw (qv (L' := L) [v1] (v1) (.tmp rfl .nil) rfl rF rF (sD sR) ?_)))
 exact ⟨rfl, rfl, hv1, by rw [hn1]; exact hnn⟩

/- impl.argsAt -/
theorem argsAtW_spec {F : FH} {L : List HP} {arv : Value} {ar : List Int} (har : IntsF F arv ar) {tv : Value} {t : List Int} (ht : IntsF F tv t) {p : Nat} (ho : TermW ar t) (hp : p < t.length) :
    Does prog 222 [.agg #[arv], tv, ii ((p : Int))] F (L) (fun v F' L' => F = F' ∧ IsSl v ∧ intsH 3 v (argsL ar t p) :: L = L') := by
 refine qI func222 rfl rfl rfl ?_
 have hsl := sigOk_spec ho.sig
 have htl := ho.len
 have hsig := ho.sig
 have hA := arity_le hsig (ho.lt hp)
 have hge := ho.geD hp
 have hlt := ho.lt hp
 refine qc (qa (cX (jc [arv] rfl rfl ?_)))
 intro b1
 refine qg (sN) rfl (qb (qc (qa (qg (sN) rfl (qb (qc (qa (qf (ii ((p : Int))) rfl (cX (qS (((p + 1 : Nat) : Int)) rfl rfl (by omega) (by omega) (qg (ii (((p + 1 : Nat) : Int))) rfl (qb (qc (qc ?_))))))))))))))
 refine jI [cellsH b1 [arv] 29] L 5 [] [[], [], [], [1, 2], [3]] (phiL [qe (.agg #[arv]), qe tv, qe (ii ((p : Int)) : Value), qe (.pointer (some (elemA tv (p)))), qe (ii (t.getD p 0))]) (ownL []) mixed rfl rfl (by kernel_rfl) ?_ ?_
 ·refine pD (fun W R z9 => ?_) ?_
  ·refine qj (qy [arv] ja qF rfl rfl (Rd.ownN [] rfl rfl) ?_)
   exact ⟨rfl, rfl, rfl⟩
  refine pD (fun W R z9 => ?_) ?_
  ·refine qj (ql (tv) rfl ?_)
   exact ⟨rfl, rfl, rfl⟩
  refine pD (fun W R z9 => ?_) ?_
  ·refine qj (ql (ii ((p : Int))) rfl ?_)
   exact ⟨rfl, rfl, rfl⟩
  refine pD (fun W R z9 => ?_) ?_
  ·rw [eS (l := [(1, _), (2, _)]) ⟨z9 1 rfl, z9 2 rfl, ⟨⟩⟩]
   refine qj (qu p qd qm rfl rfl rfl ht.slv (by omega) (Nat.mul_one _) ?_)
   exact ⟨rfl, rfl, rfl⟩
  refine pD (fun W R z9 => ?_) ?_
  ·rw [eS (l := [(3, _)]) ⟨z9 3 rfl, ⟨⟩⟩]
   refine qj (qi qQ rfl (ht.rd (by omega)) ?_)
   exact ⟨rfl, rfl, rfl⟩
  exact stepsP.nil
 intro W hphi
 rw [eS (l := [(0, _), (4, _)]) ⟨(hphi 0 (by decide)), (hphi 4 (by decide)), ⟨⟩⟩]
 show XL _ _ _ _ _ _ _ (cellsH b1 [arv] 29 :: L)
 refine cX (qr (args := [.agg #[arv], ii (t.getD p 0)]) call243 rfl (arityAt_spec (n := t.getD p 0) har (hn := (by first | assumption | rfl | omega | simp))) ?_)
 rintro _ _ _ _ ⟨rfl, rfl, rfl⟩
 refine qg (ii (arity ar (t.getD p 0))) rfl (qb (qL (jn (α := Nat × Nat × Value × List Int) (fun xQ => [(1, tv), (3, ptr b1 0), (7, xQ.2.2.1), (8, ii (((xQ.2.1 : Nat) : Int))), (9, ii (((xQ.1 : Nat) : Int)))]) (fun xQ => intsH 3 xQ.2.2.1 xQ.2.2.2 :: cellsH b1 [arv] 29 :: L) (fun xQ F' => F = F' ∧ (IsSl xQ.2.2.1) ∧ (Stand ar t xQ.1 xQ.2.1 (endN ar t p)) ∧ (argsL ar t p = xQ.2.2.2 ++ argsGo ar t xQ.1 xQ.2.1) ∧ (xQ.2.2.2.length + xQ.1 ≤ 3)) (fun xQ => xQ.1) ((arity ar (t.getD p 0)).toNat, p + 1, sN, []) ⟨rfl, rfl, rfl, rfl, (vI (by first | omega | (rw [sArity_eq (by omega)]; omega))), ⟨⟩⟩ (jE (intsH.addNil 3 none _) (sC (sC sR))) ⟨rfl, (⟨_, _, _, rfl⟩), (ho.stand0 hp), (rfl), (by rw [List.length_nil]; omega)⟩ ?_)))
 rintro ⟨m, q, ov, os⟩ rE _ _ ⟨rfl, hov, hS, hos, hol⟩
 show X _ _ _ _ (envs [(1, tv), (3, ptr b1 0), (7, ov), (8, ii ((q : Int))), (9, ii ((m : Int)))] rE) _ (intsH 3 ov os :: cellsH b1 [arv] 29 :: L)
 dsimp only at hov hS hos hol
 have hst := fun (h : 1 ≤ m) => ho.stand (n := m - 1) (by rw [Nat.sub_add_cancel h]; exact hS)
 refine qc (qc (qa (qf (ii ((m : Int))) rfl (cX (jL rfl rfl (qb ?_))))))
 refine qA (p := (m : Int) > 0) rfl (fun h1 => ?_) (fun h1 => ?_)
 ·refine qz (qc (qL (qc (qa (qf (ov) rfl (qf (ii ((q : Int))) rfl (cX (qt (s := 1) [ii ((q : Int))] [ii (0)] [(0, [ii ((q : Int))])] jU yb zeroValue3 rfl (by decide) rfl (.cons rfl CellsAre.nil) rfl ?_))))))))
  intro v1 hv1
  refine cX (ye (u := (q : Int)) [_] _ jU typeInfo3 rfl rfl rfl rfl rfl rfl (SlV.own [] rfl) (Rd.sl [] rfl rfl) (by (try simp only [List.length_append, List.length_nil, List.length_cons, List.length_singleton, List.length_take, List.length_drop]); omega) ?_)
  intro v2 hs1 hn1
  refine qg (v2) rfl (qb (qa (cX (qy [arv] ja qF rfl rfl (Rd.ownN [_, _] rfl rfl) (qf (tv) rfl (qf (ii ((q : Int))) rfl (cX (qr (args := [.agg #[arv], tv, ii (q : Int)]) call150 rfl (endAtW_ok (p := q) har ht (ho := (by first | assumption | rfl | omega | (left; simp; done) | (right; simp; done))) (hp := (hst (by omega)).1)) ?_))))))))
  rintro _ _ _ _ ⟨rfl, rfl, rfl⟩
  refine qg (ii (((endN ar t q : Nat) : Int))) rfl (qb (qa (qf (ii ((m : Int))) rfl (cX (jf (((m : Int)) - 1) rfl rfl (by omega) (by omega) (qg (ii (((m : Int)) - 1)) rfl (qb ?_)))))))
  exact ⟨(m - 1, endN ar t q, v2, os ++ [(q : Int)]), _, FLe.refl _, rF, ⟨rfl, rfl, rfl, rfl, (vI (by omega)), ⟨⟩⟩, (sD (sC (sC sR))), ⟨rfl, (hs1), ((hst (by omega)).2.1), (args_nextW (by omega) hos), (by dsimp only; rw [List.length_append, List.length_singleton]; omega)⟩, (by omega)⟩
 refine jj (qx (qx (qO (qc (qa (qf (ov) rfl (qg (ov) rfl (qb (qw (qv (L' := intsH 3 ov os :: L) [ov] (ov) (.tmp rfl .nil) rfl rF rF (sC (sD sR)) ?_))))))))))
 refine ⟨rfl, hov, ?_⟩
 have hxs : (argsL ar t p : List Int) = os := by rw [hos, show m = 0 from by omega]; simp [argsGo]
 exact congrArg (fun z => intsH 3 _ z :: L) hxs

/- (*impl.unifier).root -/
theorem root_spec {F : FH} {L : List HP} {ub : Nat} {arv : Value} {ar : List Int} {bs : List Value} {bl : RowL} (har : IntsF F arv ar) (hbc : BindC F bs bl) (hb : BOk ar bl) {tv : Value} {t : List Int} (ht : IntsF F tv t) (ho : TermW ar t) (hnn : isNil tv = false) :
    Does prog 248 [ptr ub 0, tv] F (cellsH ub (arv :: bs) 200 :: L) (fun v F' L' => ∃ u : List Int, IntsF F v u ∧ isNil v = false ∧ Root ar bl t u ∧ F = F' ∧ cellsH ub (arv :: bs) 200 :: L = L') := by
 refine qI func248 rfl rfl rfl ?_
 obtain ⟨ρ, hρ⟩ := hb.acyc
 have hbl := hb.len
 refine qc (qa (qg (sN) rfl (qb (qc (qL (jn (α := Value × List Int) (fun xQ => [(0, ptr ub 0), (1, xQ.1)]) (fun xQ => cellsH ub (arv :: bs) 200 :: L) (fun xQ F' => F = F' ∧ (IntsF F xQ.1 xQ.2) ∧ (isNil xQ.1 = false) ∧ (RootTo ar bl t xQ.2)) (fun xQ => rootMu ρ xQ.2) (tv, t) ⟨rfl, rfl, ⟨⟩⟩ (sC sR) ⟨rfl, (ht), (hnn), (RootTo.refl ho)⟩ ?_))))))
 rintro ⟨uv, u⟩ rE _ _ ⟨rfl, huv, hun, hrt⟩
 show X _ _ _ _ (envs [(0, ptr ub 0), (1, uv)] rE) _ (cellsH ub (arv :: bs) 200 :: L)
 dsimp only at huv hun hrt
 have hul := hrt.1.len
 have hug := hrt.1.geD (p := 0) (by omega)
 refine qc (qc ?_)
 by_cases h1 : (u.getD 0 0 : Int) < 0
 ·have hx0 : u.getD 0 0 < 0 := h1
  refine jI [cellsH ub (arv :: bs) 200] L 12 [] [[], [0], [1], [2], [3], [4], [4], [4, 6], [4, 7], [4, 8], [4, 5], [4, 10]] (phiL [qe uv, qe (.pointer (some (elemA uv (0)))), qe (ii (u.getD 0 0)), qe (.bool (decide ((u.getD 0 0 : Int) < 0)) : Value), qe (.bool (decide ((u.getD 0 0 : Int) < 0)) : Value), qe (ptr ub 0), qe uv, qe (.pointer (some (elemA uv (0)))), qe (ii (u.getD 0 0)), qe (ii ((-1) - (u.getD 0 0))), qe (ptr ub 0), qe (ptr ub 1)]) (ownL []) mixed rfl rfl (by kernel_rfl) ?_ ?_
  ·refine pD (fun W R z9 => ?_) ?_
   ·refine qj (ql (uv) rfl ?_)
    exact ⟨rfl, rfl, rfl⟩
   refine pD (fun W R z9 => ?_) ?_
   ·rw [eS (l := [(0, _)]) ⟨z9 0 rfl, ⟨⟩⟩]
    refine qj (qu 0 qd qm rfl rfl rfl huv.slv (by omega) (Nat.mul_one _) ?_)
    exact ⟨rfl, rfl, rfl⟩
   refine pD (fun W R z9 => ?_) ?_
   ·rw [eS (l := [(1, _)]) ⟨z9 1 rfl, ⟨⟩⟩]
    refine qj (qi qQ rfl (huv.rd (by omega)) ?_)
    exact ⟨rfl, rfl, rfl⟩
   refine pD (fun W R z9 => ?_) ?_
   ·rw [eS (l := [(2, _)]) ⟨z9 2 rfl, ⟨⟩⟩]
    refine qj (qT rfl rfl ?_)
    exact ⟨rfl, rfl, rfl⟩
   refine pD (fun W R z9 => ?_) ?_
   ·rw [eS (l := [(3, _)]) ⟨z9 3 rfl, ⟨⟩⟩]
    refine qj (ql (.bool (decide ((u.getD 0 0 : Int) < 0))) rfl ?_)
    exact ⟨rfl, rfl, rfl⟩
   refine pD (fun W R z9 => ?_) ?_
   ·rw [eS (l := [(4, _)]) ⟨z9 4 rfl, ⟨⟩⟩]
    refine jt (t := 9) rfl (vT h1) (ql (ptr ub 0) rfl ?_)
    exact ⟨rfl, rfl, rfl⟩
   refine pD (fun W R z9 => ?_) ?_
   ·rw [eS (l := [(4, _)]) ⟨z9 4 rfl, ⟨⟩⟩]
    refine jt (t := 9) rfl (vT h1) (ql (uv) rfl ?_)
    exact ⟨rfl, rfl, rfl⟩
   refine pD (fun W R z9 => ?_) ?_
   ·rw [eS (l := [(4, _), (6, _)]) ⟨z9 4 rfl, z9 6 rfl, ⟨⟩⟩]
    refine jt (t := 9) rfl (vT h1) (qu 0 qd qm rfl rfl rfl huv.slv (by omega) (Nat.mul_one _) ?_)
    exact ⟨rfl, rfl, rfl⟩
   refine pD (fun W R z9 => ?_) ?_
   ·rw [eS (l := [(4, _), (7, _)]) ⟨z9 4 rfl, z9 7 rfl, ⟨⟩⟩]
    refine jt (t := 9) rfl (vT h1) (qi qQ rfl (huv.rd (by omega)) ?_)
    exact ⟨rfl, rfl, rfl⟩
   refine pD (fun W R z9 => ?_) ?_
   ·rw [eS (l := [(4, _), (8, _)]) ⟨z9 4 rfl, z9 8 rfl, ⟨⟩⟩]
    refine jt (t := 9) rfl (vT h1) (jf ((-1) - (u.getD 0 0)) rfl rfl (by omega) (by omega) ?_)
    exact ⟨rfl, rfl, rfl⟩
   refine pD (fun W R z9 => ?_) ?_
   ·rw [eS (l := [(4, _), (5, _)]) ⟨z9 4 rfl, z9 5 rfl, ⟨⟩⟩]
    refine jt (t := 9) rfl (vT h1) (ji rfl ?_)
    exact ⟨rfl, rfl, rfl⟩
   refine pD (fun W R z9 => ?_) ?_
   ·rw [eS (l := [(4, _), (10, _)]) ⟨z9 4 rfl, z9 10 rfl, ⟨⟩⟩]
    refine jt (t := 9) rfl (vT h1) (qo (1) jA rfl sizeOf198 (by decide) rfl rfl ?_)
    exact ⟨rfl, rfl, rfl⟩
   exact stepsP.nil
  intro W hphi
  rw [eS (l := [(4, _), (9, _), (11, _)]) ⟨(hphi 4 (by decide)), (hphi 9 (by decide)), (hphi 11 (by decide)), ⟨⟩⟩]
  show XL _ _ _ _ _ _ _ (cellsH ub (arv :: bs) 200 :: L)
  refine qk (t := 9) rfl (vT h1) (jZ (i := (-1) - (u.getD 0 0)) (((-1) - (u.getD 0 0)).toNat) (1 + (((-1) - (u.getD 0 0)).toNat)) jV qp rfl rfl (by omega) (by omega) (by omega) ?_)
  obtain ⟨a1, ha1, hn1, he1⟩ := hbc.get (i := ((-1) - (u.getD 0 0)).toNat) (by omega)
  refine qk (t := 9) rfl (vT h1) (qi qW rfl (Rd.own [] rfl (get_1 he1)) (qk (t := 9) rfl (vT h1) (XOp.neNil qd rfl rfl (qD ha1) (cX (qN (.bool (!isNil a1)) (vT h1) rfl (qb ?_))))))
  refine jO (t := !isNil a1) rfl (fun h2 => ?_) (fun h2 => ?_)
  ·have hbn := ne_of_notNil hn1 h2
   have hnb : isNil a1 = false := by rw [hn1]; exact decide_eq_false hbn
   refine qz (qL ?_)
   refine jI [cellsH ub (arv :: bs) 200] L 7 [] [[], [], [1], [2], [3], [0], [5]] (phiL [qe (ptr ub 0), qe uv, qe (.pointer (some (elemA uv (0)))), qe (ii (u.getD 0 0)), qe (ii ((-1) - (u.getD 0 0))), qe (ptr ub 0), qe (ptr ub 1)]) (ownL []) mixed rfl rfl (by kernel_rfl) ?_ ?_
   ·refine pD (fun W R z9 => ?_) ?_
    ·refine qj (ql (ptr ub 0) rfl ?_)
     exact ⟨rfl, rfl, rfl⟩
    refine pD (fun W R z9 => ?_) ?_
    ·refine qj (ql (uv) rfl ?_)
     exact ⟨rfl, rfl, rfl⟩
    refine pD (fun W R z9 => ?_) ?_
    ·rw [eS (l := [(1, _)]) ⟨z9 1 rfl, ⟨⟩⟩]
     refine qj (qu 0 qd qm rfl rfl rfl huv.slv (by omega) (Nat.mul_one _) ?_)
     exact ⟨rfl, rfl, rfl⟩
    refine pD (fun W R z9 => ?_) ?_
    ·rw [eS (l := [(2, _)]) ⟨z9 2 rfl, ⟨⟩⟩]
     refine qj (qi qQ rfl (huv.rd (by omega)) ?_)
     exact ⟨rfl, rfl, rfl⟩
    refine pD (fun W R z9 => ?_) ?_
    ·rw [eS (l := [(3, _)]) ⟨z9 3 rfl, ⟨⟩⟩]
     refine qj (jf ((-1) - (u.getD 0 0)) rfl rfl (by omega) (by omega) ?_)
     exact ⟨rfl, rfl, rfl⟩
    refine pD (fun W R z9 => ?_) ?_
    ·rw [eS (l := [(0, _)]) ⟨z9 0 rfl, ⟨⟩⟩]
     refine qj (ji rfl ?_)
     exact ⟨rfl, rfl, rfl⟩
    refine pD (fun W R z9 => ?_) ?_
    ·rw [eS (l := [(5, _)]) ⟨z9 5 rfl, ⟨⟩⟩]
     refine qj (qo (1) jA rfl sizeOf198 (by decide) rfl rfl ?_)
     exact ⟨rfl, rfl, rfl⟩
    exact stepsP.nil
   intro W hphi
   rw [eS (l := [(4, _), (6, _)]) ⟨(hphi 4 (by decide)), (hphi 6 (by decide)), ⟨⟩⟩]
   show XL _ _ _ _ _ _ _ (cellsH ub (arv :: bs) 200 :: L)
   refine cX (jZ (i := (-1) - (u.getD 0 0)) (((-1) - (u.getD 0 0)).toNat) (1 + (((-1) - (u.getD 0 0)).toNat)) jV qp rfl rfl (by omega) (by omega) (by omega) (cX (qi qW rfl (Rd.own [] rfl (get_1 he1)) (qg (a1) rfl (qb ?_)))))
   exact ⟨(a1, (bl.getD (((-1) - (u.getD 0 0)).toNat) [])), _, FLe.refl _, rF, ⟨rfl, rfl, ⟨⟩⟩, (sC sR), ⟨rfl, (ha1), (hnb), (hrt.next hb hx0 hbn)⟩, (rootMu_lt hρ hb hx0 hbn)⟩
  have hbe := eq_of_isNil hn1 h2
  have htop : 0 ≤ u.getD 0 0 ∨ bl.getD (varIx (u.getD 0 0)) [] = [] := .inr hbe
  refine jj (qx (qx (qO (qc (qa (qf (uv) rfl (qg (uv) rfl (qb (qw (qv (L' := cellsH ub (arv :: bs) 200 :: L) [uv] (uv) (.tmp rfl .nil) rfl rF rF (sC sR) ?_))))))))))
  exact ⟨_, huv, hun, hrt.done htop, rfl, rfl⟩
 have htop : 0 ≤ u.getD 0 0 ∨ bl.getD (varIx (u.getD 0 0)) [] = [] := .inl (by omega)
 refine jI [cellsH ub (arv :: bs) 200] L 12 [] [[], [0], [1], [2], [3], [4], [4], [4, 6], [4, 7], [4, 8], [4, 5], [4, 10]] (phiL [qe uv, qe (.pointer (some (elemA uv (0)))), qe (ii (u.getD 0 0)), qe (.bool (decide ((u.getD 0 0 : Int) < 0)) : Value), qe (.bool (decide ((u.getD 0 0 : Int) < 0)) : Value), qe undef, qe undef, qe undef, qe undef, qe undef, qe undef, qe undef]) (ownL []) mixed rfl rfl (by kernel_rfl) ?_ ?_
 ·refine pD (fun W R z9 => ?_) ?_
  ·refine qj (ql (uv) rfl ?_)
   exact ⟨rfl, rfl, rfl⟩
  refine pD (fun W R z9 => ?_) ?_
  ·rw [eS (l := [(0, _)]) ⟨z9 0 rfl, ⟨⟩⟩]
   refine qj (qu 0 qd qm rfl rfl rfl huv.slv (by omega) (Nat.mul_one _) ?_)
   exact ⟨rfl, rfl, rfl⟩
  refine pD (fun W R z9 => ?_) ?_
  ·rw [eS (l := [(1, _)]) ⟨z9 1 rfl, ⟨⟩⟩]
   refine qj (qi qQ rfl (huv.rd (by omega)) ?_)
   exact ⟨rfl, rfl, rfl⟩
  refine pD (fun W R z9 => ?_) ?_
  ·rw [eS (l := [(2, _)]) ⟨z9 2 rfl, ⟨⟩⟩]
   refine qj (qT rfl rfl ?_)
   exact ⟨rfl, rfl, rfl⟩
  refine pD (fun W R z9 => ?_) ?_
  ·rw [eS (l := [(3, _)]) ⟨z9 3 rfl, ⟨⟩⟩]
   refine qj (ql (.bool (decide ((u.getD 0 0 : Int) < 0))) rfl ?_)
   exact ⟨rfl, rfl, rfl⟩
  refine pD (fun W R z9 => ?_) ?_
  ·rw [eS (l := [(4, _)]) ⟨z9 4 rfl, ⟨⟩⟩]
   exact jB (t := 9) rfl (vF h1) ⟨rfl, rfl, rfl⟩
  refine pD (fun W R z9 => ?_) ?_
  ·rw [eS (l := [(4, _)]) ⟨z9 4 rfl, ⟨⟩⟩]
   exact jB (t := 9) rfl (vF h1) ⟨rfl, rfl, rfl⟩
  refine pD (fun W R z9 => ?_) ?_
  ·rw [eS (l := [(4, _), (6, undef)]) ⟨z9 4 rfl, z9 6 rfl, ⟨⟩⟩]
   exact jB (t := 9) rfl (vF h1) ⟨rfl, rfl, rfl⟩
  refine pD (fun W R z9 => ?_) ?_
  ·rw [eS (l := [(4, _), (7, undef)]) ⟨z9 4 rfl, z9 7 rfl, ⟨⟩⟩]
   exact jB (t := 9) rfl (vF h1) ⟨rfl, rfl, rfl⟩
  refine pD (fun W R z9 => ?_) ?_
  ·rw [eS (l := [(4, _), (8, undef)]) ⟨z9 4 rfl, z9 8 rfl, ⟨⟩⟩]
   exact jB (t := 9) rfl (vF h1) ⟨rfl, rfl, rfl⟩
  refine pD (fun W R z9 => ?_) ?_
  ·rw [eS (l := [(4, _), (5, undef)]) ⟨z9 4 rfl, z9 5 rfl, ⟨⟩⟩]
   exact jB (t := 9) rfl (vF h1) ⟨rfl, rfl, rfl⟩
  refine pD (fun W R z9 => ?_) ?_
  ·rw [eS (l := [(4, _), (10, undef)]) ⟨z9 4 rfl, z9 10 rfl, ⟨⟩⟩]
   exact jB (t := 9) rfl (vF h1) ⟨rfl, rfl, rfl⟩
  exact stepsP.nil
 intro W hphi
 rw [eS (l := [(4, _), (9, undef), (11, undef)]) ⟨(hphi 4 (by decide)), (hphi 9 (by decide)), (hphi 11 (by decide)), ⟨⟩⟩]
 show XL _ _ _ _ _ _ _ (cellsH ub (arv :: bs) 200 :: L)
 refine qn (t := 9) rfl (vF h1) (qn (t := 9) rfl (vF h1) (qn (t := 9) rfl (vF h1) (cX (qG (.bool (false)) (vF h1) rfl (qb (jC rfl (jj (qx (qx (qO (qc (qa (qf (uv) rfl (qg (uv) rfl ?_))))))))))))))
 refine qb (qw (qv (L' := cellsH ub (arv :: bs) 200 :: L) [uv] (uv) (.tmp rfl .nil) rfl rF rF (sC sR) ?_))
 exact ⟨_, huv, hun, hrt.done htop, rfl, rfl⟩

/- (*impl.unifier).occurs -/
set_option maxHeartbeats 1000000 in
theorem occurs_step {k : Nat} (ih : ∀ k9 : Nat, k9 < k → ∀ {F : FH} {L : List HP} {ub : Nat} {arv : Value} {ar : List Int} {bs : List Value} {bl : RowL} (har : IntsF F arv ar) (hbc : BindC F bs bl) (hb : BOk ar bl) {sb : Nat} {σ : Sbs} {ρ : Int → Nat} {n : Int} {tv : Value} {t : List Int} (ht : IntsF F tv t) {sn : List Bool} (hσ : Sol bl σ) (hρ : Acyc bl ρ) (hn : n < 0) (hnf : lkN bl n = []) (htk : ∀ m ∈ t, m < 0 → ρ m < k9) (htg : ∀ i, i < t.length → -48 ≤ t.getD i 0) (htl : t.length ≤ 60) (hsl : sn.length = 48) (hcl : ClearM σ ρ n k9 sn), Does prog 249 [ptr ub 0, ii (n), tv, ptr sb 0] F (cellsH ub (arv :: bs) 200 :: cellsH sb (bools sn) 241 :: L) (fun v F' L' => ∃ s9 : List Bool, (.bool (decide (n ∈ ap σ t)) : Value) = v ∧ s9.length = 48 ∧ (n ∉ ap σ t → MarkR σ n sn s9) ∧ F = F' ∧ cellsH ub (arv :: bs) 200 :: cellsH sb (bools s9) 241 :: L = L')) {F : FH} {L : List HP} {ub : Nat} {arv : Value} {ar : List Int} {bs : List Value} {bl : RowL} (har : IntsF F arv ar) (hbc : BindC F bs bl) (hb : BOk ar bl) {sb : Nat} {σ : Sbs} {ρ : Int → Nat} {n : Int} {tv : Value} {t : List Int} (ht : IntsF F tv t) {sn : List Bool} (hσ : Sol bl σ) (hρ : Acyc bl ρ) (hn : n < 0) (hnf : lkN bl n = []) (htk : ∀ m ∈ t, m < 0 → ρ m < k) (htg : ∀ i, i < t.length → -48 ≤ t.getD i 0) (htl : t.length ≤ 60) (hsl : sn.length = 48) (hcl : ClearM σ ρ n k sn) :
    Does prog 249 [ptr ub 0, ii (n), tv, ptr sb 0] F (cellsH ub (arv :: bs) 200 :: cellsH sb (bools sn) 241 :: L) (fun v F' L' => ∃ s9 : List Bool, (.bool (decide (n ∈ ap σ t)) : Value) = v ∧ s9.length = 48 ∧ (n ∉ ap σ t → MarkR σ n sn s9) ∧ F = F' ∧ cellsH ub (arv :: bs) 200 :: cellsH sb (bools s9) 241 :: L = L') := by
 refine qI func249 rfl rfl rfl ?_
 have hbl := hb.len
 refine qc (qa (qg (.bool (false)) rfl (qb (qc (qc (qa (qf (tv) rfl (cX (qE qd rfl ht.slv (qf (ii (0)) rfl (qb (qL (jn (α := Nat × List Bool) (fun xQ => [(0, ptr ub 0), (1, ii (n)), (3, ptr sb 0), (12, tv), (13, ii ((t.length : Int))), (14, ii (((xQ.1 : Nat) : Int)))]) (fun xQ => cellsH ub (arv :: bs) 200 :: cellsH sb (bools xQ.2) 241 :: L) (fun xQ F' => F = F' ∧ (xQ.1 ≤ t.length) ∧ (xQ.2.length = 48) ∧ (MarkR σ n sn xQ.2) ∧ (∀ i, i < xQ.1 → n ∉ σ (t.getD i 0))) (fun xQ => t.length - xQ.1) (0, sn) ⟨rfl, rfl, rfl, rfl, rfl, rfl, ⟨⟩⟩ (sC (sC sR)) ⟨rfl, (by (try dsimp only) <;> omega), (hsl), (MarkR.refl), (fun i hi => absurd hi (by omega))⟩ ?_)))))))))))))
 rintro ⟨j, sm⟩ rE _ _ ⟨rfl, hj, hml, hmr, hno⟩
 show X _ _ _ _ (envs [(0, ptr ub 0), (1, ii (n)), (3, ptr sb 0), (12, tv), (13, ii ((t.length : Int))), (14, ii ((j : Int)))] rE) _ (cellsH ub (arv :: bs) 200 :: cellsH sb (bools sm) 241 :: L)
 dsimp only at hj hml hmr hno
 have hgj := fun h : j < t.length => htg j h
 refine qc (qa (cX (qT rfl rfl (qb (qc ?_)))))
 refine qA (p := (j : Int) < (t.length : Int)) rfl (fun h1 => ?_) (fun h1 => ?_)
 ·refine qz (qc (qL (qc (qa (cX (qu j qd qm rfl rfl rfl ht.slv (by omega) (Nat.mul_one _) (cX (qi qQ rfl (ht.rd (by omega)) (qg (ii (t.getD j 0)) rfl (qb (qc (qc (qa (qf (ii (t.getD j 0)) rfl (qf (ii (n)) rfl (cX (js rfl rfl (qb ?_))))))))))))))))))
  refine qA (p := (t.getD j 0 : Int) = n) rfl (fun h2 => ?_) (fun h2 => ?_)
  ·refine qc (qa (qg (.bool (true)) rfl (qb (qw (qq (qR (qq (qq (qR (qq (qv (L' := cellsH ub (arv :: bs) 200 :: cellsH sb (bools sm) 241 :: L) [.bool (true)] (.bool (true)) (.tmp rfl .nil) rfl rF rF (sC (sC sR)) ?_)))))))))))
   have hnt : decide (n ∈ ap σ t) = true := decide_eq_true (occ_here (j := j) hnf hσ (by omega) (by assumption))
   exact ⟨_, congrArg Value.bool hnt, hml, fun h9 => absurd (of_decide_eq_true hnt) h9, rfl, rfl⟩
  have hne : t.getD j 0 ≠ n := h2
  refine qz (qc (qc (qa (qf (ii (t.getD j 0)) rfl (cX (jP rfl rfl (qf (.bool (decide ((t.getD j 0 : Int) ≥ 0))) rfl ?_)))))))
  by_cases h3 : (t.getD j 0 : Int) ≥ 0
  ·have hnx : n ∉ σ (t.getD j 0) := sym_no hσ hn (by omega)
   have hmk := hmr
   refine qn (t := 23) rfl (vT h3) (qn (t := 23) rfl (vT h3) (qn (t := 23) rfl (vT h3) (qn (t := 23) rfl (vT h3) (qn (t := 23) rfl (vT h3) (qn (t := 23) rfl (vT h3) (cX (qN (.bool (true)) (vT h3) rfl (qb (jq rfl (jj (qx (qO ?_))))))))))))
   refine qa (cX (qS (((j + 1 : Nat) : Int)) rfl rfl (by omega) (by omega) (qf (ii (((j + 1 : Nat) : Int))) rfl (qb ?_))))
   exact ⟨(j + 1, sm), _, FLe.refl _, rF, ⟨rfl, rfl, rfl, rfl, rfl, rfl, ⟨⟩⟩, (sC (sC sR)), ⟨rfl, (by (try dsimp only) <;> omega), (hml), (hmk), (fun i hi => (Nat.lt_or_ge i j).elim (fun h => hno i h) (fun h => by obtain rfl : i = j := (by omega); exact hnx))⟩, (by omega)⟩
  have hj0 : t.getD j 0 < 0 := by omega
  have hgj2 := hgj (by omega)
  have hrj := htk _ (mem_of_getD (k := j) (by omega) rfl) hj0
  refine qk (t := 23) rfl (vF h3) (ql (ptr sb 0) rfl (qk (t := 23) rfl (vF h3) (ql (ii (t.getD j 0)) rfl (qk (t := 23) rfl (vF h3) (jf ((-1) - (t.getD j 0)) rfl rfl (by omega) (by omega) (qk (t := 23) rfl (vF h3) (ji rfl (qk (t := 23) rfl (vF h3) (jZ (i := (-1) - (t.getD j 0)) (((-1) - (t.getD j 0)).toNat) (((-1) - (t.getD j 0)).toNat) runUnderlying241 sizeOf4 rfl rfl (by omega) (by omega) (by omega) (qk (t := 23) rfl (vF h3) (qi isAgg4 rfl (Rd.own [_] rfl (bools_get (by rw [hml]; omega))) (cX (qG (.bool (sm.getD (((-1) - (t.getD j 0)).toNat) false)) (vF h3) rfl (qb ?_))))))))))))))
  refine jO (t := sm.getD (((-1) - (t.getD j 0)).toNat) false) rfl (fun h4 => ?_) (fun h4 => ?_)
  ·have hnx : n ∉ σ (t.getD j 0) := hcl.seen hmr hj0 h4 hrj
   have hmk := hmr
   refine jj (qx (qO (qa (cX (qS (((j + 1 : Nat) : Int)) rfl rfl (by omega) (by omega) (qf (ii (((j + 1 : Nat) : Int))) rfl (qb ?_)))))))
   exact ⟨(j + 1, sm), _, FLe.refl _, rF, ⟨rfl, rfl, rfl, rfl, rfl, rfl, ⟨⟩⟩, (sC (sC sR)), ⟨rfl, (by (try dsimp only) <;> omega), (hml), (hmk), (fun i hi => (Nat.lt_or_ge i j).elim (fun h => hno i h) (fun h => by obtain rfl : i = j := (by omega); exact hnx))⟩, (by omega)⟩
  have hun := h4
  refine qz (qc (qa (qf (ptr sb 0) rfl (qf (ii (t.getD j 0)) rfl (cX (jf ((-1) - (t.getD j 0)) rfl rfl (by omega) (by omega) (cX (ji rfl (cX (jZ (i := (-1) - (t.getD j 0)) (((-1) - (t.getD j 0)).toNat) (((-1) - (t.getD j 0)).toNat) runUnderlying241 sizeOf4 rfl rfl (by omega) (by omega) (by omega) (cX (jx [_] _ (bools (sm.set (((-1) - (t.getD j 0)).toNat) true)) sizeOf4 rfl rfl rfl rfl (bools_blt (by rw [hml]; omega)) bools_set ?_))))))))))))
  have hl1 : (sm.set (((-1) - (t.getD j 0)).toNat) true).length = 48 := by rw [List.length_set]; exact hml
  refine qb (qc (qa (qf (ptr ub 0) rfl (qf (ii (t.getD j 0)) rfl (cX (jf ((-1) - (t.getD j 0)) rfl rfl (by omega) (by omega) (cX (ji rfl (cX (qo (1) jA rfl sizeOf198 (by decide) rfl rfl (cX (jZ (i := (-1) - (t.getD j 0)) (((-1) - (t.getD j 0)).toNat) (1 + (((-1) - (t.getD j 0)).toNat)) jV qp rfl rfl (by omega) (by omega) (by omega) ?_))))))))))))
  obtain ⟨a1, ha1, hn1, he1⟩ := hbc.get (i := ((-1) - (t.getD j 0)).toNat) (by omega)
  refine cX (qi qW rfl (Rd.own [] rfl (get_1 he1)) (qg (a1) rfl (qb (qc (qa (qf (a1) rfl (cX (XOp.neNil qd rfl rfl (qD ha1) (qf (.bool (!isNil a1)) rfl ?_)))))))))
  by_cases h5 : (!isNil a1) = true
  ·have hbn := ne_of_notNil hn1 h5
   have hnb : isNil a1 = false := by rw [hn1]; exact decide_eq_false hbn
   have hlj : lkN bl (t.getD j 0) ≠ [] := by rw [lkN_get hj0]; exact hbn
   have hwj := hb.wt _ hj0 hlj
   rw [lkN_get hj0] at hwj
   refine qk (t := 45) rfl (vB h5) (ql (ptr ub 0) rfl (qk (t := 45) rfl (vB h5) (ql (ii (n)) rfl (qk (t := 45) rfl (vB h5) (ql (a1) rfl (qk (t := 45) rfl (vB h5) (ql (ptr sb 0) rfl (jw (jJ (A := [_])) ?_))))))))
   show XL _ _ _ _ _ _ _ (cellsH sb (bools ((sm.set (((-1) - (t.getD j 0)).toNat) true))) 241 :: cellsH ub (arv :: bs) 200 :: L)
   refine jw (jJ (A := [_])) ?_
   show XL _ _ _ _ _ _ _ (cellsH ub (arv :: bs) 200 :: cellsH sb (bools ((sm.set (((-1) - (t.getD j 0)).toNat) true))) 241 :: L)
   refine qk (t := 45) rfl (vB h5) (qr (args := [ptr ub 0, ii (n), a1, ptr sb 0]) call249 rfl (ih _ hrj har hbc (by assumption) ha1 hσ hρ hn hnf (fun m hm h0 => by have := hρ _ hj0 m (by rw [lkN_get hj0]; exact hm) h0; exact this) (fun i hi => hwj.geD hi) hwj.len.2 hl1 (hcl.down hmr hml hj0 hgj2 hrj)) ?_)
   rintro _ _ _ _ ⟨s1, rfl, hs1, hm1, rfl, rfl⟩
   refine cX (qN (.bool (decide (n ∈ ap σ ((bl.getD (((-1) - (t.getD j 0)).toNat) []))))) (vB h5) rfl (qb ?_))
   refine qA (p := n ∈ ap σ ((bl.getD (((-1) - (t.getD j 0)).toNat) []))) rfl (fun h6 => ?_) (fun h6 => ?_)
   ·have hoc := h6
    refine qc (qa (qg (.bool (true)) rfl (qb (qw (qR (qq (qq (qR (qq (qv (L' := cellsH ub (arv :: bs) 200 :: cellsH sb (bools s1) 241 :: L) [.bool (true)] (.bool (true)) (.tmp rfl .nil) rfl rF rF (sC (sC sR)) ?_))))))))))
    have hnt : decide (n ∈ ap σ t) = true := decide_eq_true (occ_in (j := j) hσ (by omega) rfl hlj (by rw [lkN_get hj0]; exact hoc))
    exact ⟨_, congrArg Value.bool hnt, hs1, fun h9 => absurd (of_decide_eq_true hnt) h9, rfl, rfl⟩
   have hnx : n ∉ σ (t.getD j 0) := bound_no hσ hlj (by rw [lkN_get hj0]; exact h6)
   have hmk := hmr.step hml hj0 hgj2 (hm1 h6) hnx
   refine qz (qa (cX (qS (((j + 1 : Nat) : Int)) rfl rfl (by omega) (by omega) (qf (ii (((j + 1 : Nat) : Int))) rfl (qb ?_)))))
   exact ⟨(j + 1, s1), _, FLe.refl _, rF, ⟨rfl, rfl, rfl, rfl, rfl, rfl, ⟨⟩⟩, (sC (sC sR)), ⟨rfl, (by (try dsimp only) <;> omega), (hs1), (hmk), (fun i hi => (Nat.lt_or_ge i j).elim (fun h => hno i h) (fun h => by obtain rfl : i = j := (by omega); exact hnx))⟩, (by omega)⟩
  rw [Bool.not_eq_true] at h5
  have hbe := eq_of_isNil hn1 h5
  have hnx : n ∉ σ (t.getD j 0) := free_no hσ hne (by rw [lkN_get hj0]; exact hbe)
  have hmk := hmr.set hml hj0 hgj2 hnx
  refine qn (t := 45) rfl (vB h5) (qn (t := 45) rfl (vB h5) (qn (t := 45) rfl (vB h5) (qn (t := 45) rfl (vB h5) (qn (t := 45) rfl (vB h5) (cX (qG (.bool (false)) (vB h5) rfl (qb (jC rfl (qz (qa (cX (qS (((j + 1 : Nat) : Int)) rfl rfl (by omega) (by omega) ?_))))))))))))
  refine qf (ii (((j + 1 : Nat) : Int))) rfl (qb ?_)
  exact ⟨(j + 1, (sm.set (((-1) - (t.getD j 0)).toNat) true)), _, FLe.refl _, rF, ⟨rfl, rfl, rfl, rfl, rfl, rfl, ⟨⟩⟩, (sC (sC sR)), ⟨rfl, (by (try dsimp only) <;> omega), (hl1), (hmk), (fun i hi => (Nat.lt_or_ge i j).elim (fun h => hno i h) (fun h => by obtain rfl : i = j := (by omega); exact hnx))⟩, (by omega)⟩
 refine jj (qx (qx (qO (qc (qa (qg (.bool (false)) rfl (qb (qw (qv (L' := cellsH ub (arv :: bs) 200 :: cellsH sb (bools sm) 241 :: L) [.bool (false)] (.bool (false)) (.tmp rfl .nil) rfl rF rF (sC (sC sR)) ?_)))))))))
 have hnt : n ∉ ap σ t := occ_not (fun i hi => hno i (by omega))
 exact ⟨_, congrArg Value.bool (decide_eq_false hnt), hml, fun _ => hmr, rfl, rfl⟩

theorem occurs_spec (k : Nat) : ∀ {F : FH} {L : List HP} {ub : Nat} {arv : Value} {ar : List Int} {bs : List Value} {bl : RowL} (har : IntsF F arv ar) (hbc : BindC F bs bl) (hb : BOk ar bl) {sb : Nat} {σ : Sbs} {ρ : Int → Nat} {n : Int} {tv : Value} {t : List Int} (ht : IntsF F tv t) {sn : List Bool} (hσ : Sol bl σ) (hρ : Acyc bl ρ) (hn : n < 0) (hnf : lkN bl n = []) (htk : ∀ m ∈ t, m < 0 → ρ m < k) (htg : ∀ i, i < t.length → -48 ≤ t.getD i 0) (htl : t.length ≤ 60) (hsl : sn.length = 48) (hcl : ClearM σ ρ n k sn), Does prog 249 [ptr ub 0, ii (n), tv, ptr sb 0] F (cellsH ub (arv :: bs) 200 :: cellsH sb (bools sn) 241 :: L) (fun v F' L' => ∃ s9 : List Bool, (.bool (decide (n ∈ ap σ t)) : Value) = v ∧ s9.length = 48 ∧ (n ∉ ap σ t → MarkR σ n sn s9) ∧ F = F' ∧ cellsH ub (arv :: bs) 200 :: cellsH sb (bools s9) 241 :: L = L') := by
  induction k using Nat.strongRecOn with
  | _ k ih =>
    intros
    exact occurs_step ih (by assumption) (by assumption) (by assumption) (by assumption) (by assumption) (by assumption) (by assumption) (by assumption) (by assumption) (by assumption) (by assumption) (by assumption) (by assumption)


/- (*impl.unifier).equate -/
set_option maxHeartbeats 2000000 in
set_option maxRecDepth 20000 in
theorem equate_step {k N : Nat} (ih : ∀ (k1 N1 : Nat), (k1 < k ∨ k1 = k ∧ N1 < N) → ∀ {F : FH} {L : List HP} {ub : Nat} {arv : Value} {ar : List Int} {bs : List Value} {bl : RowL} (har : IntsF F arv ar) (hbc : BindC F bs bl) (hb : BOk ar bl) {σ : Sbs} {av : Value} {a : List Int} (ha : IntsF F av a) {cv : Value} {c : List Int} (hc : IntsF F cv c) (hσ : Sol bl σ) (hoa : TermW ar a) (hoc : TermW ar c) (hna : isNil av = false) (hnc : isNil cv = false) (hk : unb bl ≤ k1) (hN : (ap σ a).length ≤ N1), DoesP prog 237 [ptr ub 0, av, cv] F (cellsH ub (arv :: bs) 200 :: L) (fun v F' L' => ∃ (b9 : List Value) (l9 : RowL), (.tuple #[] : Value) = v ∧ BindC F' b9 l9 ∧ Solves ar bl l9 (fun θ => ap θ a = ap θ c) ∧ cellsH ub (arv :: b9) 200 :: L = L') (fun ch F' L' => ∃ (b9 : List Value) (l9 : RowL), ch = [{ v := .iface 230 (.agg #[]), recovered := false }] ∧ BindC F' b9 l9 ∧ (∀ θ, GoodS ar θ → SatB bl θ → ap θ a ≠ ap θ c) ∧ cellsH ub (arv :: b9) 200 :: L = L')) {F : FH} {L : List HP} {ub : Nat} {arv : Value} {ar : List Int} {bs : List Value} {bl : RowL} (har : IntsF F arv ar) (hbc : BindC F bs bl) (hb : BOk ar bl) {σ : Sbs} {av : Value} {a : List Int} (ha : IntsF F av a) {cv : Value} {c : List Int} (hc : IntsF F cv c) (hσ : Sol bl σ) (hoa : TermW ar a) (hoc : TermW ar c) (hna : isNil av = false) (hnc : isNil cv = false) (hk : unb bl ≤ k) (hN : (ap σ a).length ≤ N) :
    DoesP prog 237 [ptr ub 0, av, cv] F (cellsH ub (arv :: bs) 200 :: L) (fun v F' L' => ∃ (b9 : List Value) (l9 : RowL), (.tuple #[] : Value) = v ∧ BindC F' b9 l9 ∧ Solves ar bl l9 (fun θ => ap θ a = ap θ c) ∧ cellsH ub (arv :: b9) 200 :: L = L') (fun ch F' L' => ∃ (b9 : List Value) (l9 : RowL), ch = [{ v := .iface 230 (.agg #[]), recovered := false }] ∧ BindC F' b9 l9 ∧ (∀ θ, GoodS ar θ → SatB bl θ → ap θ a ≠ ap θ c) ∧ cellsH ub (arv :: b9) 200 :: L = L') := by
 refine DoesP.of_X func237 rfl rfl rfl (qc (qa (qf (ptr ub 0) rfl (qf (av) rfl (cX (qr (args := [ptr ub 0, av]) call248 rfl (root_spec har hbc (by assumption) ha (ho := by assumption) (hnn := by assumption)) ?_))))))
 rintro v1 _ _ _ ⟨u1, hv1, hn1, hru1, rfl, rfl⟩
 refine qf (ptr ub 0) rfl (qf (cv) rfl (cX (qr (args := [ptr ub 0, cv]) call248 rfl (root_spec har hbc (by assumption) hc (ho := by assumption) (hnn := by assumption)) ?_)))
 rintro v2 _ _ _ ⟨u2, hv2, hn2, hru2, rfl, rfl⟩
 refine qg (v1) rfl (qg (v2) rfl ?_)
 have hl1 := hru1.w.len
 have hl2 := hru2.w.len
 refine qb (qc (qc ?_))
 refine jI [cellsH ub (arv :: bs) 200] L 6 [] [[], [0], [1], [], [3], [4]] (phiL [qe v1, qe (.pointer (some (elemA v1 (0)))), qe (ii (u1.getD 0 0)), qe v2, qe (.pointer (some (elemA v2 (0)))), qe (ii (u2.getD 0 0))]) (ownL []) mixed rfl rfl (by kernel_rfl) ?_ ?_
 ·refine pD (fun W R z9 => ?_) ?_
  ·refine qj (ql (v1) rfl ?_)
   exact ⟨rfl, rfl, rfl⟩
  refine pD (fun W R z9 => ?_) ?_
  ·rw [eS (l := [(0, _)]) ⟨z9 0 rfl, ⟨⟩⟩]
   refine qj (qu 0 qd qm rfl rfl rfl hv1.slv (by omega) (Nat.mul_one _) ?_)
   exact ⟨rfl, rfl, rfl⟩
  refine pD (fun W R z9 => ?_) ?_
  ·rw [eS (l := [(1, _)]) ⟨z9 1 rfl, ⟨⟩⟩]
   refine qj (qi qQ rfl (hv1.rd (by omega)) ?_)
   exact ⟨rfl, rfl, rfl⟩
  refine pD (fun W R z9 => ?_) ?_
  ·refine qj (ql (v2) rfl ?_)
   exact ⟨rfl, rfl, rfl⟩
  refine pD (fun W R z9 => ?_) ?_
  ·rw [eS (l := [(3, _)]) ⟨z9 3 rfl, ⟨⟩⟩]
   refine qj (qu 0 qd qm rfl rfl rfl hv2.slv (by omega) (Nat.mul_one _) ?_)
   exact ⟨rfl, rfl, rfl⟩
  refine pD (fun W R z9 => ?_) ?_
  ·rw [eS (l := [(4, _)]) ⟨z9 4 rfl, ⟨⟩⟩]
   refine qj (qi qQ rfl (hv2.rd (by omega)) ?_)
   exact ⟨rfl, rfl, rfl⟩
  exact stepsP.nil
 intro W hphi
 rw [eS (l := [(2, _), (5, _)]) ⟨(hphi 2 (by decide)), (hphi 5 (by decide)), ⟨⟩⟩]
 show XL _ _ _ _ _ _ _ (cellsH ub (arv :: bs) 200 :: L)
 refine cX (js rfl rfl (qf (.bool (decide ((u1.getD 0 0 : Int) = u2.getD 0 0))) rfl ?_))
 by_cases h1 : (u1.getD 0 0 : Int) = u2.getD 0 0
 ·refine qk (t := 22) rfl (vT h1) (ql (v1) rfl (qk (t := 22) rfl (vT h1) (qu 0 qd qm rfl rfl rfl hv1.slv (by omega) (Nat.mul_one _) (qk (t := 22) rfl (vT h1) (qi qQ rfl (hv1.rd (by omega)) (qk (t := 22) rfl (vT h1) (qT rfl rfl (cX (qN (.bool (decide ((u1.getD 0 0 : Int) < 0))) (vT h1) rfl (qb ?_))))))))))
  refine qA (p := (u1.getD 0 0 : Int) < 0) rfl (fun h2 => ?_) (fun h2 => ?_)
  ·refine qw (qq (retEndP (L' := cellsH ub (arv :: bs) 200 :: L) [] (.tuple #[]) (by exact .nil) rfl rF rF (sC sR) ?_))
   exact ⟨_, _, rfl, hbc, same_eq hb hru1 hru2 (by omega) (by omega), rfl⟩
  refine qz (qc (qc ?_))
  by_cases h3 : (u2.getD 0 0 : Int) < 0
  ·exfalso
   omega
  refine jI [cellsH ub (arv :: bs) 200] L 16 [] [[], [0], [1], [2], [3], [4], [4, 5], [4, 6], [4, 7], [4, 8], [9], [9, 10], [9, 11], [9], [9, 13], [9, 14]] (phiL [qe v2, qe (.pointer (some (elemA v2 (0)))), qe (ii (u2.getD 0 0)), qe (.bool (decide ((u2.getD 0 0 : Int) < 0)) : Value), qe (.bool (decide ((u2.getD 0 0 : Int) < 0)) : Value), qe undef, qe undef, qe undef, qe undef, qe undef, qe undef, qe undef, qe undef, qe undef, qe undef, qe undef]) (ownL []) mixed rfl rfl (by kernel_rfl) ?_ ?_
  ·refine pD (fun W R z9 => ?_) ?_
   ·refine qj (ql (v2) rfl ?_)
    exact ⟨rfl, rfl, rfl⟩
   refine pD (fun W R z9 => ?_) ?_
   ·rw [eS (l := [(0, _)]) ⟨z9 0 rfl, ⟨⟩⟩]
    refine qj (qu 0 qd qm rfl rfl rfl hv2.slv (by omega) (Nat.mul_one _) ?_)
    exact ⟨rfl, rfl, rfl⟩
   refine pD (fun W R z9 => ?_) ?_
   ·rw [eS (l := [(1, _)]) ⟨z9 1 rfl, ⟨⟩⟩]
    refine qj (qi qQ rfl (hv2.rd (by omega)) ?_)
    exact ⟨rfl, rfl, rfl⟩
   refine pD (fun W R z9 => ?_) ?_
   ·rw [eS (l := [(2, _)]) ⟨z9 2 rfl, ⟨⟩⟩]
    refine qj (qT rfl rfl ?_)
    exact ⟨rfl, rfl, rfl⟩
   refine pD (fun W R z9 => ?_) ?_
   ·rw [eS (l := [(3, _)]) ⟨z9 3 rfl, ⟨⟩⟩]
    refine qj (ql (.bool (decide ((u2.getD 0 0 : Int) < 0))) rfl ?_)
    exact ⟨rfl, rfl, rfl⟩
   refine pD (fun W R z9 => ?_) ?_
   ·rw [eS (l := [(4, _)]) ⟨z9 4 rfl, ⟨⟩⟩]
    exact jB (t := 32) rfl (vF h3) ⟨rfl, rfl, rfl⟩
   refine pD (fun W R z9 => ?_) ?_
   ·rw [eS (l := [(4, _), (5, undef)]) ⟨z9 4 rfl, z9 5 rfl, ⟨⟩⟩]
    exact jB (t := 32) rfl (vF h3) ⟨rfl, rfl, rfl⟩
   refine pD (fun W R z9 => ?_) ?_
   ·rw [eS (l := [(4, _), (6, undef)]) ⟨z9 4 rfl, z9 6 rfl, ⟨⟩⟩]
    exact jB (t := 32) rfl (vF h3) ⟨rfl, rfl, rfl⟩
   refine pD (fun W R z9 => ?_) ?_
   ·rw [eS (l := [(4, _), (7, undef)]) ⟨z9 4 rfl, z9 7 rfl, ⟨⟩⟩]
    exact jB (t := 32) rfl (vF h3) ⟨rfl, rfl, rfl⟩
   refine pD (fun W R z9 => ?_) ?_
   ·rw [eS (l := [(4, _), (8, undef)]) ⟨z9 4 rfl, z9 8 rfl, ⟨⟩⟩]
    exact jB (t := 32) rfl (vF h3) ⟨rfl, rfl, rfl⟩
   refine pD (fun W R z9 => ?_) ?_
   ·rw [eS (l := [(9, undef)]) ⟨z9 9 rfl, ⟨⟩⟩]
    exact XG.noU (t := 37) rfl rfl ⟨rfl, rfl, rfl⟩
   refine pD (fun W R z9 => ?_) ?_
   ·rw [eS (l := [(9, undef), (10, undef)]) ⟨z9 9 rfl, z9 10 rfl, ⟨⟩⟩]
    exact XG.noU (t := 37) rfl rfl ⟨rfl, rfl, rfl⟩
   refine pD (fun W R z9 => ?_) ?_
   ·rw [eS (l := [(9, undef), (11, undef)]) ⟨z9 9 rfl, z9 11 rfl, ⟨⟩⟩]
    exact XG.noU (t := 37) rfl rfl ⟨rfl, rfl, rfl⟩
   refine pD (fun W R z9 => ?_) ?_
   ·rw [eS (l := [(9, undef)]) ⟨z9 9 rfl, ⟨⟩⟩]
    exact XG.noU (t := 37) rfl rfl ⟨rfl, rfl, rfl⟩
   refine pD (fun W R z9 => ?_) ?_
   ·rw [eS (l := [(9, undef), (13, undef)]) ⟨z9 9 rfl, z9 13 rfl, ⟨⟩⟩]
    exact XG.noU (t := 37) rfl rfl ⟨rfl, rfl, rfl⟩
   refine pD (fun W R z9 => ?_) ?_
   ·rw [eS (l := [(9, undef), (14, undef)]) ⟨z9 9 rfl, z9 14 rfl, ⟨⟩⟩]
    exact XG.noU (t := 37) rfl rfl ⟨rfl, rfl, rfl⟩
   exact stepsP.nil
  intro W hphi
  rw [eS (l := [(4, _), (9, undef), (12, undef), (15, undef)]) ⟨(hphi 4 (by decide)), (hphi 9 (by decide)), (hphi 12 (by decide)), (hphi 15 (by decide)), ⟨⟩⟩]
  show XL _ _ _ _ _ _ _ (cellsH ub (arv :: bs) 200 :: L)
  refine XL.noU (t := 37) rfl rfl (qn (t := 32) rfl (vF h3) (cX (qG (.bool (false)) (vF h3) rfl (qb (jC rfl (qz (qc (qc (qa ?_)))))))))
  have hrx := hru1
  have hry := hru2
  have hnx := hn1
  have hny := hn2
  have hwx := hrx.w
  have hwy := hry.w
  have hxl := hrx.w.len
  have hyl := hry.w.len
  have hxg := hrx.w.geD (p := 0) (by omega)
  have hyg := hry.w.geD (p := 0) (by omega)
  have hbl := hb.len
  skip
  refine qf (v1) rfl (cX (qu 0 qd qm rfl rfl rfl hv1.slv (by omega) (Nat.mul_one _) (cX (qi qQ rfl (hv1.rd (by omega)) (cX (qT rfl rfl (qb (jC (vF h2) (qz (qc (qc ?_)))))))))))
  refine jI [cellsH ub (arv :: bs) 200] L 6 [] [[], [0], [1], [], [3], [4]] (phiL [qe v1, qe (.pointer (some (elemA v1 (0)))), qe (ii (u1.getD 0 0)), qe v2, qe (.pointer (some (elemA v2 (0)))), qe (ii (u2.getD 0 0))]) (ownL []) mixed rfl rfl (by kernel_rfl) ?_ ?_
  ·refine pD (fun W R z9 => ?_) ?_
   ·refine qj (ql (v1) rfl ?_)
    exact ⟨rfl, rfl, rfl⟩
   refine pD (fun W R z9 => ?_) ?_
   ·rw [eS (l := [(0, _)]) ⟨z9 0 rfl, ⟨⟩⟩]
    refine qj (qu 0 qd qm rfl rfl rfl hv1.slv (by omega) (Nat.mul_one _) ?_)
    exact ⟨rfl, rfl, rfl⟩
   refine pD (fun W R z9 => ?_) ?_
   ·rw [eS (l := [(1, _)]) ⟨z9 1 rfl, ⟨⟩⟩]
    refine qj (qi qQ rfl (hv1.rd (by omega)) ?_)
    exact ⟨rfl, rfl, rfl⟩
   refine pD (fun W R z9 => ?_) ?_
   ·refine qj (ql (v2) rfl ?_)
    exact ⟨rfl, rfl, rfl⟩
   refine pD (fun W R z9 => ?_) ?_
   ·rw [eS (l := [(3, _)]) ⟨z9 3 rfl, ⟨⟩⟩]
    refine qj (qu 0 qd qm rfl rfl rfl hv2.slv (by omega) (Nat.mul_one _) ?_)
    exact ⟨rfl, rfl, rfl⟩
   refine pD (fun W R z9 => ?_) ?_
   ·rw [eS (l := [(4, _)]) ⟨z9 4 rfl, ⟨⟩⟩]
    refine qj (qi qQ rfl (hv2.rd (by omega)) ?_)
    exact ⟨rfl, rfl, rfl⟩
   exact stepsP.nil
  intro W hphi
  rw [eS (l := [(2, _), (5, _)]) ⟨(hphi 2 (by decide)), (hphi 5 (by decide)), ⟨⟩⟩]
  show XL _ _ _ _ _ _ _ (cellsH ub (arv :: bs) 200 :: L)
  refine cX (XOp.neq rfl rfl (qb ?_))
  refine qA (p := (u1.getD 0 0 : Int) ≠ u2.getD 0 0) rfl (fun h4 => ?_) (fun h4 => ?_)
  ·refine qa ?_
   skip
   refine cX (qY [] [] [] [] jW zeroValue230 rfl PlacesAre.nil rfl CellsAre.nil (cX (XOp.iface jW rfl (jw ((sC sR)) (XL.panicI rfl ?_)))))
   exact .inr ⟨_, rfl, _, _, rfl, hbc, (heads_ne hrx hry (by omega) (by omega) (by omega)), rfl⟩
  have hhd : u1.getD 0 0 = u2.getD 0 0 := by omega
  refine qz (qc ?_)
  refine X.drawG [cellsH ub (arv :: bs) 200] L 11 [] [[], [0], [1], [2], [], [3, 4], [], [6], [7], [8]] [] (phiG [pe (ptr ub 0), pe (ptr ub 0), pe (ptr ub 0), pe (.agg #[arv]), pe v1, fun FF us v => ((v) : Value) = v ∧ (IntsF FF (v) (argsL ar u1 0)), pe (ptr ub 0), pe (ptr ub 0), pe (ptr ub 0), pe (.agg #[arv]), pe v2]) (ownL []) mixed rfl rfl (by kernel_rfl) (by kernel_rfl) (MonoG.get (m1 (m1 (m1 (m1 (m1 (mC (fun le h => ⟨h.1, h.2.mono le⟩) (m1 (m1 (m1 (m1 (m1 MonoG.nil)))))))))))) ?_ ?_
  ·refine gD (fun W Fs R lF z9 => ?_) ?_
   ·refine qj (ql (ptr ub 0) rfl ?_)
    exact ⟨rfl, rfl⟩
   refine gD (fun W Fs R lF z9 => ?_) ?_
   ·replace har := har.mono lF
    replace hbc := hbc.mono lF
    replace hv1 := hv1.mono lF
    replace hv2 := hv2.mono lF
    rw [eS (l := [(0, _)]) ⟨z9 0 rfl, ⟨⟩⟩]
    refine qj (ji rfl ?_)
    exact ⟨rfl, rfl⟩
   refine gD (fun W Fs R lF z9 => ?_) ?_
   ·rw [eS (l := [(1, _)]) ⟨z9 1 rfl, ⟨⟩⟩]
    refine qj (qo (0) jA rfl qF (by decide) rfl rfl ?_)
    exact ⟨rfl, rfl⟩
   refine gD (fun W Fs R lF z9 => ?_) ?_
   ·replace har := har.mono lF
    replace hbc := hbc.mono lF
    replace hv1 := hv1.mono lF
    replace hv2 := hv2.mono lF
    rw [eS (l := [(2, _)]) ⟨z9 2 rfl, ⟨⟩⟩]
    refine qj (qy [arv] ja qF rfl rfl (Rd.ownN [] rfl rfl) ?_)
    exact ⟨rfl, rfl⟩
   refine gD (fun W Fs R lF z9 => ?_) ?_
   ·refine qj (ql (v1) rfl ?_)
    exact ⟨rfl, rfl⟩
   refine gD (fun W Fs R lF z9 => ?_) ?_
   ·replace har := har.mono lF
    replace hbc := hbc.mono lF
    replace hv1 := hv1.mono lF
    replace hv2 := hv2.mono lF
    rw [eS (l := [(3, _), (4, _)]) ⟨z9 3 rfl, z9 4 rfl, ⟨⟩⟩]
    refine qj (jR <| qr (args := [.agg #[arv], v1, ii ((0 : Nat) : Int)]) call222 rfl (argsAtW_spec (p := 0) har hv1 (ho := (by first | assumption | rfl | omega | simp)) (hp := (by first | assumption | rfl | omega | simp))) ?_)
    rintro v4 _ _ _ ⟨rfl, hs2, rfl⟩
    refine ⟨_, _, rfl, fun F1 le1 hz1 => ?_⟩
    replace har := har.mono le1
    replace hbc := hbc.mono le1
    replace hv1 := hv1.mono le1
    replace hv2 := hv2.mono le1
    have hf1 : IntsF F1 v4 ((argsL ar u1 0)) := intsH.fz (xs := (argsL ar u1 0)) hz1.fz
    exact ⟨⟨rfl, hf1⟩, rfl⟩
   refine gD (fun W Fs R lF z9 => ?_) ?_
   ·refine qj (ql (ptr ub 0) rfl ?_)
    exact ⟨rfl, rfl⟩
   refine gD (fun W Fs R lF z9 => ?_) ?_
   ·replace har := har.mono lF
    replace hbc := hbc.mono lF
    replace hv1 := hv1.mono lF
    replace hv2 := hv2.mono lF
    rw [eS (l := [(6, _)]) ⟨z9 6 rfl, ⟨⟩⟩]
    refine qj (ji rfl ?_)
    exact ⟨rfl, rfl⟩
   refine gD (fun W Fs R lF z9 => ?_) ?_
   ·rw [eS (l := [(7, _)]) ⟨z9 7 rfl, ⟨⟩⟩]
    refine qj (qo (0) jA rfl qF (by decide) rfl rfl ?_)
    exact ⟨rfl, rfl⟩
   refine gD (fun W Fs R lF z9 => ?_) ?_
   ·replace har := har.mono lF
    replace hbc := hbc.mono lF
    replace hv1 := hv1.mono lF
    replace hv2 := hv2.mono lF
    rw [eS (l := [(8, _)]) ⟨z9 8 rfl, ⟨⟩⟩]
    refine qj (qy [arv] ja qF rfl rfl (Rd.ownN [] rfl rfl) ?_)
    exact ⟨rfl, rfl⟩
   refine gD (fun W Fs R lF z9 => ?_) ?_
   ·refine qj (ql (v2) rfl ?_)
    exact ⟨rfl, rfl⟩
   exact stepsG.nil
  intro W F2 le2 hphi
  obtain ⟨e5, f5_5ha⟩ := hphi 5 (by decide)
  generalize hu1 : ((W 5)) = u3 at e5 f5_5ha
  rw [eS (l := [(5, u3), (9, _), (10, _)]) ⟨hu1, (hphi 9 (by decide)), (hphi 10 (by decide)), ⟨⟩⟩]
  replace har := har.mono le2
  replace hbc := hbc.mono le2
  replace hv1 := hv1.mono le2
  replace hv2 := hv2.mono le2
  show XL _ _ _ _ _ _ _ (cellsH ub (arv :: bs) 200 :: L)
  refine cX (jR <| qr (args := [.agg #[arv], v2, ii ((0 : Nat) : Int)]) call222 rfl (argsAtW_spec (p := 0) har hv2 (ho := (by first | assumption | rfl | omega | simp)) (hp := (by first | assumption | rfl | omega | simp))) ?_)
  rintro v5 _ _ _ ⟨rfl, hs3, rfl⟩
  refine ⟨_, _, rfl, fun F3 le3 hz2 => ?_⟩
  replace har := har.mono le3
  replace hbc := hbc.mono le3
  replace hv1 := hv1.mono le3
  replace hv2 := hv2.mono le3
  replace f5_5ha := f5_5ha.mono le3
  have hf2 : IntsF F3 v5 ((argsL ar u2 0)) := intsH.fz (xs := (argsL ar u2 0)) hz2.fz
  refine qg (u3) rfl (qg (v5) rfl (qb (qc (qa (qf (u3) rfl (cX (qE jU rfl f5_5ha.slv (qf (ii (0)) rfl (qb (qL (jn (α := Nat × List Value × RowL × FH) (fun xQ => [(0, ptr ub 0), (1, v1), (2, v2), (6, u3), (7, v5), (100, ii (((((argsL ar u1 0)).length : Nat) : Int))), (101, ii (((xQ.1 : Nat) : Int)))]) (fun xQ => cellsH ub (arv :: xQ.2.1) 200 :: L) (fun xQ F' => xQ.2.2.2 = F' ∧ F3 ≤ xQ.2.2.2 ∧ (BindC xQ.2.2.2 xQ.2.1 xQ.2.2.1) ∧ (xQ.1 ≤ (argsL ar u1 0).length) ∧ (Solves ar bl xQ.2.2.1 (EqTo ar u1 u2 xQ.1))) (fun xQ => (argsL ar u1 0).length - xQ.1) (0, bs, bl, F3) ⟨rfl, rfl, rfl, rfl, rfl, rfl, rfl, ⟨⟩⟩ (sC sR) ⟨rfl, FLe.refl _, (hbc), (Nat.zero_le _), (EqTo.start hb)⟩ ?_)))))))))))
  rintro ⟨j, bj, lj, G1⟩ rE _ _ ⟨rfl, leG, hbj, hj, hso⟩
  show X _ _ _ _ (envs [(0, ptr ub 0), (1, v1), (2, v2), (6, u3), (7, v5), (100, ii (((((argsL ar u1 0)).length : Nat) : Int))), (101, ii ((j : Int)))] rE) _ (cellsH ub (arv :: bj) 200 :: L)
  replace leG : F3 ≤ G1 := leG
  dsimp only at hbj hj hso
  have hajx := fun h : j < (argsL ar u1 0).length => hrx.w.args_in (p := 0) (by omega) h
  have hajy := fun h : j < (argsL ar u2 0).length => hry.w.args_in (p := 0) (by omega) h
  have hlax := args_same (ar := ar) hhd
  have hla3 := hrx.w.args_le (p := 0) (by omega)
  have hex0 := hrx.w.end0
  have hey0 := hry.w.end0
  have leG1 := leG
  replace har := har.mono leG1
  replace hbc := hbc.mono leG1
  replace hv1 := hv1.mono leG1
  replace hv2 := hv2.mono leG1
  replace f5_5ha := f5_5ha.mono leG1
  replace hf2 := hf2.mono leG1
  refine qc (qa (cX (qT rfl rfl (qb (qc ?_)))))
  refine qA (p := (j : Int) < ((((argsL ar u1 0)).length : Nat) : Int)) rfl (fun h5 => ?_) (fun h5 => ?_)
  ·have hjx : j < (argsL ar u1 0).length := by omega
   have hjy : j < (argsL ar u2 0).length := by omega
   obtain ⟨σ1, k1, N1, hσ1, hk1, hN1, hless⟩ := EqTo.less hso hb hσ hrx (by rw [parts_args]; exact hjx) hk hN
   have hpx := parts_W hrx.w hjx
   have hpy := parts_W hry.w hjy
   have hb2 := hso.ok
   rw [parts_get hjx] at hpx hN1
   rw [parts_get hjy] at hpy
   refine qz (qc (qL (qc (qa (qf (ii ((j : Int))) rfl (qg (ii ((j : Int))) rfl (qb ?_)))))))
   refine X.drawG [cellsH ub (arv :: bj) 200] L 21 [] [[], [], [1], [2], [3], [], [], [], [6, 7], [8], [4, 5, 9], [], [11], [12], [13], [], [], [], [16, 17], [18], [14, 15, 19]] [] (phiG [pe (ptr ub 0), pe (ptr ub 0), pe (ptr ub 0), pe (ptr ub 0), pe (.agg #[arv]), pe v1, pe u3, pe (ii ((j : Int)) : Value), pe (.pointer (some (elemA u3 (j)))), pe (ii (((argsL ar u1 0)).getD j 0)), fun FF us v => ((v) : Value) = v ∧ (IntsF FF (v) (sub ar u1 ((((argsL ar u1 0)).getD j 0).toNat))) ∧ (isNil (v) = false), pe (ptr ub 0), pe (ptr ub 0), pe (ptr ub 0), pe (.agg #[arv]), pe v2, pe v5, pe (ii ((j : Int)) : Value), pe (.pointer (some (elemA v5 (j)))), pe (ii (((argsL ar u2 0)).getD j 0)), fun FF us v => ((v) : Value) = v ∧ (IntsF FF (v) (sub ar u2 ((((argsL ar u2 0)).getD j 0).toNat))) ∧ (isNil (v) = false)]) (ownL []) mixed rfl rfl (by kernel_rfl) (by kernel_rfl) (MonoG.get (m1 (m1 (m1 (m1 (m1 (m1 (m1 (m1 (m1 (m1 (mC (fun le h => ⟨h.1, h.2.1.mono le, h.2.2⟩) (m1 (m1 (m1 (m1 (m1 (m1 (m1 (m1 (m1 (mC (fun le h => ⟨h.1, h.2.1.mono le, h.2.2⟩) MonoG.nil)))))))))))))))))))))) ?_ ?_
   ·refine gD (fun W Fs R lF z9 => ?_) ?_
    ·refine qj (ql (ptr ub 0) rfl ?_)
     exact ⟨rfl, rfl⟩
    refine gD (fun W Fs R lF z9 => ?_) ?_
    ·refine qj (ql (ptr ub 0) rfl ?_)
     exact ⟨rfl, rfl⟩
    refine gD (fun W Fs R lF z9 => ?_) ?_
    ·replace har := har.mono lF
     replace hbc := hbc.mono lF
     replace hv1 := hv1.mono lF
     replace hv2 := hv2.mono lF
     replace f5_5ha := f5_5ha.mono lF
     replace hf2 := hf2.mono lF
     replace hbj := hbj.mono lF
     rw [eS (l := [(1, _)]) ⟨z9 1 rfl, ⟨⟩⟩]
     refine qj (ji rfl ?_)
     exact ⟨rfl, rfl⟩
    refine gD (fun W Fs R lF z9 => ?_) ?_
    ·rw [eS (l := [(2, _)]) ⟨z9 2 rfl, ⟨⟩⟩]
     refine qj (qo (0) jA rfl qF (by decide) rfl rfl ?_)
     exact ⟨rfl, rfl⟩
    refine gD (fun W Fs R lF z9 => ?_) ?_
    ·replace har := har.mono lF
     replace hbc := hbc.mono lF
     replace hv1 := hv1.mono lF
     replace hv2 := hv2.mono lF
     replace f5_5ha := f5_5ha.mono lF
     replace hf2 := hf2.mono lF
     replace hbj := hbj.mono lF
     rw [eS (l := [(3, _)]) ⟨z9 3 rfl, ⟨⟩⟩]
     refine qj (qy [arv] ja qF rfl rfl (Rd.ownN [] rfl rfl) ?_)
     exact ⟨rfl, rfl⟩
    refine gD (fun W Fs R lF z9 => ?_) ?_
    ·refine qj (ql (v1) rfl ?_)
     exact ⟨rfl, rfl⟩
    refine gD (fun W Fs R lF z9 => ?_) ?_
    ·refine qj (ql (u3) rfl ?_)
     exact ⟨rfl, rfl⟩
    refine gD (fun W Fs R lF z9 => ?_) ?_
    ·refine qj (ql (ii ((j : Int))) rfl ?_)
     exact ⟨rfl, rfl⟩
    refine gD (fun W Fs R lF z9 => ?_) ?_
    ·replace har := har.mono lF
     replace hbc := hbc.mono lF
     replace hv1 := hv1.mono lF
     replace hv2 := hv2.mono lF
     replace f5_5ha := f5_5ha.mono lF
     replace hf2 := hf2.mono lF
     replace hbj := hbj.mono lF
     rw [eS (l := [(6, _), (7, _)]) ⟨z9 6 rfl, z9 7 rfl, ⟨⟩⟩]
     refine qj (qu j jU yb rfl rfl rfl f5_5ha.slv (by omega) (Nat.mul_one _) ?_)
     exact ⟨rfl, rfl⟩
    refine gD (fun W Fs R lF z9 => ?_) ?_
    ·replace har := har.mono lF
     replace hbc := hbc.mono lF
     replace hv1 := hv1.mono lF
     replace hv2 := hv2.mono lF
     replace f5_5ha := f5_5ha.mono lF
     replace hf2 := hf2.mono lF
     replace hbj := hbj.mono lF
     rw [eS (l := [(8, _)]) ⟨z9 8 rfl, ⟨⟩⟩]
     refine qj (qi isAgg3 rfl (f5_5ha.rd (by omega)) ?_)
     exact ⟨rfl, rfl⟩
    refine gD (fun W Fs R lF z9 => ?_) ?_
    ·replace har := har.mono lF
     replace hbc := hbc.mono lF
     replace hv1 := hv1.mono lF
     replace hv2 := hv2.mono lF
     replace hf2 := hf2.mono lF
     replace hbj := hbj.mono lF
     rw [eS (l := [(4, _), (5, _), (9, _)]) ⟨z9 4 rfl, z9 5 rfl, z9 9 rfl, ⟨⟩⟩]
     refine qj (qr (args := [.agg #[arv], v1, ii (((((argsL ar u1 0)).getD j 0).toNat : Nat) : Int)]) call224 (by rw [show (((((argsL ar u1 0)).getD j 0).toNat : Nat) : Int) = ((argsL ar u1 0)).getD j 0 from by omega]; rfl) (subAtW_spec (p := (((argsL ar u1 0)).getD j 0).toNat) har hv1 (ho := (by first | assumption | rfl | omega | simp)) (hp := (by first | assumption | rfl | omega | simp)) (hnn := (by first | assumption | rfl | omega | simp))) ?_)
     rintro v8 _ _ _ ⟨rfl, rfl, hv5, hn5⟩
     exact ⟨⟨rfl, hv5, hn5⟩, rfl⟩
    refine gD (fun W Fs R lF z9 => ?_) ?_
    ·refine qj (ql (ptr ub 0) rfl ?_)
     exact ⟨rfl, rfl⟩
    refine gD (fun W Fs R lF z9 => ?_) ?_
    ·replace har := har.mono lF
     replace hbc := hbc.mono lF
     replace hv1 := hv1.mono lF
     replace hv2 := hv2.mono lF
     replace hf2 := hf2.mono lF
     replace hbj := hbj.mono lF
     rw [eS (l := [(11, _)]) ⟨z9 11 rfl, ⟨⟩⟩]
     refine qj (ji rfl ?_)
     exact ⟨rfl, rfl⟩
    refine gD (fun W Fs R lF z9 => ?_) ?_
    ·rw [eS (l := [(12, _)]) ⟨z9 12 rfl, ⟨⟩⟩]
     refine qj (qo (0) jA rfl qF (by decide) rfl rfl ?_)
     exact ⟨rfl, rfl⟩
    refine gD (fun W Fs R lF z9 => ?_) ?_
    ·replace har := har.mono lF
     replace hbc := hbc.mono lF
     replace hv1 := hv1.mono lF
     replace hv2 := hv2.mono lF
     replace hf2 := hf2.mono lF
     replace hbj := hbj.mono lF
     rw [eS (l := [(13, _)]) ⟨z9 13 rfl, ⟨⟩⟩]
     refine qj (qy [arv] ja qF rfl rfl (Rd.ownN [] rfl rfl) ?_)
     exact ⟨rfl, rfl⟩
    refine gD (fun W Fs R lF z9 => ?_) ?_
    ·refine qj (ql (v2) rfl ?_)
     exact ⟨rfl, rfl⟩
    refine gD (fun W Fs R lF z9 => ?_) ?_
    ·refine qj (ql (v5) rfl ?_)
     exact ⟨rfl, rfl⟩
    refine gD (fun W Fs R lF z9 => ?_) ?_
    ·refine qj (ql (ii ((j : Int))) rfl ?_)
     exact ⟨rfl, rfl⟩
    refine gD (fun W Fs R lF z9 => ?_) ?_
    ·replace har := har.mono lF
     replace hbc := hbc.mono lF
     replace hv1 := hv1.mono lF
     replace hv2 := hv2.mono lF
     replace hf2 := hf2.mono lF
     replace hbj := hbj.mono lF
     rw [eS (l := [(16, _), (17, _)]) ⟨z9 16 rfl, z9 17 rfl, ⟨⟩⟩]
     refine qj (qu j jU yb rfl rfl rfl hf2.slv (by omega) (Nat.mul_one _) ?_)
     exact ⟨rfl, rfl⟩
    refine gD (fun W Fs R lF z9 => ?_) ?_
    ·replace har := har.mono lF
     replace hbc := hbc.mono lF
     replace hv1 := hv1.mono lF
     replace hv2 := hv2.mono lF
     replace hf2 := hf2.mono lF
     replace hbj := hbj.mono lF
     rw [eS (l := [(18, _)]) ⟨z9 18 rfl, ⟨⟩⟩]
     refine qj (qi isAgg3 rfl (hf2.rd (by omega)) ?_)
     exact ⟨rfl, rfl⟩
    refine gD (fun W Fs R lF z9 => ?_) ?_
    ·replace har := har.mono lF
     replace hbc := hbc.mono lF
     replace hv1 := hv1.mono lF
     replace hv2 := hv2.mono lF
     replace hbj := hbj.mono lF
     rw [eS (l := [(14, _), (15, _), (19, _)]) ⟨z9 14 rfl, z9 15 rfl, z9 19 rfl, ⟨⟩⟩]
     refine qj (qr (args := [.agg #[arv], v2, ii (((((argsL ar u2 0)).getD j 0).toNat : Nat) : Int)]) call224 (by rw [show (((((argsL ar u2 0)).getD j 0).toNat : Nat) : Int) = ((argsL ar u2 0)).getD j 0 from by omega]; rfl) (subAtW_spec (p := (((argsL ar u2 0)).getD j 0).toNat) har hv2 (ho := (by first | assumption | rfl | omega | simp)) (hp := (by first | assumption | rfl | omega | simp)) (hnn := (by first | assumption | rfl | omega | simp))) ?_)
     rintro v9 _ _ _ ⟨rfl, rfl, hv6, hn6⟩
     exact ⟨⟨rfl, hv6, hn6⟩, rfl⟩
    exact stepsG.nil
   intro W F4 le4 hphi
   obtain ⟨e10, f10_6ha, f10_6hn⟩ := hphi 10 (by decide)
   obtain ⟨e20, f20_6ha, f20_6hn⟩ := hphi 20 (by decide)
   generalize hu2 : ((W 10)) = u4 at e10 f10_6ha f10_6hn e20 f20_6ha f20_6hn
   generalize hu3 : ((W 20)) = u5 at e10 f10_6ha f10_6hn e20 f20_6ha f20_6hn
   rw [eS (l := [(0, _), (10, u4), (20, u5)]) ⟨(hphi 0 (by decide)), hu2, hu3, ⟨⟩⟩]
   replace har := har.mono le4
   replace hbc := hbc.mono le4
   replace hv1 := hv1.mono le4
   replace hv2 := hv2.mono le4
   replace hbj := hbj.mono le4
   show XL _ _ _ _ _ _ _ (cellsH ub (arv :: bj) 200 :: L)
   refine XL.callP [ptr ub 0, u4, u5] call237 rfl (ih k1 N1 hless har hbj hb2 f10_6ha f20_6ha hσ1 hpx hpy (by assumption) (by assumption) hk1 hN1) ?_ ?_
   ·rintro _ _ _ _ ⟨b9, l9, rfl, hb9, hne9, rfl⟩
    rw [← parts_get hjx, ← parts_get hjy] at hne9
    exact .inr ⟨_, rfl, b9, l9, rfl, hb9, (EqTo.stop hso hrx hry (by rw [parts_args]; exact hjx) (by omega) hhd hne9), rfl⟩
   rintro _ F5 _ le5 ⟨b1, l1, rfl, hb1, hso1, rfl⟩
   replace har := har.mono le5
   replace hbc := hbc.mono le5
   replace hv1 := hv1.mono le5
   replace hv2 := hv2.mono le5
   replace hbj := hbj.mono le5
   rw [← parts_get hjx, ← parts_get hjy] at hso1
   have hso2 := EqTo.next hso hso1
   refine qb (qa (cX (qS (((j + 1 : Nat) : Int)) rfl rfl (by omega) (by omega) (qf (ii (((j + 1 : Nat) : Int))) rfl (qb ?_)))))
   exact ⟨(j + 1, b1, l1, F5), _, (qh (qh leG1 le4) le5), rF, ⟨rfl, rfl, rfl, rfl, rfl, rfl, rfl, ⟨⟩⟩, (sC sR), ⟨rfl, (qh (qh leG1 le4) le5), (hb1), (by (try dsimp only) <;> omega), (hso2)⟩, (by omega)⟩
  refine jj (qx (qx (qO (id (retEndNP (L' := cellsH ub (arv :: bj) 200 :: L) [] (.tuple #[]) (by exact .nil) rfl (qh (qh le2 le3) leG1) rF (sC sR) ?_)))))
  exact ⟨_, _, rfl, hbj, (EqTo.done hso hrx hry (by rw [parts_args]; omega) (by omega) hhd), rfl⟩
 refine qn (t := 22) rfl (vF h1) (qn (t := 22) rfl (vF h1) (qn (t := 22) rfl (vF h1) (qn (t := 22) rfl (vF h1) (cX (qG (.bool (false)) (vF h1) rfl (qb (jC rfl (qz (qc (qc ?_))))))))))
 by_cases h6 : (u2.getD 0 0 : Int) < 0
 ·by_cases h7 : (u1.getD 0 0 : Int) ≥ 0
  ·refine jI [cellsH ub (arv :: bs) 200] L 16 [] [[], [0], [1], [2], [3], [4], [4, 5], [4, 6], [4, 7], [4, 8], [9], [9, 10], [9, 11], [9], [9, 13], [9, 14]] (phiL [qe v2, qe (.pointer (some (elemA v2 (0)))), qe (ii (u2.getD 0 0)), qe (.bool (decide ((u2.getD 0 0 : Int) < 0)) : Value), qe (.bool (decide ((u2.getD 0 0 : Int) < 0)) : Value), qe v1, qe (.pointer (some (elemA v1 (0)))), qe (ii (u1.getD 0 0)), qe (.bool (decide ((u1.getD 0 0 : Int) ≥ 0)) : Value), qe (.bool (decide ((u1.getD 0 0 : Int) ≥ 0)) : Value), qe undef, qe undef, qe undef, qe undef, qe undef, qe undef]) (ownL []) mixed rfl rfl (by kernel_rfl) ?_ ?_
   ·refine pD (fun W R z9 => ?_) ?_
    ·refine qj (ql (v2) rfl ?_)
     exact ⟨rfl, rfl, rfl⟩
    refine pD (fun W R z9 => ?_) ?_
    ·rw [eS (l := [(0, _)]) ⟨z9 0 rfl, ⟨⟩⟩]
     refine qj (qu 0 qd qm rfl rfl rfl hv2.slv (by omega) (Nat.mul_one _) ?_)
     exact ⟨rfl, rfl, rfl⟩
    refine pD (fun W R z9 => ?_) ?_
    ·rw [eS (l := [(1, _)]) ⟨z9 1 rfl, ⟨⟩⟩]
     refine qj (qi qQ rfl (hv2.rd (by omega)) ?_)
     exact ⟨rfl, rfl, rfl⟩
    refine pD (fun W R z9 => ?_) ?_
    ·rw [eS (l := [(2, _)]) ⟨z9 2 rfl, ⟨⟩⟩]
     refine qj (qT rfl rfl ?_)
     exact ⟨rfl, rfl, rfl⟩
    refine pD (fun W R z9 => ?_) ?_
    ·rw [eS (l := [(3, _)]) ⟨z9 3 rfl, ⟨⟩⟩]
     refine qj (ql (.bool (decide ((u2.getD 0 0 : Int) < 0))) rfl ?_)
     exact ⟨rfl, rfl, rfl⟩
    refine pD (fun W R z9 => ?_) ?_
    ·rw [eS (l := [(4, _)]) ⟨z9 4 rfl, ⟨⟩⟩]
     refine jt (t := 32) rfl (vT h6) (ql (v1) rfl ?_)
     exact ⟨rfl, rfl, rfl⟩
    refine pD (fun W R z9 => ?_) ?_
    ·rw [eS (l := [(4, _), (5, _)]) ⟨z9 4 rfl, z9 5 rfl, ⟨⟩⟩]
     refine jt (t := 32) rfl (vT h6) (qu 0 qd qm rfl rfl rfl hv1.slv (by omega) (Nat.mul_one _) ?_)
     exact ⟨rfl, rfl, rfl⟩
    refine pD (fun W R z9 => ?_) ?_
    ·rw [eS (l := [(4, _), (6, _)]) ⟨z9 4 rfl, z9 6 rfl, ⟨⟩⟩]
     refine jt (t := 32) rfl (vT h6) (qi qQ rfl (hv1.rd (by omega)) ?_)
     exact ⟨rfl, rfl, rfl⟩
    refine pD (fun W R z9 => ?_) ?_
    ·rw [eS (l := [(4, _), (7, _)]) ⟨z9 4 rfl, z9 7 rfl, ⟨⟩⟩]
     refine jt (t := 32) rfl (vT h6) (jP rfl rfl ?_)
     exact ⟨rfl, rfl, rfl⟩
    refine pD (fun W R z9 => ?_) ?_
    ·rw [eS (l := [(4, _), (8, _)]) ⟨z9 4 rfl, z9 8 rfl, ⟨⟩⟩]
     refine jt (t := 32) rfl (vT h6) (ql (.bool (decide ((u1.getD 0 0 : Int) ≥ 0))) rfl ?_)
     exact ⟨rfl, rfl, rfl⟩
    refine pD (fun W R z9 => ?_) ?_
    ·rw [eS (l := [(9, _)]) ⟨z9 9 rfl, ⟨⟩⟩]
     exact jB (t := 37) rfl (vT h7) ⟨rfl, rfl, rfl⟩
    refine pD (fun W R z9 => ?_) ?_
    ·rw [eS (l := [(9, _), (10, undef)]) ⟨z9 9 rfl, z9 10 rfl, ⟨⟩⟩]
     exact jB (t := 37) rfl (vT h7) ⟨rfl, rfl, rfl⟩
    refine pD (fun W R z9 => ?_) ?_
    ·rw [eS (l := [(9, _), (11, undef)]) ⟨z9 9 rfl, z9 11 rfl, ⟨⟩⟩]
     exact jB (t := 37) rfl (vT h7) ⟨rfl, rfl, rfl⟩
    refine pD (fun W R z9 => ?_) ?_
    ·rw [eS (l := [(9, _)]) ⟨z9 9 rfl, ⟨⟩⟩]
     exact jB (t := 37) rfl (vT h7) ⟨rfl, rfl, rfl⟩
    refine pD (fun W R z9 => ?_) ?_
    ·rw [eS (l := [(9, _), (13, undef)]) ⟨z9 9 rfl, z9 13 rfl, ⟨⟩⟩]
     exact jB (t := 37) rfl (vT h7) ⟨rfl, rfl, rfl⟩
    refine pD (fun W R z9 => ?_) ?_
    ·rw [eS (l := [(9, _), (14, undef)]) ⟨z9 9 rfl, z9 14 rfl, ⟨⟩⟩]
     exact jB (t := 37) rfl (vT h7) ⟨rfl, rfl, rfl⟩
    exact stepsP.nil
   intro W hphi
   rw [eS (l := [(4, _), (9, _), (12, undef), (15, undef)]) ⟨(hphi 4 (by decide)), (hphi 9 (by decide)), (hphi 12 (by decide)), (hphi 15 (by decide)), ⟨⟩⟩]
   show XL _ _ _ _ _ _ _ (cellsH ub (arv :: bs) 200 :: L)
   refine qn (t := 37) rfl (vT h7) (qk (t := 32) rfl (vT h6) (qN (.bool (true)) (vT h7) rfl (cX (qN (.bool (true)) (vT h6) rfl (qb (jq rfl (qa (qf (v2) rfl (qf (v1) rfl (qg (v2) rfl (qg (v1) rfl ?_)))))))))))
   refine qb (qc (qc (qa ?_)))
   have hrx := hru2
   have hry := hru1
   have hnx := hn2
   have hny := hn1
   have hwx := hrx.w
   have hwy := hry.w
   have hxl := hrx.w.len
   have hyl := hry.w.len
   have hxg := hrx.w.geD (p := 0) (by omega)
   have hyg := hry.w.geD (p := 0) (by omega)
   have hbl := hb.len
   skip
   refine qf (v2) rfl (cX (qu 0 qd qm rfl rfl rfl hv2.slv (by omega) (Nat.mul_one _) (cX (qi qQ rfl (hv2.rd (by omega)) (cX (qT rfl rfl (qb (jq (vT h6) (qc (qc (qa (qf (v1) rfl (cX (qu 0 qd qm rfl rfl rfl hv1.slv (by omega) (Nat.mul_one _) (cX (qi qQ rfl (hv1.rd (by omega)) ?_))))))))))))))))
   refine cX (jP rfl rfl (qf (.bool (decide ((u1.getD 0 0 : Int) ≥ 0))) rfl (qk (t := 57) rfl (vT h7) (ql (ptr ub 0) rfl (qk (t := 57) rfl (vT h7) (ql (v2) rfl (qk (t := 57) rfl (vT h7) (qu 0 qd qm rfl rfl rfl hv2.slv (by omega) (Nat.mul_one _) (qk (t := 57) rfl (vT h7) (qi qQ rfl (hv2.rd (by omega)) (qk (t := 57) rfl (vT h7) (ql (v1) rfl (qk (t := 57) rfl (vT h7) (XOp.build0 (bools (List.replicate 48 false)) runUnderlying241 ⟨_, sizeOf4⟩ zeroValue241 rfl (qk (t := 57) rfl (vT h7) (jc (bools (List.replicate 48 false)) rfl rfl ?_))))))))))))))))
   intro b2
   have hl1 : (List.replicate 48 false).length = 48 := rfl
   have hx0 : u2.getD 0 0 < 0 := by omega
   obtain ⟨ρ9, hρ9⟩ := hb.acyc
   obtain ⟨k9, hk9⟩ := maxRank u1 ρ9
   refine jw (jJ (A := [_])) ?_
   show XL _ _ _ _ _ _ _ (cellsH ub (arv :: bs) 200 :: cellsH b2 (bools ((List.replicate 48 false))) 241 :: L)
   refine qk (t := 57) rfl (vT h7) (qr (args := [ptr ub 0, ii (u2.getD 0 0), v1, ptr b2 0]) call249 rfl (occurs_spec k9 har hbc (by assumption) hv1 hσ hρ9 hx0 (hrx.top.resolve_left (by omega)) (fun m hm _ => hk9 m hm) (fun i hi => hry.w.geD hi) hyl.2 hl1 ClearM.nils) ?_)
   rintro _ _ _ _ ⟨s1, rfl, hs4, hm1, rfl, rfl⟩
   refine cX (qN (.bool (decide (u2.getD 0 0 ∈ ap σ u1))) (vT h7) rfl (qb ?_))
   refine qA (p := u2.getD 0 0 ∈ ap σ u1) rfl (fun h8 => ?_) (fun h8 => ?_)
   ·have hoy := h8
    refine qa ?_
    skip
    refine cX (qY [] [] [] [] jW zeroValue230 rfl PlacesAre.nil rfl CellsAre.nil (cX (XOp.iface jW rfl (jw ((sC (sD sR))) (XL.panicI rfl ?_)))))
    exact .inr ⟨_, rfl, _, _, rfl, hbc, (no_swap (occ_eq hb hσ hrx hry (by omega) (by omega) hoy)), rfl⟩
   have hoy := h8
   refine qz (qc ?_)
   refine jI [cellsH ub (arv :: bs) 200, cellsH b2 (bools s1) 241] L 8 [] [[], [], [1], [2], [3], [], [0], [6]] (phiL [qe (ptr ub 0), qe v2, qe (.pointer (some (elemA v2 (0)))), qe (ii (u2.getD 0 0)), qe (ii ((-1) - (u2.getD 0 0))), qe v1, qe (ptr ub 0), qe (ptr ub 1)]) (ownL []) mixed rfl rfl (by kernel_rfl) ?_ ?_
   ·refine pD (fun W R z9 => ?_) ?_
    ·refine qj (ql (ptr ub 0) rfl ?_)
     exact ⟨rfl, rfl, rfl⟩
    refine pD (fun W R z9 => ?_) ?_
    ·refine qj (ql (v2) rfl ?_)
     exact ⟨rfl, rfl, rfl⟩
    refine pD (fun W R z9 => ?_) ?_
    ·rw [eS (l := [(1, _)]) ⟨z9 1 rfl, ⟨⟩⟩]
     refine qj (qu 0 qd qm rfl rfl rfl hv2.slv (by omega) (Nat.mul_one _) ?_)
     exact ⟨rfl, rfl, rfl⟩
    refine pD (fun W R z9 => ?_) ?_
    ·rw [eS (l := [(2, _)]) ⟨z9 2 rfl, ⟨⟩⟩]
     refine qj (qi qQ rfl (hv2.rd (by omega)) ?_)
     exact ⟨rfl, rfl, rfl⟩
    refine pD (fun W R z9 => ?_) ?_
    ·rw [eS (l := [(3, _)]) ⟨z9 3 rfl, ⟨⟩⟩]
     refine qj (jf ((-1) - (u2.getD 0 0)) rfl rfl (by omega) (by omega) ?_)
     exact ⟨rfl, rfl, rfl⟩
    refine pD (fun W R z9 => ?_) ?_
    ·refine qj (ql (v1) rfl ?_)
     exact ⟨rfl, rfl, rfl⟩
    refine pD (fun W R z9 => ?_) ?_
    ·rw [eS (l := [(0, _)]) ⟨z9 0 rfl, ⟨⟩⟩]
     refine qj (ji rfl ?_)
     exact ⟨rfl, rfl, rfl⟩
    refine pD (fun W R z9 => ?_) ?_
    ·rw [eS (l := [(6, _)]) ⟨z9 6 rfl, ⟨⟩⟩]
     refine qj (qo (1) jA rfl sizeOf198 (by decide) rfl rfl ?_)
     exact ⟨rfl, rfl, rfl⟩
    exact stepsP.nil
   intro W hphi
   rw [eS (l := [(4, _), (5, _), (7, _)]) ⟨(hphi 4 (by decide)), (hphi 5 (by decide)), (hphi 7 (by decide)), ⟨⟩⟩]
   show XL _ _ _ _ _ _ _ (cellsH ub (arv :: bs) 200 :: cellsH b2 (bools s1) 241 :: L)
   refine cX (jZ (i := (-1) - (u2.getD 0 0)) (((-1) - (u2.getD 0 0)).toNat) (1 + (((-1) - (u2.getD 0 0)).toNat)) jV qp rfl rfl (by omega) (by omega) (by omega) (cX (jx [] _ (arv :: (bs.set (((-1) - (u2.getD 0 0)).toNat) v1)) qp rfl rfl (jb (qD hv1)) rfl (blt_1 (by have := CO.len hbc; (try simp only [List.length_set, List.length_replicate] at this ⊢) <;> omega)) set_1 ?_)))
   have hc1 := hbc.set (((-1) - (u2.getD 0 0)).toNat) hv1 (by rw [hny]; exact (decide_eq_false hry.w.ne).symm)
   refine qb (qw (qq (retEndP (L' := cellsH ub (arv :: ((bs.set (((-1) - (u2.getD 0 0)).toNat) v1))) 200 :: L) [] (.tuple #[]) (by exact .nil) rfl rF rF (sC (sD sR)) ?_)))
   exact ⟨_, _, rfl, hc1, (Solves.swap (bind_eq hb hσ hrx hry (by omega) (by first | exact hoy | exact bind_var hσ hry (by omega) (by omega)))), rfl⟩
  refine jI [cellsH ub (arv :: bs) 200] L 16 [] [[], [0], [1], [2], [3], [4], [4, 5], [4, 6], [4, 7], [4, 8], [9], [9, 10], [9, 11], [9], [9, 13], [9, 14]] (phiL [qe v2, qe (.pointer (some (elemA v2 (0)))), qe (ii (u2.getD 0 0)), qe (.bool (decide ((u2.getD 0 0 : Int) < 0)) : Value), qe (.bool (decide ((u2.getD 0 0 : Int) < 0)) : Value), qe v1, qe (.pointer (some (elemA v1 (0)))), qe (ii (u1.getD 0 0)), qe (.bool (decide ((u1.getD 0 0 : Int) ≥ 0)) : Value), qe (.bool (decide ((u1.getD 0 0 : Int) ≥ 0)) : Value), qe v2, qe (.pointer (some (elemA v2 (0)))), qe (ii (u2.getD 0 0)), qe v1, qe (.pointer (some (elemA v1 (0)))), qe (ii (u1.getD 0 0))]) (ownL []) mixed rfl rfl (by kernel_rfl) ?_ ?_
  ·refine pD (fun W R z9 => ?_) ?_
   ·refine qj (ql (v2) rfl ?_)
    exact ⟨rfl, rfl, rfl⟩
   refine pD (fun W R z9 => ?_) ?_
   ·rw [eS (l := [(0, _)]) ⟨z9 0 rfl, ⟨⟩⟩]
    refine qj (qu 0 qd qm rfl rfl rfl hv2.slv (by omega) (Nat.mul_one _) ?_)
    exact ⟨rfl, rfl, rfl⟩
   refine pD (fun W R z9 => ?_) ?_
   ·rw [eS (l := [(1, _)]) ⟨z9 1 rfl, ⟨⟩⟩]
    refine qj (qi qQ rfl (hv2.rd (by omega)) ?_)
    exact ⟨rfl, rfl, rfl⟩
   refine pD (fun W R z9 => ?_) ?_
   ·rw [eS (l := [(2, _)]) ⟨z9 2 rfl, ⟨⟩⟩]
    refine qj (qT rfl rfl ?_)
    exact ⟨rfl, rfl, rfl⟩
   refine pD (fun W R z9 => ?_) ?_
   ·rw [eS (l := [(3, _)]) ⟨z9 3 rfl, ⟨⟩⟩]
    refine qj (ql (.bool (decide ((u2.getD 0 0 : Int) < 0))) rfl ?_)
    exact ⟨rfl, rfl, rfl⟩
   refine pD (fun W R z9 => ?_) ?_
   ·rw [eS (l := [(4, _)]) ⟨z9 4 rfl, ⟨⟩⟩]
    refine jt (t := 32) rfl (vT h6) (ql (v1) rfl ?_)
    exact ⟨rfl, rfl, rfl⟩
   refine pD (fun W R z9 => ?_) ?_
   ·rw [eS (l := [(4, _), (5, _)]) ⟨z9 4 rfl, z9 5 rfl, ⟨⟩⟩]
    refine jt (t := 32) rfl (vT h6) (qu 0 qd qm rfl rfl rfl hv1.slv (by omega) (Nat.mul_one _) ?_)
    exact ⟨rfl, rfl, rfl⟩
   refine pD (fun W R z9 => ?_) ?_
   ·rw [eS (l := [(4, _), (6, _)]) ⟨z9 4 rfl, z9 6 rfl, ⟨⟩⟩]
    refine jt (t := 32) rfl (vT h6) (qi qQ rfl (hv1.rd (by omega)) ?_)
    exact ⟨rfl, rfl, rfl⟩
   refine pD (fun W R z9 => ?_) ?_
   ·rw [eS (l := [(4, _), (7, _)]) ⟨z9 4 rfl, z9 7 rfl, ⟨⟩⟩]
    refine jt (t := 32) rfl (vT h6) (jP rfl rfl ?_)
    exact ⟨rfl, rfl, rfl⟩
   refine pD (fun W R z9 => ?_) ?_
   ·rw [eS (l := [(4, _), (8, _)]) ⟨z9 4 rfl, z9 8 rfl, ⟨⟩⟩]
    refine jt (t := 32) rfl (vT h6) (ql (.bool (decide ((u1.getD 0 0 : Int) ≥ 0))) rfl ?_)
    exact ⟨rfl, rfl, rfl⟩
   refine pD (fun W R z9 => ?_) ?_
   ·rw [eS (l := [(9, _)]) ⟨z9 9 rfl, ⟨⟩⟩]
    refine jt (t := 37) rfl (vF h7) (ql (v2) rfl ?_)
    exact ⟨rfl, rfl, rfl⟩
   refine pD (fun W R z9 => ?_) ?_
   ·rw [eS (l := [(9, _), (10, _)]) ⟨z9 9 rfl, z9 10 rfl, ⟨⟩⟩]
    refine jt (t := 37) rfl (vF h7) (qu 0 qd qm rfl rfl rfl hv2.slv (by omega) (Nat.mul_one _) ?_)
    exact ⟨rfl, rfl, rfl⟩
   refine pD (fun W R z9 => ?_) ?_
   ·rw [eS (l := [(9, _), (11, _)]) ⟨z9 9 rfl, z9 11 rfl, ⟨⟩⟩]
    refine jt (t := 37) rfl (vF h7) (qi qQ rfl (hv2.rd (by omega)) ?_)
    exact ⟨rfl, rfl, rfl⟩
   refine pD (fun W R z9 => ?_) ?_
   ·rw [eS (l := [(9, _)]) ⟨z9 9 rfl, ⟨⟩⟩]
    refine jt (t := 37) rfl (vF h7) (ql (v1) rfl ?_)
    exact ⟨rfl, rfl, rfl⟩
   refine pD (fun W R z9 => ?_) ?_
   ·rw [eS (l := [(9, _), (13, _)]) ⟨z9 9 rfl, z9 13 rfl, ⟨⟩⟩]
    refine jt (t := 37) rfl (vF h7) (qu 0 qd qm rfl rfl rfl hv1.slv (by omega) (Nat.mul_one _) ?_)
    exact ⟨rfl, rfl, rfl⟩
   refine pD (fun W R z9 => ?_) ?_
   ·rw [eS (l := [(9, _), (14, _)]) ⟨z9 9 rfl, z9 14 rfl, ⟨⟩⟩]
    refine jt (t := 37) rfl (vF h7) (qi qQ rfl (hv1.rd (by omega)) ?_)
    exact ⟨rfl, rfl, rfl⟩
   exact stepsP.nil
  intro W hphi
  rw [eS (l := [(4, _), (9, _), (12, _), (15, _)]) ⟨(hphi 4 (by decide)), (hphi 9 (by decide)), (hphi 12 (by decide)), (hphi 15 (by decide)), ⟨⟩⟩]
  show XL _ _ _ _ _ _ _ (cellsH ub (arv :: bs) 200 :: L)
  refine qk (t := 37) rfl (vF h7) (qT rfl rfl (qk (t := 32) rfl (vT h6) (qG (.bool (decide ((u2.getD 0 0 : Int) < u1.getD 0 0))) (vF h7) rfl (cX (qN (.bool (decide ((u2.getD 0 0 : Int) < u1.getD 0 0))) (vT h6) rfl (qb ?_))))))
  refine qA (p := (u2.getD 0 0 : Int) < u1.getD 0 0) rfl (fun h9 => ?_) (fun h9 => ?_)
  ·refine qa (qf (v2) rfl (qf (v1) rfl (qg (v2) rfl (qg (v1) rfl (qb (qc (qc (qa ?_))))))))
   have hrx := hru2
   have hry := hru1
   have hnx := hn2
   have hny := hn1
   have hwx := hrx.w
   have hwy := hry.w
   have hxl := hrx.w.len
   have hyl := hry.w.len
   have hxg := hrx.w.geD (p := 0) (by omega)
   have hyg := hry.w.geD (p := 0) (by omega)
   have hbl := hb.len
   skip
   refine qf (v2) rfl (cX (qu 0 qd qm rfl rfl rfl hv2.slv (by omega) (Nat.mul_one _) (cX (qi qQ rfl (hv2.rd (by omega)) (cX (qT rfl rfl (qb (jq (vT h6) (qc (qc (qa (qf (v1) rfl (cX (qu 0 qd qm rfl rfl rfl hv1.slv (by omega) (Nat.mul_one _) (cX (qi qQ rfl (hv1.rd (by omega)) ?_))))))))))))))))
   refine cX (jP rfl rfl (qf (.bool (decide ((u1.getD 0 0 : Int) ≥ 0))) rfl (qn (t := 57) rfl (vF h7) (qn (t := 57) rfl (vF h7) (qn (t := 57) rfl (vF h7) (qn (t := 57) rfl (vF h7) (qn (t := 57) rfl (vF h7) (qn (t := 57) rfl (vF h7) (qn (t := 57) rfl (vF h7) (qn (t := 57) rfl (vF h7) ?_))))))))))
   refine cX (qG (.bool (false)) (vF h7) rfl (qb (jC rfl (qz (qc ?_)))))
   refine jI [cellsH ub (arv :: bs) 200] L 8 [] [[], [], [1], [2], [3], [], [0], [6]] (phiL [qe (ptr ub 0), qe v2, qe (.pointer (some (elemA v2 (0)))), qe (ii (u2.getD 0 0)), qe (ii ((-1) - (u2.getD 0 0))), qe v1, qe (ptr ub 0), qe (ptr ub 1)]) (ownL []) mixed rfl rfl (by kernel_rfl) ?_ ?_
   ·refine pD (fun W R z9 => ?_) ?_
    ·refine qj (ql (ptr ub 0) rfl ?_)
     exact ⟨rfl, rfl, rfl⟩
    refine pD (fun W R z9 => ?_) ?_
    ·refine qj (ql (v2) rfl ?_)
     exact ⟨rfl, rfl, rfl⟩
    refine pD (fun W R z9 => ?_) ?_
    ·rw [eS (l := [(1, _)]) ⟨z9 1 rfl, ⟨⟩⟩]
     refine qj (qu 0 qd qm rfl rfl rfl hv2.slv (by omega) (Nat.mul_one _) ?_)
     exact ⟨rfl, rfl, rfl⟩
    refine pD (fun W R z9 => ?_) ?_
    ·rw [eS (l := [(2, _)]) ⟨z9 2 rfl, ⟨⟩⟩]
     refine qj (qi qQ rfl (hv2.rd (by omega)) ?_)
     exact ⟨rfl, rfl, rfl⟩
    refine pD (fun W R z9 => ?_) ?_
    ·rw [eS (l := [(3, _)]) ⟨z9 3 rfl, ⟨⟩⟩]
     refine qj (jf ((-1) - (u2.getD 0 0)) rfl rfl (by omega) (by omega) ?_)
     exact ⟨rfl, rfl, rfl⟩
    refine pD (fun W R z9 => ?_) ?_
    ·refine qj (ql (v1) rfl ?_)
     exact ⟨rfl, rfl, rfl⟩
    refine pD (fun W R z9 => ?_) ?_
    ·rw [eS (l := [(0, _)]) ⟨z9 0 rfl, ⟨⟩⟩]
     refine qj (ji rfl ?_)
     exact ⟨rfl, rfl, rfl⟩
    refine pD (fun W R z9 => ?_) ?_
    ·rw [eS (l := [(6, _)]) ⟨z9 6 rfl, ⟨⟩⟩]
     refine qj (qo (1) jA rfl sizeOf198 (by decide) rfl rfl ?_)
     exact ⟨rfl, rfl, rfl⟩
    exact stepsP.nil
   intro W hphi
   rw [eS (l := [(4, _), (5, _), (7, _)]) ⟨(hphi 4 (by decide)), (hphi 5 (by decide)), (hphi 7 (by decide)), ⟨⟩⟩]
   show XL _ _ _ _ _ _ _ (cellsH ub (arv :: bs) 200 :: L)
   refine cX (jZ (i := (-1) - (u2.getD 0 0)) (((-1) - (u2.getD 0 0)).toNat) (1 + (((-1) - (u2.getD 0 0)).toNat)) jV qp rfl rfl (by omega) (by omega) (by omega) (cX (jx [] _ (arv :: (bs.set (((-1) - (u2.getD 0 0)).toNat) v1)) qp rfl rfl (jb (qD hv1)) rfl (blt_1 (by have := CO.len hbc; (try simp only [List.length_set, List.length_replicate] at this ⊢) <;> omega)) set_1 ?_)))
   have hc2 := hbc.set (((-1) - (u2.getD 0 0)).toNat) hv1 (by rw [hny]; exact (decide_eq_false hry.w.ne).symm)
   refine qb (qw (qq (retEndP (L' := cellsH ub (arv :: ((bs.set (((-1) - (u2.getD 0 0)).toNat) v1))) 200 :: L) [] (.tuple #[]) (by exact .nil) rfl rF rF (sC sR) ?_)))
   exact ⟨_, _, rfl, hc2, (Solves.swap (bind_eq hb hσ hrx hry (by omega) (by first | exact hoy | exact bind_var hσ hry (by omega) (by omega)))), rfl⟩
  refine qz (qc (qc (qa ?_)))
  have hrx := hru1
  have hry := hru2
  have hnx := hn1
  have hny := hn2
  have hwx := hrx.w
  have hwy := hry.w
  have hxl := hrx.w.len
  have hyl := hry.w.len
  have hxg := hrx.w.geD (p := 0) (by omega)
  have hyg := hry.w.geD (p := 0) (by omega)
  have hbl := hb.len
  skip
  refine qf (v1) rfl (cX (qu 0 qd qm rfl rfl rfl hv1.slv (by omega) (Nat.mul_one _) (cX (qi qQ rfl (hv1.rd (by omega)) (cX (qT rfl rfl (qb ?_)))))))
  refine qA (p := (u1.getD 0 0 : Int) < 0) rfl (fun h10 => ?_) (fun h10 => ?_)
  ·refine qc (qc (qa (qf (v2) rfl (cX (qu 0 qd qm rfl rfl rfl hv2.slv (by omega) (Nat.mul_one _) (cX (qi qQ rfl (hv2.rd (by omega)) (cX (jP rfl rfl (qf (.bool (decide ((u2.getD 0 0 : Int) ≥ 0))) rfl ?_))))))))))
   by_cases h11 : (u2.getD 0 0 : Int) ≥ 0
   ·refine qk (t := 57) rfl (vT h11) (ql (ptr ub 0) rfl (qk (t := 57) rfl (vT h11) (ql (v1) rfl (qk (t := 57) rfl (vT h11) (qu 0 qd qm rfl rfl rfl hv1.slv (by omega) (Nat.mul_one _) (qk (t := 57) rfl (vT h11) (qi qQ rfl (hv1.rd (by omega)) (qk (t := 57) rfl (vT h11) (ql (v2) rfl (qk (t := 57) rfl (vT h11) (XOp.build0 (bools (List.replicate 48 false)) runUnderlying241 ⟨_, sizeOf4⟩ zeroValue241 rfl (qk (t := 57) rfl (vT h11) (jc (bools (List.replicate 48 false)) rfl rfl ?_)))))))))))))
    intro b3
    have hl2 : (List.replicate 48 false).length = 48 := rfl
    have hx0 : u1.getD 0 0 < 0 := by omega
    obtain ⟨ρ9, hρ9⟩ := hb.acyc
    obtain ⟨k9, hk9⟩ := maxRank u2 ρ9
    refine jw (jJ (A := [_])) ?_
    show XL _ _ _ _ _ _ _ (cellsH ub (arv :: bs) 200 :: cellsH b3 (bools ((List.replicate 48 false))) 241 :: L)
    refine qk (t := 57) rfl (vT h11) (qr (args := [ptr ub 0, ii (u1.getD 0 0), v2, ptr b3 0]) call249 rfl (occurs_spec k9 har hbc (by assumption) hv2 hσ hρ9 hx0 (hrx.top.resolve_left (by omega)) (fun m hm _ => hk9 m hm) (fun i hi => hry.w.geD hi) hyl.2 hl2 ClearM.nils) ?_)
    rintro _ _ _ _ ⟨s2, rfl, hs5, hm2, rfl, rfl⟩
    refine cX (qN (.bool (decide (u1.getD 0 0 ∈ ap σ u2))) (vT h11) rfl (qb ?_))
    refine qA (p := u1.getD 0 0 ∈ ap σ u2) rfl (fun h12 => ?_) (fun h12 => ?_)
    ·have hoy := h12
     refine qa ?_
     skip
     refine cX (qY [] [] [] [] jW zeroValue230 rfl PlacesAre.nil rfl CellsAre.nil (cX (XOp.iface jW rfl (jw ((sC (sD sR))) (XL.panicI rfl ?_)))))
     exact .inr ⟨_, rfl, _, _, rfl, hbc, (occ_eq hb hσ hrx hry (by omega) (by omega) hoy), rfl⟩
    have hoy := h12
    refine qz (qc ?_)
    refine jI [cellsH ub (arv :: bs) 200, cellsH b3 (bools s2) 241] L 8 [] [[], [], [1], [2], [3], [], [0], [6]] (phiL [qe (ptr ub 0), qe v1, qe (.pointer (some (elemA v1 (0)))), qe (ii (u1.getD 0 0)), qe (ii ((-1) - (u1.getD 0 0))), qe v2, qe (ptr ub 0), qe (ptr ub 1)]) (ownL []) mixed rfl rfl (by kernel_rfl) ?_ ?_
    ·refine pD (fun W R z9 => ?_) ?_
     ·refine qj (ql (ptr ub 0) rfl ?_)
      exact ⟨rfl, rfl, rfl⟩
     refine pD (fun W R z9 => ?_) ?_
     ·refine qj (ql (v1) rfl ?_)
      exact ⟨rfl, rfl, rfl⟩
     refine pD (fun W R z9 => ?_) ?_
     ·rw [eS (l := [(1, _)]) ⟨z9 1 rfl, ⟨⟩⟩]
      refine qj (qu 0 qd qm rfl rfl rfl hv1.slv (by omega) (Nat.mul_one _) ?_)
      exact ⟨rfl, rfl, rfl⟩
     refine pD (fun W R z9 => ?_) ?_
     ·rw [eS (l := [(2, _)]) ⟨z9 2 rfl, ⟨⟩⟩]
      refine qj (qi qQ rfl (hv1.rd (by omega)) ?_)
      exact ⟨rfl, rfl, rfl⟩
     refine pD (fun W R z9 => ?_) ?_
     ·rw [eS (l := [(3, _)]) ⟨z9 3 rfl, ⟨⟩⟩]
      refine qj (jf ((-1) - (u1.getD 0 0)) rfl rfl (by omega) (by omega) ?_)
      exact ⟨rfl, rfl, rfl⟩
     refine pD (fun W R z9 => ?_) ?_
     ·refine qj (ql (v2) rfl ?_)
      exact ⟨rfl, rfl, rfl⟩
     refine pD (fun W R z9 => ?_) ?_
     ·rw [eS (l := [(0, _)]) ⟨z9 0 rfl, ⟨⟩⟩]
      refine qj (ji rfl ?_)
      exact ⟨rfl, rfl, rfl⟩
     refine pD (fun W R z9 => ?_) ?_
     ·rw [eS (l := [(6, _)]) ⟨z9 6 rfl, ⟨⟩⟩]
      refine qj (qo (1) jA rfl sizeOf198 (by decide) rfl rfl ?_)
      exact ⟨rfl, rfl, rfl⟩
     exact stepsP.nil
    intro W hphi
    rw [eS (l := [(4, _), (5, _), (7, _)]) ⟨(hphi 4 (by decide)), (hphi 5 (by decide)), (hphi 7 (by decide)), ⟨⟩⟩]
    show XL _ _ _ _ _ _ _ (cellsH ub (arv :: bs) 200 :: cellsH b3 (bools s2) 241 :: L)
    refine cX (jZ (i := (-1) - (u1.getD 0 0)) (((-1) - (u1.getD 0 0)).toNat) (1 + (((-1) - (u1.getD 0 0)).toNat)) jV qp rfl rfl (by omega) (by omega) (by omega) (cX (jx [] _ (arv :: (bs.set (((-1) - (u1.getD 0 0)).toNat) v2)) qp rfl rfl (jb (qD hv2)) rfl (blt_1 (by have := CO.len hbc; (try simp only [List.length_set, List.length_replicate] at this ⊢) <;> omega)) set_1 ?_)))
    have hc3 := hbc.set (((-1) - (u1.getD 0 0)).toNat) hv2 (by rw [hny]; exact (decide_eq_false hry.w.ne).symm)
    refine qb (qw (qq (retEndP (L' := cellsH ub (arv :: ((bs.set (((-1) - (u1.getD 0 0)).toNat) v2))) 200 :: L) [] (.tuple #[]) (by exact .nil) rfl rF rF (sC (sD sR)) ?_)))
    exact ⟨_, _, rfl, hc3, (bind_eq hb hσ hrx hry (by omega) (by first | exact hoy | exact bind_var hσ hry (by omega) (by omega))), rfl⟩
   refine qn (t := 57) rfl (vF h11) (qn (t := 57) rfl (vF h11) (qn (t := 57) rfl (vF h11) (qn (t := 57) rfl (vF h11) (qn (t := 57) rfl (vF h11) (qn (t := 57) rfl (vF h11) (qn (t := 57) rfl (vF h11) (qn (t := 57) rfl (vF h11) (cX (qG (.bool (false)) (vF h11) rfl (qb ?_))))))))))
   refine jC rfl (qz (qc ?_))
   refine jI [cellsH ub (arv :: bs) 200] L 8 [] [[], [], [1], [2], [3], [], [0], [6]] (phiL [qe (ptr ub 0), qe v1, qe (.pointer (some (elemA v1 (0)))), qe (ii (u1.getD 0 0)), qe (ii ((-1) - (u1.getD 0 0))), qe v2, qe (ptr ub 0), qe (ptr ub 1)]) (ownL []) mixed rfl rfl (by kernel_rfl) ?_ ?_
   ·refine pD (fun W R z9 => ?_) ?_
    ·refine qj (ql (ptr ub 0) rfl ?_)
     exact ⟨rfl, rfl, rfl⟩
    refine pD (fun W R z9 => ?_) ?_
    ·refine qj (ql (v1) rfl ?_)
     exact ⟨rfl, rfl, rfl⟩
    refine pD (fun W R z9 => ?_) ?_
    ·rw [eS (l := [(1, _)]) ⟨z9 1 rfl, ⟨⟩⟩]
     refine qj (qu 0 qd qm rfl rfl rfl hv1.slv (by omega) (Nat.mul_one _) ?_)
     exact ⟨rfl, rfl, rfl⟩
    refine pD (fun W R z9 => ?_) ?_
    ·rw [eS (l := [(2, _)]) ⟨z9 2 rfl, ⟨⟩⟩]
     refine qj (qi qQ rfl (hv1.rd (by omega)) ?_)
     exact ⟨rfl, rfl, rfl⟩
    refine pD (fun W R z9 => ?_) ?_
    ·rw [eS (l := [(3, _)]) ⟨z9 3 rfl, ⟨⟩⟩]
     refine qj (jf ((-1) - (u1.getD 0 0)) rfl rfl (by omega) (by omega) ?_)
     exact ⟨rfl, rfl, rfl⟩
    refine pD (fun W R z9 => ?_) ?_
    ·refine qj (ql (v2) rfl ?_)
     exact ⟨rfl, rfl, rfl⟩
    refine pD (fun W R z9 => ?_) ?_
    ·rw [eS (l := [(0, _)]) ⟨z9 0 rfl, ⟨⟩⟩]
     refine qj (ji rfl ?_)
     exact ⟨rfl, rfl, rfl⟩
    refine pD (fun W R z9 => ?_) ?_
    ·rw [eS (l := [(6, _)]) ⟨z9 6 rfl, ⟨⟩⟩]
     refine qj (qo (1) jA rfl sizeOf198 (by decide) rfl rfl ?_)
     exact ⟨rfl, rfl, rfl⟩
    exact stepsP.nil
   intro W hphi
   rw [eS (l := [(4, _), (5, _), (7, _)]) ⟨(hphi 4 (by decide)), (hphi 5 (by decide)), (hphi 7 (by decide)), ⟨⟩⟩]
   show XL _ _ _ _ _ _ _ (cellsH ub (arv :: bs) 200 :: L)
   refine cX (jZ (i := (-1) - (u1.getD 0 0)) (((-1) - (u1.getD 0 0)).toNat) (1 + (((-1) - (u1.getD 0 0)).toNat)) jV qp rfl rfl (by omega) (by omega) (by omega) (cX (jx [] _ (arv :: (bs.set (((-1) - (u1.getD 0 0)).toNat) v2)) qp rfl rfl (jb (qD hv2)) rfl (blt_1 (by have := CO.len hbc; (try simp only [List.length_set, List.length_replicate] at this ⊢) <;> omega)) set_1 ?_)))
   have hc4 := hbc.set (((-1) - (u1.getD 0 0)).toNat) hv2 (by rw [hny]; exact (decide_eq_false hry.w.ne).symm)
   refine qb (qw (qq (retEndP (L' := cellsH ub (arv :: ((bs.set (((-1) - (u1.getD 0 0)).toNat) v2))) 200 :: L) [] (.tuple #[]) (by exact .nil) rfl rF rF (sC sR) ?_)))
   exact ⟨_, _, rfl, hc4, (bind_eq hb hσ hrx hry (by omega) (by first | exact hoy | exact bind_var hσ hry (by omega) (by omega))), rfl⟩
  exfalso
  omega
 refine jI [cellsH ub (arv :: bs) 200] L 16 [] [[], [0], [1], [2], [3], [4], [4, 5], [4, 6], [4, 7], [4, 8], [9], [9, 10], [9, 11], [9], [9, 13], [9, 14]] (phiL [qe v2, qe (.pointer (some (elemA v2 (0)))), qe (ii (u2.getD 0 0)), qe (.bool (decide ((u2.getD 0 0 : Int) < 0)) : Value), qe (.bool (decide ((u2.getD 0 0 : Int) < 0)) : Value), qe undef, qe undef, qe undef, qe undef, qe undef, qe undef, qe undef, qe undef, qe undef, qe undef, qe undef]) (ownL []) mixed rfl rfl (by kernel_rfl) ?_ ?_
 ·refine pD (fun W R z9 => ?_) ?_
  ·refine qj (ql (v2) rfl ?_)
   exact ⟨rfl, rfl, rfl⟩
  refine pD (fun W R z9 => ?_) ?_
  ·rw [eS (l := [(0, _)]) ⟨z9 0 rfl, ⟨⟩⟩]
   refine qj (qu 0 qd qm rfl rfl rfl hv2.slv (by omega) (Nat.mul_one _) ?_)
   exact ⟨rfl, rfl, rfl⟩
  refine pD (fun W R z9 => ?_) ?_
  ·rw [eS (l := [(1, _)]) ⟨z9 1 rfl, ⟨⟩⟩]
   refine qj (qi qQ rfl (hv2.rd (by omega)) ?_)
   exact ⟨rfl, rfl, rfl⟩
  refine pD (fun W R z9 => ?_) ?_
  ·rw [eS (l := [(2, _)]) ⟨z9 2 rfl, ⟨⟩⟩]
   refine qj (qT rfl rfl ?_)
   exact ⟨rfl, rfl, rfl⟩
  refine pD (fun W R z9 => ?_) ?_
  ·rw [eS (l := [(3, _)]) ⟨z9 3 rfl, ⟨⟩⟩]
   refine qj (ql (.bool (decide ((u2.getD 0 0 : Int) < 0))) rfl ?_)
   exact ⟨rfl, rfl, rfl⟩
  refine pD (fun W R z9 => ?_) ?_
  ·rw [eS (l := [(4, _)]) ⟨z9 4 rfl, ⟨⟩⟩]
   exact jB (t := 32) rfl (vF h6) ⟨rfl, rfl, rfl⟩
  refine pD (fun W R z9 => ?_) ?_
  ·rw [eS (l := [(4, _), (5, undef)]) ⟨z9 4 rfl, z9 5 rfl, ⟨⟩⟩]
   exact jB (t := 32) rfl (vF h6) ⟨rfl, rfl, rfl⟩
  refine pD (fun W R z9 => ?_) ?_
  ·rw [eS (l := [(4, _), (6, undef)]) ⟨z9 4 rfl, z9 6 rfl, ⟨⟩⟩]
   exact jB (t := 32) rfl (vF h6) ⟨rfl, rfl, rfl⟩
  refine pD (fun W R z9 => ?_) ?_
  ·rw [eS (l := [(4, _), (7, undef)]) ⟨z9 4 rfl, z9 7 rfl, ⟨⟩⟩]
   exact jB (t := 32) rfl (vF h6) ⟨rfl, rfl, rfl⟩
  refine pD (fun W R z9 => ?_) ?_
  ·rw [eS (l := [(4, _), (8, undef)]) ⟨z9 4 rfl, z9 8 rfl, ⟨⟩⟩]
   exact jB (t := 32) rfl (vF h6) ⟨rfl, rfl, rfl⟩
  refine pD (fun W R z9 => ?_) ?_
  ·rw [eS (l := [(9, undef)]) ⟨z9 9 rfl, ⟨⟩⟩]
   exact XG.noU (t := 37) rfl rfl ⟨rfl, rfl, rfl⟩
  refine pD (fun W R z9 => ?_) ?_
  ·rw [eS (l := [(9, undef), (10, undef)]) ⟨z9 9 rfl, z9 10 rfl, ⟨⟩⟩]
   exact XG.noU (t := 37) rfl rfl ⟨rfl, rfl, rfl⟩
  refine pD (fun W R z9 => ?_) ?_
  ·rw [eS (l := [(9, undef), (11, undef)]) ⟨z9 9 rfl, z9 11 rfl, ⟨⟩⟩]
   exact XG.noU (t := 37) rfl rfl ⟨rfl, rfl, rfl⟩
  refine pD (fun W R z9 => ?_) ?_
  ·rw [eS (l := [(9, undef)]) ⟨z9 9 rfl, ⟨⟩⟩]
   exact XG.noU (t := 37) rfl rfl ⟨rfl, rfl, rfl⟩
  refine pD (fun W R z9 => ?_) ?_
  ·rw [eS (l := [(9, undef), (13, undef)]) ⟨z9 9 rfl, z9 13 rfl, ⟨⟩⟩]
   exact XG.noU (t := 37) rfl rfl ⟨rfl, rfl, rfl⟩
  refine pD (fun W R z9 => ?_) ?_
  ·rw [eS (l := [(9, undef), (14, undef)]) ⟨z9 9 rfl, z9 14 rfl, ⟨⟩⟩]
   exact XG.noU (t := 37) rfl rfl ⟨rfl, rfl, rfl⟩
  exact stepsP.nil
 intro W hphi
 rw [eS (l := [(4, _), (9, undef), (12, undef), (15, undef)]) ⟨(hphi 4 (by decide)), (hphi 9 (by decide)), (hphi 12 (by decide)), (hphi 15 (by decide)), ⟨⟩⟩]
 show XL _ _ _ _ _ _ _ (cellsH ub (arv :: bs) 200 :: L)
 refine XL.noU (t := 37) rfl rfl (qn (t := 32) rfl (vF h6) (cX (qG (.bool (false)) (vF h6) rfl (qb (jC rfl (qz (qc (qc (qa ?_)))))))))
 have hrx := hru1
 have hry := hru2
 have hnx := hn1
 have hny := hn2
 have hwx := hrx.w
 have hwy := hry.w
 have hxl := hrx.w.len
 have hyl := hry.w.len
 have hxg := hrx.w.geD (p := 0) (by omega)
 have hyg := hry.w.geD (p := 0) (by omega)
 have hbl := hb.len
 skip
 refine qf (v1) rfl (cX (qu 0 qd qm rfl rfl rfl hv1.slv (by omega) (Nat.mul_one _) (cX (qi qQ rfl (hv1.rd (by omega)) (cX (qT rfl rfl (qb ?_)))))))
 refine qA (p := (u1.getD 0 0 : Int) < 0) rfl (fun h13 => ?_) (fun h13 => ?_)
 ·refine qc (qc (qa (qf (v2) rfl (cX (qu 0 qd qm rfl rfl rfl hv2.slv (by omega) (Nat.mul_one _) (cX (qi qQ rfl (hv2.rd (by omega)) (cX (jP rfl rfl (qf (.bool (decide ((u2.getD 0 0 : Int) ≥ 0))) rfl ?_))))))))))
  by_cases h14 : (u2.getD 0 0 : Int) ≥ 0
  ·refine qk (t := 57) rfl (vT h14) (ql (ptr ub 0) rfl (qk (t := 57) rfl (vT h14) (ql (v1) rfl (qk (t := 57) rfl (vT h14) (qu 0 qd qm rfl rfl rfl hv1.slv (by omega) (Nat.mul_one _) (qk (t := 57) rfl (vT h14) (qi qQ rfl (hv1.rd (by omega)) (qk (t := 57) rfl (vT h14) (ql (v2) rfl (qk (t := 57) rfl (vT h14) (XOp.build0 (bools (List.replicate 48 false)) runUnderlying241 ⟨_, sizeOf4⟩ zeroValue241 rfl (qk (t := 57) rfl (vT h14) (jc (bools (List.replicate 48 false)) rfl rfl ?_)))))))))))))
   intro b4
   have hl3 : (List.replicate 48 false).length = 48 := rfl
   have hx0 : u1.getD 0 0 < 0 := by omega
   obtain ⟨ρ9, hρ9⟩ := hb.acyc
   obtain ⟨k9, hk9⟩ := maxRank u2 ρ9
   refine jw (jJ (A := [_])) ?_
   show XL _ _ _ _ _ _ _ (cellsH ub (arv :: bs) 200 :: cellsH b4 (bools ((List.replicate 48 false))) 241 :: L)
   refine qk (t := 57) rfl (vT h14) (qr (args := [ptr ub 0, ii (u1.getD 0 0), v2, ptr b4 0]) call249 rfl (occurs_spec k9 har hbc (by assumption) hv2 hσ hρ9 hx0 (hrx.top.resolve_left (by omega)) (fun m hm _ => hk9 m hm) (fun i hi => hry.w.geD hi) hyl.2 hl3 ClearM.nils) ?_)
   rintro _ _ _ _ ⟨s3, rfl, hs6, hm3, rfl, rfl⟩
   refine cX (qN (.bool (decide (u1.getD 0 0 ∈ ap σ u2))) (vT h14) rfl (qb ?_))
   refine qA (p := u1.getD 0 0 ∈ ap σ u2) rfl (fun h15 => ?_) (fun h15 => ?_)
   ·have hoy := h15
    refine qa ?_
    skip
    refine cX (qY [] [] [] [] jW zeroValue230 rfl PlacesAre.nil rfl CellsAre.nil (cX (XOp.iface jW rfl (jw ((sC (sD sR))) (XL.panicI rfl ?_)))))
    exact .inr ⟨_, rfl, _, _, rfl, hbc, (occ_eq hb hσ hrx hry (by omega) (by omega) hoy), rfl⟩
   have hoy := h15
   refine qz (qc ?_)
   refine jI [cellsH ub (arv :: bs) 200, cellsH b4 (bools s3) 241] L 8 [] [[], [], [1], [2], [3], [], [0], [6]] (phiL [qe (ptr ub 0), qe v1, qe (.pointer (some (elemA v1 (0)))), qe (ii (u1.getD 0 0)), qe (ii ((-1) - (u1.getD 0 0))), qe v2, qe (ptr ub 0), qe (ptr ub 1)]) (ownL []) mixed rfl rfl (by kernel_rfl) ?_ ?_
   ·refine pD (fun W R z9 => ?_) ?_
    ·refine qj (ql (ptr ub 0) rfl ?_)
     exact ⟨rfl, rfl, rfl⟩
    refine pD (fun W R z9 => ?_) ?_
    ·refine qj (ql (v1) rfl ?_)
     exact ⟨rfl, rfl, rfl⟩
    refine pD (fun W R z9 => ?_) ?_
    ·rw [eS (l := [(1, _)]) ⟨z9 1 rfl, ⟨⟩⟩]
     refine qj (qu 0 qd qm rfl rfl rfl hv1.slv (by omega) (Nat.mul_one _) ?_)
     exact ⟨rfl, rfl, rfl⟩
    refine pD (fun W R z9 => ?_) ?_
    ·rw [eS (l := [(2, _)]) ⟨z9 2 rfl, ⟨⟩⟩]
     refine qj (qi qQ rfl (hv1.rd (by omega)) ?_)
     exact ⟨rfl, rfl, rfl⟩
    refine pD (fun W R z9 => ?_) ?_
    ·rw [eS (l := [(3, _)]) ⟨z9 3 rfl, ⟨⟩⟩]
     refine qj (jf ((-1) - (u1.getD 0 0)) rfl rfl (by omega) (by omega) ?_)
     exact ⟨rfl, rfl, rfl⟩
    refine pD (fun W R z9 => ?_) ?_
    ·refine qj (ql (v2) rfl ?_)
     exact ⟨rfl, rfl, rfl⟩
    refine pD (fun W R z9 => ?_) ?_
    ·rw [eS (l := [(0, _)]) ⟨z9 0 rfl, ⟨⟩⟩]
     refine qj (ji rfl ?_)
     exact ⟨rfl, rfl, rfl⟩
    refine pD (fun W R z9 => ?_) ?_
    ·rw [eS (l := [(6, _)]) ⟨z9 6 rfl, ⟨⟩⟩]
     refine qj (qo (1) jA rfl sizeOf198 (by decide) rfl rfl ?_)
     exact ⟨rfl, rfl, rfl⟩
    exact stepsP.nil
   intro W hphi
   rw [eS (l := [(4, _), (5, _), (7, _)]) ⟨(hphi 4 (by decide)), (hphi 5 (by decide)), (hphi 7 (by decide)), ⟨⟩⟩]
   show XL _ _ _ _ _ _ _ (cellsH ub (arv :: bs) 200 :: cellsH b4 (bools s3) 241 :: L)
   refine cX (jZ (i := (-1) - (u1.getD 0 0)) (((-1) - (u1.getD 0 0)).toNat) (1 + (((-1) - (u1.getD 0 0)).toNat)) jV qp rfl rfl (by omega) (by omega) (by omega) (cX (jx [] _ (arv :: (bs.set (((-1) - (u1.getD 0 0)).toNat) v2)) qp rfl rfl (jb (qD hv2)) rfl (blt_1 (by have := CO.len hbc; (try simp only [List.length_set, List.length_replicate] at this ⊢) <;> omega)) set_1 ?_)))
   have hc5 := hbc.set (((-1) - (u1.getD 0 0)).toNat) hv2 (by rw [hny]; exact (decide_eq_false hry.w.ne).symm)
   refine qb (qw (qq (retEndP (L' := cellsH ub (arv :: ((bs.set (((-1) - (u1.getD 0 0)).toNat) v2))) 200 :: L) [] (.tuple #[]) (by exact .nil) rfl rF rF (sC (sD sR)) ?_)))
   exact ⟨_, _, rfl, hc5, (bind_eq hb hσ hrx hry (by omega) (by first | exact hoy | exact bind_var hσ hry (by omega) (by omega))), rfl⟩
  refine qn (t := 57) rfl (vF h14) (qn (t := 57) rfl (vF h14) (qn (t := 57) rfl (vF h14) (qn (t := 57) rfl (vF h14) (qn (t := 57) rfl (vF h14) (qn (t := 57) rfl (vF h14) (qn (t := 57) rfl (vF h14) (qn (t := 57) rfl (vF h14) (cX (qG (.bool (false)) (vF h14) rfl (qb ?_))))))))))
  refine jC rfl (qz (qc ?_))
  refine jI [cellsH ub (arv :: bs) 200] L 8 [] [[], [], [1], [2], [3], [], [0], [6]] (phiL [qe (ptr ub 0), qe v1, qe (.pointer (some (elemA v1 (0)))), qe (ii (u1.getD 0 0)), qe (ii ((-1) - (u1.getD 0 0))), qe v2, qe (ptr ub 0), qe (ptr ub 1)]) (ownL []) mixed rfl rfl (by kernel_rfl) ?_ ?_
  ·refine pD (fun W R z9 => ?_) ?_
   ·refine qj (ql (ptr ub 0) rfl ?_)
    exact ⟨rfl, rfl, rfl⟩
   refine pD (fun W R z9 => ?_) ?_
   ·refine qj (ql (v1) rfl ?_)
    exact ⟨rfl, rfl, rfl⟩
   refine pD (fun W R z9 => ?_) ?_
   ·rw [eS (l := [(1, _)]) ⟨z9 1 rfl, ⟨⟩⟩]
    refine qj (qu 0 qd qm rfl rfl rfl hv1.slv (by omega) (Nat.mul_one _) ?_)
    exact ⟨rfl, rfl, rfl⟩
   refine pD (fun W R z9 => ?_) ?_
   ·rw [eS (l := [(2, _)]) ⟨z9 2 rfl, ⟨⟩⟩]
    refine qj (qi qQ rfl (hv1.rd (by omega)) ?_)
    exact ⟨rfl, rfl, rfl⟩
   refine pD (fun W R z9 => ?_) ?_
   ·rw [eS (l := [(3, _)]) ⟨z9 3 rfl, ⟨⟩⟩]
    refine qj (jf ((-1) - (u1.getD 0 0)) rfl rfl (by omega) (by omega) ?_)
    exact ⟨rfl, rfl, rfl⟩
   refine pD (fun W R z9 => ?_) ?_
   ·refine qj (ql (v2) rfl ?_)
    exact ⟨rfl, rfl, rfl⟩
   refine pD (fun W R z9 => ?_) ?_
   ·rw [eS (l := [(0, _)]) ⟨z9 0 rfl, ⟨⟩⟩]
    refine qj (ji rfl ?_)
    exact ⟨rfl, rfl, rfl⟩
   refine pD (fun W R z9 => ?_) ?_
   ·rw [eS (l := [(6, _)]) ⟨z9 6 rfl, ⟨⟩⟩]
    refine qj (qo (1) jA rfl sizeOf198 (by decide) rfl rfl ?_)
    exact ⟨rfl, rfl, rfl⟩
   exact stepsP.nil
  intro W hphi
  rw [eS (l := [(4, _), (5, _), (7, _)]) ⟨(hphi 4 (by decide)), (hphi 5 (by decide)), (hphi 7 (by decide)), ⟨⟩⟩]
  show XL _ _ _ _ _ _ _ (cellsH ub (arv :: bs) 200 :: L)
  refine cX (jZ (i := (-1) - (u1.getD 0 0)) (((-1) - (u1.getD 0 0)).toNat) (1 + (((-1) - (u1.getD 0 0)).toNat)) jV qp rfl rfl (by omega) (by omega) (by omega) (cX (jx [] _ (arv :: (bs.set (((-1) - (u1.getD 0 0)).toNat) v2)) qp rfl rfl (jb (qD hv2)) rfl (blt_1 (by have := CO.len hbc; (try simp only [List.length_set, List.length_replicate] at this ⊢) <;> omega)) set_1 ?_)))
  have hc6 := hbc.set (((-1) - (u1.getD 0 0)).toNat) hv2 (by rw [hny]; exact (decide_eq_false hry.w.ne).symm)
  refine qb (qw (qq (retEndP (L' := cellsH ub (arv :: ((bs.set (((-1) - (u1.getD 0 0)).toNat) v2))) 200 :: L) [] (.tuple #[]) (by exact .nil) rfl rF rF (sC sR) ?_)))
  exact ⟨_, _, rfl, hc6, (bind_eq hb hσ hrx hry (by omega) (by first | exact hoy | exact bind_var hσ hry (by omega) (by omega))), rfl⟩
 refine qz (qc (qc ?_))
 refine jI [cellsH ub (arv :: bs) 200] L 6 [] [[], [0], [1], [], [3], [4]] (phiL [qe v1, qe (.pointer (some (elemA v1 (0)))), qe (ii (u1.getD 0 0)), qe v2, qe (.pointer (some (elemA v2 (0)))), qe (ii (u2.getD 0 0))]) (ownL []) mixed rfl rfl (by kernel_rfl) ?_ ?_
 ·refine pD (fun W R z9 => ?_) ?_
  ·refine qj (ql (v1) rfl ?_)
   exact ⟨rfl, rfl, rfl⟩
  refine pD (fun W R z9 => ?_) ?_
  ·rw [eS (l := [(0, _)]) ⟨z9 0 rfl, ⟨⟩⟩]
   refine qj (qu 0 qd qm rfl rfl rfl hv1.slv (by omega) (Nat.mul_one _) ?_)
   exact ⟨rfl, rfl, rfl⟩
  refine pD (fun W R z9 => ?_) ?_
  ·rw [eS (l := [(1, _)]) ⟨z9 1 rfl, ⟨⟩⟩]
   refine qj (qi qQ rfl (hv1.rd (by omega)) ?_)
   exact ⟨rfl, rfl, rfl⟩
  refine pD (fun W R z9 => ?_) ?_
  ·refine qj (ql (v2) rfl ?_)
   exact ⟨rfl, rfl, rfl⟩
  refine pD (fun W R z9 => ?_) ?_
  ·rw [eS (l := [(3, _)]) ⟨z9 3 rfl, ⟨⟩⟩]
   refine qj (qu 0 qd qm rfl rfl rfl hv2.slv (by omega) (Nat.mul_one _) ?_)
   exact ⟨rfl, rfl, rfl⟩
  refine pD (fun W R z9 => ?_) ?_
  ·rw [eS (l := [(4, _)]) ⟨z9 4 rfl, ⟨⟩⟩]
   refine qj (qi qQ rfl (hv2.rd (by omega)) ?_)
   exact ⟨rfl, rfl, rfl⟩
  exact stepsP.nil
 intro W hphi
 rw [eS (l := [(2, _), (5, _)]) ⟨(hphi 2 (by decide)), (hphi 5 (by decide)), ⟨⟩⟩]
 show XL _ _ _ _ _ _ _ (cellsH ub (arv :: bs) 200 :: L)
 refine cX (XOp.neq rfl rfl (qb ?_))
 refine qA (p := (u1.getD 0 0 : Int) ≠ u2.getD 0 0) rfl (fun h16 => ?_) (fun h16 => ?_)
 ·refine qa ?_
  skip
  refine cX (qY [] [] [] [] jW zeroValue230 rfl PlacesAre.nil rfl CellsAre.nil (cX (XOp.iface jW rfl (jw ((sC sR)) (XL.panicI rfl ?_)))))
  exact .inr ⟨_, rfl, _, _, rfl, hbc, (heads_ne hrx hry (by omega) (by omega) (by omega)), rfl⟩
 exfalso
 omega

theorem equate_spec (k N : Nat) : ∀ {F : FH} {L : List HP} {ub : Nat} {arv : Value} {ar : List Int} {bs : List Value} {bl : RowL} (har : IntsF F arv ar) (hbc : BindC F bs bl) (hb : BOk ar bl) {σ : Sbs} {av : Value} {a : List Int} (ha : IntsF F av a) {cv : Value} {c : List Int} (hc : IntsF F cv c) (hσ : Sol bl σ) (hoa : TermW ar a) (hoc : TermW ar c) (hna : isNil av = false) (hnc : isNil cv = false) (hk : unb bl ≤ k) (hN : (ap σ a).length ≤ N), DoesP prog 237 [ptr ub 0, av, cv] F (cellsH ub (arv :: bs) 200 :: L) (fun v F' L' => ∃ (b9 : List Value) (l9 : RowL), (.tuple #[] : Value) = v ∧ BindC F' b9 l9 ∧ Solves ar bl l9 (fun θ => ap θ a = ap θ c) ∧ cellsH ub (arv :: b9) 200 :: L = L') (fun ch F' L' => ∃ (b9 : List Value) (l9 : RowL), ch = [{ v := .iface 230 (.agg #[]), recovered := false }] ∧ BindC F' b9 l9 ∧ (∀ θ, GoodS ar θ → SatB bl θ → ap θ a ≠ ap θ c) ∧ cellsH ub (arv :: b9) 200 :: L = L') := by
  induction k using Nat.strongRecOn generalizing N with
  | _ k ihk =>
    induction N using Nat.strongRecOn with
    | _ N ihN =>
      intros
      refine equate_step (fun k1 N1 h => ?_) (by assumption) (by assumption) (by assumption) (by assumption) (by assumption) (by assumption) (by assumption) (by assumption) (by assumption) (by assumption) (by assumption) (by assumption)
      rcases h with h | ⟨rfl, h⟩
      · exact ihk k1 h N1
      · exact ihN N1 h


set_option maxRecDepth 20000 in
theorem solve_catch {F : FH} {L : List HP} {b : Nat} {x : Bool} {w : World} (H : Holds F (cellsH b [.bool x] 4 :: L) w) :
    CallsD prog 236 #[.pointer (some ⟨b, 0, none⟩)] (.panicking [{ v := .iface 230 (.agg #[]), recovered := false }]) w fun e u' w' =>
      e = .returned (.tuple #[]) ∧ u' = .panicking [{ v := .iface 230 (.agg #[]), recovered := true }] ∧ Holds F (cellsH b [.bool false] 4 :: L) w' := by
  refine callsD_of_wpS func236 rfl fun c₀ cs hu => ?_
  apply wpS_seq
  apply wpS_region
  simp [wpOpsS, go_sem, recoverD, hu, ntmps236, Exit.thenS]
  apply wpS_seq
  apply wpS_region
  simp [wpOpsS, go_sem, recoverD, hu, ntmps236, Exit.thenS]
  refine wpS_cond (t := true) (by simp [Act.eval, Array.replicate]) ?_
  simp only [if_true]
  refine wpS_of_wp (Code.wp_mono ?_ (wp_of_X (n := 15) (Q := fun e ρ F' L' => e = .normal ∧ Sub L' (cellsH b [.bool false] 4 :: L)) [(0, ptr b 0), (1, .iface 230 (.agg #[]))] (by simp) rfl ⟨by simp, by simp [Array.replicate], ⟨⟩⟩ rfl (fun rE => ?_) H))
  · rintro e a' w' ⟨ρ, F', L', r, le, H', rfl, s⟩
    exact ⟨r.defers, _, rfl, _, results_none rfl _ _ _, rfl, rfl, s.holds (H'.forget le)⟩
  · skip
    refine qc (qc (qa (qf ((.iface 230 (.agg #[]))) rfl (cX (XOp.assertOk jW rfl (qf (.tuple #[.agg #[], .bool (true)]) rfl (cX (qH (.agg #[]) rfl rfl (cX (qH (.bool (true)) rfl rfl (cX (jo [] zeroValue230 rfl ?_))))))))))))
    intro b1
    refine cX (qV [] _ [] sizeOf230 rfl rfl rfl qZ rfl rfl rfl (qg (.bool (true)) rfl (qb (qc (qa (qf (.bool (true)) rfl (cX (jg rfl (qb (jC rfl (qz (qa (cX (jx [_] _ [.bool (false)] sizeOf4 rfl rfl rfl rfl rfl rfl (qb ?_)))))))))))))))
    exact ⟨rfl, (sD (sC sR))⟩


theorem solve_idle {p : Value} {w : World} :
    CallsD prog 236 #[p] .returning w fun e u' w' => e = .returned (.tuple #[]) ∧ u' = .returning ∧ w' = w := by
  refine callsD_of_wpS func236 rfl fun c₀ cs hu => ?_
  apply wpS_seq
  apply wpS_region
  simp [wpOpsS, go_sem, recoverD, hu, ntmps236, Exit.thenS]
  apply wpS_seq
  apply wpS_region
  simp [wpOpsS, go_sem, recoverD, hu, ntmps236, Exit.thenS]
  refine wpS_cond (t := false) (by simp [Act.eval, Array.replicate]) ?_
  simp only [Bool.false_eq_true, if_false]
  refine wpS_of_wp (wp_skip ?_)
  cases c₀
  simp_all [bodyPostS, results, results236]


set_option maxRecDepth 20000 in
theorem solve_spec {F : FH} {L : List HP} {ub : Nat} {arv : Value} {ar : List Int} {bs : List Value} {bl : RowL} (har : IntsF F arv ar) (hbc : BindC F bs bl) (hb : BOk ar bl) {av : Value} {a : List Int} (ha : IntsF F av a) {cv : Value} {c : List Int} (hc : IntsF F cv c) (hoa : TermW ar a) (hoc : TermW ar c) (hna : isNil av = false) (hnc : isNil cv = false) :
    Does prog 208 [ptr ub 0, av, cv] F (cellsH ub (arv :: bs) 200 :: L) (fun v F' L' => ∃ (ok : Bool) (b9 : List Value) (l9 : RowL), (.bool ok : Value) = v ∧ BindC F' b9 l9 ∧ (ok = true → Solves ar bl l9 (fun θ => ap θ a = ap θ c)) ∧ (ok = false → ∀ θ, GoodS ar θ → SatB bl θ → ap θ a ≠ ap θ c) ∧ cellsH ub (arv :: b9) 200 :: L = L') := by
  obtain ⟨σ, hσ⟩ := hb.sol
  intro w H
  have hmf : ∀ (fn : Go.Fn) (first cap : Array Value) (w : World), (Instr.makeFunc fn first cap).run prog w = .ok (.func fn first cap) w := fun _ _ _ _ => rfl
  refine (?_ : ∀ R : Ending → World → Prop, (∀ v F' L' w', F ≤ F' → Holds F' L' w' → (∃ (ok : Bool) (b9 : List Value) (l9 : RowL), (.bool ok : Value) = v ∧ BindC F' b9 l9 ∧ (ok = true → Solves ar bl l9 (fun θ => ap θ a = ap θ c)) ∧ (ok = false → ∀ θ, GoodS ar θ → SatB bl θ → ap θ a ≠ ap θ c) ∧ cellsH ub (arv :: b9) 200 :: L = L') → R (.returned v) w') → Calls prog 208 #[ptr ub 0, av, cv] w R) _ fun v F' L' w' le H' q => ⟨v, F', L', rfl, le, H', q⟩
  intro R hR
  go_enter_defers func208, ntmps208
  refine wp_seq (wp_region_lit (wpList_one rfl ?_))
  simp only [Oper.wp, execOp]
  simp [wpList, go_sem, Exit.then]
  refine wp_seq (wp_region_lit (wpList_one rfl ?_))
  simp [go_sem, hmf]
  refine wpList_one rfl ?_
  simp [go_sem, hmf]
  show Code.wp _ _ _ _ _
  refine wp_seq (wp_region_lit (wpList_one rfl ?_))
  simp [go_sem]
  refine wpList_one rfl ?_
  simp [go_sem]
  refine wpList_one rfl ?_
  simp [go_sem]
  refine wpList_one rfl ?_
  simp [go_sem, Oper.upon]
  have H1 : Holds F (cellsH w.heap.size [.bool false] 4 :: cellsH ub (arv :: bs) 200 :: L) (w.alloc (.cells #[.bool false] 4)) := H.new _
  have H2 : Holds F (cellsH ub (arv :: bs) 200 :: cellsH w.heap.size [.bool false] 4 :: L) (w.alloc (.cells #[.bool false] 4)) := (Sub.perm (List.Perm.swap ..)).holds H1
  refine (equate_spec _ _ har hbc hb ha hc hσ hoa hoc hna hnc (Nat.le_refl _) (Nat.le_refl _) _ H2).mono ?_
  rintro e w2 (⟨v, F2, L2, rfl, le, H3, b9, l9, rfl, hb9, hso, rfl⟩ | ⟨ch, F2, L2, rfl, le, H3, b9, l9, rfl, hb9, hne, rfl⟩)
  · show Code.wp _ _ _ _ _
    refine wp_seq (wp_region_lit (wpList_one rfl (wp_XOp_raw (F := F2) (K := fun v F' L' => F' = F2 ∧ L' = [cellsH ub (arv :: b9) 200] ++ cellsH w.heap.size [.bool true] 4 :: L) (jx (b := w.heap.size) (o := 0) (v := .bool true) [_] _ [.bool true] sizeOf4 rfl rfl rfl rfl rfl rfl ⟨rfl, rfl⟩) H3 ?_)))
    rintro v F' L' w3 _ H4 ⟨rfl, rfl⟩
    show Code.wp _ _ _ _ _
    refine wp_ret ?_
    show Leaves _ _ _ _ _ _ _
    refine leaves_cons (f := 236) (args := #[.pointer (some ⟨w.heap.size, 0, none⟩)]) (by simp) (by simp [go_sem]) (solve_idle.mono ?_)
    rintro e u' w'' ⟨rfl, rfl, rfl⟩
    have hcell : w''.cell? ⟨w.heap.size, 0, none⟩ = some (.bool true) := cell_of_heap H4.getCells rfl
    exact ⟨.bool true, by simp [results, results208, go_sem, hcell], hR (.bool true) F' _ _ le ((sC (sD sR)).holds H4) ⟨true, b9, l9, rfl, hb9, fun _ => hso, fun h => (by cases h), rfl⟩⟩
  · show Leaves _ _ _ _ _ _ _
    refine leaves_cons (f := 236) (args := #[.pointer (some ⟨w.heap.size, 0, none⟩)]) (by simp) (by simp [go_sem]) ?_
    have H3' := (Sub.perm (List.Perm.swap ..)).holds H3
    refine (solve_catch H3').mono ?_
    rintro e u' w3 ⟨rfl, rfl, H4⟩
    have hcell : w3.cell? ⟨w.heap.size, 0, none⟩ = some (.bool false) := cell_of_heap (H4.getCells (A := [])) rfl
    exact ⟨.bool false, by simp [results, results208, go_sem, hcell], hR (.bool false) F2 _ _ le ((sD sR).holds H4) ⟨false, b9, l9, rfl, hb9, fun h => (by cases h), fun _ => hne, rfl⟩⟩


/- (*impl.unifier).resolve -/
set_option maxHeartbeats 1000000 in
theorem resolve_step {k : Nat} (ih : ∀ k9 : Nat, k9 < k → ∀ {F : FH} {L : List HP} {ub : Nat} {arv : Value} {ar : List Int} {bs : List Value} {bl : RowL} (har : IntsF F arv ar) (hbc : BindC F bs bl) (hb : BOk ar bl) {σ : Sbs} {ρ : Int → Nat} {ov : Value} {os : List Int} {tv : Value} {t : List Int} (ht : IntsF F tv t) (hov : IsSl ov) (hol : os.length ≤ 60) (hσ : Sol bl σ) (hρ : Acyc bl ρ) (htk : ∀ m ∈ t, m < 0 → ρ m < k9) (htg : ∀ i, i < t.length → -48 ≤ t.getD i 0) (htl : t.length ≤ 60), Does prog 182 [ptr ub 0, ov, tv] F (intsH 2 ov os :: cellsH ub (arv :: bs) 200 :: L) (fun v F' L' => ∃ a9 : Value, (.tuple #[a9, .bool (resOk σ os t)] : Value) = v ∧ IsSl a9 ∧ F = F' ∧ intsH 2 a9 ((resX σ os t)) :: cellsH ub (arv :: bs) 200 :: L = L')) {F : FH} {L : List HP} {ub : Nat} {arv : Value} {ar : List Int} {bs : List Value} {bl : RowL} (har : IntsF F arv ar) (hbc : BindC F bs bl) (hb : BOk ar bl) {σ : Sbs} {ρ : Int → Nat} {ov : Value} {os : List Int} {tv : Value} {t : List Int} (ht : IntsF F tv t) (hov : IsSl ov) (hol : os.length ≤ 60) (hσ : Sol bl σ) (hρ : Acyc bl ρ) (htk : ∀ m ∈ t, m < 0 → ρ m < k) (htg : ∀ i, i < t.length → -48 ≤ t.getD i 0) (htl : t.length ≤ 60) :
    Does prog 182 [ptr ub 0, ov, tv] F (intsH 2 ov os :: cellsH ub (arv :: bs) 200 :: L) (fun v F' L' => ∃ a9 : Value, (.tuple #[a9, .bool (resOk σ os t)] : Value) = v ∧ IsSl a9 ∧ F = F' ∧ intsH 2 a9 ((resX σ os t)) :: cellsH ub (arv :: bs) 200 :: L = L') := by
 refine qI func182 rfl rfl rfl ?_
 have hbl := hb.len
 refine qc (qa (qg (sN) rfl (qg (.bool (false)) rfl (qb (qc (qc (qa (qf (tv) rfl (cX (qE qd rfl ht.slv (qf (ii (0)) rfl (qb (qL (jn (α := Nat × Value × List Int) (fun xQ => [(0, ptr ub 0), (1, xQ.2.1), (11, tv), (12, ii ((t.length : Int))), (13, ii (((xQ.1 : Nat) : Int)))]) (fun xQ => intsH 2 xQ.2.1 xQ.2.2 :: cellsH ub (arv :: bs) 200 :: L) (fun xQ F' => F = F' ∧ (IsSl xQ.2.1) ∧ (xQ.1 ≤ t.length) ∧ (xQ.2.2 = os ++ ap σ (t.take xQ.1)) ∧ (xQ.2.2.length ≤ 60)) (fun xQ => t.length - xQ.1) (0, ov, os) ⟨rfl, rfl, rfl, rfl, rfl, ⟨⟩⟩ (sC (sC sR)) ⟨rfl, (hov), (by (try dsimp only) <;> omega), (by simp [ap]), (hol)⟩ ?_))))))))))))))
 rintro ⟨j, wv, ws⟩ rE _ _ ⟨rfl, hwv, hj, hws, hwl⟩
 show X _ _ _ _ (envs [(0, ptr ub 0), (1, wv), (11, tv), (12, ii ((t.length : Int))), (13, ii ((j : Int)))] rE) _ (intsH 2 wv ws :: cellsH ub (arv :: bs) 200 :: L)
 dsimp only at hwv hj hws hwl
 have hgj := fun h : j < t.length => htg j h
 have hwl2 : ws.length = os.length + (ap σ (t.take j)).length := by rw [hws, List.length_append]
 refine qc (qa (cX (qT rfl rfl (qb (qc ?_)))))
 refine qA (p := (j : Int) < (t.length : Int)) rfl (fun h1 => ?_) (fun h1 => ?_)
 ·refine qz (qc (qL (qc (qa (cX (qu j qd qm rfl rfl rfl ht.slv (by omega) (Nat.mul_one _) (cX (qi qQ rfl (ht.rd (by omega)) (qg (ii (t.getD j 0)) rfl (qb (qc (qc (qa (qf (ii (t.getD j 0)) rfl (cX (qT rfl rfl (qf (.bool (decide ((t.getD j 0 : Int) < 0))) rfl ?_)))))))))))))))))
  by_cases h2 : (t.getD j 0 : Int) < 0
  ·have hj0 : t.getD j 0 < 0 := h2
   have hgj2 := hgj (by omega)
   have hrj := htk _ (mem_of_getD (k := j) (by omega) rfl) hj0
   refine qk (t := 19) rfl (vT h2) (ql (ptr ub 0) rfl (qk (t := 19) rfl (vT h2) (ql (ii (t.getD j 0)) rfl (qk (t := 19) rfl (vT h2) (jf ((-1) - (t.getD j 0)) rfl rfl (by omega) (by omega) (qk (t := 19) rfl (vT h2) (ji rfl (qk (t := 19) rfl (vT h2) (qo (1) jA rfl sizeOf198 (by decide) rfl rfl (qk (t := 19) rfl (vT h2) (jZ (i := (-1) - (t.getD j 0)) (((-1) - (t.getD j 0)).toNat) (1 + (((-1) - (t.getD j 0)).toNat)) jV qp rfl rfl (by omega) (by omega) (by omega) ?_)))))))))))
   obtain ⟨a1, ha1, hn1, he1⟩ := hbc.get (i := ((-1) - (t.getD j 0)).toNat) (by omega)
   refine qk (t := 19) rfl (vT h2) (qi qW rfl (Rd.own [_] rfl (get_1 he1)) (qk (t := 19) rfl (vT h2) (XOp.neNil qd rfl rfl (qD ha1) (cX (qN (.bool (!isNil a1)) (vT h2) rfl (qb ?_))))))
   refine jO (t := !isNil a1) rfl (fun h3 => ?_) (fun h3 => ?_)
   ·have hbn := ne_of_notNil hn1 h3
    have hnb : isNil a1 = false := by rw [hn1]; exact decide_eq_false hbn
    have hlj : lkN bl (t.getD j 0) ≠ [] := by rw [lkN_get hj0]; exact hbn
    have hwj := hb.wt _ hj0 hlj
    rw [lkN_get hj0] at hwj
    have hsj : σ (t.getD j 0) = ap σ (bl.getD (varIx (t.getD j 0)) []) := by rw [hσ.bound hlj, lkN_get hj0]
    refine qc (qa (qg (.bool (false)) rfl (qb (qc (qc (qa (qf (ptr ub 0) rfl (qf (wv) rfl (qf (ptr ub 0) rfl (qf (ii (t.getD j 0)) rfl (cX (jf ((-1) - (t.getD j 0)) rfl rfl (by omega) (by omega) (cX (ji rfl (cX (qo (1) jA rfl sizeOf198 (by decide) rfl rfl ?_))))))))))))))))
    refine cX (jZ (i := (-1) - (t.getD j 0)) (((-1) - (t.getD j 0)).toNat) (1 + (((-1) - (t.getD j 0)).toNat)) jV qp rfl rfl (by omega) (by omega) (by omega) (cX (qi qW rfl (Rd.own [_] rfl (get_1 he1)) (jw (jJ (A := [_])) ?_))))
    show XL _ _ _ _ _ _ _ (cellsH ub (arv :: bs) 200 :: intsH 2 wv ws :: L)
    refine jw (jJ (A := [_])) ?_
    show XL _ _ _ _ _ _ _ (intsH 2 wv ws :: cellsH ub (arv :: bs) 200 :: L)
    refine cX (qr (args := [ptr ub 0, wv, a1]) call182 rfl (ih _ hrj har hbc (by assumption) (os := ws) ha1 hwv hwl hσ hρ (fun m hm h0 => hρ _ hj0 m (by rw [lkN_get hj0]; exact hm) h0) (fun i hi => hwj.geD hi) hwj.len.2) ?_)
    rintro _ _ _ _ ⟨v1, rfl, hs1, rfl, rfl⟩
    refine qf (.tuple #[v1, .bool (resOk σ ws ((bl.getD (((-1) - (t.getD j 0)).toNat) [])))]) rfl (cX (qH (v1) rfl rfl (cX (qH (.bool (resOk σ ws ((bl.getD (((-1) - (t.getD j 0)).toNat) [])))) rfl rfl (qg (v1) rfl (qg (.bool (resOk σ ws ((bl.getD (((-1) - (t.getD j 0)).toNat) [])))) rfl (qb (qc (qa (qf (.bool (resOk σ ws ((bl.getD (((-1) - (t.getD j 0)).toNat) [])))) rfl (cX (jg rfl (qb ?_)))))))))))))
    refine jO (t := !(resOk σ ws ((bl.getD (((-1) - (t.getD j 0)).toNat) [])))) rfl (fun h4 => ?_) (fun h4 => ?_)
    ·have hro : resOk σ ws (bl.getD (varIx (t.getD j 0)) []) = false := Bool.not_inj (y := false) h4
     have hrn := of_decide_eq_false hro
     refine qc (qa (qg (sN) rfl (qg (.bool (false)) rfl (qb (qw (qq (qq (qR (qq (qq (qR (qq (qv (L' := intsH 2 (sN) ([]) :: cellsH ub (arv :: bs) 200 :: L) [sN, .bool (false)] (.tuple #[sN, .bool (false)]) (.tmp rfl (.tmp rfl .nil)) rfl rF rF (jE (intsH.addNil 2 none _) (sC (sD (sC sR)))) ?_)))))))))))))
     have e9 : resOk σ os t = false := res_no (j := j) (by omega) (by rw [hsj]; first | omega | (rw [List.length_singleton]; omega))
     have e8 : resX σ os t = [] := by unfold resX; rw [if_neg (by rw [e9]; simp)]
     rw [e9, e8]
     exact ⟨_, rfl, ⟨_, _, _, rfl⟩, rfl, rfl⟩
    have hro : resOk σ ws (bl.getD (varIx (t.getD j 0)) []) = true := Bool.not_inj (y := true) h4
    have hrn := of_decide_eq_true hro
    have hnext : resX σ ws (bl.getD (varIx (t.getD j 0)) []) = ws ++ σ (t.getD j 0) := by unfold resX; rw [if_pos hro, hsj]
    have hnlen : (resX σ ws (bl.getD (varIx (t.getD j 0)) [])).length ≤ 60 := by rw [hnext, List.length_append, hsj]; exact hrn
    refine qz (jj (qx (qO (qa (cX (qS (((j + 1 : Nat) : Int)) rfl rfl (by omega) (by omega) (qf (ii (((j + 1 : Nat) : Int))) rfl (qb ?_))))))))
    exact ⟨(j + 1, v1, (resX σ ws ((bl.getD (((-1) - (t.getD j 0)).toNat) [])))), _, FLe.refl _, rF, ⟨rfl, rfl, rfl, rfl, rfl, ⟨⟩⟩, (sC (sC sR)), ⟨rfl, (hs1), (by (try dsimp only) <;> omega), (by (try dsimp only); rw [ap_take (by omega), ← List.append_assoc, ← hws]; exact hnext), (by (try dsimp only); exact hnlen)⟩, (by omega)⟩
   have hbe := eq_of_isNil hn1 h3
   have hsj : σ (t.getD j 0) = [(t.getD j 0)] := hσ.free (by rw [lkN_get hj0]; exact hbe)
   refine qz (qc (qc (qa (qf (wv) rfl (cX (qE qd rfl (intsH.slv [] rfl) (cX (js rfl rfl (qb ?_)))))))))
   refine qA (p := ((ws.length : Int) : Int) = 60) rfl (fun h5 => ?_) (fun h5 => ?_)
   ·refine qc (qa (qg (sN) rfl (qg (.bool (false)) rfl (qb (qw (qq (qR (qq (qq (qR (qq (qv (L' := intsH 2 (sN) ([]) :: cellsH ub (arv :: bs) 200 :: L) [sN, .bool (false)] (.tuple #[sN, .bool (false)]) (.tmp rfl (.tmp rfl .nil)) rfl rF rF (jE (intsH.addNil 2 none _) (sC (sD (sC sR)))) ?_))))))))))))
    have e9 : resOk σ os t = false := res_no (j := j) (by omega) (by rw [hsj]; first | omega | (rw [List.length_singleton]; omega))
    have e8 : resX σ os t = [] := by unfold resX; rw [if_neg (by rw [e9]; simp)]
    rw [e9, e8]
    exact ⟨_, rfl, ⟨_, _, _, rfl⟩, rfl, rfl⟩
   have hnext : ws ++ [(t.getD j 0)] = ws ++ σ (t.getD j 0) := by rw [hsj]
   have hnlen : (ws ++ [(t.getD j 0)]).length ≤ 60 := by rw [List.length_append, List.length_singleton]; omega
   refine qz (qa (qf (wv) rfl (qf (ii (t.getD j 0)) rfl (cX (qt (s := 1) [ii (t.getD j 0)] [ii (0)] [(0, [ii (t.getD j 0)])] qd qm qJ rfl (by decide) rfl (.cons rfl CellsAre.nil) rfl ?_)))))
   intro v2 hv1
   refine cX (ye (u := t.getD j 0) [_] _ qd typeInfo2 rfl rfl rfl rfl rfl rfl (SlV.own [] rfl) (Rd.sl [] rfl rfl) (by (try simp only [List.length_append, List.length_nil, List.length_cons, List.length_singleton, List.length_take, List.length_drop]); omega) ?_)
   intro v3 hs2 hn2
   refine qg (v3) rfl (qb (qa (cX (qS (((j + 1 : Nat) : Int)) rfl rfl (by omega) (by omega) (qf (ii (((j + 1 : Nat) : Int))) rfl (qb ?_))))))
   exact ⟨(j + 1, v3, ws ++ [t.getD j 0]), _, FLe.refl _, rF, ⟨rfl, rfl, rfl, rfl, rfl, ⟨⟩⟩, (sD (sC (sC sR))), ⟨rfl, (hs2), (by (try dsimp only) <;> omega), (by (try dsimp only); rw [ap_take (by omega), ← List.append_assoc, ← hws]; exact hnext), (by (try dsimp only); exact hnlen)⟩, (by omega)⟩
  have hsj : σ (t.getD j 0) = [(t.getD j 0)] := hσ.sym (by omega)
  refine qn (t := 19) rfl (vF h2) (qn (t := 19) rfl (vF h2) (qn (t := 19) rfl (vF h2) (qn (t := 19) rfl (vF h2) (qn (t := 19) rfl (vF h2) (qn (t := 19) rfl (vF h2) (qn (t := 19) rfl (vF h2) (qn (t := 19) rfl (vF h2) (cX (qG (.bool (false)) (vF h2) rfl (qb ?_))))))))))
  refine jC rfl (qz (qc (qc (qa (qf (wv) rfl (cX (qE qd rfl (intsH.slv [] rfl) (cX (js rfl rfl (qb ?_))))))))))
  refine qA (p := ((ws.length : Int) : Int) = 60) rfl (fun h6 => ?_) (fun h6 => ?_)
  ·refine qc (qa (qg (sN) rfl (qg (.bool (false)) rfl (qb (qw (qq (qR (qq (qq (qR (qq (qv (L' := intsH 2 (sN) ([]) :: cellsH ub (arv :: bs) 200 :: L) [sN, .bool (false)] (.tuple #[sN, .bool (false)]) (.tmp rfl (.tmp rfl .nil)) rfl rF rF (jE (intsH.addNil 2 none _) (sC (sD (sC sR)))) ?_))))))))))))
   have e9 : resOk σ os t = false := res_no (j := j) (by omega) (by rw [hsj]; first | omega | (rw [List.length_singleton]; omega))
   have e8 : resX σ os t = [] := by unfold resX; rw [if_neg (by rw [e9]; simp)]
   rw [e9, e8]
   exact ⟨_, rfl, ⟨_, _, _, rfl⟩, rfl, rfl⟩
  have hnext : ws ++ [(t.getD j 0)] = ws ++ σ (t.getD j 0) := by rw [hsj]
  have hnlen : (ws ++ [(t.getD j 0)]).length ≤ 60 := by rw [List.length_append, List.length_singleton]; omega
  refine qz (qa (qf (wv) rfl (qf (ii (t.getD j 0)) rfl (cX (qt (s := 1) [ii (t.getD j 0)] [ii (0)] [(0, [ii (t.getD j 0)])] qd qm qJ rfl (by decide) rfl (.cons rfl CellsAre.nil) rfl ?_)))))
  intro v4 hv2
  refine cX (ye (u := t.getD j 0) [_] _ qd typeInfo2 rfl rfl rfl rfl rfl rfl (SlV.own [] rfl) (Rd.sl [] rfl rfl) (by (try simp only [List.length_append, List.length_nil, List.length_cons, List.length_singleton, List.length_take, List.length_drop]); omega) ?_)
  intro v5 hs3 hn3
  refine qg (v5) rfl (qb (qa (cX (qS (((j + 1 : Nat) : Int)) rfl rfl (by omega) (by omega) (qf (ii (((j + 1 : Nat) : Int))) rfl (qb ?_))))))
  exact ⟨(j + 1, v5, ws ++ [t.getD j 0]), _, FLe.refl _, rF, ⟨rfl, rfl, rfl, rfl, rfl, ⟨⟩⟩, (sD (sC (sC sR))), ⟨rfl, (hs3), (by (try dsimp only) <;> omega), (by (try dsimp only); rw [ap_take (by omega), ← List.append_assoc, ← hws]; exact hnext), (by (try dsimp only); exact hnlen)⟩, (by omega)⟩
 refine jj (qx (qx (qO (qc (qa (qf (wv) rfl (qg (wv) rfl (qg (.bool (true)) rfl (qb (qw (qv (L' := intsH 2 wv ws :: cellsH ub (arv :: bs) 200 :: L) [wv, .bool (true)] (.tuple #[wv, .bool (true)]) (.tmp rfl (.tmp rfl .nil)) rfl rF rF (sC (sC sR)) ?_)))))))))))
 obtain ⟨e9, e8⟩ := res_end (σ := σ) (os := os) (t := t) (j := j) (by omega) (by omega)
 rw [e9, e8, ← hws]
 exact ⟨_, rfl, hwv, rfl, rfl⟩

theorem resolve_spec (k : Nat) : ∀ {F : FH} {L : List HP} {ub : Nat} {arv : Value} {ar : List Int} {bs : List Value} {bl : RowL} (har : IntsF F arv ar) (hbc : BindC F bs bl) (hb : BOk ar bl) {σ : Sbs} {ρ : Int → Nat} {ov : Value} {os : List Int} {tv : Value} {t : List Int} (ht : IntsF F tv t) (hov : IsSl ov) (hol : os.length ≤ 60) (hσ : Sol bl σ) (hρ : Acyc bl ρ) (htk : ∀ m ∈ t, m < 0 → ρ m < k) (htg : ∀ i, i < t.length → -48 ≤ t.getD i 0) (htl : t.length ≤ 60), Does prog 182 [ptr ub 0, ov, tv] F (intsH 2 ov os :: cellsH ub (arv :: bs) 200 :: L) (fun v F' L' => ∃ a9 : Value, (.tuple #[a9, .bool (resOk σ os t)] : Value) = v ∧ IsSl a9 ∧ F = F' ∧ intsH 2 a9 ((resX σ os t)) :: cellsH ub (arv :: bs) 200 :: L = L') := by
  induction k using Nat.strongRecOn with
  | _ k ih =>
    intros
    exact resolve_step ih (by assumption) (by assumption) (by assumption) (by assumption) (by assumption) (by assumption) (by assumption) (by assumption) (by assumption) (by assumption) (by assumption)


/- impl.away -/
theorem away_spec {F : FH} {L : List HP} {tv : Value} {t : List Int} (ht : IntsF F tv t) (hlt : t.length ≤ 4000000) (htg : ∀ i, i < t.length → -4000000 ≤ t.getD i 0) :
    Does prog 183 [tv] F (L) (fun v F' L' => F = F' ∧ IsSl v ∧ intsH 2 v (awayL t) :: L = L') := by
 refine qI func183 rfl rfl rfl (qc (qa (qg (sN) rfl (qb (qc (qa (qf (tv) rfl (cX (qr (args := [tv]) call188 rfl (Clone_spec ht (hlt := (by first | assumption | rfl | omega | simp))) ?_)))))))))
 rintro v1 _ _ _ ⟨rfl, hs1, rfl⟩
 refine qg (v1) rfl (qb (qc (qc (qa (qf (v1) rfl (cX (qE qd rfl (intsH.slv [] rfl) (qf (ii (0)) rfl (qb (qL (jn (α := Nat × List Int) (fun xQ => [(3, v1), (8, v1), (9, ii (((((t)).length : Nat) : Int))), (10, ii (((xQ.1 : Nat) : Int)))]) (fun xQ => intsH 2 v1 xQ.2 :: L) (fun xQ F' => F = F' ∧ (xQ.1 ≤ t.length) ∧ (xQ.2 = awayL (t.take xQ.1) ++ t.drop xQ.1)) (fun xQ => t.length - xQ.1) (0, t) ⟨rfl, rfl, rfl, rfl, ⟨⟩⟩ (sC sR) ⟨rfl, (by (try dsimp only) <;> omega), (by simp [awayL])⟩ ?_)))))))))))
 rintro ⟨k, ws⟩ rE _ _ ⟨rfl, hk, hws⟩
 show X _ _ _ _ (envs [(3, v1), (8, v1), (9, ii (((((t)).length : Nat) : Int))), (10, ii ((k : Int)))] rE) _ (intsH 2 v1 ws :: L)
 dsimp only at hk hws
 have hwl : ws.length = t.length := by rw [hws]; simp [awayL]; omega
 have hgk := htg k
 have hwk : k < t.length → ws.getD k 0 = t.getD k 0 := fun h => by rw [hws]; exact away_at h
 refine qc (qa (cX (qT rfl rfl (qb (qc ?_)))))
 refine qA (p := (k : Int) < ((((t)).length : Nat) : Int)) rfl (fun h1 => ?_) (fun h1 => ?_)
 ·refine qz (qc (qL (qc (qa (qf (ii ((k : Int))) rfl (cX (qu k qd qm rfl rfl rfl (intsH.slv [] rfl) (by omega) (Nat.mul_one _) (cX (qi qQ rfl (intsH.rd [] rfl (by omega)) (qg (ii ((k : Int))) rfl (qg (ii (ws.getD k 0)) rfl (qb (qc (qa (qf (ii (ws.getD k 0)) rfl (cX (qT rfl rfl (qb ?_))))))))))))))))))
  refine qA (p := (ws.getD k 0 : Int) < 0) rfl (fun h2 => ?_) (fun h2 => ?_)
  ·refine qa (qf (v1) rfl (qf (ii ((k : Int))) rfl (qf (ii (ws.getD k 0)) rfl (cX (jf ((ws.getD k 0) - 24) rfl rfl (by omega) (by omega) (cX (qu k qd qm rfl rfl rfl (intsH.slv [] rfl) (by omega) (Nat.mul_one _) (cX (intsH.storeX (i := k) (v := v1) [] _ (ws.set k ((ws.getD k 0) - 24)) qm rfl rfl rfl (by omega) rfl (qb (qa (cX (qS (((k + 1 : Nat) : Int)) rfl rfl (by omega) (by omega) (qf (ii (((k + 1 : Nat) : Int))) rfl ?_))))))))))))))
   refine qb ?_
   exact ⟨(k + 1, (ws.set k ((ws.getD k 0) - 24))), _, FLe.refl _, rF, ⟨rfl, rfl, rfl, rfl, ⟨⟩⟩, (sC sR), ⟨rfl, (by (try dsimp only) <;> omega), (away_next (by omega) hws (by first | (right; exact ⟨rfl, by omega⟩) | (left; exact ⟨by rw [hwk (by omega)], by omega⟩)))⟩, (by omega)⟩
  refine qz (qa (cX (qS (((k + 1 : Nat) : Int)) rfl rfl (by omega) (by omega) (qf (ii (((k + 1 : Nat) : Int))) rfl (qb ?_)))))
  exact ⟨(k + 1, ws), _, FLe.refl _, rF, ⟨rfl, rfl, rfl, rfl, ⟨⟩⟩, (sC sR), ⟨rfl, (by (try dsimp only) <;> omega), (away_next (by omega) hws (by first | (right; exact ⟨rfl, by omega⟩) | (left; exact ⟨by rw [hwk (by omega)], by omega⟩)))⟩, (by omega)⟩
 refine jj (qx (qx (qO (qc (qa (qf (v1) rfl (qg (v1) rfl (qb (qw (qv (L' := intsH 2 v1 ws :: L) [v1] (v1) (.tmp rfl .nil) rfl rF rF (sC sR) ?_))))))))))
 refine ⟨rfl, hs1, ?_⟩
 have hxs : (awayL t : List Int) = ws := by rw [hws, show k = t.length from by omega]; simp
 exact congrArg (fun z => intsH 2 _ z :: L) hxs

/- impl.overlap -/
set_option maxHeartbeats 1000000 in
set_option maxRecDepth 20000 in
theorem overlap_spec {F : FH} {L : List HP} {arv : Value} {ar : List Int} (har : IntsF F arv ar) {rsv : Value} {rs : List (List Int × List Int)} (hrs : PairsF F rsv rs) {o : Nat} {p : Nat} {u : Nat} (hsys : sysOk ar rs = true) (ho : o < rs.length) (hu : u < rs.length) (hp : p < (rs.getD o ([], [])).1.length) :
    Does prog 181 [.agg #[arv, rsv], ii ((o : Int)), ii ((p : Int)), ii ((u : Int))] F (L) (fun v F' L' => ((.tuple #[.pointer none, .bool false] : Value) = v ∧ meetB ar rs o p u = false ∧ L = L') ∨ (∃ b7 : Nat, (.tuple #[ptr b7 0, .bool false] : Value) = v ∧ meetB ar rs o p u = false ∧ L = L') ∨ (∃ (b7 : Nat) (b9 : List Value) (l9 : RowL), (.tuple #[ptr b7 0, .bool true] : Value) = v ∧ meetB ar rs o p u = true ∧ BindC F' b9 l9 ∧ MguP ar rs o p u l9 ∧ cellsH b7 (arv :: b9) 200 :: L = L')) := by
 refine qI func181 rfl rfl rfl ?_
 have hlo : termOk ar (rs.getD o ([], [])).1 = true := rule_L hsys ho
 have hllo : 1 ≤ (rs.getD o ([], [])).1.length ∧ (rs.getD o ([], [])).1.length ≤ 60 := termOk_len hlo
 have hglo : ∀ k, k < (rs.getD o ([], [])).1.length → -24 ≤ (rs.getD o ([], [])).1.getD k 0 := fun k h => termOk_ge hlo h
 have hlu : termOk ar (rs.getD u ([], [])).1 = true := rule_L hsys hu
 have hllu : 1 ≤ (rs.getD u ([], [])).1.length ∧ (rs.getD u ([], [])).1.length ≤ 60 := termOk_len hlu
 have hglu : ∀ k, k < (rs.getD u ([], [])).1.length → -24 ≤ (rs.getD u ([], [])).1.getD k 0 := fun k h => termOk_ge hlu h
 have hro : termOk ar (rs.getD o ([], [])).2 = true := rule_R hsys ho
 have hlro : 1 ≤ (rs.getD o ([], [])).2.length ∧ (rs.getD o ([], [])).2.length ≤ 60 := termOk_len hro
 have hgro : ∀ k, k < (rs.getD o ([], [])).2.length → -24 ≤ (rs.getD o ([], [])).2.getD k 0 := fun k h => termOk_ge hro h
 have hru : termOk ar (rs.getD u ([], [])).2 = true := rule_R hsys hu
 have hlru : 1 ≤ (rs.getD u ([], [])).2.length ∧ (rs.getD u ([], [])).2.length ≤ 60 := termOk_len hru
 have hgru : ∀ k, k < (rs.getD u ([], [])).2.length → -24 ≤ (rs.getD u ([], [])).2.getD k 0 := fun k h => termOk_ge hru h
 have hrl := (sysOk_iff.1 hsys).2.1
 have hsig := (sysOk_iff.1 hsys).1
 have hsl := sigOk_spec hsig
 refine qc (qa (cX (jc [arv, rsv] rfl rfl ?_)))
 intro b1
 refine qg ((.pointer none)) rfl (qg (.bool (false)) rfl (qb (qc (qc (qa (qf (ii ((o : Int))) rfl (qf (ii ((u : Int))) rfl (cX (js rfl rfl (qf (.bool (decide ((o : Int) = (u : Int)))) rfl ?_))))))))))
 by_cases h1 : (o : Int) = (u : Int)
 ·refine qk (t := 14) rfl (vT h1) (ql (ii ((p : Int))) rfl (qk (t := 14) rfl (vT h1) (js rfl rfl (cX (qN (.bool (decide ((p : Int) = 0))) (vT h1) rfl (qb ?_))))))
  refine qA (p := (p : Int) = 0) rfl (fun h2 => ?_) (fun h2 => ?_)
  ·refine qc (qa (qg ((.pointer none)) rfl (qg (.bool (false)) rfl (qb (qw (qq (qv (L' := L) [(.pointer none), .bool (false)] (.tuple #[(.pointer none), .bool (false)]) (.tmp rfl (.tmp rfl .nil)) rfl rF rF (sD sR) ?_)))))))
   exact .inl ⟨rfl, meet_self (by omega), rfl⟩
  refine qz (qc (qa (cX (qo (0) qK rfl qF (by decide) rfl rfl (cX (qy [arv] ja qF rfl rfl (Rd.ownN [] rfl rfl) (cX (qY [arv, sN, sN, sN, sN, sN, sN, sN, sN, sN, sN, sN, sN, sN, sN, sN, sN, sN, sN, sN, sN, sN, sN, sN, sN, sN, sN, sN, sN, sN, sN, sN, sN, sN, sN, sN, sN, sN, sN, sN, sN, sN, sN, sN, sN, sN, sN, sN, sN] [sN, sN, sN, sN, sN, sN, sN, sN, sN, sN, sN, sN, sN, sN, sN, sN, sN, sN, sN, sN, sN, sN, sN, sN, sN, sN, sN, sN, sN, sN, sN, sN, sN, sN, sN, sN, sN, sN, sN, sN, sN, sN, sN, sN, sN, sN, sN, sN, sN] [(0, 1), (1, 48)] [(0, [arv])] jA zeroValue200 rfl (.cons rfl qF (.cons rfl sizeOf198 PlacesAre.nil)) rfl (.cons rfl CellsAre.nil) (cX (jc [arv, sN, sN, sN, sN, sN, sN, sN, sN, sN, sN, sN, sN, sN, sN, sN, sN, sN, sN, sN, sN, sN, sN, sN, sN, sN, sN, sN, sN, sN, sN, sN, sN, sN, sN, sN, sN, sN, sN, sN, sN, sN, sN, sN, sN, sN, sN, sN, sN] rfl rfl ?_))))))))))
  intro b2
  refine qg (ptr b2 0) rfl ?_
  have hc1 : BindC F _ _ := BindC.nils 48
  show XL _ _ _ _ _ _ _ (cellsH b2 (arv :: ((List.replicate 48 (sN)))) 200 :: cellsH b1 [arv, rsv] 32 :: L)
  skip
  refine qb (qc (X.free0 mixed (by kernel_rfl) (by kernel_rfl) (fun _ _ _ _ _ h => by obtain ⟨h1 | h1, _⟩ := h <;> cases h1) (fun _ _ _ h => by obtain ⟨h1 | h1, _⟩ := h <;> cases h1) ?_))
  obtain ⟨a1, a2, ha1, ha2, hr1, hr2⟩ := hrs.rd (i := o) (by omega)
  obtain ⟨a3, a4, ha3, ha4, hr3, hr4⟩ := hrs.rd (i := u) (by omega)
  refine XA.drawG [cellsH b2 (arv :: ((List.replicate 48 (sN)))) 200, cellsH b1 [arv, rsv] 32] L 19 [[], [], [], [], [], [], [], [], [], [], [], [], [], [], [], [], [], [], []] [[], [], [], [2], [], [4], [], [5, 6], [7], [8], [], [3, 9, 10], [], [12], [], [13, 14], [15], [16], [17]] [[], [], [], [], [], [], [], [], [], [], [], [], [], [], [], [], [], [], []] (phiG [fun FF us v => v = ptr b2 0, fun FF us v => v = ptr b2 0, fun FF us v => v = ptr b1 0, fun FF us v => v = (.agg #[arv] : Value), fun FF us v => v = ptr b1 1, fun FF us v => v = rsv, fun FF us v => v = (ii ((o : Int)) : Value), fun FF us v => v = (.pointer (some (elemA rsv (o * 2))) : Value), fun FF us v => v = (.pointer (some (elemA rsv (o * 2))) : Value), fun FF us v => v = a1, fun FF us v => v = (ii ((p : Int)) : Value), fun FF us v => ((v) : Value) = v ∧ (IntsF FF (v) (sub ar ((rs.getD o ([], [])).1) p)) ∧ (isNil (v) = false), fun FF us v => v = ptr b1 1, fun FF us v => v = rsv, fun FF us v => v = (ii ((u : Int)) : Value), fun FF us v => v = (.pointer (some (elemA rsv (u * 2))) : Value), fun FF us v => v = (.pointer (some (elemA rsv (u * 2))) : Value), fun FF us v => v = a3, fun FF us v => ((v) : Value) = v ∧ (IntsF FF (v) (awayL ((rs.getD u ([], [])).1)))]) (ownL [fun us v => [], fun us v => [], fun us v => [], fun us v => [], fun us v => [], fun us v => [], fun us v => [], fun us v => [], fun us v => [], fun us v => [], fun us v => [], fun us v => [], fun us v => [], fun us v => [], fun us v => [], fun us v => [], fun us v => [], fun us v => [], fun us v => []]) rfl rfl (by kernel_rfl) (by kernel_rfl) (MonoG.get (mC (fun le h => h) (mC (fun le h => h) (mC (fun le h => h) (mC (fun le h => h) (mC (fun le h => h) (mC (fun le h => h) (mC (fun le h => h) (mC (fun le h => h) (mC (fun le h => h) (mC (fun le h => h) (mC (fun le h => h) (mC (fun le h => ⟨h.1, h.2.1.mono le, h.2.2⟩) (mC (fun le h => h) (mC (fun le h => h) (mC (fun le h => h) (mC (fun le h => h) (mC (fun le h => h) (mC (fun le h => h) (mC (fun le h => ⟨h.1, h.2.mono le⟩) MonoG.nil)))))))))))))))))))) ?_ ?_
  ·refine gD (fun W Fs R lF z9 => ?_) ?_
   ·refine qj (ql (ptr b2 0) rfl ?_)
    exact ⟨rfl, rfl⟩
   refine gD (fun W Fs R lF z9 => ?_) ?_
   ·refine qj (ql (ptr b2 0) rfl ?_)
    exact ⟨rfl, rfl⟩
   refine gD (fun W Fs R lF z9 => ?_) ?_
   ·refine qj (qo (0) qK rfl qF (by decide) rfl rfl ?_)
    exact ⟨rfl, rfl⟩
   refine gD (fun W Fs R lF z9 => ?_) ?_
   ·replace har := har.mono lF
    replace hrs := hrs.mono lF
    replace hc1 := hc1.mono lF
    replace ha1 := ha1.mono lF
    replace ha3 := ha3.mono lF
    replace hr1 := Rd.monoA hr1 lF
    replace hr3 := Rd.monoA hr3 lF
    rw [eS (l := [(2, _)]) ⟨z9 2 rfl, ⟨⟩⟩]
    refine qj (qy [arv] ja qF rfl rfl (Rd.ownN [_] rfl rfl) ?_)
    exact ⟨rfl, rfl⟩
   refine gD (fun W Fs R lF z9 => ?_) ?_
   ·refine qj (qo (1) qK rfl jv (by decide) rfl rfl ?_)
    exact ⟨rfl, rfl⟩
   refine gD (fun W Fs R lF z9 => ?_) ?_
   ·replace har := har.mono lF
    replace hrs := hrs.mono lF
    replace hc1 := hc1.mono lF
    replace ha1 := ha1.mono lF
    replace ha3 := ha3.mono lF
    replace hr1 := Rd.monoA hr1 lF
    replace hr3 := Rd.monoA hr3 lF
    rw [eS (l := [(4, _)]) ⟨z9 4 rfl, ⟨⟩⟩]
    refine qj (qi jQ rfl (Rd.own [_] rfl rfl) ?_)
    exact ⟨rfl, rfl⟩
   refine gD (fun W Fs R lF z9 => ?_) ?_
   ·refine qj (ql (ii ((o : Int))) rfl ?_)
    exact ⟨rfl, rfl⟩
   refine gD (fun W Fs R lF z9 => ?_) ?_
   ·replace har := har.mono lF
    replace hrs := hrs.mono lF
    replace hc1 := hc1.mono lF
    replace ha1 := ha1.mono lF
    replace ha3 := ha3.mono lF
    replace hr1 := Rd.monoA hr1 lF
    replace hr3 := Rd.monoA hr3 lF
    rw [eS (l := [(5, _), (6, _)]) ⟨z9 5 rfl, z9 6 rfl, ⟨⟩⟩]
    refine qj (qu o qX jm rfl rfl rfl hrs.slv (by omega) rfl ?_)
    exact ⟨rfl, rfl⟩
   refine gD (fun W Fs R lF z9 => ?_) ?_
   ·rw [eS (l := [(7, _)]) ⟨z9 7 rfl, ⟨⟩⟩]
    refine qj (XOp.fieldE (o * 2) qM rfl qp (by decide) rfl rfl ?_)
    exact ⟨rfl, rfl⟩
   refine gD (fun W Fs R lF z9 => ?_) ?_
   ·replace har := har.mono lF
    replace hrs := hrs.mono lF
    replace hc1 := hc1.mono lF
    replace ha1 := ha1.mono lF
    replace ha3 := ha3.mono lF
    replace hr1 := Rd.monoA hr1 lF
    replace hr3 := Rd.monoA hr3 lF
    rw [eS (l := [(8, _)]) ⟨z9 8 rfl, ⟨⟩⟩]
    refine qj (qi qW rfl (hr1 _) ?_)
    exact ⟨rfl, rfl⟩
   refine gD (fun W Fs R lF z9 => ?_) ?_
   ·refine qj (ql (ii ((p : Int))) rfl ?_)
    exact ⟨rfl, rfl⟩
   refine gD (fun W Fs R lF z9 => ?_) ?_
   ·replace har := har.mono lF
    replace hrs := hrs.mono lF
    replace hc1 := hc1.mono lF
    replace ha1 := ha1.mono lF
    replace ha3 := ha3.mono lF
    replace hr3 := Rd.monoA hr3 lF
    rw [eS (l := [(3, _), (9, _), (10, _)]) ⟨z9 3 rfl, z9 9 rfl, z9 10 rfl, ⟨⟩⟩]
    refine qj (qr (args := [.agg #[arv], a1, ii (p : Int)]) call224 rfl (subAtW_spec (p := p) har ha1 (ho := (termW_of hlo)) (hp := (hp)) (hnn := (by first | assumption | exact ya (by assumption) (by omega)))) ?_)
    rintro v3 _ _ _ ⟨rfl, rfl, hv2, hn2⟩
    exact ⟨⟨rfl, hv2, hn2⟩, rfl⟩
   refine gD (fun W Fs R lF z9 => ?_) ?_
   ·refine qj (qo (1) qK rfl jv (by decide) rfl rfl ?_)
    exact ⟨rfl, rfl⟩
   refine gD (fun W Fs R lF z9 => ?_) ?_
   ·replace har := har.mono lF
    replace hrs := hrs.mono lF
    replace hc1 := hc1.mono lF
    replace ha3 := ha3.mono lF
    replace hr3 := Rd.monoA hr3 lF
    rw [eS (l := [(12, _)]) ⟨z9 12 rfl, ⟨⟩⟩]
    refine qj (qi jQ rfl (Rd.own [_] rfl rfl) ?_)
    exact ⟨rfl, rfl⟩
   refine gD (fun W Fs R lF z9 => ?_) ?_
   ·refine qj (ql (ii ((u : Int))) rfl ?_)
    exact ⟨rfl, rfl⟩
   refine gD (fun W Fs R lF z9 => ?_) ?_
   ·replace har := har.mono lF
    replace hrs := hrs.mono lF
    replace hc1 := hc1.mono lF
    replace ha3 := ha3.mono lF
    replace hr3 := Rd.monoA hr3 lF
    rw [eS (l := [(13, _), (14, _)]) ⟨z9 13 rfl, z9 14 rfl, ⟨⟩⟩]
    refine qj (qu u qX jm rfl rfl rfl hrs.slv (by omega) rfl ?_)
    exact ⟨rfl, rfl⟩
   refine gD (fun W Fs R lF z9 => ?_) ?_
   ·rw [eS (l := [(15, _)]) ⟨z9 15 rfl, ⟨⟩⟩]
    refine qj (XOp.fieldE (u * 2) qM rfl qp (by decide) rfl rfl ?_)
    exact ⟨rfl, rfl⟩
   refine gD (fun W Fs R lF z9 => ?_) ?_
   ·replace har := har.mono lF
    replace hrs := hrs.mono lF
    replace hc1 := hc1.mono lF
    replace ha3 := ha3.mono lF
    replace hr3 := Rd.monoA hr3 lF
    rw [eS (l := [(16, _)]) ⟨z9 16 rfl, ⟨⟩⟩]
    refine qj (qi qW rfl (hr3 _) ?_)
    exact ⟨rfl, rfl⟩
   refine gD (fun W Fs R lF z9 => ?_) ?_
   ·replace har := har.mono lF
    replace hrs := hrs.mono lF
    replace hc1 := hc1.mono lF
    replace ha3 := ha3.mono lF
    rw [eS (l := [(17, _)]) ⟨z9 17 rfl, ⟨⟩⟩]
    refine qj (jR <| qr (args := [a3]) call183 rfl (away_spec ha3 (hlt := (by omega)) (htg := (fun i hi => by have := hglu i hi; omega))) ?_)
    rintro v4 _ _ _ ⟨rfl, hs2, rfl⟩
    refine ⟨_, _, rfl, fun F1 le1 hz1 => ?_⟩
    replace har := har.mono le1
    replace hrs := hrs.mono le1
    replace hc1 := hc1.mono le1
    have hf1 : IntsF F1 v4 ((awayL ((rs.getD u ([], [])).1))) := intsH.fz (xs := (awayL ((rs.getD u ([], [])).1))) hz1.fz
    exact ⟨⟨rfl, hf1⟩, rfl⟩
   exact stepsG.nil
  intro W F2 le2 hphi
  obtain ⟨e11, f11_1ha, f11_1hn⟩ := hphi 11 (by decide)
  obtain ⟨e18, f18_1ha⟩ := hphi 18 (by decide)
  generalize hu1 : ((W 11)) = u1 at e11 f11_1ha f11_1hn e18 f18_1ha
  generalize hu2 : ((W 18)) = u2 at e11 f11_1ha f11_1hn e18 f18_1ha
  rw [eS (l := [(0, _), (1, _), (11, u1), (18, u2)]) ⟨(hphi 0 (by decide)), (hphi 1 (by decide)), hu1, hu2, ⟨⟩⟩]
  replace har := har.mono le2
  replace hrs := hrs.mono le2
  replace hc1 := hc1.mono le2
  show XL _ _ _ _ _ _ _ (cellsH b2 (arv :: ((List.replicate 48 (sN)))) 200 :: cellsH b1 [arv, rsv] 32 :: L)
  refine cX (qr (args := [ptr b2 0, u1, u2]) call208 rfl (solve_spec har hc1 BOk.nils f11_1ha f18_1ha (termW_of (sub_ok hlo hp)) (away_W hlu) (by first | assumption | exact ya f11_1ha (by have := termOk_len (sub_ok hlo hp); omega)) (ya f18_1ha (by rw [away_len]; omega))) ?_)
  rintro _ F3 _ le3 ⟨ok9, b3, l1, rfl, hb1, hy1, hn3, rfl⟩
  cases ok9
  ·replace har := har.mono le3
   replace hrs := hrs.mono le3
   refine qg (ptr b2 0) rfl (qg (.bool (false)) rfl (qb (qw (qv (L' := L) [ptr b2 0, .bool (false)] (.tuple #[ptr b2 0, .bool (false)]) (.tmp rfl (.tmp rfl .nil)) rfl (qh le2 le3) rF (sD (sD sR)) ?_))))
   exact .inr (.inl ⟨_, rfl, meet_no (nils_no (hn3 rfl)), rfl⟩)
  replace har := har.mono le3
  replace hrs := hrs.mono le3
  refine qg (ptr b2 0) rfl (qg (.bool (true)) rfl (qb (qw (qv (L' := cellsH b2 (arv :: b3) 200 :: L) [ptr b2 0, .bool (true)] (.tuple #[ptr b2 0, .bool (true)]) (.tmp rfl (.tmp rfl .nil)) rfl (qh le2 le3) rF (sC (sD sR)) ?_))))
  have hm9 := Mgu.of (hy1 rfl)
  exact .inr (.inr ⟨_, _, _, rfl, meet_yes (by omega) hm9, hb1, hm9, rfl⟩)
 refine qn (t := 14) rfl (vF h1) (qn (t := 14) rfl (vF h1) (cX (qG (.bool (false)) (vF h1) rfl (qb (jC rfl (qz (qc (qa (cX (qo (0) qK rfl qF (by decide) rfl rfl (cX (qy [arv] ja qF rfl rfl (Rd.ownN [] rfl rfl) (cX (qY [arv, sN, sN, sN, sN, sN, sN, sN, sN, sN, sN, sN, sN, sN, sN, sN, sN, sN, sN, sN, sN, sN, sN, sN, sN, sN, sN, sN, sN, sN, sN, sN, sN, sN, sN, sN, sN, sN, sN, sN, sN, sN, sN, sN, sN, sN, sN, sN, sN] [sN, sN, sN, sN, sN, sN, sN, sN, sN, sN, sN, sN, sN, sN, sN, sN, sN, sN, sN, sN, sN, sN, sN, sN, sN, sN, sN, sN, sN, sN, sN, sN, sN, sN, sN, sN, sN, sN, sN, sN, sN, sN, sN, sN, sN, sN, sN, sN, sN] [(0, 1), (1, 48)] [(0, [arv])] jA zeroValue200 rfl (.cons rfl qF (.cons rfl sizeOf198 PlacesAre.nil)) rfl (.cons rfl CellsAre.nil) (cX (jc [arv, sN, sN, sN, sN, sN, sN, sN, sN, sN, sN, sN, sN, sN, sN, sN, sN, sN, sN, sN, sN, sN, sN, sN, sN, sN, sN, sN, sN, sN, sN, sN, sN, sN, sN, sN, sN, sN, sN, sN, sN, sN, sN, sN, sN, sN, sN, sN, sN] rfl rfl ?_))))))))))))))))
 intro b4
 refine qg (ptr b4 0) rfl ?_
 have hc2 : BindC F _ _ := BindC.nils 48
 show XL _ _ _ _ _ _ _ (cellsH b4 (arv :: ((List.replicate 48 (sN)))) 200 :: cellsH b1 [arv, rsv] 32 :: L)
 skip
 refine qb (qc (X.free0 mixed (by kernel_rfl) (by kernel_rfl) (fun _ _ _ _ _ h => by obtain ⟨h1 | h1, _⟩ := h <;> cases h1) (fun _ _ _ h => by obtain ⟨h1 | h1, _⟩ := h <;> cases h1) ?_))
 obtain ⟨a5, a6, ha5, ha6, hr5, hr6⟩ := hrs.rd (i := o) (by omega)
 obtain ⟨a7, a8, ha7, ha8, hr7, hr8⟩ := hrs.rd (i := u) (by omega)
 refine XA.drawG [cellsH b4 (arv :: ((List.replicate 48 (sN)))) 200, cellsH b1 [arv, rsv] 32] L 19 [[], [], [], [], [], [], [], [], [], [], [], [], [], [], [], [], [], [], []] [[], [], [], [2], [], [4], [], [5, 6], [7], [8], [], [3, 9, 10], [], [12], [], [13, 14], [15], [16], [17]] [[], [], [], [], [], [], [], [], [], [], [], [], [], [], [], [], [], [], []] (phiG [fun FF us v => v = ptr b4 0, fun FF us v => v = ptr b4 0, fun FF us v => v = ptr b1 0, fun FF us v => v = (.agg #[arv] : Value), fun FF us v => v = ptr b1 1, fun FF us v => v = rsv, fun FF us v => v = (ii ((o : Int)) : Value), fun FF us v => v = (.pointer (some (elemA rsv (o * 2))) : Value), fun FF us v => v = (.pointer (some (elemA rsv (o * 2))) : Value), fun FF us v => v = a5, fun FF us v => v = (ii ((p : Int)) : Value), fun FF us v => ((v) : Value) = v ∧ (IntsF FF (v) (sub ar ((rs.getD o ([], [])).1) p)) ∧ (isNil (v) = false), fun FF us v => v = ptr b1 1, fun FF us v => v = rsv, fun FF us v => v = (ii ((u : Int)) : Value), fun FF us v => v = (.pointer (some (elemA rsv (u * 2))) : Value), fun FF us v => v = (.pointer (some (elemA rsv (u * 2))) : Value), fun FF us v => v = a7, fun FF us v => ((v) : Value) = v ∧ (IntsF FF (v) (awayL ((rs.getD u ([], [])).1)))]) (ownL [fun us v => [], fun us v => [], fun us v => [], fun us v => [], fun us v => [], fun us v => [], fun us v => [], fun us v => [], fun us v => [], fun us v => [], fun us v => [], fun us v => [], fun us v => [], fun us v => [], fun us v => [], fun us v => [], fun us v => [], fun us v => [], fun us v => []]) rfl rfl (by kernel_rfl) (by kernel_rfl) (MonoG.get (mC (fun le h => h) (mC (fun le h => h) (mC (fun le h => h) (mC (fun le h => h) (mC (fun le h => h) (mC (fun le h => h) (mC (fun le h => h) (mC (fun le h => h) (mC (fun le h => h) (mC (fun le h => h) (mC (fun le h => h) (mC (fun le h => ⟨h.1, h.2.1.mono le, h.2.2⟩) (mC (fun le h => h) (mC (fun le h => h) (mC (fun le h => h) (mC (fun le h => h) (mC (fun le h => h) (mC (fun le h => h) (mC (fun le h => ⟨h.1, h.2.mono le⟩) MonoG.nil)))))))))))))))))))) ?_ ?_
 ·refine gD (fun W Fs R lF z9 => ?_) ?_
  ·refine qj (ql (ptr b4 0) rfl ?_)
   exact ⟨rfl, rfl⟩
  refine gD (fun W Fs R lF z9 => ?_) ?_
  ·refine qj (ql (ptr b4 0) rfl ?_)
   exact ⟨rfl, rfl⟩
  refine gD (fun W Fs R lF z9 => ?_) ?_
  ·refine qj (qo (0) qK rfl qF (by decide) rfl rfl ?_)
   exact ⟨rfl, rfl⟩
  refine gD (fun W Fs R lF z9 => ?_) ?_
  ·replace har := har.mono lF
   replace hrs := hrs.mono lF
   replace hc2 := hc2.mono lF
   replace ha5 := ha5.mono lF
   replace ha7 := ha7.mono lF
   replace hr5 := Rd.monoA hr5 lF
   replace hr7 := Rd.monoA hr7 lF
   rw [eS (l := [(2, _)]) ⟨z9 2 rfl, ⟨⟩⟩]
   refine qj (qy [arv] ja qF rfl rfl (Rd.ownN [_] rfl rfl) ?_)
   exact ⟨rfl, rfl⟩
  refine gD (fun W Fs R lF z9 => ?_) ?_
  ·refine qj (qo (1) qK rfl jv (by decide) rfl rfl ?_)
   exact ⟨rfl, rfl⟩
  refine gD (fun W Fs R lF z9 => ?_) ?_
  ·replace har := har.mono lF
   replace hrs := hrs.mono lF
   replace hc2 := hc2.mono lF
   replace ha5 := ha5.mono lF
   replace ha7 := ha7.mono lF
   replace hr5 := Rd.monoA hr5 lF
   replace hr7 := Rd.monoA hr7 lF
   rw [eS (l := [(4, _)]) ⟨z9 4 rfl, ⟨⟩⟩]
   refine qj (qi jQ rfl (Rd.own [_] rfl rfl) ?_)
   exact ⟨rfl, rfl⟩
  refine gD (fun W Fs R lF z9 => ?_) ?_
  ·refine qj (ql (ii ((o : Int))) rfl ?_)
   exact ⟨rfl, rfl⟩
  refine gD (fun W Fs R lF z9 => ?_) ?_
  ·replace har := har.mono lF
   replace hrs := hrs.mono lF
   replace hc2 := hc2.mono lF
   replace ha5 := ha5.mono lF
   replace ha7 := ha7.mono lF
   replace hr5 := Rd.monoA hr5 lF
   replace hr7 := Rd.monoA hr7 lF
   rw [eS (l := [(5, _), (6, _)]) ⟨z9 5 rfl, z9 6 rfl, ⟨⟩⟩]
   refine qj (qu o qX jm rfl rfl rfl hrs.slv (by omega) rfl ?_)
   exact ⟨rfl, rfl⟩
  refine gD (fun W Fs R lF z9 => ?_) ?_
  ·rw [eS (l := [(7, _)]) ⟨z9 7 rfl, ⟨⟩⟩]
   refine qj (XOp.fieldE (o * 2) qM rfl qp (by decide) rfl rfl ?_)
   exact ⟨rfl, rfl⟩
  refine gD (fun W Fs R lF z9 => ?_) ?_
  ·replace har := har.mono lF
   replace hrs := hrs.mono lF
   replace hc2 := hc2.mono lF
   replace ha5 := ha5.mono lF
   replace ha7 := ha7.mono lF
   replace hr5 := Rd.monoA hr5 lF
   replace hr7 := Rd.monoA hr7 lF
   rw [eS (l := [(8, _)]) ⟨z9 8 rfl, ⟨⟩⟩]
   refine qj (qi qW rfl (hr5 _) ?_)
   exact ⟨rfl, rfl⟩
  refine gD (fun W Fs R lF z9 => ?_) ?_
  ·refine qj (ql (ii ((p : Int))) rfl ?_)
   exact ⟨rfl, rfl⟩
  refine gD (fun W Fs R lF z9 => ?_) ?_
  ·replace har := har.mono lF
   replace hrs := hrs.mono lF
   replace hc2 := hc2.mono lF
   replace ha5 := ha5.mono lF
   replace ha7 := ha7.mono lF
   replace hr7 := Rd.monoA hr7 lF
   rw [eS (l := [(3, _), (9, _), (10, _)]) ⟨z9 3 rfl, z9 9 rfl, z9 10 rfl, ⟨⟩⟩]
   refine qj (qr (args := [.agg #[arv], a5, ii (p : Int)]) call224 rfl (subAtW_spec (p := p) har ha5 (ho := (termW_of hlo)) (hp := (hp)) (hnn := (by first | assumption | exact ya (by assumption) (by omega)))) ?_)
   rintro v7 _ _ _ ⟨rfl, rfl, hv4, hn5⟩
   exact ⟨⟨rfl, hv4, hn5⟩, rfl⟩
  refine gD (fun W Fs R lF z9 => ?_) ?_
  ·refine qj (qo (1) qK rfl jv (by decide) rfl rfl ?_)
   exact ⟨rfl, rfl⟩
  refine gD (fun W Fs R lF z9 => ?_) ?_
  ·replace har := har.mono lF
   replace hrs := hrs.mono lF
   replace hc2 := hc2.mono lF
   replace ha7 := ha7.mono lF
   replace hr7 := Rd.monoA hr7 lF
   rw [eS (l := [(12, _)]) ⟨z9 12 rfl, ⟨⟩⟩]
   refine qj (qi jQ rfl (Rd.own [_] rfl rfl) ?_)
   exact ⟨rfl, rfl⟩
  refine gD (fun W Fs R lF z9 => ?_) ?_
  ·refine qj (ql (ii ((u : Int))) rfl ?_)
   exact ⟨rfl, rfl⟩
  refine gD (fun W Fs R lF z9 => ?_) ?_
  ·replace har := har.mono lF
   replace hrs := hrs.mono lF
   replace hc2 := hc2.mono lF
   replace ha7 := ha7.mono lF
   replace hr7 := Rd.monoA hr7 lF
   rw [eS (l := [(13, _), (14, _)]) ⟨z9 13 rfl, z9 14 rfl, ⟨⟩⟩]
   refine qj (qu u qX jm rfl rfl rfl hrs.slv (by omega) rfl ?_)
   exact ⟨rfl, rfl⟩
  refine gD (fun W Fs R lF z9 => ?_) ?_
  ·rw [eS (l := [(15, _)]) ⟨z9 15 rfl, ⟨⟩⟩]
   refine qj (XOp.fieldE (u * 2) qM rfl qp (by decide) rfl rfl ?_)
   exact ⟨rfl, rfl⟩
  refine gD (fun W Fs R lF z9 => ?_) ?_
  ·replace har := har.mono lF
   replace hc2 := hc2.mono lF
   replace ha7 := ha7.mono lF
   replace hr7 := Rd.monoA hr7 lF
   rw [eS (l := [(16, _)]) ⟨z9 16 rfl, ⟨⟩⟩]
   refine qj (qi qW rfl (hr7 _) ?_)
   exact ⟨rfl, rfl⟩
  refine gD (fun W Fs R lF z9 => ?_) ?_
  ·replace har := har.mono lF
   replace hc2 := hc2.mono lF
   replace ha7 := ha7.mono lF
   rw [eS (l := [(17, _)]) ⟨z9 17 rfl, ⟨⟩⟩]
   refine qj (jR <| qr (args := [a7]) call183 rfl (away_spec ha7 (hlt := (by omega)) (htg := (fun i hi => by have := hglu i hi; omega))) ?_)
   rintro v8 _ _ _ ⟨rfl, hs4, rfl⟩
   refine ⟨_, _, rfl, fun F4 le4 hz2 => ?_⟩
   replace har := har.mono le4
   replace hc2 := hc2.mono le4
   have hf2 : IntsF F4 v8 ((awayL ((rs.getD u ([], [])).1))) := intsH.fz (xs := (awayL ((rs.getD u ([], [])).1))) hz2.fz
   exact ⟨⟨rfl, hf2⟩, rfl⟩
  exact stepsG.nil
 intro W F5 le5 hphi
 obtain ⟨e11, f11_2ha, f11_2hn⟩ := hphi 11 (by decide)
 obtain ⟨e18, f18_2ha⟩ := hphi 18 (by decide)
 generalize hu3 : ((W 11)) = u3 at e11 f11_2ha f11_2hn e18 f18_2ha
 generalize hu4 : ((W 18)) = u4 at e11 f11_2ha f11_2hn e18 f18_2ha
 rw [eS (l := [(0, _), (1, _), (11, u3), (18, u4)]) ⟨(hphi 0 (by decide)), (hphi 1 (by decide)), hu3, hu4, ⟨⟩⟩]
 replace har := har.mono le5
 replace hc2 := hc2.mono le5
 show XL _ _ _ _ _ _ _ (cellsH b4 (arv :: ((List.replicate 48 (sN)))) 200 :: cellsH b1 [arv, rsv] 32 :: L)
 refine cX (qr (args := [ptr b4 0, u3, u4]) call208 rfl (solve_spec har hc2 BOk.nils f11_2ha f18_2ha (termW_of (sub_ok hlo hp)) (away_W hlu) (by first | assumption | exact ya f11_2ha (by have := termOk_len (sub_ok hlo hp); omega)) (ya f18_2ha (by rw [away_len]; omega))) ?_)
 rintro _ F6 _ le6 ⟨ok9, b5, l2, rfl, hb2, hy2, hn6, rfl⟩
 cases ok9
 ·replace har := har.mono le6
  refine qg (ptr b4 0) rfl (qg (.bool (false)) rfl (qb (qw (qv (L' := L) [ptr b4 0, .bool (false)] (.tuple #[ptr b4 0, .bool (false)]) (.tmp rfl (.tmp rfl .nil)) rfl (qh le5 le6) rF (sD (sD sR)) ?_))))
  exact .inr (.inl ⟨_, rfl, meet_no (nils_no (hn6 rfl)), rfl⟩)
 replace har := har.mono le6
 refine qg (ptr b4 0) rfl (qg (.bool (true)) rfl (qb (qw (qv (L' := cellsH b4 (arv :: b5) 200 :: L) [ptr b4 0, .bool (true)] (.tuple #[ptr b4 0, .bool (true)]) (.tmp rfl (.tmp rfl .nil)) rfl (qh le5 le6) rF (sC (sD sR)) ?_))))
 have hm9 := Mgu.of (hy2 rfl)
 exact .inr (.inr ⟨_, _, _, rfl, meet_yes (by omega) hm9, hb2, hm9, rfl⟩)

/- impl.renumber -/
set_option maxHeartbeats 1000000 in
set_option maxRecDepth 20000 in
theorem renumber_spec {F : FH} {L : List HP} {tsv : Value} {ts : List (List Int)} (hts : RowsF F tsv ts) (htl : ts.length ≤ 100) (hrb : ∀ i, i < ts.length → (ts.getD i []).length ≤ 60) :
    Does prog 142 [tsv] F (L) (fun v F' L' => ∃ (cs : List Value) (Us : List HP), ArrF F' 1 v (rnL [] ts).length cs ∧ RowsC F' cs (rnL [] ts) ∧ DeepL 1 (RowO 2) cs (rnL [] ts) Us ∧ Fresh F F' (star Us) ∧ L = L') := by
 refine qI func142 rfl rfl rfl (qc (qa (qg (sN) rfl (qb (qc (qa (qg (sN) rfl (qb (qc (qa (qg (sN) rfl (qb (qc (qc (qa (qf (tsv) rfl (cX (qE qB rfl hts.slv ?_))))))))))))))))))
 refine qf (ii (0)) rfl (qb (qL (jn (α := Nat × Value × RowL × List Value × List HP × Nat × Value × List Int × FH) (fun xQ => [(3, xQ.2.2.2.2.2.2.1), (4, xQ.2.1), (11, tsv), (12, ii ((ts.length : Int))), (13, ii (((xQ.1 : Nat) : Int)))]) (fun xQ => slH 27 1 xQ.2.1 xQ.2.2.2.2.2.1 xQ.2.2.2.1 :: intsH 2 xQ.2.2.2.2.2.2.1 xQ.2.2.2.2.2.2.2.1 :: L) (fun xQ F' => xQ.2.2.2.2.2.2.2.2 = F' ∧ F ≤ xQ.2.2.2.2.2.2.2.2 ∧ (IsSl xQ.2.1) ∧ (xQ.1 ≤ ts.length) ∧ (RowsC xQ.2.2.2.2.2.2.2.2 xQ.2.2.2.1 xQ.2.2.1) ∧ (xQ.2.2.2.2.2.1 = xQ.2.2.1.length) ∧ (DeepL 1 (RowO 2) xQ.2.2.2.1 xQ.2.2.1 xQ.2.2.2.2.1) ∧ (Fresh F xQ.2.2.2.2.2.2.2.2 (star xQ.2.2.2.2.1)) ∧ (IsSl xQ.2.2.2.2.2.2.1) ∧ (rnL [] ts = xQ.2.2.1 ++ rnL xQ.2.2.2.2.2.2.2.1 (ts.drop xQ.1)) ∧ (xQ.2.2.2.2.2.2.2.1.length ≤ xQ.1 * 60)) (fun xQ => ts.length - xQ.1) (0, sN, [], [], [], 0, sN, [], F) ⟨rfl, rfl, rfl, rfl, rfl, ⟨⟩⟩ (jE (Sub.addNil 27 1 _ _) (sC (jE (intsH.addNil 2 none _) (sC sR)))) ⟨rfl, FLe.refl _, (⟨_, _, _, rfl⟩), (by (try dsimp only) <;> omega), (CO.nil), (rfl), (DeepL.nil), (Fresh.nilL), (⟨_, _, _, rfl⟩), (rfl), (Nat.zero_le _)⟩ ?_)))
 rintro ⟨k, ov, os, ocs, Us, m, zv, zs, G1⟩ rE _ _ ⟨rfl, leG, hov, hk, hC, hm, hD, hZ, hzv, hrn, hzl⟩
 show X _ _ _ _ (envs [(3, zv), (4, ov), (11, tsv), (12, ii ((ts.length : Int))), (13, ii ((k : Int)))] rE) _ (slH 27 1 ov m ocs :: intsH 2 zv zs :: L)
 replace leG : F ≤ G1 := leG
 dsimp only at hov hk hC hm hD hZ hzv hrn hzl
 have hrbk := hrb k
 have hol : os.length ≤ ts.length := by have h9 := congrArg List.length hrn; rw [List.length_append, rnL_len] at h9; omega
 have leG1 := leG
 replace hts := hts.mono leG1
 refine qc (qa (cX (qT rfl rfl (qb (qc ?_)))))
 refine qA (p := (k : Int) < (ts.length : Int)) rfl (fun h1 => ?_) (fun h1 => ?_)
 ·refine qz (qc (qL (qc (qa (cX (qu k qB qp rfl rfl rfl hts.slv (by omega) (Nat.mul_one _) ?_))))))
  obtain ⟨a1, ha1, hr1⟩ := hts.rd (i := k) (by omega)
  refine cX (qi qW rfl (hr1 _) (qg (a1) rfl (qb (qc (qa (qf (a1) rfl (cX (qr (args := [a1]) call188 rfl (Clone_spec ha1 (hlt := (by have := hrbk (by omega); omega))) ?_))))))))
  rintro v1 _ _ _ ⟨rfl, hs1, rfl⟩
  refine qg (v1) rfl (qb (qc (qc (qa (qf (v1) rfl (cX (qE qd rfl (intsH.slv [] rfl) (qf (ii (0)) rfl (qb (qL (jn (α := Nat × List Int × Value × List Int) (fun xQ => [(3, xQ.2.2.1), (4, ov), (7, v1), (11, tsv), (12, ii ((ts.length : Int))), (13, ii ((k : Int))), (19, v1), (20, ii (((((((ts.getD k [])))).length : Nat) : Int))), (21, ii (((xQ.1 : Nat) : Int)))]) (fun xQ => intsH 2 v1 xQ.2.1 :: slH 27 1 ov m ocs :: intsH 2 xQ.2.2.1 xQ.2.2.2 :: L) (fun xQ F' => G1 = F' ∧ (xQ.1 ≤ (ts.getD k []).length) ∧ (IsSl xQ.2.2.1) ∧ (RnAt zs (ts.getD k []) xQ.2.2.2 xQ.2.1 xQ.1) ∧ (xQ.2.2.2.length ≤ k * 60 + xQ.1)) (fun xQ => (ts.getD k []).length - xQ.1) (0, (ts.getD k []), zv, zs) ⟨rfl, rfl, rfl, rfl, rfl, rfl, rfl, rfl, rfl, ⟨⟩⟩ (sC (sC (sC sR))) ⟨rfl, (by (try dsimp only) <;> omega), (hzv), (RnAt.start), (by (try dsimp only); omega)⟩ ?_)))))))))))
  rintro ⟨j, ws, zv2, zs2⟩ rE _ _ ⟨rfl, hj, hzv2, hR, hzl2⟩
  show X _ _ _ _ (envs [(3, zv2), (4, ov), (7, v1), (11, tsv), (12, ii ((ts.length : Int))), (13, ii ((k : Int))), (19, v1), (20, ii (((((((ts.getD k [])))).length : Nat) : Int))), (21, ii ((j : Int)))] rE) _ (intsH 2 v1 ws :: slH 27 1 ov m ocs :: intsH 2 zv2 zs2 :: L)
  dsimp only at hj hzv2 hR hzl2
  have hwl := hR.len
  have hwj := fun h : j < (ts.getD k []).length => hR.at h
  refine qc (qa (cX (qT rfl rfl (qb (qc ?_)))))
  refine qA (p := (j : Int) < ((((((ts.getD k [])))).length : Nat) : Int)) rfl (fun h2 => ?_) (fun h2 => ?_)
  ·refine qz (qc (qL (qc (qa (qf (ii ((j : Int))) rfl (cX (qu j qd qm rfl rfl rfl (intsH.slv [] rfl) (by omega) (Nat.mul_one _) (cX (qi qQ rfl (intsH.rd [] rfl (by omega)) (qg (ii ((j : Int))) rfl (qg (ii (ws.getD j 0)) rfl (qb (qc (qc (qa (qf (ii (ws.getD j 0)) rfl (cX (jP rfl rfl (qb ?_)))))))))))))))))))
   refine qA (p := (ws.getD j 0 : Int) ≥ 0) rfl (fun h3 => ?_) (fun h3 => ?_)
   ·refine jj (qx (qO (qa (cX (qS (((j + 1 : Nat) : Int)) rfl rfl (by omega) (by omega) (qf (ii (((j + 1 : Nat) : Int))) rfl (qb ?_)))))))
    exact ⟨(j + 1, ws, zv2, zs2), _, FLe.refl _, rF, ⟨rfl, rfl, rfl, rfl, rfl, rfl, rfl, rfl, rfl, ⟨⟩⟩, (sC (sC (sC sR))), ⟨rfl, (by (try dsimp only) <;> omega), (hzv2), (hR.sym (by omega) (by have := hwj (by omega); omega)), (by (try dsimp only); (try rw [List.length_append, List.length_singleton]); omega)⟩, (by omega)⟩
   have hwj1 := hwj (by omega)
   have hj0 : (ts.getD k []).getD j 0 < 0 := by omega
   refine qz (qc (qa (qf (zv2) rfl (qf (ii (ws.getD j 0)) rfl (cX (XOp.lend [_, _] _ _ rfl (fun F1 le1 hz1 => ?_)))))))
   have hf1 : IntsF _ zv2 zs2 := intsH.fz (xs := zs2) hz1
   refine id (qr (args := [zv2, ii (ws.getD j 0)]) call204 rfl (Index_spec (n := ws.getD j 0) hf1 (hbd := (by first | assumption | rfl | omega | simp))) ?_)
   rintro _ _ _ _ ⟨rfl, rfl, rfl⟩
   show XL _ _ _ _ _ _ _ (intsH 2 zv2 zs2 :: intsH 2 v1 ws :: slH 27 1 ov m ocs :: L)
   refine qg (ii (indexZ zs2 (ws.getD j 0))) rfl (qb (qc (qc (qa (qf (ii (indexZ zs2 (ws.getD j 0))) rfl (cX (qT rfl rfl (qb ?_))))))))
   refine qA (p := (indexZ zs2 (ws.getD j 0) : Int) < 0) rfl (fun h4 => ?_) (fun h4 => ?_)
   ·have hil := indexZ_le zs2 (ws.getD j 0)
    refine qc (qa (qf (zv2) rfl (cX (qE qd rfl (intsH.slv [] rfl) (qg (ii ((zs2.length : Int))) rfl (qb (qa (qf (zv2) rfl (qf (ii (ws.getD j 0)) rfl (cX (qt (s := 1) [ii (ws.getD j 0)] [ii (0)] [(0, [ii (ws.getD j 0)])] qd qm qJ rfl (by decide) rfl (.cons rfl CellsAre.nil) rfl ?_)))))))))))
    intro v2 hv1
    refine cX (ye (u := ws.getD j 0) [_] _ qd typeInfo2 rfl rfl rfl rfl rfl rfl (SlV.own [] rfl) (Rd.sl [] rfl rfl) (by (try simp only [List.length_append, List.length_nil, List.length_cons, List.length_singleton, List.length_take, List.length_drop]); omega) ?_)
    intro v3 hs2 hn1
    refine qg (v3) rfl (qb (qa (qf (v1) rfl (qf (ii ((j : Int))) rfl (qf (ii ((zs2.length : Int))) rfl (cX (jf ((-1) - ((zs2.length : Int))) rfl rfl (by omega) (by omega) (cX (qu j qd qm rfl rfl rfl (intsH.slv [_, _] rfl) (by omega) (Nat.mul_one _) (cX (intsH.storeX (i := j) (v := v1) [_, _] _ (ws.set j ((-1) - ((zs2.length : Int)))) qm rfl rfl rfl (by omega) rfl (qb (qa (cX (qS (((j + 1 : Nat) : Int)) rfl rfl (by omega) (by omega) ?_)))))))))))))))
    refine qf (ii (((j + 1 : Nat) : Int))) rfl (qb ?_)
    exact ⟨(j + 1, (ws.set j ((-1) - ((zs2.length : Int)))), v3, zs2 ++ [ws.getD j 0]), _, FLe.refl _, rF, ⟨rfl, rfl, rfl, rfl, rfl, rfl, rfl, rfl, rfl, ⟨⟩⟩, (jE (jJ (A := [_])) (jE (jJ (A := [_, _, _])) (jE (jJ (A := [_, _, _])) (sC (sC (sC (sD sR))))))), ⟨rfl, (by (try dsimp only) <;> omega), (hs2), ((by (try dsimp only); rw [hwj1]; exact hR.new (by omega) hj0 (fun hc => by have := indexZ_mem.2 hc; rw [← hwj1] at this; omega))), (by (try dsimp only); (try rw [List.length_append, List.length_singleton]); omega)⟩, (by omega)⟩
   have hil := indexZ_le zs2 (ws.getD j 0)
   refine qz (qa (qf (v1) rfl (qf (ii ((j : Int))) rfl (qf (ii (indexZ zs2 (ws.getD j 0))) rfl (cX (jf ((-1) - (indexZ zs2 (ws.getD j 0))) rfl rfl (by omega) (by omega) (cX (qu j qd qm rfl rfl rfl (intsH.slv [_] rfl) (by omega) (Nat.mul_one _) (cX (intsH.storeX (i := j) (v := v1) [_] _ (ws.set j ((-1) - (indexZ zs2 (ws.getD j 0)))) qm rfl rfl rfl (by omega) rfl (qb (qa (cX (qS (((j + 1 : Nat) : Int)) rfl rfl (by omega) (by omega) (qf (ii (((j + 1 : Nat) : Int))) rfl ?_)))))))))))))))
   refine qb ?_
   exact ⟨(j + 1, (ws.set j ((-1) - (indexZ zs2 (ws.getD j 0)))), zv2, zs2), _, FLe.refl _, rF, ⟨rfl, rfl, rfl, rfl, rfl, rfl, rfl, rfl, rfl, ⟨⟩⟩, (jE (jJ (A := [_, _])) (jE (jJ (A := [_, _])) (sC (sC (sC sR))))), ⟨rfl, (by (try dsimp only) <;> omega), (hzv2), ((by (try dsimp only); rw [hwj1]; exact hR.old (by omega) hj0 (indexZ_mem.1 (by rw [← hwj1]; omega)))), (by (try dsimp only); (try rw [List.length_append, List.length_singleton]); omega)⟩, (by omega)⟩
  refine jj (qx (qx (qO (qa (qf (ov) rfl (qf (v1) rfl (cX (qt (s := 1) [v1] [sN] [(0, [v1])] qB qp jT rfl (by decide) rfl (.cons (cells_one hs1) CellsAre.nil) rfl ?_))))))))
  intro v4 hv2
  refine jz [_] _ _ rfl (fun F2 le2 hz2 => ?_)
  replace hC := hC.mono le2
  have hf2 : IntsF F2 v1 ws := intsH.fz (xs := ws) hz2.fz
  refine cX (XOp.append (m := 1) (bytes := 24) (cs := ocs) [_] _ [v1] qB typeInfo27 rfl rfl rfl rfl rfl rfl rfl (SlV.own [] rfl) rfl (Rd.lit [] rfl) (qs (jb (qD hf2)) qZ) (by (try simp only [List.length_append, List.length_nil, List.length_cons, List.length_singleton]); omega) (by (try simp only [List.length_append, List.length_nil, List.length_cons, List.length_singleton]); omega) ?_)
  intro v5 hs3 hn2 hm1
  have hc1 := RowsC.snoc hC hf2
  skip
  refine qg (v5) rfl (qb (qa (cX (qS (((k + 1 : Nat) : Int)) rfl rfl (by omega) (by omega) (qf (ii (((k + 1 : Nat) : Int))) rfl (qb ?_))))))
  exact ⟨(k + 1, v5, os ++ [ws], ocs ++ [v1], Us ++ [intsH 2 v1 ws], (m) + 1, zv2, zs2, F2), _, (qh leG1 le2), rF, ⟨rfl, rfl, rfl, rfl, rfl, ⟨⟩⟩, (sD (sC (sC sR))), ⟨rfl, (qh leG1 le2), (hs3), (by (try dsimp only) <;> omega), (hc1), (by (try dsimp only); rw [List.length_append, List.length_singleton]; omega), (DeepL.snoc hD rfl ⟨_, rfl, rfl⟩), ((Fresh.app hZ leG1 (Fresh.one hz2) le2)), (hzv2), (rn_next (by omega) hrn (hR.done (by omega))), (by (try dsimp only); have := orderGo_len (ts.getD k []) zs; rw [(hR.done (by omega)).1]; have := hrbk (by omega); omega)⟩, (by omega)⟩
 refine jj (qx (qx (qO (qc (qa (qf (ov) rfl (qg (ov) rfl (qb (qP [] _ _ rfl (fun F3 le3 hz3 => ?_))))))))))
 replace hC := hC.mono le3
 have hf3 : RowsF F3 ov os := CO.fz hC (by first | rfl | omega | (rw [List.length_set]; omega) | (simp; done)) hz3.fz
 refine qw (qv (L' := L) [ov] (ov) (.tmp rfl .nil) rfl (qh leG1 le3) rF (sD sR) ?_)
 have e9 := rn_done (by omega) hrn
 rw [e9]
 subst hm
 exact ⟨ocs, Us, hz3.fz.sl, hC, hD, (hZ.mono le3), rfl⟩

/- (*impl.unifier).placeIn -/
theorem placeIn_spec {F : FH} {L : List HP} {ub : Nat} {arv : Value} {ar : List Int} {bs : List Value} {bl : RowL} (har : IntsF F arv ar) (hbc : BindC F bs bl) (hb : BOk ar bl) {σ : Sbs} {p : Nat} {tv : Value} {t : List Int} (ht : IntsF F tv t) (hσ : Sol bl σ) (ho : TermW ar t) (hp : p < t.length) (hlen : (ap σ t).length ≤ 60) :
    Does prog 185 [ptr ub 0, tv, ii ((p : Int))] F (cellsH ub (arv :: bs) 200 :: L) (fun v F' L' => (F = F' ∧ (ii (((ap σ (t.take p)).length : Nat) : Int) : Value) = v) ∧ cellsH ub (arv :: bs) 200 :: L = L') := by
 refine qI func185 rfl rfl rfl ?_
 have htl := ho.len
 have hrk := res_take hlen hp (σ := σ)
 refine qc (qa (qg (ii (0)) rfl (qb (qc (qa (qf (ptr ub 0) rfl (qf (tv) rfl (qf (ii ((p : Int))) rfl (cX (yf 0 p qd qm rfl ht rfl ⟨_, rfl⟩ (by omega) (by omega) ?_))))))))))
 intro v1 hv1 hn1
 obtain ⟨ρ9, hρ9⟩ := hb.acyc
 obtain ⟨k9, hk9⟩ := maxRank (((t.drop 0).take (p - 0))) ρ9
 have hw9 := take_ge ho (p := p)
 refine jw (intsH.addNil 2 none _) (jw (jJ (A := [_])) ?_)
 show XL _ _ _ _ _ _ _ (cellsH ub (arv :: bs) 200 :: intsH 2 (sN) ([]) :: L)
 refine jw (jJ (A := [_])) ?_
 show XL _ _ _ _ _ _ _ (intsH 2 (sN) ([]) :: cellsH ub (arv :: bs) 200 :: L)
 refine cX (qr (args := [ptr ub 0, sN, v1]) call182 rfl (resolve_spec k9 har hbc (by assumption) (os := []) hv1 ⟨_, _, _, rfl⟩ (Nat.zero_le _) hσ hρ9 (fun m hm _ => hk9 m hm) hw9.1 hw9.2) ?_)
 rintro _ _ _ _ ⟨v2, rfl, hs1, rfl, rfl⟩
 refine qf (.tuple #[v2, .bool (resOk σ ([] : List Int) (((t.drop 0).take (p - 0))))]) rfl (cX (qH (v2) rfl rfl (cX (qH (.bool (resOk σ ([] : List Int) (((t.drop 0).take (p - 0))))) rfl rfl (qg (v2) rfl (qg (.bool (resOk σ ([] : List Int) (((t.drop 0).take (p - 0))))) rfl (qb (qc (qa (qf (v2) rfl (cX (qE qd rfl (intsH.slv [] rfl) (qg (ii (((((resX σ ([] : List Int) (((t.drop 0).take (p - 0))))).length : Nat) : Int))) rfl (qb ?_))))))))))))))
 refine qw (qv (L' := cellsH ub (arv :: bs) 200 :: L) [ii (((((resX σ ([] : List Int) (((t.drop 0).take (p - 0))))).length : Nat) : Int))] (ii (((((resX σ ([] : List Int) (((t.drop 0).take (p - 0))))).length : Nat) : Int))) (.tmp rfl .nil) rfl rF rF (sD (sC sR)) ?_)
 have hr9 := of_decide_eq_true (show resOk σ [] (t.take p) = true from hrk)
 exact ⟨⟨rfl, congrArg (fun l : List Int => Value.int .i64 (l.length : Int)) (show ap σ (t.take p) = resX σ [] (t.take p) from by unfold resX; rw [if_pos hrk]; rfl)⟩, rfl⟩

/- impl.put -/
theorem putW_spec {F : FH} {L : List HP} {arv : Value} {ar : List Int} (har : IntsF F arv ar) {tv : Value} {t : List Int} (ht : IntsF F tv t) {p : Nat} {uv : Value} {u : List Int} (hu : IntsF F uv u) (ho : TermW ar t) (hp : p < t.length) (hul : 1 ≤ u.length ∧ u.length ≤ 4000000) :
    Does prog 184 [.agg #[arv], tv, ii ((p : Int)), uv] F (L) (fun v F' L' => ∃ (a : Value), (.tuple #[a, .bool ((putL ar t p u).isSome)] : Value) = v ∧ (IntsF F' a ((putL ar t p u).getD [])) ∧ ((putL ar t p u).isSome = true → isNil a = false) ∧ (Fresh F F' (intsH 2 a ((putL ar t p u).getD []))) ∧ L = L') := by
 refine qI func184 rfl rfl rfl ?_
 have hsl := sigOk_spec ho.sig
 have htl := ho.len
 have hsig := ho.sig
 have hee := ho.endN hp
 refine qc (qa (cX (jc [arv] rfl rfl ?_)))
 intro b1
 refine qg (sN) rfl (qg (.bool (false)) rfl (qb (qc ?_)))
 refine X.drawG [cellsH b1 [arv] 29] L 10 [] [[], [], [0, 1], [], [], [], [], [], [5, 6, 7], [4, 8]] [] (phiG [pe tv, pe (ii ((p : Int)) : Value), fun FF us v => (v : Value) = v ∧ (IntsF FF v ((t.drop 0).take (p - 0))) ∧ (isNil v = isNil tv), pe uv, pe tv, pe (.agg #[arv]), pe tv, pe (ii ((p : Int)) : Value), pe (ii (((endN ar t p : Nat) : Int)) : Value), fun FF us v => (v : Value) = v ∧ (IntsF FF v ((t.drop (endN ar t p)).take (((t).length) - (endN ar t p)))) ∧ (isNil v = isNil tv)]) (ownL []) mixed rfl rfl (by kernel_rfl) (by kernel_rfl) (MonoG.get (m1 (m1 (mC (fun le h => ⟨h.1, h.2.1.mono le, h.2.2⟩) (m1 (m1 (m1 (m1 (m1 (m1 (mC (fun le h => ⟨h.1, h.2.1.mono le, h.2.2⟩) MonoG.nil))))))))))) ?_ ?_
 ·refine gD (fun W Fs R lF z9 => ?_) ?_
  ·refine qj (ql (tv) rfl ?_)
   exact ⟨rfl, rfl⟩
  refine gD (fun W Fs R lF z9 => ?_) ?_
  ·refine qj (ql (ii ((p : Int))) rfl ?_)
   exact ⟨rfl, rfl⟩
  refine gD (fun W Fs R lF z9 => ?_) ?_
  ·replace har := har.mono lF
   replace ht := ht.mono lF
   replace hu := hu.mono lF
   rw [eS (l := [(0, _), (1, _)]) ⟨z9 0 rfl, z9 1 rfl, ⟨⟩⟩]
   refine qj (yf 0 p qd qm rfl ht rfl ⟨_, rfl⟩ (by omega) (by omega) ?_)
   intro v3 hv3 hn3
   exact ⟨⟨rfl, hv3, hn3⟩, rfl⟩
  refine gD (fun W Fs R lF z9 => ?_) ?_
  ·refine qj (ql (uv) rfl ?_)
   exact ⟨rfl, rfl⟩
  refine gD (fun W Fs R lF z9 => ?_) ?_
  ·refine qj (ql (tv) rfl ?_)
   exact ⟨rfl, rfl⟩
  refine gD (fun W Fs R lF z9 => ?_) ?_
  ·replace har := har.mono lF
   replace ht := ht.mono lF
   replace hu := hu.mono lF
   refine qj (qy [arv] ja qF rfl rfl (Rd.ownN [] rfl rfl) ?_)
   exact ⟨rfl, rfl⟩
  refine gD (fun W Fs R lF z9 => ?_) ?_
  ·refine qj (ql (tv) rfl ?_)
   exact ⟨rfl, rfl⟩
  refine gD (fun W Fs R lF z9 => ?_) ?_
  ·refine qj (ql (ii ((p : Int))) rfl ?_)
   exact ⟨rfl, rfl⟩
  refine gD (fun W Fs R lF z9 => ?_) ?_
  ·replace har := har.mono lF
   replace ht := ht.mono lF
   replace hu := hu.mono lF
   rw [eS (l := [(5, _), (6, _), (7, _)]) ⟨z9 5 rfl, z9 6 rfl, z9 7 rfl, ⟨⟩⟩]
   refine qj (qr (args := [.agg #[arv], tv, ii (p : Int)]) call150 rfl (endAtW_ok (p := p) har ht (ho := (by first | assumption | rfl | omega | (left; simp; done) | (right; simp; done))) (hp := (by first | assumption | rfl | omega | (left; simp; done) | (right; simp; done)))) ?_)
   rintro _ _ _ _ ⟨rfl, rfl, rfl⟩
   exact ⟨rfl, rfl⟩
  refine gD (fun W Fs R lF z9 => ?_) ?_
  ·replace har := har.mono lF
   replace ht := ht.mono lF
   replace hu := hu.mono lF
   rw [eS (l := [(4, _), (8, _)]) ⟨z9 4 rfl, z9 8 rfl, ⟨⟩⟩]
   refine qj (yf (endN ar t p) ((t).length) qd qm rfl ht ⟨_, rfl⟩ rfl (by omega) (by omega) ?_)
   intro v4 hv4 hn4
   exact ⟨⟨rfl, hv4, hn4⟩, rfl⟩
  exact stepsG.nil
 intro W F1 le1 hphi
 obtain ⟨e2, f2_1hv, f2_1hn⟩ := hphi 2 (by decide)
 obtain ⟨e9, f9_1hv, f9_1hn⟩ := hphi 9 (by decide)
 generalize hu1 : (W 2) = u1 at e2 f2_1hv f2_1hn e9 f9_1hv f9_1hn
 generalize hu2 : (W 9) = u2 at e2 f2_1hv f2_1hn e9 f9_1hv f9_1hn
 rw [eS (l := [(2, u1), (3, _), (9, u2)]) ⟨hu1, (hphi 3 (by decide)), hu2, ⟨⟩⟩]
 replace hu := hu.mono le1
 show XL _ _ _ _ _ _ _ (cellsH b1 [arv] 29 :: L)
 refine cX (qt (s := 1) [u1, uv, u2] [sN] [(0, [u1]), (1, [uv]), (2, [u2])] qB qp jT rfl (by decide) rfl (.cons (cells_one (qD f2_1hv)) (.cons (cells_one (qD hu)) (.cons (cells_one (qD f9_1hv)) CellsAre.nil))) rfl ?_)
 intro v5 hv5
 have hc1 : RowsC F1 [u1, uv, u2] ([((t.drop 0).take (p - 0)), u, ((t.drop (endN ar t p)).take (((t).length) - (endN ar t p)))] : List (List Int)) := (RowsC.snoc (RowsC.snoc (RowsC.snoc (CO.nil : RowsC F1 [] []) f2_1hv) hu) f9_1hv)
 refine jz [] _ _ rfl (fun F2 le2 hz1 => ?_)
 replace hc1 := hc1.mono le2
 have hf1 : RowsF F2 v5 (([((t.drop 0).take (p - 0)), u, ((t.drop (endN ar t p)).take (((t).length) - (endN ar t p)))] : List (List Int))) := CO.fz hc1 (by first | rfl | omega | (rw [List.length_set]; omega) | (simp; done)) hz1.fz
 refine cX (jR <| qr (args := [v5]) call225 rfl (Concat_spec hf1 (hg1 := (by simp; omega)) (hn := (by first | assumption | rfl | omega | simp)) (hb := (fun i hi => by match i, hi with | 0, _ => simp; omega | 1, _ => simp; omega | 2, _ => simp; omega))) ?_)
 rintro v6 _ _ _ ⟨rfl, hs1, rfl⟩
 refine ⟨_, _, rfl, fun F3 le3 hz2 => ?_⟩
 have hf2 : IntsF F3 v6 (((([((t.drop 0).take (p - 0)), u, ((t.drop (endN ar t p)).take (((t).length) - (endN ar t p)))] : List (List Int))).flatten)) := intsH.fz (xs := ((([((t.drop 0).take (p - 0)), u, ((t.drop (endN ar t p)).take (((t).length) - (endN ar t p)))] : List (List Int))).flatten)) hz2.fz
 refine qg (v6) rfl (qb (qc (qc (qa (qf (v6) rfl (cX (qE qd rfl hf2.slv (cX (jL rfl rfl (qb ?_))))))))))
 refine qA (p := ((((((([((t.drop 0).take (p - 0)), u, ((t.drop (endN ar t p)).take (((t).length) - (endN ar t p)))] : List (List Int))).flatten)).length : Nat) : Int) : Int) > 60) rfl (fun h1 => ?_) (fun h1 => ?_)
 ·refine qc (qa (qg (sN) rfl (qg (.bool (false)) rfl (qb (qw (qq (qv (L' := L) [sN, .bool (false)] (.tuple #[sN, .bool (false)]) (.tmp rfl (.tmp rfl .nil)) rfl (qh (qh le1 le2) le3) rF (sD sR) ?_)))))))
  have hz : putL ar t p u = none := putL_none put_flat (by omega)
  exact ⟨_, by rw [hz]; rfl, by rw [hz]; exact IntsF.nilV, fun h => (by rw [hz] at h; cases h), by rw [hz]; exact Fresh.ofNil _, rfl⟩
 refine qz (qc (qa (qf (v6) rfl (qg (v6) rfl (qg (.bool (true)) rfl (qb (qw (qv (L' := L) [v6, .bool (true)] (.tuple #[v6, .bool (true)]) (.tmp rfl (.tmp rfl .nil)) rfl (qh (qh le1 le2) le3) rF (sD sR) ?_))))))))
 have hz := putL_some (ar := ar) (t := t) (p := p) (u := u) put_flat (by omega)
 exact ⟨_, by rw [hz]; rfl, by rw [hz]; exact hf2, fun _ => ya hf2 (by rw [put_flat]; simp; omega), by rw [hz]; exact (hz2.base (qh le1 le2)), rfl⟩

/- impl.peakAt -/
set_option maxHeartbeats 2000000 in
set_option maxRecDepth 20000 in
theorem peakAt_spec {F : FH} {L : List HP} {arv : Value} {ar : List Int} (har : IntsF F arv ar) {rsv : Value} {rs : List (List Int × List Int)} (hrs : PairsF F rsv rs) {o : Nat} {p : Nat} {u : Nat} (hsys : sysOk ar rs = true) (ho : o < rs.length) (hu : u < rs.length) (hp : p < (rs.getD o ([], [])).1.length) :
    Does prog 119 [.agg #[arv, rsv], ii ((o : Int)), ii ((p : Int)), ii ((u : Int))] F (L) (fun v F' L' => ∃ (a : Value), ∃ (b : Value), ∃ (c : Value), (.tuple #[.agg #[a, b, c, ii (((pkF ar rs o p u).getD P0).2.2.2.1), ii (((pkF ar rs o p u).getD P0).2.2.2.2.1), ii (((pkF ar rs o p u).getD P0).2.2.2.2.2)], .bool ((pkF ar rs o p u).isSome)] : Value) = v ∧ (IntsF F' a ((pkF ar rs o p u).getD P0).1) ∧ (IntsF F' b ((pkF ar rs o p u).getD P0).2.1) ∧ (IntsF F' c ((pkF ar rs o p u).getD P0).2.2.1) ∧ (Fresh F F' (star [intsH 2 a ((pkF ar rs o p u).getD P0).1, intsH 2 b ((pkF ar rs o p u).getD P0).2.1, intsH 2 c ((pkF ar rs o p u).getD P0).2.2.1])) ∧ L = L') := by
 refine qI func119 rfl rfl rfl ?_
 have hlo : termOk ar (rs.getD o ([], [])).1 = true := rule_L hsys ho
 have hllo : 1 ≤ (rs.getD o ([], [])).1.length ∧ (rs.getD o ([], [])).1.length ≤ 60 := termOk_len hlo
 have hglo : ∀ k, k < (rs.getD o ([], [])).1.length → -24 ≤ (rs.getD o ([], [])).1.getD k 0 := fun k h => termOk_ge hlo h
 have hlu : termOk ar (rs.getD u ([], [])).1 = true := rule_L hsys hu
 have hllu : 1 ≤ (rs.getD u ([], [])).1.length ∧ (rs.getD u ([], [])).1.length ≤ 60 := termOk_len hlu
 have hglu : ∀ k, k < (rs.getD u ([], [])).1.length → -24 ≤ (rs.getD u ([], [])).1.getD k 0 := fun k h => termOk_ge hlu h
 have hro : termOk ar (rs.getD o ([], [])).2 = true := rule_R hsys ho
 have hlro : 1 ≤ (rs.getD o ([], [])).2.length ∧ (rs.getD o ([], [])).2.length ≤ 60 := termOk_len hro
 have hgro : ∀ k, k < (rs.getD o ([], [])).2.length → -24 ≤ (rs.getD o ([], [])).2.getD k 0 := fun k h => termOk_ge hro h
 have hru : termOk ar (rs.getD u ([], [])).2 = true := rule_R hsys hu
 have hlru : 1 ≤ (rs.getD u ([], [])).2.length ∧ (rs.getD u ([], [])).2.length ≤ 60 := termOk_len hru
 have hgru : ∀ k, k < (rs.getD u ([], [])).2.length → -24 ≤ (rs.getD u ([], [])).2.getD k 0 := fun k h => termOk_ge hru h
 have hrl := (sysOk_iff.1 hsys).2.1
 have hsig := (sysOk_iff.1 hsys).1
 have hsl := sigOk_spec hsig
 refine qc (qa (cX (jc [arv, rsv] rfl rfl ?_)))
 intro b1
 refine cX (jo [sN, sN, sN, ii (0), ii (0), ii (0)] jr rfl ?_)
 intro b2
 refine qg (.bool (false)) rfl (qb (qc (qa (cX (qy [arv, rsv] jF jp rfl rfl (Rd.ownN [_] rfl rfl) (qf (ii ((o : Int))) rfl (qf (ii ((p : Int))) rfl (qf (ii ((u : Int))) rfl (cX (qr (args := [.agg #[arv, rsv], ii (o : Int), ii (p : Int), ii (u : Int)]) call181 rfl (overlap_spec (o := o) (p := p) (u := u) har hrs (hsys := (by first | assumption | rfl | omega | simp)) (ho := (by first | assumption | rfl | omega | simp)) (hu := (by first | assumption | rfl | omega | simp)) (hp := (by first | assumption | rfl | omega | simp))) ?_))))))))))
 rintro _ F1 _ le1 (⟨rfl, hmt1, rfl⟩ | ⟨b3, rfl, hmt1, rfl⟩ | ⟨b3, b4, l1, rfl, hmt1, hb1, hmg1, rfl⟩)
 ·replace har := har.mono le1
  replace hrs := hrs.mono le1
  refine qf (.tuple #[(.pointer none), .bool (false)]) rfl (cX (qH ((.pointer none)) rfl rfl (cX (qH (.bool (false)) rfl rfl (qg ((.pointer none)) rfl (qg (.bool (false)) rfl (qb (qc (qc (qa (qf (.bool (false)) rfl (cX (jg rfl (qb (jq rfl ?_)))))))))))))))
  refine qc (qa (cX (qY [sN, sN, sN, ii (0), ii (0), ii (0)] [sN, sN, sN, ii (0), ii (0), ii (0)] [(0, 1), (1, 1), (2, 1), (3, 1), (4, 1), (5, 1)] [] qC jr rfl (.cons rfl qp (.cons rfl qp (.cons rfl qp (.cons rfl qm (.cons rfl qm (.cons rfl qm PlacesAre.nil)))))) rfl CellsAre.nil (cX (qV [] _ [sN, sN, sN, ii (0), ii (0), ii (0)] jk rfl rfl rfl (qs rfl (qs rfl (qs rfl (qs rfl (qs rfl (qs rfl qZ)))))) rfl rfl rfl (qg (.bool (false)) rfl (qb (qw (qq (qv (L' := L) [.agg #[sN, sN, sN, ii (0), ii (0), ii (0)], .bool (false)] (.tuple #[.agg #[sN, sN, sN, ii (0), ii (0), ii (0)], .bool (false)]) (.cell rfl (ju [sN, sN, sN, ii (0), ii (0), ii (0)] jM jk rfl (Rd.ownN [] rfl rfl)) (.tmp rfl .nil)) rfl le1 rF (sD (sD sR)) ?_))))))))))
  have e : pkF ar rs o p u = none := pk_nomeet hmt1
  exact ⟨_, _, _, by rw [e]; rfl, by rw [e]; exact IntsF.nilV, by rw [e]; exact IntsF.nilV, by rw [e]; exact IntsF.nilV, by rw [e]; exact Fresh.empty nil3, rfl⟩
 ·replace har := har.mono le1
  replace hrs := hrs.mono le1
  refine qf (.tuple #[ptr b3 0, .bool (false)]) rfl (cX (qH (ptr b3 0) rfl rfl (cX (qH (.bool (false)) rfl rfl (qg (ptr b3 0) rfl (qg (.bool (false)) rfl (qb (qc (qc (qa (qf (.bool (false)) rfl (cX (jg rfl (qb (jq rfl ?_)))))))))))))))
  refine qc (qa (cX (qY [sN, sN, sN, ii (0), ii (0), ii (0)] [sN, sN, sN, ii (0), ii (0), ii (0)] [(0, 1), (1, 1), (2, 1), (3, 1), (4, 1), (5, 1)] [] qC jr rfl (.cons rfl qp (.cons rfl qp (.cons rfl qp (.cons rfl qm (.cons rfl qm (.cons rfl qm PlacesAre.nil)))))) rfl CellsAre.nil (cX (qV [] _ [sN, sN, sN, ii (0), ii (0), ii (0)] jk rfl rfl rfl (qs rfl (qs rfl (qs rfl (qs rfl (qs rfl (qs rfl qZ)))))) rfl rfl rfl (qg (.bool (false)) rfl (qb (qw (qq (qv (L' := L) [.agg #[sN, sN, sN, ii (0), ii (0), ii (0)], .bool (false)] (.tuple #[.agg #[sN, sN, sN, ii (0), ii (0), ii (0)], .bool (false)]) (.cell rfl (ju [sN, sN, sN, ii (0), ii (0), ii (0)] jM jk rfl (Rd.ownN [] rfl rfl)) (.tmp rfl .nil)) rfl le1 rF (sD (sD sR)) ?_))))))))))
  have e : pkF ar rs o p u = none := pk_nomeet hmt1
  exact ⟨_, _, _, by rw [e]; rfl, by rw [e]; exact IntsF.nilV, by rw [e]; exact IntsF.nilV, by rw [e]; exact IntsF.nilV, by rw [e]; exact Fresh.empty nil3, rfl⟩
 replace har := har.mono le1
 replace hrs := hrs.mono le1
 refine qf (.tuple #[ptr b3 0, .bool (true)]) rfl (cX (qH (ptr b3 0) rfl rfl (cX (qH (.bool (true)) rfl rfl (qg (ptr b3 0) rfl (qg (.bool (true)) rfl (qb (qc (qc (qa (qf (.bool (true)) rfl (cX (jg rfl (qb (jC rfl ?_)))))))))))))))
 refine qz (qc (qa ?_))
 have hmt : meetB ar rs o p u = true := hmt1
 have hmg := hmg1
 have hbo := hmg.ok
 obtain ⟨σ, hσ⟩ := hbo.sol
 have hgs := hσ.good hbo
 refine cX (qo (1) qK rfl jv (by decide) rfl rfl (cX (qi jQ rfl (Rd.own [_, _] rfl rfl) (qf (ii ((o : Int))) rfl (cX (qu o qX jm rfl rfl rfl hrs.slv (by omega) rfl ?_))))))
 obtain ⟨a1, a2, ha1, ha2, hr1, hr2⟩ := hrs.rd (i := o) (by omega)
 refine cX (qy [a1, a2] isAgg72 jm rfl rfl (Rd.two (hr1 _) (hr2 _)) (cX (jo [sN, sN] je rfl ?_)))
 intro b5
 refine cX (qV [] _ [a1, a2] jm rfl rfl rfl (qs (jb (qD ha1)) (qs (jb (qD ha2)) qZ)) rfl rfl rfl (qb (qc (qa (qf (ptr b3 0) rfl (cX (qo (0) qM rfl qp (by decide) rfl rfl (cX (qi qW rfl (Rd.own [] rfl rfl) ?_)))))))))
 obtain ⟨ρ9, hρ9⟩ := hbo.acyc
 obtain ⟨k9, hk9⟩ := maxRank ((rs.getD o ([], [])).1) ρ9
 have hw9 := W_ge (termW_of hlo)
 refine jw (intsH.addNil 2 none _) (jw (jJ (A := [_, _])) ?_)
 show XL _ _ _ _ _ _ _ (cellsH b3 (arv :: b4) 200 :: intsH 2 (sN) ([]) :: cellsH b5 [a1, a2] 72 :: cellsH b2 [sN, sN, sN, ii (0), ii (0), ii (0)] 76 :: cellsH b1 [arv, rsv] 32 :: L)
 refine jw (jJ (A := [_])) ?_
 show XL _ _ _ _ _ _ _ (intsH 2 (sN) ([]) :: cellsH b3 (arv :: b4) 200 :: cellsH b5 [a1, a2] 72 :: cellsH b2 [sN, sN, sN, ii (0), ii (0), ii (0)] 76 :: cellsH b1 [arv, rsv] 32 :: L)
 refine cX (qr (args := [ptr b3 0, sN, a1]) call182 rfl (resolve_spec k9 har hb1 (by assumption) (os := []) ha1 ⟨_, _, _, rfl⟩ (Nat.zero_le _) hσ hρ9 (fun m hm _ => hk9 m hm) hw9.1 hw9.2) ?_)
 rintro _ _ _ _ ⟨v1, rfl, hs1, rfl, rfl⟩
 refine qf (.tuple #[v1, .bool (resOk σ ([] : List Int) ((rs.getD o ([], [])).1))]) rfl (cX (qH (v1) rfl rfl (cX (qH (.bool (resOk σ ([] : List Int) ((rs.getD o ([], [])).1))) rfl rfl (qg (v1) rfl (qg (.bool (resOk σ ([] : List Int) ((rs.getD o ([], [])).1))) rfl (qb (qc (qa (qf (ptr b3 0) rfl (cX (qo (1) qM rfl qp (by decide) rfl rfl (cX (qi qW rfl (Rd.own [_, _] rfl rfl) ?_))))))))))))))
 obtain ⟨ρ9, hρ9⟩ := hbo.acyc
 obtain ⟨k9, hk9⟩ := maxRank ((rs.getD o ([], [])).2) ρ9
 have hw9 := W_ge (termW_of hro)
 refine jw (intsH.addNil 2 none _) (jw (jJ (A := [_, _])) ?_)
 show XL _ _ _ _ _ _ _ (cellsH b3 (arv :: b4) 200 :: intsH 2 (sN) ([]) :: intsH 2 v1 ((resX σ ([] : List Int) ((rs.getD o ([], [])).1))) :: cellsH b5 [a1, a2] 72 :: cellsH b2 [sN, sN, sN, ii (0), ii (0), ii (0)] 76 :: cellsH b1 [arv, rsv] 32 :: L)
 refine jw (jJ (A := [_])) ?_
 show XL _ _ _ _ _ _ _ (intsH 2 (sN) ([]) :: cellsH b3 (arv :: b4) 200 :: intsH 2 v1 ((resX σ ([] : List Int) ((rs.getD o ([], [])).1))) :: cellsH b5 [a1, a2] 72 :: cellsH b2 [sN, sN, sN, ii (0), ii (0), ii (0)] 76 :: cellsH b1 [arv, rsv] 32 :: L)
 refine cX (qr (args := [ptr b3 0, sN, a2]) call182 rfl (resolve_spec k9 har hb1 (by assumption) (os := []) ha2 ⟨_, _, _, rfl⟩ (Nat.zero_le _) hσ hρ9 (fun m hm _ => hk9 m hm) hw9.1 hw9.2) ?_)
 rintro _ _ _ _ ⟨v2, rfl, hs2, rfl, rfl⟩
 refine qf (.tuple #[v2, .bool (resOk σ ([] : List Int) ((rs.getD o ([], [])).2))]) rfl (cX (qH (v2) rfl rfl (cX (qH (.bool (resOk σ ([] : List Int) ((rs.getD o ([], [])).2))) rfl rfl (qg (v2) rfl (qg (.bool (resOk σ ([] : List Int) ((rs.getD o ([], [])).2))) rfl (qb (qc (qa (qf (ptr b3 0) rfl (cX (qo (1) qK rfl jv (by decide) rfl rfl (cX (qi jQ rfl (Rd.own [_, _, _, _, _] rfl rfl) (qf (ii ((u : Int))) rfl ?_)))))))))))))))
 refine cX (qu u qX jm rfl rfl rfl hrs.slv (by omega) rfl (cX (XOp.fieldE (u * 2 + 1) qM rfl qp (by decide) rfl rfl ?_)))
 obtain ⟨a3, a4, ha3, ha4, hr3, hr4⟩ := hrs.rd (i := u) (by omega)
 refine cX (qi qW rfl (hr4 _) (cX (jR <| qr (args := [a4]) call183 rfl (away_spec ha4 (hlt := (by omega)) (htg := (fun i hi => by have := hgru i hi; omega))) ?_)))
 rintro v3 _ _ _ ⟨rfl, hs3, rfl⟩
 refine ⟨_, _, rfl, fun F2 le2 hz1 => ?_⟩
 replace har := har.mono le2
 replace hb1 := hb1.mono le2
 replace ha1 := ha1.mono le2
 have hf1 : IntsF F2 v3 ((awayL ((rs.getD u ([], [])).2))) := intsH.fz (xs := (awayL ((rs.getD u ([], [])).2))) hz1.fz
 obtain ⟨ρ9, hρ9⟩ := hbo.acyc
 obtain ⟨k9, hk9⟩ := maxRank ((awayL ((rs.getD u ([], [])).2))) ρ9
 have hw9 := W_ge (away_W hru)
 refine jw (intsH.addNil 2 none _) (jw (jJ (A := [_, _])) ?_)
 show XL _ _ _ _ _ _ _ (cellsH b3 (arv :: b4) 200 :: intsH 2 (sN) ([]) :: intsH 2 v2 ((resX σ ([] : List Int) ((rs.getD o ([], [])).2))) :: intsH 2 v1 ((resX σ ([] : List Int) ((rs.getD o ([], [])).1))) :: cellsH b5 [a1, a2] 72 :: cellsH b2 [sN, sN, sN, ii (0), ii (0), ii (0)] 76 :: cellsH b1 [arv, rsv] 32 :: L)
 refine jw (jJ (A := [_])) ?_
 show XL _ _ _ _ _ _ _ (intsH 2 (sN) ([]) :: cellsH b3 (arv :: b4) 200 :: intsH 2 v2 ((resX σ ([] : List Int) ((rs.getD o ([], [])).2))) :: intsH 2 v1 ((resX σ ([] : List Int) ((rs.getD o ([], [])).1))) :: cellsH b5 [a1, a2] 72 :: cellsH b2 [sN, sN, sN, ii (0), ii (0), ii (0)] 76 :: cellsH b1 [arv, rsv] 32 :: L)
 refine cX (qr (args := [ptr b3 0, sN, v3]) call182 rfl (resolve_spec k9 har hb1 (by assumption) (os := []) hf1 ⟨_, _, _, rfl⟩ (Nat.zero_le _) hσ hρ9 (fun m hm _ => hk9 m hm) hw9.1 hw9.2) ?_)
 rintro _ _ _ _ ⟨v4, rfl, hs4, rfl, rfl⟩
 refine qf (.tuple #[v4, .bool (resOk σ ([] : List Int) ((awayL ((rs.getD u ([], [])).2))))]) rfl (cX (qH (v4) rfl rfl (cX (qH (.bool (resOk σ ([] : List Int) ((awayL ((rs.getD u ([], [])).2))))) rfl rfl (qg (v4) rfl (qg (.bool (resOk σ ([] : List Int) ((awayL ((rs.getD u ([], [])).2))))) rfl (qb (qc (qc (qa (qf (.bool (resOk σ ([] : List Int) ((rs.getD o ([], [])).1))) rfl (cX (jg rfl (qf (.bool (!(resOk σ ([] : List Int) ((rs.getD o ([], [])).1)))) rfl ?_))))))))))))))
 by_cases h1 : (!(resOk σ ([] : List Int) ((rs.getD o ([], [])).1))) = true
 ·have hf9 : resOk σ [] (Lr rs o) = false ∨ resOk σ [] (Rr rs o) = false ∨ resOk σ [] (awayL (Rr rs u)) = false := .inl (Bool.not_inj (y := false) h1)
  refine qn (t := 65) rfl (vB h1) (qn (t := 65) rfl (vB h1) (cX (qN (.bool (true)) (vB h1) rfl (qf (.bool (true)) rfl (qn (t := 69) rfl rfl (qn (t := 69) rfl rfl (cX (qN (.bool (true)) rfl rfl (qb (jq rfl (qc (qa ?_))))))))))))
  refine cX (qY [sN, sN, sN, ii (0), ii (0), ii (0)] [sN, sN, sN, ii (0), ii (0), ii (0)] [(0, 1), (1, 1), (2, 1), (3, 1), (4, 1), (5, 1)] [] qC jr rfl (.cons rfl qp (.cons rfl qp (.cons rfl qp (.cons rfl qm (.cons rfl qm (.cons rfl qm PlacesAre.nil)))))) rfl CellsAre.nil (cX (qV [_, _, _, _, _] _ [sN, sN, sN, ii (0), ii (0), ii (0)] jk rfl rfl rfl (qs rfl (qs rfl (qs rfl (qs rfl (qs rfl (qs rfl qZ)))))) rfl rfl rfl (qg (.bool (false)) rfl (qb (qw (qq (qv (L' := L) [.agg #[sN, sN, sN, ii (0), ii (0), ii (0)], .bool (false)] (.tuple #[.agg #[sN, sN, sN, ii (0), ii (0), ii (0)], .bool (false)]) (.cell rfl (ju [sN, sN, sN, ii (0), ii (0), ii (0)] jM jk rfl (Rd.ownN [_, _, _, _, _] rfl rfl)) (.tmp rfl .nil)) rfl (qh le1 le2) rF (sD (sD (sD (sD (sD (sD (sD sR))))))) ?_))))))))
  have e : pkF ar rs o p u = none := pk_long hsys ho hu hmt hmg hσ hf9
  exact ⟨_, _, _, by rw [e]; rfl, by rw [e]; exact IntsF.nilV, by rw [e]; exact IntsF.nilV, by rw [e]; exact IntsF.nilV, by rw [e]; exact Fresh.empty nil3, rfl⟩
 rw [Bool.not_eq_true] at h1
 have hkL : resOk σ [] (rs.getD o ([], [])).1 = true := Bool.not_inj (y := true) h1
 obtain ⟨eL, lL⟩ := resX_eq hkL
 refine qk (t := 65) rfl (vB h1) (ql (.bool (resOk σ ([] : List Int) ((rs.getD o ([], [])).2))) rfl (qk (t := 65) rfl (vB h1) (jg rfl (cX (qG (.bool (!(resOk σ ([] : List Int) ((rs.getD o ([], [])).2)))) (vB h1) rfl (qf (.bool (!(resOk σ ([] : List Int) ((rs.getD o ([], [])).2)))) rfl ?_))))))
 by_cases h2 : (!(resOk σ ([] : List Int) ((rs.getD o ([], [])).2))) = true
 ·have hf9 : resOk σ [] (Lr rs o) = false ∨ resOk σ [] (Rr rs o) = false ∨ resOk σ [] (awayL (Rr rs u)) = false := .inr <| .inl (Bool.not_inj (y := false) h2)
  refine qn (t := 69) rfl (vB h2) (qn (t := 69) rfl (vB h2) (cX (qN (.bool (true)) (vB h2) rfl (qb (jq rfl (qc (qa (cX (qY [sN, sN, sN, ii (0), ii (0), ii (0)] [sN, sN, sN, ii (0), ii (0), ii (0)] [(0, 1), (1, 1), (2, 1), (3, 1), (4, 1), (5, 1)] [] qC jr rfl (.cons rfl qp (.cons rfl qp (.cons rfl qp (.cons rfl qm (.cons rfl qm (.cons rfl qm PlacesAre.nil)))))) rfl CellsAre.nil (cX (qV [_, _, _, _, _] _ [sN, sN, sN, ii (0), ii (0), ii (0)] jk rfl rfl rfl (qs rfl (qs rfl (qs rfl (qs rfl (qs rfl (qs rfl qZ)))))) rfl rfl rfl (qg (.bool (false)) rfl (qb ?_)))))))))))))
  refine qw (qq (qv (L' := L) [.agg #[sN, sN, sN, ii (0), ii (0), ii (0)], .bool (false)] (.tuple #[.agg #[sN, sN, sN, ii (0), ii (0), ii (0)], .bool (false)]) (.cell rfl (ju [sN, sN, sN, ii (0), ii (0), ii (0)] jM jk rfl (Rd.ownN [_, _, _, _, _] rfl rfl)) (.tmp rfl .nil)) rfl (qh le1 le2) rF (sD (sD (sD (sD (sD (sD (sD sR))))))) ?_))
  have e : pkF ar rs o p u = none := pk_long hsys ho hu hmt hmg hσ hf9
  exact ⟨_, _, _, by rw [e]; rfl, by rw [e]; exact IntsF.nilV, by rw [e]; exact IntsF.nilV, by rw [e]; exact IntsF.nilV, by rw [e]; exact Fresh.empty nil3, rfl⟩
 rw [Bool.not_eq_true] at h2
 have hkR : resOk σ [] (rs.getD o ([], [])).2 = true := Bool.not_inj (y := true) h2
 obtain ⟨eR, lR⟩ := resX_eq hkR
 refine qk (t := 69) rfl (vB h2) (ql (.bool (resOk σ ([] : List Int) ((awayL ((rs.getD u ([], [])).2))))) rfl (qk (t := 69) rfl (vB h2) (jg rfl (cX (qG (.bool (!(resOk σ ([] : List Int) ((awayL ((rs.getD u ([], [])).2)))))) (vB h2) rfl (qb ?_))))))
 refine jO (t := !(resOk σ ([] : List Int) ((awayL ((rs.getD u ([], [])).2))))) rfl (fun h3 => ?_) (fun h3 => ?_)
 ·have hf9 : resOk σ [] (Lr rs o) = false ∨ resOk σ [] (Rr rs o) = false ∨ resOk σ [] (awayL (Rr rs u)) = false := .inr <| .inr (Bool.not_inj (y := false) h3)
  refine qc (qa (cX (qY [sN, sN, sN, ii (0), ii (0), ii (0)] [sN, sN, sN, ii (0), ii (0), ii (0)] [(0, 1), (1, 1), (2, 1), (3, 1), (4, 1), (5, 1)] [] qC jr rfl (.cons rfl qp (.cons rfl qp (.cons rfl qp (.cons rfl qm (.cons rfl qm (.cons rfl qm PlacesAre.nil)))))) rfl CellsAre.nil (cX (qV [_, _, _, _, _] _ [sN, sN, sN, ii (0), ii (0), ii (0)] jk rfl rfl rfl (qs rfl (qs rfl (qs rfl (qs rfl (qs rfl (qs rfl qZ)))))) rfl rfl rfl (qg (.bool (false)) rfl (qb (qw (qq (qv (L' := L) [.agg #[sN, sN, sN, ii (0), ii (0), ii (0)], .bool (false)] (.tuple #[.agg #[sN, sN, sN, ii (0), ii (0), ii (0)], .bool (false)]) (.cell rfl (ju [sN, sN, sN, ii (0), ii (0), ii (0)] jM jk rfl (Rd.ownN [_, _, _, _, _] rfl rfl)) (.tmp rfl .nil)) rfl (qh le1 le2) rF (sD (sD (sD (sD (sD (sD (sD sR))))))) ?_))))))))))
  have e : pkF ar rs o p u = none := pk_long hsys ho hu hmt hmg hσ hf9
  exact ⟨_, _, _, by rw [e]; rfl, by rw [e]; exact IntsF.nilV, by rw [e]; exact IntsF.nilV, by rw [e]; exact IntsF.nilV, by rw [e]; exact Fresh.empty nil3, rfl⟩
 have hkA : resOk σ [] (awayL (rs.getD u ([], [])).2) = true := Bool.not_inj (y := true) h3
 obtain ⟨eA, lA⟩ := resX_eq hkA
 have hTW : TermW ar (resX σ [] (rs.getD o ([], [])).1) := by rw [eL]; exact ap_W hbo hσ (termW_of hlo) lL
 have hpT : (ap σ ((rs.getD o ([], [])).1.take p)).length < (resX σ [] (rs.getD o ([], [])).1).length := by rw [eL]; exact take_lt hgs hp
 have hBl : 1 ≤ (resX σ [] (awayL (rs.getD u ([], [])).2)).length ∧ (resX σ [] (awayL (rs.getD u ([], [])).2)).length ≤ 4000000 := by rw [eA]; have := (ap_W hbo hσ (away_W hru) lA).len; omega
 refine qz (qc (qP [_, _, _] _ _ rfl (fun F3 le3 hz2 => ?_)))
 replace har := har.mono le3
 replace hb1 := hb1.mono le3
 replace ha1 := ha1.mono le3
 have hf2 : IntsF F3 v1 ((resX σ ([] : List Int) ((rs.getD o ([], [])).1))) := intsH.fz (xs := (resX σ ([] : List Int) ((rs.getD o ([], [])).1))) hz2.fz
 refine qP [_, _] _ _ rfl (fun F4 le4 hz3 => ?_)
 replace har := har.mono le4
 replace hb1 := hb1.mono le4
 replace ha1 := ha1.mono le4
 replace hf2 := hf2.mono le4
 have hf3 : IntsF F4 v2 ((resX σ ([] : List Int) ((rs.getD o ([], [])).2))) := intsH.fz (xs := (resX σ ([] : List Int) ((rs.getD o ([], [])).2))) hz3.fz
 refine qP [] _ _ rfl (fun F5 le5 hz4 => ?_)
 replace har := har.mono le5
 replace hb1 := hb1.mono le5
 replace ha1 := ha1.mono le5
 replace hf2 := hf2.mono le5
 replace hf3 := hf3.mono le5
 have hf4 : IntsF F5 v4 ((resX σ ([] : List Int) ((awayL ((rs.getD u ([], [])).2))))) := intsH.fz (xs := (resX σ ([] : List Int) ((awayL ((rs.getD u ([], [])).2))))) hz4.fz
 refine X.drawG [cellsH b3 (arv :: b4) 200, cellsH b5 [a1, a2] 72, cellsH b2 [sN, sN, sN, ii (0), ii (0), ii (0)] 76, cellsH b1 [arv, rsv] 32] L 14 [[], [], [], [], [], [], [], [], [], [], [9], [9], [], [9]] [[], [0], [], [], [], [4], [], [3, 5, 6], [], [1, 2, 7, 8], [9], [9, 10], [9, 10], [9, 11]] [] (phiG [pe (ptr b1 0), pe (.agg #[arv]), pe v1, pe (ptr b3 0), pe (ptr b5 0), pe a1, pe (ii ((p : Int)) : Value), pe (ii ((((ap σ (((rs.getD o ([], [])).1).take p)).length : Nat) : Int)) : Value), pe v4, fun FF us v => (.tuple #[((tupAt v 0)), .bool ((putL ar ((resX σ ([] : List Int) ((rs.getD o ([], [])).1))) ((ap σ (((rs.getD o ([], [])).1).take p)).length) ((resX σ ([] : List Int) ((awayL ((rs.getD u ([], [])).2)))))).isSome)] : Value) = v ∧ (IntsF FF ((tupAt v 0)) ((putL ar ((resX σ ([] : List Int) ((rs.getD o ([], [])).1))) ((ap σ (((rs.getD o ([], [])).1).take p)).length) ((resX σ ([] : List Int) ((awayL ((rs.getD u ([], [])).2)))))).getD [])) ∧ ((putL ar ((resX σ ([] : List Int) ((rs.getD o ([], [])).1))) ((ap σ (((rs.getD o ([], [])).1).take p)).length) ((resX σ ([] : List Int) ((awayL ((rs.getD u ([], [])).2)))))).isSome = true → isNil ((tupAt v 0)) = false), fun FF us v => v = (.tuple #[((tupAt (us.getD 0 undef) 0)), .bool ((putL ar ((resX σ ([] : List Int) ((rs.getD o ([], [])).1))) ((ap σ (((rs.getD o ([], [])).1).take p)).length) ((resX σ ([] : List Int) ((awayL ((rs.getD u ([], [])).2)))))).isSome)] : Value), fun FF us v => v = ((tupAt (us.getD 0 undef) 0)), pe (.bool ((putL ar ((resX σ ([] : List Int) ((rs.getD o ([], [])).1))) ((ap σ (((rs.getD o ([], [])).1).take p)).length) ((resX σ ([] : List Int) ((awayL ((rs.getD u ([], [])).2)))))).isSome) : Value), fun FF us v => v = ((tupAt (us.getD 0 undef) 0))]) (ownL []) mixed rfl rfl (by kernel_rfl) (by kernel_rfl) (MonoG.get (m1 (m1 (m1 (m1 (m1 (m1 (m1 (m1 (m1 (mC (fun le h => ⟨h.1, h.2.1.mono le, h.2.2⟩) (mC (fun le h => h) (mC (fun le h => h) (m1 (mC (fun le h => h) MonoG.nil))))))))))))))) ?_ ?_
 ·refine gD (fun W Fs R lF z9 => ?_) ?_
  ·refine qj (qo (0) qK rfl qF (by decide) rfl rfl ?_)
   exact ⟨rfl, rfl⟩
  refine gD (fun W Fs R lF z9 => ?_) ?_
  ·replace har := har.mono lF
   replace hb1 := hb1.mono lF
   replace ha1 := ha1.mono lF
   replace hf2 := hf2.mono lF
   replace hf3 := hf3.mono lF
   replace hf4 := hf4.mono lF
   rw [eS (l := [(0, _)]) ⟨z9 0 rfl, ⟨⟩⟩]
   refine qj (qy [arv] ja qF rfl rfl (Rd.ownN [_, _, _] rfl rfl) ?_)
   exact ⟨rfl, rfl⟩
  refine gD (fun W Fs R lF z9 => ?_) ?_
  ·refine qj (ql (v1) rfl ?_)
   exact ⟨rfl, rfl⟩
  refine gD (fun W Fs R lF z9 => ?_) ?_
  ·refine qj (ql (ptr b3 0) rfl ?_)
   exact ⟨rfl, rfl⟩
  refine gD (fun W Fs R lF z9 => ?_) ?_
  ·refine qj (qo (0) qM rfl qp (by decide) rfl rfl ?_)
   exact ⟨rfl, rfl⟩
  refine gD (fun W Fs R lF z9 => ?_) ?_
  ·replace har := har.mono lF
   replace hb1 := hb1.mono lF
   replace ha1 := ha1.mono lF
   replace hf2 := hf2.mono lF
   replace hf3 := hf3.mono lF
   replace hf4 := hf4.mono lF
   rw [eS (l := [(4, _)]) ⟨z9 4 rfl, ⟨⟩⟩]
   refine qj (qi qW rfl (Rd.own [_] rfl rfl) ?_)
   exact ⟨rfl, rfl⟩
  refine gD (fun W Fs R lF z9 => ?_) ?_
  ·refine qj (ql (ii ((p : Int))) rfl ?_)
   exact ⟨rfl, rfl⟩
  refine gD (fun W Fs R lF z9 => ?_) ?_
  ·replace har := har.mono lF
   replace hb1 := hb1.mono lF
   replace ha1 := ha1.mono lF
   replace hf2 := hf2.mono lF
   replace hf3 := hf3.mono lF
   replace hf4 := hf4.mono lF
   rw [eS (l := [(3, _), (5, _), (6, _)]) ⟨z9 3 rfl, z9 5 rfl, z9 6 rfl, ⟨⟩⟩]
   refine qj (qr (args := [ptr b3 0, a1, ii ((p : Int))]) call185 rfl (jN [] (placeIn_spec (p := p) har hb1 hbo ha1 hσ (termW_of hlo) (by first | assumption | omega) lL)) ?_)
   rintro _ _ _ _ ⟨⟨rfl, rfl⟩, rfl⟩
   exact ⟨rfl, rfl⟩
  refine gD (fun W Fs R lF z9 => ?_) ?_
  ·refine qj (ql (v4) rfl ?_)
   exact ⟨rfl, rfl⟩
  refine gD (fun W Fs R lF z9 => ?_) ?_
  ·replace har := har.mono lF
   replace hf2 := hf2.mono lF
   replace hf3 := hf3.mono lF
   replace hf4 := hf4.mono lF
   rw [eS (l := [(1, _), (2, _), (7, _), (8, _)]) ⟨z9 1 rfl, z9 2 rfl, z9 7 rfl, z9 8 rfl, ⟨⟩⟩]
   refine qj (qr (args := [.agg #[arv], v1, ii (((ap σ (((rs.getD o ([], [])).1).take p)).length : Nat) : Int), v4]) call184 rfl (putW_spec (p := (ap σ (((rs.getD o ([], [])).1).take p)).length) har hf2 hf4 (ho := (hTW)) (hp := (hpT)) (hul := (hBl))) ?_)
   rintro _ F7 _ le7 ⟨x2, rfl, hr8, hr9, hr10, rfl⟩
   replace hf2 := hf2.mono le7
   replace hf3 := hf3.mono le7
   exact ⟨⟨rfl, hr8, hr9⟩, rfl⟩
  refine gD (fun W Fs R lF z9 => ?_) ?_
  ·obtain ⟨e9, f9_1hr, f9_1hnz⟩ := z9 9 rfl
   rw [eS (l := [(9, (.tuple #[((tupAt (W 9) 0)), .bool ((putL ar ((resX σ ([] : List Int) ((rs.getD o ([], [])).1))) ((ap σ (((rs.getD o ([], [])).1).take p)).length) ((resX σ ([] : List Int) ((awayL ((rs.getD u ([], [])).2)))))).isSome)]))]) ⟨(e9).symm, ⟨⟩⟩]
   refine qj (ql (.tuple #[((tupAt (W 9) 0)), .bool ((putL ar ((resX σ ([] : List Int) ((rs.getD o ([], [])).1))) ((ap σ (((rs.getD o ([], [])).1).take p)).length) ((resX σ ([] : List Int) ((awayL ((rs.getD u ([], [])).2)))))).isSome)]) rfl ?_)
   exact ⟨rfl, rfl⟩
  refine gD (fun W Fs R lF z9 => ?_) ?_
  ·obtain ⟨e9, f9_1hr, f9_1hnz⟩ := z9 9 rfl
   have e10 : W 10 = (.tuple #[((tupAt (W 9) 0)), .bool ((putL ar ((resX σ ([] : List Int) ((rs.getD o ([], [])).1))) ((ap σ (((rs.getD o ([], [])).1).take p)).length) ((resX σ ([] : List Int) ((awayL ((rs.getD u ([], [])).2)))))).isSome)] : Value) := z9 10 rfl
   rw [eS (l := [(9, (.tuple #[((tupAt (W 9) 0)), .bool ((putL ar ((resX σ ([] : List Int) ((rs.getD o ([], [])).1))) ((ap σ (((rs.getD o ([], [])).1).take p)).length) ((resX σ ([] : List Int) ((awayL ((rs.getD u ([], [])).2)))))).isSome)])), (10, (.tuple #[((tupAt (W 9) 0)), .bool ((putL ar ((resX σ ([] : List Int) ((rs.getD o ([], [])).1))) ((ap σ (((rs.getD o ([], [])).1).take p)).length) ((resX σ ([] : List Int) ((awayL ((rs.getD u ([], [])).2)))))).isSome)]))]) ⟨(e9).symm, e10, ⟨⟩⟩]
   refine qj (qH (((tupAt (W 9) 0))) rfl rfl ?_)
   exact ⟨rfl, rfl⟩
  refine gD (fun W Fs R lF z9 => ?_) ?_
  ·obtain ⟨e9, f9_1hr, f9_1hnz⟩ := z9 9 rfl
   have e10 : W 10 = (.tuple #[((tupAt (W 9) 0)), .bool ((putL ar ((resX σ ([] : List Int) ((rs.getD o ([], [])).1))) ((ap σ (((rs.getD o ([], [])).1).take p)).length) ((resX σ ([] : List Int) ((awayL ((rs.getD u ([], [])).2)))))).isSome)] : Value) := z9 10 rfl
   rw [eS (l := [(9, (.tuple #[((tupAt (W 9) 0)), .bool ((putL ar ((resX σ ([] : List Int) ((rs.getD o ([], [])).1))) ((ap σ (((rs.getD o ([], [])).1).take p)).length) ((resX σ ([] : List Int) ((awayL ((rs.getD u ([], [])).2)))))).isSome)])), (10, (.tuple #[((tupAt (W 9) 0)), .bool ((putL ar ((resX σ ([] : List Int) ((rs.getD o ([], [])).1))) ((ap σ (((rs.getD o ([], [])).1).take p)).length) ((resX σ ([] : List Int) ((awayL ((rs.getD u ([], [])).2)))))).isSome)]))]) ⟨(e9).symm, e10, ⟨⟩⟩]
   refine qj (qH (.bool ((putL ar ((resX σ ([] : List Int) ((rs.getD o ([], [])).1))) ((ap σ (((rs.getD o ([], [])).1).take p)).length) ((resX σ ([] : List Int) ((awayL ((rs.getD u ([], [])).2)))))).isSome)) rfl rfl ?_)
   exact ⟨rfl, rfl⟩
  refine gD (fun W Fs R lF z9 => ?_) ?_
  ·obtain ⟨e9, f9_1hr, f9_1hnz⟩ := z9 9 rfl
   have e11 : W 11 = ((tupAt (W 9) 0)) := z9 11 rfl
   rw [eS (l := [(9, (.tuple #[((tupAt (W 9) 0)), .bool ((putL ar ((resX σ ([] : List Int) ((rs.getD o ([], [])).1))) ((ap σ (((rs.getD o ([], [])).1).take p)).length) ((resX σ ([] : List Int) ((awayL ((rs.getD u ([], [])).2)))))).isSome)])), (11, ((tupAt (W 9) 0)))]) ⟨(e9).symm, e11, ⟨⟩⟩]
   refine qj (XOp.assign (((tupAt (W 9) 0))) rfl ?_)
   exact ⟨rfl, rfl⟩
  exact stepsG.nil
 intro W F8 le8 hphi
 obtain ⟨e9, f9_1hr, f9_1hnz⟩ := hphi 9 (by decide)
 have e10 : W 10 = (.tuple #[((tupAt (W 9) 0)), .bool ((putL ar ((resX σ ([] : List Int) ((rs.getD o ([], [])).1))) ((ap σ (((rs.getD o ([], [])).1).take p)).length) ((resX σ ([] : List Int) ((awayL ((rs.getD u ([], [])).2)))))).isSome)] : Value) := hphi 10 (by decide)
 have e11 : W 11 = ((tupAt (W 9) 0)) := hphi 11 (by decide)
 have e13 : W 13 = ((tupAt (W 9) 0)) := hphi 13 (by decide)
 generalize hu1 : ((tupAt (W 9) 0)) = u1 at e9 f9_1hr f9_1hnz e10 e11 e13
 rw [eS (l := [(9, (.tuple #[u1, .bool ((putL ar ((resX σ ([] : List Int) ((rs.getD o ([], [])).1))) ((ap σ (((rs.getD o ([], [])).1).take p)).length) ((resX σ ([] : List Int) ((awayL ((rs.getD u ([], [])).2)))))).isSome)])), (12, _), (13, u1)]) ⟨(e9).symm, (hphi 12 (by decide)), e13, ⟨⟩⟩]
 replace hf2 := hf2.mono le8
 replace hf3 := hf3.mono le8
 show XL _ _ _ _ _ _ _ (cellsH b3 (arv :: b4) 200 :: cellsH b5 [a1, a2] 72 :: cellsH b2 [sN, sN, sN, ii (0), ii (0), ii (0)] 76 :: cellsH b1 [arv, rsv] 32 :: L)
 refine qg (.bool ((putL ar ((resX σ ([] : List Int) ((rs.getD o ([], [])).1))) ((ap σ (((rs.getD o ([], [])).1).take p)).length) ((resX σ ([] : List Int) ((awayL ((rs.getD u ([], [])).2)))))).isSome)) rfl (qb (qc (qc (qa (qf (.bool ((putL ar ((resX σ ([] : List Int) ((rs.getD o ([], [])).1))) ((ap σ (((rs.getD o ([], [])).1).take p)).length) ((resX σ ([] : List Int) ((awayL ((rs.getD u ([], [])).2)))))).isSome)) rfl (cX (jg rfl (qb ?_))))))))
 refine jO (t := !((putL ar ((resX σ ([] : List Int) ((rs.getD o ([], [])).1))) ((ap σ (((rs.getD o ([], [])).1).take p)).length) ((resX σ ([] : List Int) ((awayL ((rs.getD u ([], [])).2)))))).isSome)) rfl (fun h4 => ?_) (fun h4 => ?_)
 ·have hfP := Bool.not_inj (y := false) h4
  refine qc (qa (cX (qY [sN, sN, sN, ii (0), ii (0), ii (0)] [sN, sN, sN, ii (0), ii (0), ii (0)] [(0, 1), (1, 1), (2, 1), (3, 1), (4, 1), (5, 1)] [] qC jr rfl (.cons rfl qp (.cons rfl qp (.cons rfl qp (.cons rfl qm (.cons rfl qm (.cons rfl qm PlacesAre.nil)))))) rfl CellsAre.nil (cX (qV [_, _] _ [sN, sN, sN, ii (0), ii (0), ii (0)] jk rfl rfl rfl (qs rfl (qs rfl (qs rfl (qs rfl (qs rfl (qs rfl qZ)))))) rfl rfl rfl (qg (.bool (false)) rfl (qb (qw (qq (qv (L' := L) [.agg #[sN, sN, sN, ii (0), ii (0), ii (0)], .bool (false)] (.tuple #[.agg #[sN, sN, sN, ii (0), ii (0), ii (0)], .bool (false)]) (.cell rfl (ju [sN, sN, sN, ii (0), ii (0), ii (0)] jM jk rfl (Rd.ownN [_, _] rfl rfl)) (.tmp rfl .nil)) rfl (qh (qh (qh (qh (qh le1 le2) le3) le4) le5) le8) rF (sD (sD (sD (sD sR)))) ?_))))))))))
  have e : pkF ar rs o p u = none := pk_left hsys ho hu hp hmt hmg hσ hkL hkA hfP
  exact ⟨_, _, _, by rw [e]; rfl, by rw [e]; exact IntsF.nilV, by rw [e]; exact IntsF.nilV, by rw [e]; exact IntsF.nilV, by rw [e]; exact Fresh.empty nil3, rfl⟩
 have hkP := Bool.not_inj (y := true) h4
 obtain ⟨eP, lP⟩ := put_some hsys ho hp hbo hσ hkL hkA hkP
 refine qz (qc (qa (qf (v1) rfl (qf (u1) rfl (qf (v2) rfl (cX (qt (s := 1) [v1, u1, v2] [sN] [(0, [v1]), (1, [u1]), (2, [v2])] qB qp jT rfl (by decide) rfl (.cons (cells_one (qD hf2)) (.cons (cells_one (qD f9_1hr)) (.cons (cells_one (qD hf3)) CellsAre.nil))) rfl ?_)))))))
 intro v5 hv1
 have hc1 : RowsC F8 [v1, u1, v2] ([(resX σ ([] : List Int) ((rs.getD o ([], [])).1)), (putL ar ((resX σ ([] : List Int) ((rs.getD o ([], [])).1))) ((ap σ (((rs.getD o ([], [])).1).take p)).length) ((resX σ ([] : List Int) ((awayL ((rs.getD u ([], [])).2)))))).getD [], (resX σ ([] : List Int) ((rs.getD o ([], [])).2))] : List (List Int)) := (RowsC.snoc (RowsC.snoc (RowsC.snoc (CO.nil : RowsC F8 [] []) hf2) f9_1hr) hf3)
 refine jz [] _ _ rfl (fun F9 le9 hz5 => ?_)
 replace hc1 := hc1.mono le9
 have hf5 : RowsF F9 v5 (([(resX σ ([] : List Int) ((rs.getD o ([], [])).1)), (putL ar ((resX σ ([] : List Int) ((rs.getD o ([], [])).1))) ((ap σ (((rs.getD o ([], [])).1).take p)).length) ((resX σ ([] : List Int) ((awayL ((rs.getD u ([], [])).2)))))).getD [], (resX σ ([] : List Int) ((rs.getD o ([], [])).2))] : List (List Int))) := CO.fz hc1 (by first | rfl | omega | (rw [List.length_set]; omega) | (simp; done)) hz5.fz
 refine cX (qr (args := [v5]) call142 rfl (renumber_spec hf5 (by simp) (fun i hi => by match i, hi with | 0, _ => (show (resX σ [] (rs.getD o ([], [])).1).length ≤ 60; rw [eL]; exact lL) | 1, _ => (show ((putL ar (resX σ [] (rs.getD o ([], [])).1) (ap σ ((rs.getD o ([], [])).1.take p)).length (resX σ [] (awayL (rs.getD u ([], [])).2))).getD []).length ≤ 60; rw [eP]; exact lP) | 2, _ => (show (resX σ [] (rs.getD o ([], [])).2).length ≤ 60; rw [eR]; exact lR))) ?_)
 rintro v6 F10 _ le10 ⟨cs1, Us1, hA1, hC1, hD1, hZ1, rfl⟩
 have he9 : rnL [] (([(resX σ ([] : List Int) ((rs.getD o ([], [])).1)), (putL ar ((resX σ ([] : List Int) ((rs.getD o ([], [])).1))) ((ap σ (((rs.getD o ([], [])).1).take p)).length) ((resX σ ([] : List Int) ((awayL ((rs.getD u ([], [])).2)))))).getD [], (resX σ ([] : List Int) ((rs.getD o ([], [])).2))] : List (List Int))) = [(byL (orderL (ap σ (rs.getD o ([], [])).1)) (ap σ (rs.getD o ([], [])).1)), (byL (orderL (ap σ (rs.getD o ([], [])).1)) (ap σ (leftT ar rs o p u))), (byL (orderL (ap σ (rs.getD o ([], [])).1)) (ap σ (rs.getD o ([], [])).2))] := by rw [eP, eL, eR]; exact pk_rn hsys ho hu hmg hσ
 rw [he9] at hA1 hC1 hD1
 obtain ⟨a5, a6, a7, rfl, rfl⟩ := hD1.three
 obtain ⟨ha5, ha6, ha7⟩ := RowsC.three hC1
 have hR1 : RowsF F10 v6 ([(byL (orderL (ap σ (rs.getD o ([], [])).1)) (ap σ (rs.getD o ([], [])).1)), (byL (orderL (ap σ (rs.getD o ([], [])).1)) (ap σ (leftT ar rs o p u))), (byL (orderL (ap σ (rs.getD o ([], [])).1)) (ap σ (rs.getD o ([], [])).2))] : RowL) := ⟨_, hA1, hC1.2⟩
 have hr11 : ∀ L, Rd F10 L (elemA v6 0) a5 := fun L => Rd.arr hA1 rfl
 have hr12 : ∀ L, Rd F10 L (elemA v6 1) a6 := fun L => Rd.arr hA1 rfl
 have hr13 : ∀ L, Rd F10 L (elemA v6 2) a7 := fun L => Rd.arr hA1 rfl
 refine qg (v6) rfl (qb (qc (qc (qa (qf (v6) rfl (cX (qu 0 qB qp rfl rfl rfl hR1.slv (by (try simp only [List.length_cons, List.length_nil]); omega) (Nat.mul_one _) (cX (qi qW rfl (hr11 _) (cX (qr (args := [a5]) call149 rfl (Min_spec ha5 (h1 := (by show 1 ≤ (byL (orderL (ap σ (rs.getD o ([], [])).1)) (ap σ (rs.getD o ([], [])).1)).length; rw [byL_len]; have := (ap_W hbo hσ (termW_of hlo) lL).len; omega)) (hbd := (by show (byL (orderL (ap σ (rs.getD o ([], [])).1)) (ap σ (rs.getD o ([], [])).1)).length ≤ _; rw [byL_len]; omega))) ?_)))))))))))
 rintro _ _ _ _ ⟨rfl, rfl, rfl⟩
 refine cX (qT rfl rfl (qb ?_))
 refine qA (p := (minL (((([(byL (orderL (ap σ (rs.getD o ([], [])).1)) (ap σ (rs.getD o ([], [])).1)), (byL (orderL (ap σ (rs.getD o ([], [])).1)) (ap σ (leftT ar rs o p u))), (byL (orderL (ap σ (rs.getD o ([], [])).1)) (ap σ (rs.getD o ([], [])).2))] : RowL)).getD 0 [])) : Int) < -24) rfl (fun h5 => ?_) (fun h5 => ?_)
 ·have h24 := (order_len (ap σ (rs.getD o ([], [])).1) (by have := (ap_W hbo hσ (termW_of hlo) lL).len; omega)).1 (show minL (byL (orderL (ap σ (rs.getD o ([], [])).1)) (ap σ (rs.getD o ([], [])).1)) < -24 from h5)
  refine qc (qa (cX (qY [sN, sN, sN, ii (0), ii (0), ii (0)] [sN, sN, sN, ii (0), ii (0), ii (0)] [(0, 1), (1, 1), (2, 1), (3, 1), (4, 1), (5, 1)] [] qC jr rfl (.cons rfl qp (.cons rfl qp (.cons rfl qp (.cons rfl qm (.cons rfl qm (.cons rfl qm PlacesAre.nil)))))) rfl CellsAre.nil (cX (qV [_, _] _ [sN, sN, sN, ii (0), ii (0), ii (0)] jk rfl rfl rfl (qs rfl (qs rfl (qs rfl (qs rfl (qs rfl (qs rfl qZ)))))) rfl rfl rfl (qg (.bool (false)) rfl (qb (qw (qq (qv (L' := L) [.agg #[sN, sN, sN, ii (0), ii (0), ii (0)], .bool (false)] (.tuple #[.agg #[sN, sN, sN, ii (0), ii (0), ii (0)], .bool (false)]) (.cell rfl (ju [sN, sN, sN, ii (0), ii (0), ii (0)] jM jk rfl (Rd.ownN [_, _] rfl rfl)) (.tmp rfl .nil)) rfl (qh (qh (qh (qh (qh (qh (qh le1 le2) le3) le4) le5) le8) le9) le10) rF (sD (sD (sD (sD sR)))) ?_))))))))))
  have e : pkF ar rs o p u = none := pk_order hsys ho hu hmt hmg hσ h24
  exact ⟨_, _, _, by rw [e]; rfl, by rw [e]; exact IntsF.nilV, by rw [e]; exact IntsF.nilV, by rw [e]; exact IntsF.nilV, by rw [e]; exact Fresh.empty nil3, rfl⟩
 have h24 := Nat.le_of_not_lt (mt (order_len (ap σ (rs.getD o ([], [])).1) (by have := (ap_W hbo hσ (termW_of hlo) lL).len; omega)).2 (show ¬ minL (byL (orderL (ap σ (rs.getD o ([], [])).1)) (ap σ (rs.getD o ([], [])).1)) < -24 from h5))
 refine qz (qc ?_)
 refine jI [cellsH b3 (arv :: b4) 200, cellsH b5 [a1, a2] 72, cellsH b2 [sN, sN, sN, ii (0), ii (0), ii (0)] 76, cellsH b1 [arv, rsv] 32] L 12 [] [[], [0], [1], [], [3], [4], [], [6], [7]] (phiL [qe v6, qe (.pointer (some (elemA v6 (0)))), qe a5, qe v6, qe (.pointer (some (elemA v6 (1)))), qe a6, qe v6, qe (.pointer (some (elemA v6 (2)))), qe a7, qe (ii ((p : Int)) : Value), qe (ii ((u : Int)) : Value), qe (ii ((o : Int)) : Value)]) (ownL []) mixed rfl rfl (by kernel_rfl) ?_ ?_
 ·refine pD (fun W R z9 => ?_) ?_
  ·refine qj (ql (v6) rfl ?_)
   exact ⟨rfl, rfl, rfl⟩
  refine pD (fun W R z9 => ?_) ?_
  ·rw [eS (l := [(0, _)]) ⟨z9 0 rfl, ⟨⟩⟩]
   refine qj (qu 0 qB qp rfl rfl rfl hR1.slv (by (try simp only [List.length_cons, List.length_nil]); omega) (Nat.mul_one _) ?_)
   exact ⟨rfl, rfl, rfl⟩
  refine pD (fun W R z9 => ?_) ?_
  ·rw [eS (l := [(1, _)]) ⟨z9 1 rfl, ⟨⟩⟩]
   refine qj (qi qW rfl (hr11 _) ?_)
   exact ⟨rfl, rfl, rfl⟩
  refine pD (fun W R z9 => ?_) ?_
  ·refine qj (ql (v6) rfl ?_)
   exact ⟨rfl, rfl, rfl⟩
  refine pD (fun W R z9 => ?_) ?_
  ·rw [eS (l := [(3, _)]) ⟨z9 3 rfl, ⟨⟩⟩]
   refine qj (qu 1 qB qp rfl rfl rfl hR1.slv (by (try simp only [List.length_cons, List.length_nil]); omega) (Nat.mul_one _) ?_)
   exact ⟨rfl, rfl, rfl⟩
  refine pD (fun W R z9 => ?_) ?_
  ·rw [eS (l := [(4, _)]) ⟨z9 4 rfl, ⟨⟩⟩]
   refine qj (qi qW rfl (hr12 _) ?_)
   exact ⟨rfl, rfl, rfl⟩
  refine pD (fun W R z9 => ?_) ?_
  ·refine qj (ql (v6) rfl ?_)
   exact ⟨rfl, rfl, rfl⟩
  refine pD (fun W R z9 => ?_) ?_
  ·rw [eS (l := [(6, _)]) ⟨z9 6 rfl, ⟨⟩⟩]
   refine qj (qu 2 qB qp rfl rfl rfl hR1.slv (by (try simp only [List.length_cons, List.length_nil]); omega) (Nat.mul_one _) ?_)
   exact ⟨rfl, rfl, rfl⟩
  refine pD (fun W R z9 => ?_) ?_
  ·rw [eS (l := [(7, _)]) ⟨z9 7 rfl, ⟨⟩⟩]
   refine qj (qi qW rfl (hr13 _) ?_)
   exact ⟨rfl, rfl, rfl⟩
  refine pD (fun W R z9 => ?_) ?_
  ·refine qj (ql (ii ((p : Int))) rfl ?_)
   exact ⟨rfl, rfl, rfl⟩
  refine pD (fun W R z9 => ?_) ?_
  ·refine qj (ql (ii ((u : Int))) rfl ?_)
   exact ⟨rfl, rfl, rfl⟩
  refine pD (fun W R z9 => ?_) ?_
  ·refine qj (ql (ii ((o : Int))) rfl ?_)
   exact ⟨rfl, rfl, rfl⟩
  exact stepsP.nil
 intro W hphi
 rw [eS (l := [(2, _), (5, _), (8, _), (9, _), (10, _), (11, _)]) ⟨(hphi 2 (by decide)), (hphi 5 (by decide)), (hphi 8 (by decide)), (hphi 9 (by decide)), (hphi 10 (by decide)), (hphi 11 (by decide)), ⟨⟩⟩]
 show XL _ _ _ _ _ _ _ (cellsH b3 (arv :: b4) 200 :: cellsH b5 [a1, a2] 72 :: cellsH b2 [sN, sN, sN, ii (0), ii (0), ii (0)] 76 :: cellsH b1 [arv, rsv] 32 :: L)
 refine cX (qY [a5, a6, a7, ii ((p : Int)), ii ((u : Int)), ii ((o : Int))] [sN, sN, sN, ii (0), ii (0), ii (0)] [(0, 1), (1, 1), (2, 1), (3, 1), (4, 1), (5, 1)] [(0, [a5]), (1, [a6]), (2, [a7]), (3, [ii ((p : Int))]), (4, [ii ((u : Int))]), (5, [ii ((o : Int))])] qC jr rfl (.cons rfl qp (.cons rfl qp (.cons rfl qp (.cons rfl qm (.cons rfl qm (.cons rfl qm PlacesAre.nil)))))) rfl (.cons (cells_one (qD ha5)) (.cons (cells_one (qD ha6)) (.cons (cells_one (qD ha7)) (.cons rfl (.cons rfl (.cons rfl CellsAre.nil)))))) (cX (qV [_, _] _ [a5, a6, a7, ii ((p : Int)), ii ((u : Int)), ii ((o : Int))] jk rfl rfl rfl (qs (jb (qD ha5)) (qs (jb (qD ha6)) (qs (jb (qD ha7)) (qs rfl (qs rfl (qs rfl qZ)))))) rfl rfl rfl (qg (.bool (true)) rfl (qb (qw (qv (L' := L) [.agg #[a5, a6, a7, ii ((p : Int)), ii ((u : Int)), ii ((o : Int))], .bool (true)] (.tuple #[.agg #[a5, a6, a7, ii ((p : Int)), ii ((u : Int)), ii ((o : Int))], .bool (true)]) (.cell rfl (ju [a5, a6, a7, ii ((p : Int)), ii ((u : Int)), ii ((o : Int))] jM jk rfl (Rd.ownN [_, _] rfl rfl)) (.tmp rfl .nil)) rfl (qh (qh (qh (qh (qh (qh (qh le1 le2) le3) le4) le5) le8) le9) le10) rF (sD (sD (sD (sD sR)))) ?_)))))))
 have e := pk_yes hsys ho hu hmt hmg hσ lL lP lR h24
 exact ⟨_, _, _, by rw [e]; rfl, by rw [e]; exact ha5, by rw [e]; exact ha6, by rw [e]; exact ha7, by rw [e]; exact (hZ1.base (qh (qh (qh (qh (qh (qh le1 le2) le3) le4) le5) le8) le9)), rfl⟩

/- laws.big -/
theorem big_spec {F : FH} {L : List HP} {bsv : Value} {bs : List Int} (hbs : BytesF F bsv bs) :
    Does prog 11 [bsv] F (L) (fun v F' L' => (.bool (decide ((bs.length : Int) > 4096)) : Value) = v ∧ F = F' ∧ L = L') := by
 refine qI func11 rfl rfl rfl (qc (qa (qg (.bool (false)) rfl (qb (qc (qa (qf (bsv) rfl (cX (qE runUnderlying22 rfl hbs.slv (cX (jL rfl rfl (qg (.bool (decide (((bs.length : Int) : Int) > 4096))) rfl (qb (qw (qv (L' := L) [.bool (decide (((bs.length : Int) : Int) > 4096))] (.bool (decide (((bs.length : Int) : Int) > 4096))) (.tmp rfl .nil) rfl rF rF sR ?_)))))))))))))))
 exact ⟨rfl, rfl, rfl⟩

/- laws.roll -/
theorem roll_spec {F : FH} {L : List HP} {bsv : Value} {bs : List Int} (hbs : BytesF F bsv bs) (hlb : bs.length ≤ 4000000) {s : Int} :
    Does prog 12 [bsv, .int .u64 (s)] F (L) (fun v F' L' => ∃ cb : Nat, (ptr cb 0 : Value) = v ∧ F = F' ∧ curH .u64 88 cb bsv bs.length :: L = L') := by
 refine qI func12 rfl rfl rfl (qc (qa (qg ((.pointer none)) rfl (qb (qc (qa (qf (bsv) rfl (qf (.int .u64 (s)) rfl (cX (XOp.mulW (a := s) (b := 7919) rfl rfl ?_))))))))))
 intro r1
 refine qf (bsv) rfl (cX (qE runUnderlying22 rfl hbs.slv (cX (XOp.convW (k' := .i64) (a := (bs.length : Int)) runUnderlying3 runUnderlying26 rfl ?_))))
 intro r2
 refine cX (XOp.addW (a := r1) (b := r2) rfl rfl ?_)
 intro r3
 refine cX (qY [bsv, ii (0), .int .u64 (r3)] [sN, ii (0), .int .u64 (0)] [(0, 1), (1, 1), (2, 1)] [(0, [bsv]), (2, [.int .u64 (r3)])] jS zeroValue88 rfl (.cons rfl sizeOf22 (.cons rfl yb (.cons rfl sizeOf26 PlacesAre.nil))) rfl (.cons (cells_one (BytesF.isSl hbs)) (.cons rfl CellsAre.nil)) (cX (jc [bsv, ii (0), .int .u64 (r3)] rfl rfl ?_)))
 intro b1
 refine qg (ptr b1 0) rfl (qb (qc (qc (qa (qg (ii (0)) rfl (qb (qL (jn (α := Nat × Int) (fun xQ => [(0, bsv), (5, ptr b1 0), (6, ii (((xQ.1 : Nat) : Int)))]) (fun xQ => cellsH b1 [bsv, ii (0), .int .u64 (xQ.2)] 88 :: L) (fun xQ F' => F = F' ∧ (xQ.1 ≤ bs.length)) (fun xQ => bs.length - xQ.1) (0, r3) ⟨rfl, rfl, rfl, ⟨⟩⟩ (sC sR) ⟨rfl, (Nat.zero_le _)⟩ ?_))))))))
 rintro ⟨k, h⟩ rE _ _ ⟨rfl, hk⟩
 show X _ _ _ _ (envs [(0, bsv), (5, ptr b1 0), (6, ii ((k : Int)))] rE) _ (cellsH b1 [bsv, ii (0), .int .u64 (h)] 88 :: L)
 dsimp only at hk
 refine qc (qc (qa (qf (ii ((k : Int))) rfl (qf (bsv) rfl (cX (qE runUnderlying22 rfl hbs.slv (cX (qT rfl rfl (qb ?_)))))))))
 refine qA (p := (k : Int) < (bs.length : Int)) rfl (fun h1 => ?_) (fun h1 => ?_)
 ·refine qz (qc (qL ?_))
  refine X.drawG [cellsH b1 [bsv, ii (0), .int .u64 (h)] 88] L 13 [] [[], [], [1], [2], [3], [4], [], [], [6, 7], [8], [9], [5, 10], [11]] [] (phiG [pe (ptr b1 0), pe (ptr b1 0), pe (ptr b1 0), pe (ptr b1 2), pe (.int .u64 (h)), fun FF us v => (.int .u64 ((intAt v)) : Value) = v, pe bsv, pe (ii ((k : Int)) : Value), pe (.pointer (some (elemA bsv (k)))), pe (.int .u8 (bs.getD k 0)), fun FF us v => (.int .u64 ((intAt v)) : Value) = v, fun FF us v => (.int .u64 ((intAt v)) : Value) = v, fun FF us v => (.int .u64 ((intAt v)) : Value) = v]) (ownL []) mixed rfl rfl (by kernel_rfl) (by kernel_rfl) (MonoG.get (m1 (m1 (m1 (m1 (m1 (mC (fun le h => h) (m1 (m1 (m1 (m1 (mC (fun le h => h) (mC (fun le h => h) (mC (fun le h => h) MonoG.nil)))))))))))))) ?_ ?_
  ·refine gD (fun W Fs R lF z9 => ?_) ?_
   ·refine qj (ql (ptr b1 0) rfl ?_)
    exact ⟨rfl, rfl⟩
   refine gD (fun W Fs R lF z9 => ?_) ?_
   ·refine qj (ql (ptr b1 0) rfl ?_)
    exact ⟨rfl, rfl⟩
   refine gD (fun W Fs R lF z9 => ?_) ?_
   ·replace hbs := hbs.mono lF
    rw [eS (l := [(1, _)]) ⟨z9 1 rfl, ⟨⟩⟩]
    refine qj (ji rfl ?_)
    exact ⟨rfl, rfl⟩
   refine gD (fun W Fs R lF z9 => ?_) ?_
   ·rw [eS (l := [(2, _)]) ⟨z9 2 rfl, ⟨⟩⟩]
    refine qj (qo (2) jS rfl sizeOf26 (by decide) rfl rfl ?_)
    exact ⟨rfl, rfl⟩
   refine gD (fun W Fs R lF z9 => ?_) ?_
   ·replace hbs := hbs.mono lF
    rw [eS (l := [(3, _)]) ⟨z9 3 rfl, ⟨⟩⟩]
    refine qj (qi isAgg26 rfl (Rd.own [] rfl rfl) ?_)
    exact ⟨rfl, rfl⟩
   refine gD (fun W Fs R lF z9 => ?_) ?_
   ·rw [eS (l := [(4, _)]) ⟨z9 4 rfl, ⟨⟩⟩]
    refine qj (XOp.mulW (a := h) (b := 1099511628211) rfl rfl ?_)
    intro r8
    exact ⟨rfl, rfl⟩
   refine gD (fun W Fs R lF z9 => ?_) ?_
   ·refine qj (ql (bsv) rfl ?_)
    exact ⟨rfl, rfl⟩
   refine gD (fun W Fs R lF z9 => ?_) ?_
   ·refine qj (ql (ii ((k : Int))) rfl ?_)
    exact ⟨rfl, rfl⟩
   refine gD (fun W Fs R lF z9 => ?_) ?_
   ·replace hbs := hbs.mono lF
    rw [eS (l := [(6, _), (7, _)]) ⟨z9 6 rfl, z9 7 rfl, ⟨⟩⟩]
    refine qj (qu k runUnderlying22 sizeOf5 rfl rfl rfl hbs.slv (by omega) (Nat.mul_one _) ?_)
    exact ⟨rfl, rfl⟩
   refine gD (fun W Fs R lF z9 => ?_) ?_
   ·replace hbs := hbs.mono lF
    rw [eS (l := [(8, _)]) ⟨z9 8 rfl, ⟨⟩⟩]
    refine qj (qi isAgg5 rfl (hbs.rd (by omega) _) ?_)
    exact ⟨rfl, rfl⟩
   refine gD (fun W Fs R lF z9 => ?_) ?_
   ·replace hbs := hbs.mono lF
    rw [eS (l := [(9, _)]) ⟨z9 9 rfl, ⟨⟩⟩]
    refine qj (XOp.convW (k' := .u8) (a := bs.getD k 0) runUnderlying5 runUnderlying26 rfl ?_)
    intro r9
    exact ⟨rfl, rfl⟩
   refine gD (fun W Fs R lF z9 => ?_) ?_
   ·have e5 : (.int .u64 ((intAt (W 5))) : Value) = (W 5) := z9 5 rfl
    have e10 : (.int .u64 ((intAt (W 10))) : Value) = (W 10) := z9 10 rfl
    rw [eS (l := [(5, (.int .u64 ((intAt (W 5))))), (10, (.int .u64 ((intAt (W 10)))))]) ⟨(e5).symm, (e10).symm, ⟨⟩⟩]
    refine qj (XOp.addW (a := (intAt (W 5))) (b := (intAt (W 10))) rfl rfl ?_)
    intro r10
    exact ⟨rfl, rfl⟩
   refine gD (fun W Fs R lF z9 => ?_) ?_
   ·have e11 : (.int .u64 ((intAt (W 11))) : Value) = (W 11) := z9 11 rfl
    rw [eS (l := [(11, (.int .u64 ((intAt (W 11)))))]) ⟨(e11).symm, ⟨⟩⟩]
    refine qj (XOp.addW (a := (intAt (W 11))) (b := 3) rfl rfl ?_)
    intro r11
    exact ⟨rfl, rfl⟩
   exact stepsG.nil
  intro W F1 le1 hphi
  have e5 : (.int .u64 ((intAt (W 5))) : Value) = (W 5) := hphi 5 (by decide)
  have e10 : (.int .u64 ((intAt (W 10))) : Value) = (W 10) := hphi 10 (by decide)
  have e11 : (.int .u64 ((intAt (W 11))) : Value) = (W 11) := hphi 11 (by decide)
  have e12 : (.int .u64 ((intAt (W 12))) : Value) = (W 12) := hphi 12 (by decide)
  generalize hu1 : (intAt (W 5)) = u1 at e5 e10 e11 e12
  generalize hu2 : (intAt (W 10)) = u2 at e5 e10 e11 e12
  generalize hu3 : (intAt (W 11)) = u3 at e5 e10 e11 e12
  generalize hu4 : (intAt (W 12)) = u4 at e5 e10 e11 e12
  rw [eS (l := [(0, _), (12, (.int .u64 (u4)))]) ⟨(hphi 0 (by decide)), (e12).symm, ⟨⟩⟩]
  show XL _ _ _ _ _ _ _ (cellsH b1 [bsv, ii (0), .int .u64 (h)] 88 :: L)
  refine cX (ji rfl (cX (qo (2) jS rfl sizeOf26 (by decide) rfl rfl (cX (jx [] _ [bsv, ii (0), .int .u64 (u4)] sizeOf26 rfl rfl rfl rfl rfl rfl (qb (qa (qf (ii ((k : Int))) rfl (cX (qS (((k + 1 : Nat) : Int)) rfl rfl (by omega) (by omega) (qg (ii (((k + 1 : Nat) : Int))) rfl (qb ?_))))))))))))
  exact ⟨(k + 1, u4), _, FLe.refl _, le1, ⟨rfl, rfl, rfl, ⟨⟩⟩, (sC sR), ⟨rfl, (by (try dsimp only) <;> omega)⟩, (by omega)⟩
 refine jj (qx (qx (qO (qc (qa (qf (ptr b1 0) rfl (qg (ptr b1 0) rfl (qb (qw (qv (L' := curH .u64 88 b1 bsv bs.length :: L) [ptr b1 0] (ptr b1 0) (.tmp rfl .nil) rfl rF rF (Sub.keep (curH.of (by omega) (by omega)) sR) ?_))))))))))
 exact ⟨_, rfl, rfl, rfl⟩

/- (*laws.dice).below -/
theorem below_spec0 {F : FH} {L : List HP} {cb : Nat} {bsv : Value} {bs : List Int} (hbs : BytesF F bsv bs) (hbl : bs.length ≤ 4000000) {i h n : Int} (h0 : 0 ≤ i) (h1 : i ≤ bs.length) (hn : 1 ≤ n ∧ n ≤ 1000000) :
    Does prog 14 [ptr cb 0, ii (n)] F (cellsH cb [bsv, ii (i), .int .u64 (h)] 88 :: L) (fun v F' L' => (F = F' ∧ ∃ x : Int, (.int .i64 x : Value) = v ∧ (0 ≤ x ∧ x < n)) ∧ ∃ i' h' : Int, 0 ≤ i' ∧ i' ≤ bs.length ∧ cellsH cb [bsv, ii (i'), .int .u64 (h')] 88 :: L = L') := by
 refine qI func14 rfl rfl rfl (qc (qa (qg (ii (0)) rfl (qb (qc (qa (qf (ptr cb 0) rfl (qf (ptr cb 0) rfl (cX (ji rfl (cX (qo (2) jS rfl sizeOf26 (by decide) rfl rfl (cX (qi isAgg26 rfl (Rd.own [] rfl rfl) (cX (XOp.mulW (a := h) (b := 6364136223846793005) rfl rfl ?_))))))))))))))))
 intro r1
 refine cX (XOp.addW (a := r1) (b := 1442695040888963407) rfl rfl ?_)
 intro r2
 refine cX (ji rfl (cX (qo (2) jS rfl sizeOf26 (by decide) rfl rfl (cX (jx [] _ [bsv, ii (i), .int .u64 (r2)] sizeOf26 rfl rfl rfl rfl rfl rfl (qb (qc (qa (qf (ptr cb 0) rfl (cX (ji rfl (cX (qo (2) jS rfl sizeOf26 (by decide) rfl rfl (cX (qi isAgg26 rfl (Rd.own [] rfl rfl) (cX (XOp.shrW (a := r2) (b := 33) rfl rfl (by decide) ?_)))))))))))))))))
 intro r3
 refine cX (XOp.andW (a := r3) (b := 16777215) rfl rfl rfl (by decide) ?_)
 intro r4 hr1
 refine cX (XOp.convI (k' := .u64) (a := r4) (r4) runUnderlying26 runUnderlying2 rfl (IntWalk.i64_in _ (by omega)) (qg (ii (r4)) rfl (qb (qc (qc ?_)))))
 refine jI [cellsH cb [bsv, ii (i), .int .u64 (r2)] 88] L 9 [] [[], [0], [1], [2], [], [4], [5], [6], [7]] (phiL [qe (ptr cb 0), qe (ptr cb 0), qe (ptr cb 1), qe (ii (i)), qe (ptr cb 0), qe (ptr cb 0), qe (ptr cb 0), qe bsv, qe (ii ((bs.length : Int)) : Value)]) (ownL []) mixed rfl rfl (by kernel_rfl) ?_ ?_
 ·refine pD (fun W R z9 => ?_) ?_
  ·refine qj (ql (ptr cb 0) rfl ?_)
   exact ⟨rfl, rfl, rfl⟩
  refine pD (fun W R z9 => ?_) ?_
  ·rw [eS (l := [(0, _)]) ⟨z9 0 rfl, ⟨⟩⟩]
   refine qj (ji rfl ?_)
   exact ⟨rfl, rfl, rfl⟩
  refine pD (fun W R z9 => ?_) ?_
  ·rw [eS (l := [(1, _)]) ⟨z9 1 rfl, ⟨⟩⟩]
   refine qj (qo (1) jS rfl yb (by decide) rfl rfl ?_)
   exact ⟨rfl, rfl, rfl⟩
  refine pD (fun W R z9 => ?_) ?_
  ·rw [eS (l := [(2, _)]) ⟨z9 2 rfl, ⟨⟩⟩]
   refine qj (qi isAgg3 rfl (Rd.own [] rfl rfl) ?_)
   exact ⟨rfl, rfl, rfl⟩
  refine pD (fun W R z9 => ?_) ?_
  ·refine qj (ql (ptr cb 0) rfl ?_)
   exact ⟨rfl, rfl, rfl⟩
  refine pD (fun W R z9 => ?_) ?_
  ·rw [eS (l := [(4, _)]) ⟨z9 4 rfl, ⟨⟩⟩]
   refine qj (ji rfl ?_)
   exact ⟨rfl, rfl, rfl⟩
  refine pD (fun W R z9 => ?_) ?_
  ·rw [eS (l := [(5, _)]) ⟨z9 5 rfl, ⟨⟩⟩]
   refine qj (qo (0) jS rfl sizeOf22 (by decide) rfl rfl ?_)
   exact ⟨rfl, rfl, rfl⟩
  refine pD (fun W R z9 => ?_) ?_
  ·rw [eS (l := [(6, _)]) ⟨z9 6 rfl, ⟨⟩⟩]
   refine qj (qi isAgg22 rfl (Rd.own [] rfl rfl) ?_)
   exact ⟨rfl, rfl, rfl⟩
  refine pD (fun W R z9 => ?_) ?_
  ·rw [eS (l := [(7, _)]) ⟨z9 7 rfl, ⟨⟩⟩]
   refine qj (qE runUnderlying22 rfl hbs.slv ?_)
   exact ⟨rfl, rfl, rfl⟩
  exact stepsP.nil
 intro W hphi
 rw [eS (l := [(3, _), (8, _)]) ⟨(hphi 3 (by decide)), (hphi 8 (by decide)), ⟨⟩⟩]
 show XL _ _ _ _ _ _ _ (cellsH cb [bsv, ii (i), .int .u64 (r2)] 88 :: L)
 refine cX (qT rfl rfl (qb ?_))
 refine qA (p := (i : Int) < (bs.length : Int)) rfl (fun h1 => ?_) (fun h1 => ?_)
 ·have hrg := hbs.range (i := i.toNat) (by omega)
  refine qc ?_
  refine jI [cellsH cb [bsv, ii (i), .int .u64 (r2)] 88] L 12 [] [[], [], [1], [2], [3], [], [5], [6], [7], [4, 8], [9], [10]] (phiL [qe (ii (r4)), qe (ptr cb 0), qe (ptr cb 0), qe (ptr cb 0), qe bsv, qe (ptr cb 0), qe (ptr cb 0), qe (ptr cb 1), qe (ii (i)), qe (.pointer (some (elemA bsv ((i).toNat)))), qe (.int .u8 (bs.getD ((i).toNat) 0)), qe (ii (bs.getD ((i).toNat) 0))]) (ownL []) mixed rfl rfl (by kernel_rfl) ?_ ?_
  ·refine pD (fun W R z9 => ?_) ?_
   ·refine qj (ql (ii (r4)) rfl ?_)
    exact ⟨rfl, rfl, rfl⟩
   refine pD (fun W R z9 => ?_) ?_
   ·refine qj (ql (ptr cb 0) rfl ?_)
    exact ⟨rfl, rfl, rfl⟩
   refine pD (fun W R z9 => ?_) ?_
   ·rw [eS (l := [(1, _)]) ⟨z9 1 rfl, ⟨⟩⟩]
    refine qj (ji rfl ?_)
    exact ⟨rfl, rfl, rfl⟩
   refine pD (fun W R z9 => ?_) ?_
   ·rw [eS (l := [(2, _)]) ⟨z9 2 rfl, ⟨⟩⟩]
    refine qj (qo (0) jS rfl sizeOf22 (by decide) rfl rfl ?_)
    exact ⟨rfl, rfl, rfl⟩
   refine pD (fun W R z9 => ?_) ?_
   ·rw [eS (l := [(3, _)]) ⟨z9 3 rfl, ⟨⟩⟩]
    refine qj (qi isAgg22 rfl (Rd.own [] rfl rfl) ?_)
    exact ⟨rfl, rfl, rfl⟩
   refine pD (fun W R z9 => ?_) ?_
   ·refine qj (ql (ptr cb 0) rfl ?_)
    exact ⟨rfl, rfl, rfl⟩
   refine pD (fun W R z9 => ?_) ?_
   ·rw [eS (l := [(5, _)]) ⟨z9 5 rfl, ⟨⟩⟩]
    refine qj (ji rfl ?_)
    exact ⟨rfl, rfl, rfl⟩
   refine pD (fun W R z9 => ?_) ?_
   ·rw [eS (l := [(6, _)]) ⟨z9 6 rfl, ⟨⟩⟩]
    refine qj (qo (1) jS rfl yb (by decide) rfl rfl ?_)
    exact ⟨rfl, rfl, rfl⟩
   refine pD (fun W R z9 => ?_) ?_
   ·rw [eS (l := [(7, _)]) ⟨z9 7 rfl, ⟨⟩⟩]
    refine qj (qi isAgg3 rfl (Rd.own [] rfl rfl) ?_)
    exact ⟨rfl, rfl, rfl⟩
   refine pD (fun W R z9 => ?_) ?_
   ·rw [eS (l := [(4, _), (8, _)]) ⟨z9 4 rfl, z9 8 rfl, ⟨⟩⟩]
    refine qj (qu ((i).toNat) runUnderlying22 sizeOf5 rfl rfl (by omega) hbs.slv (by omega) (Nat.mul_one _) ?_)
    exact ⟨rfl, rfl, rfl⟩
   refine pD (fun W R z9 => ?_) ?_
   ·rw [eS (l := [(9, _)]) ⟨z9 9 rfl, ⟨⟩⟩]
    refine qj (qi isAgg5 rfl (hbs.rd (by omega) _) ?_)
    exact ⟨rfl, rfl, rfl⟩
   refine pD (fun W R z9 => ?_) ?_
   ·rw [eS (l := [(10, _)]) ⟨z9 10 rfl, ⟨⟩⟩]
    refine qj (XOp.convI (k' := .u8) (a := bs.getD ((i).toNat) 0) (bs.getD ((i).toNat) 0) runUnderlying5 runUnderlying2 rfl (IntWalk.i64_in _ (by omega)) ?_)
    exact ⟨rfl, rfl, rfl⟩
   exact stepsP.nil
  intro W hphi
  rw [eS (l := [(0, _), (11, _)]) ⟨(hphi 0 (by decide)), (hphi 11 (by decide)), ⟨⟩⟩]
  show XL _ _ _ _ _ _ _ (cellsH cb [bsv, ii (i), .int .u64 (r2)] 88 :: L)
  refine cX (qS (r4 + (bs.getD ((i).toNat) 0)) rfl rfl (by omega) (by omega) (qg (ii (r4 + (bs.getD ((i).toNat) 0))) rfl (qb (qa (qf (ptr cb 0) rfl (qf (ptr cb 0) rfl (cX (ji rfl (cX (qo (1) jS rfl yb (by decide) rfl rfl (cX (qi isAgg3 rfl (Rd.own [] rfl rfl) (cX (qS (i + 1) rfl rfl (by omega) (by omega) (cX (ji rfl ?_))))))))))))))))
  refine cX (qo (1) jS rfl yb (by decide) rfl rfl (cX (jx [] _ [bsv, ii (i + 1), .int .u64 (r2)] yb rfl rfl rfl rfl rfl rfl (qb (qc (qa (qf (ii (r4 + (bs.getD ((i).toNat) 0))) rfl (qf (ii (n)) rfl (cX (XOp.remV (a := r4 + (bs.getD ((i).toNat) 0)) (b := n) rfl rfl (by omega) (by omega) ?_))))))))))
  intro r5 hr2
  refine qg (ii (r5)) rfl (qb (qw (qv (L' := cellsH cb [bsv, ii (i + 1), .int .u64 (r2)] 88 :: L) [ii (r5)] (ii (r5)) (.tmp rfl .nil) rfl rF rF (sC sR) ?_)))
  exact ⟨⟨rfl, _, rfl, hr2⟩, _, _, by omega, by omega, rfl⟩
 refine qz (qc (qa (qf (ii (r4)) rfl (qf (ii (n)) rfl (cX (XOp.remV (a := r4) (b := n) rfl rfl (by omega) (by omega) ?_))))))
 intro r6 hr3
 refine qg (ii (r6)) rfl (qb (qw (qv (L' := cellsH cb [bsv, ii (i), .int .u64 (r2)] 88 :: L) [ii (r6)] (ii (r6)) (.tmp rfl .nil) rfl rF rF (sC sR) ?_)))
 exact ⟨⟨rfl, _, rfl, hr3⟩, _, _, by omega, by omega, rfl⟩
theorem below_spec {F : FH} {L : List HP} {cb : Nat} {bsv : Value} {bs : List Int} (hbs : BytesF F bsv bs) (hbl : bs.length ≤ 4000000) {n : Int} (hn : 1 ≤ n ∧ n ≤ 1000000) : Does prog 14 [ptr cb 0, .int .i64 n] F (curH .u64 88 cb bsv bs.length :: L) (fun v F' L' => (F = F' ∧ ∃ (x : Int), (.int .i64 x : Value) = v ∧ (0 ≤ x ∧ x < n)) ∧ curH .u64 88 cb bsv bs.length :: L = L') :=
  Does.cur (Q := fun v F' => F = F' ∧ ∃ (x : Int), (.int .i64 x : Value) = v ∧ (0 ≤ x ∧ x < n)) fun i h h0 h1 => below_spec0 hbs hbl h0 h1 hn
end Go.Proofs.Ytcdjpapjjoldeaa
