/-
  Walks, one after the other (part 3).
-/
import Derived.Test.YtcdjpapjjoldeaaQSL1
import Derived.Test.YtcdjpapjjoldeaaQSB1
import Derived.Recover
import Derived.Tactics
import Derived.Tactics2
import Derived.Test.YtcdjpapjjoldeaaQSB0
set_option linter.unusedSimpArgs false
set_option linter.unusedVariables false
namespace Go.Proofs.Ytcdjpapjjoldeaa
open Go X M Try

theorem endAtW_ok {F : FH} {L : List HP} {p : Nat} {arv : Value} {ar : List Int} (har : IntsF F arv ar) {tv : Value} {t : List Int} (ht : IntsF F tv t) (ho : TermW ar t) (hp : p < t.length) :
    Does prog 150 [.agg #[arv], tv, ii (p : Int)] F L (fun v F' L' => (ii ((endN ar t p : Nat) : Int) : Value) = v ∧ F = F' ∧ L = L') := by
  have hl := ho.len
  have h := endAt_spec (F := F) (L := L) (p := p) har ht ho.sig (by omega) (by omega)
  rw [ho.endZ hp] at h
  exact h


/- impl.subAt -/
theorem subAtW_spec {F : FH} {L : List HP} {arv : Value} {ar : List Int} (har : IntsF F arv ar) {tv : Value} {t : List Int} (ht : IntsF F tv t) {p : Nat} (ho : TermW ar t) (hp : p < t.length) (hnn : isNil tv = false) :
    Does prog 224 [.agg #[arv], tv, ii ((p : Int))] F (L) (fun v F' L' => F = F' ∧ L = L' ∧ IntsF F v (sub ar t p) ∧ isNil v = false) := by
 refine qM func224 rfl rfl rfl ?_
 have hsl := sigOk_spec ho.sig
 have htl := ho.len
 have hsig := ho.sig
 have hee := ho.endN hp
 refine qc (qa (cX (jg [arv] rfl rfl ?_)))
 intro b1
 refine qh (sN) rfl (qb (qc (qa (qf (tv) rfl (qf (ii ((p : Int))) rfl (cX (qr [arv] qL qz rfl rfl (Rd.ownN [] rfl rfl) (qf (tv) rfl (qf (ii ((p : Int))) rfl (cX (ql (args := [.agg #[arv], tv, ii (p : Int)]) call150 rfl (endAtW_ok (p := p) har ht (ho := (by first | assumption | rfl | omega | (left; simp; done) | (right; simp; done))) (hp := (by first | assumption | rfl | omega | (left; simp; done) | (right; simp; done)))) ?_)))))))))))
 rintro _ _ _ _ ⟨rfl, rfl, rfl⟩
 refine cX (XOp.sliceI p (endN ar t p) qd qy rfl ht ⟨_, rfl⟩ ⟨_, rfl⟩ (by omega) (by omega) ?_)
 intro v1 hv1 hn1
 refine qh (v1) rfl (qb (qx (qp (L' := L) [v1] (v1) (.tmp rfl .nil) rfl rF rF (sD sR) ?_)))
 exact ⟨rfl, rfl, hv1, by rw [hn1]; exact hnn⟩

/- impl.argsAt -/
theorem argsAtW_spec {F : FH} {L : List HP} {arv : Value} {ar : List Int} (har : IntsF F arv ar) {tv : Value} {t : List Int} (ht : IntsF F tv t) {p : Nat} (ho : TermW ar t) (hp : p < t.length) :
    Does prog 222 [.agg #[arv], tv, ii ((p : Int))] F (L) (fun v F' L' => F = F' ∧ IsSl v ∧ intsH 3 v (argsL ar t p) :: L = L') := by
 refine qM func222 rfl rfl rfl ?_
 have hsl := sigOk_spec ho.sig
 have htl := ho.len
 have hsig := ho.sig
 have hA := arity_le hsig (ho.lt hp)
 have hge := ho.geD hp
 have hlt := ho.lt hp
 refine qc (qa (cX (jg [arv] rfl rfl ?_)))
 intro b1
 refine qh (sN) rfl (qb (qc (qa (qh (sN) rfl (qb (qc (qa (qf (ii ((p : Int))) rfl (cX (qT (((p + 1 : Nat) : Int)) rfl rfl (by omega) (by omega) (qh (ii (((p + 1 : Nat) : Int))) rfl (qb (qc (qc ?_))))))))))))))
 refine jz [cellsH b1 [arv] 29] L 5 [] [[], [], [], [1, 2], [3]] (phiL [qe (.agg #[arv]), qe tv, qe (ii ((p : Int)) : Value), qe (.pointer (some (elemA tv (p)))), qe (ii (t.getD p 0))]) (ownL []) mixed rfl rfl (by kernel_rfl) ?_ ?_
 ·refine pD (fun W R z9 => ?_) ?_
  ·refine qj (qr [arv] qL qz rfl rfl (Rd.ownN [] rfl rfl) ?_)
   exact ⟨rfl, rfl, rfl⟩
  refine pD (fun W R z9 => ?_) ?_
  ·refine qj (qk (tv) rfl ?_)
   exact ⟨rfl, rfl, rfl⟩
  refine pD (fun W R z9 => ?_) ?_
  ·refine qj (qk (ii ((p : Int))) rfl ?_)
   exact ⟨rfl, rfl, rfl⟩
  refine pD (fun W R z9 => ?_) ?_
  ·rw [eS (l := [(1, _), (2, _)]) ⟨z9 1 rfl, z9 2 rfl, ⟨⟩⟩]
   refine qj (qB p qd qy rfl rfl rfl ht.slv (by omega) (Nat.mul_one _) ?_)
   exact ⟨rfl, rfl, rfl⟩
  refine pD (fun W R z9 => ?_) ?_
  ·rw [eS (l := [(3, _)]) ⟨z9 3 rfl, ⟨⟩⟩]
   refine qj (qn qV rfl (ht.rd (by omega)) ?_)
   exact ⟨rfl, rfl, rfl⟩
  exact stepsP.nil
 intro W hphi
 rw [eS (l := [(0, _), (4, _)]) ⟨(hphi 0 (by decide)), (hphi 4 (by decide)), ⟨⟩⟩]
 show XL _ _ _ _ _ _ _ (cellsH b1 [arv] 29 :: L)
 refine cX (ql (args := [.agg #[arv], ii (t.getD p 0)]) call243 rfl (arityAt_spec (n := t.getD p 0) har (hn := (by first | assumption | rfl | omega | simp))) ?_)
 rintro _ _ _ _ ⟨rfl, rfl, rfl⟩
 refine qh (ii (arity ar (t.getD p 0))) rfl (qb (qQ (js (α := Nat × Nat × Value × List Int) (fun xQ => [(1, tv), (3, ptr b1 0), (7, xQ.2.2.1), (8, ii (((xQ.2.1 : Nat) : Int))), (9, ii (((xQ.1 : Nat) : Int)))]) (fun xQ => intsH 3 xQ.2.2.1 xQ.2.2.2 :: cellsH b1 [arv] 29 :: L) (fun xQ F' => F = F' ∧ (IsSl xQ.2.2.1) ∧ (Stand ar t xQ.1 xQ.2.1 (endN ar t p)) ∧ (argsL ar t p = xQ.2.2.2 ++ argsGo ar t xQ.1 xQ.2.1) ∧ (xQ.2.2.2.length + xQ.1 ≤ 3)) (fun xQ => xQ.1) ((arity ar (t.getD p 0)).toNat, p + 1, sN, []) ⟨rfl, rfl, rfl, rfl, (vI (by first | omega | (rw [sArity_eq (by omega)]; omega))), ⟨⟩⟩ (jp (intsH.addNil 3 none _) (sC (sC sR))) ⟨rfl, (⟨_, _, _, rfl⟩), (ho.stand0 hp), (rfl), (by rw [List.length_nil]; omega)⟩ ?_)))
 rintro ⟨m, q, ov, os⟩ rE _ _ ⟨rfl, hov, hS, hos, hol⟩
 show X _ _ _ _ (envs [(1, tv), (3, ptr b1 0), (7, ov), (8, ii ((q : Int))), (9, ii ((m : Int)))] rE) _ (intsH 3 ov os :: cellsH b1 [arv] 29 :: L)
 dsimp only at hov hS hos hol
 have hst := fun (h : 1 ≤ m) => ho.stand (n := m - 1) (by rw [Nat.sub_add_cancel h]; exact hS)
 refine qc (qc (qa (qf (ii ((m : Int))) rfl (cX (jF rfl rfl (qb ?_))))))
 refine qF (p := (m : Int) > 0) rfl (fun h1 => ?_) (fun h1 => ?_)
 ·refine qv (qc (qQ (qc (qa (qf (ov) rfl (qf (ii ((q : Int))) rfl (cX (qD (s := 1) [ii ((q : Int))] [ii (0)] [(0, [ii ((q : Int))])] runUnderlying128 sizeOf3 zeroValue3 rfl (by decide) rfl (.cons rfl CellsAre.nil) rfl ?_))))))))
  intro v1 hv1
  refine cX (jC (u := (q : Int)) [_] _ runUnderlying128 typeInfo3 rfl rfl rfl rfl rfl rfl (SlV.own [] rfl) (Rd.sl [] rfl rfl) (by (try simp only [List.length_append, List.length_nil, List.length_cons, List.length_singleton, List.length_take, List.length_drop]); omega) ?_)
  intro v2 hs1 hn1
  refine qh (v2) rfl (qb (qa (cX (qr [arv] qL qz rfl rfl (Rd.ownN [_, _] rfl rfl) (qf (tv) rfl (qf (ii ((q : Int))) rfl (cX (ql (args := [.agg #[arv], tv, ii (q : Int)]) call150 rfl (endAtW_ok (p := q) har ht (ho := (by first | assumption | rfl | omega | (left; simp; done) | (right; simp; done))) (hp := (hst (by omega)).1)) ?_))))))))
  rintro _ _ _ _ ⟨rfl, rfl, rfl⟩
  refine qh (ii (((endN ar t q : Nat) : Int))) rfl (qb (qa (qf (ii ((m : Int))) rfl (cX (qW (((m : Int)) - 1) rfl rfl (by omega) (by omega) (qh (ii (((m : Int)) - 1)) rfl (qb ?_)))))))
  exact ⟨(m - 1, endN ar t q, v2, os ++ [(q : Int)]), _, FLe.refl _, rF, ⟨rfl, rfl, rfl, rfl, (vI (by omega)), ⟨⟩⟩, (sD (sC (sC sR))), ⟨rfl, (hs1), ((hst (by omega)).2.1), (args_nextW (by omega) hos), (by dsimp only; rw [List.length_append, List.length_singleton]; omega)⟩, (by omega)⟩
 refine jl (qE (qE (qS (qc (qa (qf (ov) rfl (qh (ov) rfl (qb (qx (qp (L' := intsH 3 ov os :: L) [ov] (ov) (.tmp rfl .nil) rfl rF rF (sC (sD sR)) ?_))))))))))
 refine ⟨rfl, hov, ?_⟩
 have hxs : (argsL ar t p : List Int) = os := by rw [hos, show m = 0 from by omega]; simp [argsGo]
 exact congrArg (fun z => intsH 3 _ z :: L) hxs

/- (*impl.unifier).root -/
theorem root_spec {F : FH} {L : List HP} {ub : Nat} {arv : Value} {ar : List Int} {bs : List Value} {bl : RowL} (har : IntsF F arv ar) (hbc : BindC F bs bl) (hb : BOk ar bl) {tv : Value} {t : List Int} (ht : IntsF F tv t) (ho : TermW ar t) (hnn : isNil tv = false) :
    Does prog 248 [ptr ub 0, tv] F (cellsH ub (arv :: bs) 200 :: L) (fun v F' L' => ∃ u : List Int, IntsF F v u ∧ isNil v = false ∧ Root ar bl t u ∧ F = F' ∧ cellsH ub (arv :: bs) 200 :: L = L') := by
 refine qM func248 rfl rfl rfl ?_
 obtain ⟨ρ, hρ⟩ := hb.acyc
 have hbl := hb.len
 refine qc (qa (qh (sN) rfl (qb (qc (qQ (js (α := Value × List Int) (fun xQ => [(0, ptr ub 0), (1, xQ.1)]) (fun xQ => cellsH ub (arv :: bs) 200 :: L) (fun xQ F' => F = F' ∧ (IntsF F xQ.1 xQ.2) ∧ (isNil xQ.1 = false) ∧ (RootTo ar bl t xQ.2)) (fun xQ => rootMu ρ xQ.2) (tv, t) ⟨rfl, rfl, ⟨⟩⟩ (sC sR) ⟨rfl, (ht), (hnn), (RootTo.refl ho)⟩ ?_))))))
 rintro ⟨uv, u⟩ rE _ _ ⟨rfl, huv, hun, hrt⟩
 show X _ _ _ _ (envs [(0, ptr ub 0), (1, uv)] rE) _ (cellsH ub (arv :: bs) 200 :: L)
 dsimp only at huv hun hrt
 have hul := hrt.1.len
 have hug := hrt.1.geD (p := 0) (by omega)
 refine qc (qc ?_)
 by_cases h1 : (u.getD 0 0 : Int) < 0
 ·have hx0 : u.getD 0 0 < 0 := h1
  refine jz [cellsH ub (arv :: bs) 200] L 12 [] [[], [0], [1], [2], [3], [4], [4], [4, 6], [4, 7], [4, 8], [4, 5], [4, 10]] (phiL [qe uv, qe (.pointer (some (elemA uv (0)))), qe (ii (u.getD 0 0)), qe (.bool (decide ((u.getD 0 0 : Int) < 0)) : Value), qe (.bool (decide ((u.getD 0 0 : Int) < 0)) : Value), qe (ptr ub 0), qe uv, qe (.pointer (some (elemA uv (0)))), qe (ii (u.getD 0 0)), qe (ii ((-1) - (u.getD 0 0))), qe (ptr ub 0), qe (ptr ub 1)]) (ownL []) mixed rfl rfl (by kernel_rfl) ?_ ?_
  ·refine pD (fun W R z9 => ?_) ?_
   ·refine qj (qk (uv) rfl ?_)
    exact ⟨rfl, rfl, rfl⟩
   refine pD (fun W R z9 => ?_) ?_
   ·rw [eS (l := [(0, _)]) ⟨z9 0 rfl, ⟨⟩⟩]
    refine qj (qB 0 qd qy rfl rfl rfl huv.slv (by omega) (Nat.mul_one _) ?_)
    exact ⟨rfl, rfl, rfl⟩
   refine pD (fun W R z9 => ?_) ?_
   ·rw [eS (l := [(1, _)]) ⟨z9 1 rfl, ⟨⟩⟩]
    refine qj (qn qV rfl (huv.rd (by omega)) ?_)
    exact ⟨rfl, rfl, rfl⟩
   refine pD (fun W R z9 => ?_) ?_
   ·rw [eS (l := [(2, _)]) ⟨z9 2 rfl, ⟨⟩⟩]
    refine qj (qZ rfl rfl ?_)
    exact ⟨rfl, rfl, rfl⟩
   refine pD (fun W R z9 => ?_) ?_
   ·rw [eS (l := [(3, _)]) ⟨z9 3 rfl, ⟨⟩⟩]
    refine qj (qk (.bool (decide ((u.getD 0 0 : Int) < 0))) rfl ?_)
    exact ⟨rfl, rfl, rfl⟩
   refine pD (fun W R z9 => ?_) ?_
   ·rw [eS (l := [(4, _)]) ⟨z9 4 rfl, ⟨⟩⟩]
    refine jf (t := 9) rfl (vT h1) (qk (ptr ub 0) rfl ?_)
    exact ⟨rfl, rfl, rfl⟩
   refine pD (fun W R z9 => ?_) ?_
   ·rw [eS (l := [(4, _)]) ⟨z9 4 rfl, ⟨⟩⟩]
    refine jf (t := 9) rfl (vT h1) (qk (uv) rfl ?_)
    exact ⟨rfl, rfl, rfl⟩
   refine pD (fun W R z9 => ?_) ?_
   ·rw [eS (l := [(4, _), (6, _)]) ⟨z9 4 rfl, z9 6 rfl, ⟨⟩⟩]
    refine jf (t := 9) rfl (vT h1) (qB 0 qd qy rfl rfl rfl huv.slv (by omega) (Nat.mul_one _) ?_)
    exact ⟨rfl, rfl, rfl⟩
   refine pD (fun W R z9 => ?_) ?_
   ·rw [eS (l := [(4, _), (7, _)]) ⟨z9 4 rfl, z9 7 rfl, ⟨⟩⟩]
    refine jf (t := 9) rfl (vT h1) (qn qV rfl (huv.rd (by omega)) ?_)
    exact ⟨rfl, rfl, rfl⟩
   refine pD (fun W R z9 => ?_) ?_
   ·rw [eS (l := [(4, _), (8, _)]) ⟨z9 4 rfl, z9 8 rfl, ⟨⟩⟩]
    refine jf (t := 9) rfl (vT h1) (qW ((-1) - (u.getD 0 0)) rfl rfl (by omega) (by omega) ?_)
    exact ⟨rfl, rfl, rfl⟩
   refine pD (fun W R z9 => ?_) ?_
   ·rw [eS (l := [(4, _), (5, _)]) ⟨z9 4 rfl, z9 5 rfl, ⟨⟩⟩]
    refine jf (t := 9) rfl (vT h1) (jb rfl ?_)
    exact ⟨rfl, rfl, rfl⟩
   refine pD (fun W R z9 => ?_) ?_
   ·rw [eS (l := [(4, _), (10, _)]) ⟨z9 4 rfl, z9 10 rfl, ⟨⟩⟩]
    refine jf (t := 9) rfl (vT h1) (qA (1) jr rfl sizeOf198 (by decide) rfl rfl ?_)
    exact ⟨rfl, rfl, rfl⟩
   exact stepsP.nil
  intro W hphi
  rw [eS (l := [(4, _), (9, _), (11, _)]) ⟨(hphi 4 (by decide)), (hphi 9 (by decide)), (hphi 11 (by decide)), ⟨⟩⟩]
  show XL _ _ _ _ _ _ _ (cellsH ub (arv :: bs) 200 :: L)
  refine qq (t := 9) rfl (vT h1) (jI (i := (-1) - (u.getD 0 0)) (((-1) - (u.getD 0 0)).toNat) (1 + (((-1) - (u.getD 0 0)).toNat)) jA qN rfl rfl (by omega) (by omega) (by omega) ?_)
  obtain ⟨a1, ha1, hn1, he1⟩ := hbc.get (i := ((-1) - (u.getD 0 0)).toNat) (by omega)
  refine qq (t := 9) rfl (vT h1) (qn jn rfl (Rd.own [] rfl (get_1 he1)) (qq (t := 9) rfl (vT h1) (XOp.neNil qd rfl rfl (jc ha1) (cX (qX (.bool (!isNil a1)) (vT h1) rfl (qb ?_))))))
  refine jk (t := !isNil a1) rfl (fun h2 => ?_) (fun h2 => ?_)
  ·have hbn := ne_of_notNil hn1 h2
   have hnb : isNil a1 = false := by rw [hn1]; exact decide_eq_false hbn
   refine qv (qQ ?_)
   refine jz [cellsH ub (arv :: bs) 200] L 7 [] [[], [], [1], [2], [3], [0], [5]] (phiL [qe (ptr ub 0), qe uv, qe (.pointer (some (elemA uv (0)))), qe (ii (u.getD 0 0)), qe (ii ((-1) - (u.getD 0 0))), qe (ptr ub 0), qe (ptr ub 1)]) (ownL []) mixed rfl rfl (by kernel_rfl) ?_ ?_
   ·refine pD (fun W R z9 => ?_) ?_
    ·refine qj (qk (ptr ub 0) rfl ?_)
     exact ⟨rfl, rfl, rfl⟩
    refine pD (fun W R z9 => ?_) ?_
    ·refine qj (qk (uv) rfl ?_)
     exact ⟨rfl, rfl, rfl⟩
    refine pD (fun W R z9 => ?_) ?_
    ·rw [eS (l := [(1, _)]) ⟨z9 1 rfl, ⟨⟩⟩]
     refine qj (qB 0 qd qy rfl rfl rfl huv.slv (by omega) (Nat.mul_one _) ?_)
     exact ⟨rfl, rfl, rfl⟩
    refine pD (fun W R z9 => ?_) ?_
    ·rw [eS (l := [(2, _)]) ⟨z9 2 rfl, ⟨⟩⟩]
     refine qj (qn qV rfl (huv.rd (by omega)) ?_)
     exact ⟨rfl, rfl, rfl⟩
    refine pD (fun W R z9 => ?_) ?_
    ·rw [eS (l := [(3, _)]) ⟨z9 3 rfl, ⟨⟩⟩]
     refine qj (qW ((-1) - (u.getD 0 0)) rfl rfl (by omega) (by omega) ?_)
     exact ⟨rfl, rfl, rfl⟩
    refine pD (fun W R z9 => ?_) ?_
    ·rw [eS (l := [(0, _)]) ⟨z9 0 rfl, ⟨⟩⟩]
     refine qj (jb rfl ?_)
     exact ⟨rfl, rfl, rfl⟩
    refine pD (fun W R z9 => ?_) ?_
    ·rw [eS (l := [(5, _)]) ⟨z9 5 rfl, ⟨⟩⟩]
     refine qj (qA (1) jr rfl sizeOf198 (by decide) rfl rfl ?_)
     exact ⟨rfl, rfl, rfl⟩
    exact stepsP.nil
   intro W hphi
   rw [eS (l := [(4, _), (6, _)]) ⟨(hphi 4 (by decide)), (hphi 6 (by decide)), ⟨⟩⟩]
   show XL _ _ _ _ _ _ _ (cellsH ub (arv :: bs) 200 :: L)
   refine cX (jI (i := (-1) - (u.getD 0 0)) (((-1) - (u.getD 0 0)).toNat) (1 + (((-1) - (u.getD 0 0)).toNat)) jA qN rfl rfl (by omega) (by omega) (by omega) (cX (qn jn rfl (Rd.own [] rfl (get_1 he1)) (qh (a1) rfl (qb ?_)))))
   exact ⟨(a1, (bl.getD (((-1) - (u.getD 0 0)).toNat) [])), _, FLe.refl _, rF, ⟨rfl, rfl, ⟨⟩⟩, (sC sR), ⟨rfl, (ha1), (hnb), (hrt.next hb hx0 hbn)⟩, (rootMu_lt hρ hb hx0 hbn)⟩
  have hbe := eq_of_isNil hn1 h2
  have htop : 0 ≤ u.getD 0 0 ∨ bl.getD (varIx (u.getD 0 0)) [] = [] := .inr hbe
  refine jl (qE (qE (qS (qc (qa (qf (uv) rfl (qh (uv) rfl (qb (qx (qp (L' := cellsH ub (arv :: bs) 200 :: L) [uv] (uv) (.tmp rfl .nil) rfl rF rF (sC sR) ?_))))))))))
  exact ⟨_, huv, hun, hrt.done htop, rfl, rfl⟩
 have htop : 0 ≤ u.getD 0 0 ∨ bl.getD (varIx (u.getD 0 0)) [] = [] := .inl (by omega)
 refine jz [cellsH ub (arv :: bs) 200] L 12 [] [[], [0], [1], [2], [3], [4], [4], [4, 6], [4, 7], [4, 8], [4, 5], [4, 10]] (phiL [qe uv, qe (.pointer (some (elemA uv (0)))), qe (ii (u.getD 0 0)), qe (.bool (decide ((u.getD 0 0 : Int) < 0)) : Value), qe (.bool (decide ((u.getD 0 0 : Int) < 0)) : Value), qe undef, qe undef, qe undef, qe undef, qe undef, qe undef, qe undef]) (ownL []) mixed rfl rfl (by kernel_rfl) ?_ ?_
 ·refine pD (fun W R z9 => ?_) ?_
  ·refine qj (qk (uv) rfl ?_)
   exact ⟨rfl, rfl, rfl⟩
  refine pD (fun W R z9 => ?_) ?_
  ·rw [eS (l := [(0, _)]) ⟨z9 0 rfl, ⟨⟩⟩]
   refine qj (qB 0 qd qy rfl rfl rfl huv.slv (by omega) (Nat.mul_one _) ?_)
   exact ⟨rfl, rfl, rfl⟩
  refine pD (fun W R z9 => ?_) ?_
  ·rw [eS (l := [(1, _)]) ⟨z9 1 rfl, ⟨⟩⟩]
   refine qj (qn qV rfl (huv.rd (by omega)) ?_)
   exact ⟨rfl, rfl, rfl⟩
  refine pD (fun W R z9 => ?_) ?_
  ·rw [eS (l := [(2, _)]) ⟨z9 2 rfl, ⟨⟩⟩]
   refine qj (qZ rfl rfl ?_)
   exact ⟨rfl, rfl, rfl⟩
  refine pD (fun W R z9 => ?_) ?_
  ·rw [eS (l := [(3, _)]) ⟨z9 3 rfl, ⟨⟩⟩]
   refine qj (qk (.bool (decide ((u.getD 0 0 : Int) < 0))) rfl ?_)
   exact ⟨rfl, rfl, rfl⟩
  refine pD (fun W R z9 => ?_) ?_
  ·rw [eS (l := [(4, _)]) ⟨z9 4 rfl, ⟨⟩⟩]
   exact jm (t := 9) rfl (vF h1) ⟨rfl, rfl, rfl⟩
  refine pD (fun W R z9 => ?_) ?_
  ·rw [eS (l := [(4, _)]) ⟨z9 4 rfl, ⟨⟩⟩]
   exact jm (t := 9) rfl (vF h1) ⟨rfl, rfl, rfl⟩
  refine pD (fun W R z9 => ?_) ?_
  ·rw [eS (l := [(4, _), (6, undef)]) ⟨z9 4 rfl, z9 6 rfl, ⟨⟩⟩]
   exact jm (t := 9) rfl (vF h1) ⟨rfl, rfl, rfl⟩
  refine pD (fun W R z9 => ?_) ?_
  ·rw [eS (l := [(4, _), (7, undef)]) ⟨z9 4 rfl, z9 7 rfl, ⟨⟩⟩]
   exact jm (t := 9) rfl (vF h1) ⟨rfl, rfl, rfl⟩
  refine pD (fun W R z9 => ?_) ?_
  ·rw [eS (l := [(4, _), (8, undef)]) ⟨z9 4 rfl, z9 8 rfl, ⟨⟩⟩]
   exact jm (t := 9) rfl (vF h1) ⟨rfl, rfl, rfl⟩
  refine pD (fun W R z9 => ?_) ?_
  ·rw [eS (l := [(4, _), (5, undef)]) ⟨z9 4 rfl, z9 5 rfl, ⟨⟩⟩]
   exact jm (t := 9) rfl (vF h1) ⟨rfl, rfl, rfl⟩
  refine pD (fun W R z9 => ?_) ?_
  ·rw [eS (l := [(4, _), (10, undef)]) ⟨z9 4 rfl, z9 10 rfl, ⟨⟩⟩]
   exact jm (t := 9) rfl (vF h1) ⟨rfl, rfl, rfl⟩
  exact stepsP.nil
 intro W hphi
 rw [eS (l := [(4, _), (9, undef), (11, undef)]) ⟨(hphi 4 (by decide)), (hphi 9 (by decide)), (hphi 11 (by decide)), ⟨⟩⟩]
 show XL _ _ _ _ _ _ _ (cellsH ub (arv :: bs) 200 :: L)
 refine qu (t := 9) rfl (vF h1) (qu (t := 9) rfl (vF h1) (qu (t := 9) rfl (vF h1) (cX (qR (.bool (false)) (vF h1) rfl (qb (jx rfl (jl (qE (qE (qS (qc (qa (qf (uv) rfl (qh (uv) rfl ?_))))))))))))))
 refine qb (qx (qp (L' := cellsH ub (arv :: bs) 200 :: L) [uv] (uv) (.tmp rfl .nil) rfl rF rF (sC sR) ?_))
 exact ⟨_, huv, hun, hrt.done htop, rfl, rfl⟩

/- (*impl.unifier).occurs -/
set_option maxHeartbeats 1000000 in
theorem occurs_step {k : Nat} (ih : ∀ k9 : Nat, k9 < k → ∀ {F : FH} {L : List HP} {ub : Nat} {arv : Value} {ar : List Int} {bs : List Value} {bl : RowL} (har : IntsF F arv ar) (hbc : BindC F bs bl) (hb : BOk ar bl) {sb : Nat} {σ : Sbs} {ρ : Int → Nat} {n : Int} {tv : Value} {t : List Int} (ht : IntsF F tv t) {sn : List Bool} (hσ : Sol bl σ) (hρ : Acyc bl ρ) (hn : n < 0) (hnf : lkN bl n = []) (htk : ∀ m ∈ t, m < 0 → ρ m < k9) (htg : ∀ i, i < t.length → -48 ≤ t.getD i 0) (htl : t.length ≤ 60) (hsl : sn.length = 48) (hcl : ClearM σ ρ n k9 sn), Does prog 249 [ptr ub 0, ii (n), tv, ptr sb 0] F (cellsH ub (arv :: bs) 200 :: cellsH sb (bools sn) 241 :: L) (fun v F' L' => ∃ s9 : List Bool, (.bool (decide (n ∈ ap σ t)) : Value) = v ∧ s9.length = 48 ∧ (n ∉ ap σ t → MarkR σ n sn s9) ∧ F = F' ∧ cellsH ub (arv :: bs) 200 :: cellsH sb (bools s9) 241 :: L = L')) {F : FH} {L : List HP} {ub : Nat} {arv : Value} {ar : List Int} {bs : List Value} {bl : RowL} (har : IntsF F arv ar) (hbc : BindC F bs bl) (hb : BOk ar bl) {sb : Nat} {σ : Sbs} {ρ : Int → Nat} {n : Int} {tv : Value} {t : List Int} (ht : IntsF F tv t) {sn : List Bool} (hσ : Sol bl σ) (hρ : Acyc bl ρ) (hn : n < 0) (hnf : lkN bl n = []) (htk : ∀ m ∈ t, m < 0 → ρ m < k) (htg : ∀ i, i < t.length → -48 ≤ t.getD i 0) (htl : t.length ≤ 60) (hsl : sn.length = 48) (hcl : ClearM σ ρ n k sn) :
    Does prog 249 [ptr ub 0, ii (n), tv, ptr sb 0] F (cellsH ub (arv :: bs) 200 :: cellsH sb (bools sn) 241 :: L) (fun v F' L' => ∃ s9 : List Bool, (.bool (decide (n ∈ ap σ t)) : Value) = v ∧ s9.length = 48 ∧ (n ∉ ap σ t → MarkR σ n sn s9) ∧ F = F' ∧ cellsH ub (arv :: bs) 200 :: cellsH sb (bools s9) 241 :: L = L') := by
 refine qM func249 rfl rfl rfl ?_
 have hbl := hb.len
 refine qc (qa (qh (.bool (false)) rfl (qb (qc (qc (qa (qf (tv) rfl (cX (qO qd rfl ht.slv (qf (ii (0)) rfl (qb (qQ (js (α := Nat × List Bool) (fun xQ => [(0, ptr ub 0), (1, ii (n)), (3, ptr sb 0), (12, tv), (13, ii ((t.length : Int))), (14, ii (((xQ.1 : Nat) : Int)))]) (fun xQ => cellsH ub (arv :: bs) 200 :: cellsH sb (bools xQ.2) 241 :: L) (fun xQ F' => F = F' ∧ (xQ.1 ≤ t.length) ∧ (xQ.2.length = 48) ∧ (MarkR σ n sn xQ.2) ∧ (∀ i, i < xQ.1 → n ∉ σ (t.getD i 0))) (fun xQ => t.length - xQ.1) (0, sn) ⟨rfl, rfl, rfl, rfl, rfl, rfl, ⟨⟩⟩ (sC (sC sR)) ⟨rfl, (by (try dsimp only) <;> omega), (hsl), (MarkR.refl), (fun i hi => absurd hi (by omega))⟩ ?_)))))))))))))
 rintro ⟨j, sm⟩ rE _ _ ⟨rfl, hj, hml, hmr, hno⟩
 show X _ _ _ _ (envs [(0, ptr ub 0), (1, ii (n)), (3, ptr sb 0), (12, tv), (13, ii ((t.length : Int))), (14, ii ((j : Int)))] rE) _ (cellsH ub (arv :: bs) 200 :: cellsH sb (bools sm) 241 :: L)
 dsimp only at hj hml hmr hno
 have hgj := fun h : j < t.length => htg j h
 refine qc (qa (cX (qZ rfl rfl (qb (qc ?_)))))
 refine qF (p := (j : Int) < (t.length : Int)) rfl (fun h1 => ?_) (fun h1 => ?_)
 ·refine qv (qc (qQ (qc (qa (cX (qB j qd qy rfl rfl rfl ht.slv (by omega) (Nat.mul_one _) (cX (qn qV rfl (ht.rd (by omega)) (qh (ii (t.getD j 0)) rfl (qb (qc (qc (qa (qf (ii (t.getD j 0)) rfl (qf (ii (n)) rfl (cX (jt rfl rfl (qb ?_))))))))))))))))))
  refine qF (p := (t.getD j 0 : Int) = n) rfl (fun h2 => ?_) (fun h2 => ?_)
  ·refine qc (qa (qh (.bool (true)) rfl (qb (qx (qi (qs (qi (qi (qs (qi (qp (L' := cellsH ub (arv :: bs) 200 :: cellsH sb (bools sm) 241 :: L) [.bool (true)] (.bool (true)) (.tmp rfl .nil) rfl rF rF (sC (sC sR)) ?_)))))))))))
   have hnt : decide (n ∈ ap σ t) = true := decide_eq_true (occ_here (j := j) hnf hσ (by omega) (by assumption))
   exact ⟨_, congrArg Value.bool hnt, hml, fun h9 => absurd (of_decide_eq_true hnt) h9, rfl, rfl⟩
  have hne : t.getD j 0 ≠ n := h2
  refine qv (qc (qc (qa (qf (ii (t.getD j 0)) rfl (cX (ju rfl rfl (qf (.bool (decide ((t.getD j 0 : Int) ≥ 0))) rfl ?_)))))))
  by_cases h3 : (t.getD j 0 : Int) ≥ 0
  ·have hnx : n ∉ σ (t.getD j 0) := sym_no hσ hn (by omega)
   have hmk := hmr
   refine qu (t := 23) rfl (vT h3) (qu (t := 23) rfl (vT h3) (qu (t := 23) rfl (vT h3) (qu (t := 23) rfl (vT h3) (qu (t := 23) rfl (vT h3) (qu (t := 23) rfl (vT h3) (cX (qX (.bool (true)) (vT h3) rfl (qb (jK rfl (jl (qE (qS ?_))))))))))))
   refine qa (cX (qT (((j + 1 : Nat) : Int)) rfl rfl (by omega) (by omega) (qf (ii (((j + 1 : Nat) : Int))) rfl (qb ?_))))
   exact ⟨(j + 1, sm), _, FLe.refl _, rF, ⟨rfl, rfl, rfl, rfl, rfl, rfl, ⟨⟩⟩, (sC (sC sR)), ⟨rfl, (by (try dsimp only) <;> omega), (hml), (hmk), (fun i hi => (Nat.lt_or_ge i j).elim (fun h => hno i h) (fun h => by obtain rfl : i = j := (by omega); exact hnx))⟩, (by omega)⟩
  have hj0 : t.getD j 0 < 0 := by omega
  have hgj2 := hgj (by omega)
  have hrj := htk _ (mem_of_getD (k := j) (by omega) rfl) hj0
  refine qq (t := 23) rfl (vF h3) (qk (ptr sb 0) rfl (qq (t := 23) rfl (vF h3) (qk (ii (t.getD j 0)) rfl (qq (t := 23) rfl (vF h3) (qW ((-1) - (t.getD j 0)) rfl rfl (by omega) (by omega) (qq (t := 23) rfl (vF h3) (jb rfl (qq (t := 23) rfl (vF h3) (jI (i := (-1) - (t.getD j 0)) (((-1) - (t.getD j 0)).toNat) (((-1) - (t.getD j 0)).toNat) runUnderlying241 sizeOf4 rfl rfl (by omega) (by omega) (by omega) (qq (t := 23) rfl (vF h3) (qn isAgg4 rfl (Rd.own [_] rfl (bools_get (by rw [hml]; omega))) (cX (qR (.bool (sm.getD (((-1) - (t.getD j 0)).toNat) false)) (vF h3) rfl (qb ?_))))))))))))))
  refine jk (t := sm.getD (((-1) - (t.getD j 0)).toNat) false) rfl (fun h4 => ?_) (fun h4 => ?_)
  ·have hnx : n ∉ σ (t.getD j 0) := hcl.seen hmr hj0 h4 hrj
   have hmk := hmr
   refine jl (qE (qS (qa (cX (qT (((j + 1 : Nat) : Int)) rfl rfl (by omega) (by omega) (qf (ii (((j + 1 : Nat) : Int))) rfl (qb ?_)))))))
   exact ⟨(j + 1, sm), _, FLe.refl _, rF, ⟨rfl, rfl, rfl, rfl, rfl, rfl, ⟨⟩⟩, (sC (sC sR)), ⟨rfl, (by (try dsimp only) <;> omega), (hml), (hmk), (fun i hi => (Nat.lt_or_ge i j).elim (fun h => hno i h) (fun h => by obtain rfl : i = j := (by omega); exact hnx))⟩, (by omega)⟩
  have hun := h4
  refine qv (qc (qa (qf (ptr sb 0) rfl (qf (ii (t.getD j 0)) rfl (cX (qW ((-1) - (t.getD j 0)) rfl rfl (by omega) (by omega) (cX (jb rfl (cX (jI (i := (-1) - (t.getD j 0)) (((-1) - (t.getD j 0)).toNat) (((-1) - (t.getD j 0)).toNat) runUnderlying241 sizeOf4 rfl rfl (by omega) (by omega) (by omega) (cX (jq [_] _ (bools (sm.set (((-1) - (t.getD j 0)).toNat) true)) sizeOf4 rfl rfl rfl rfl (bools_blt (by rw [hml]; omega)) bools_set ?_))))))))))))
  have hl1 : (sm.set (((-1) - (t.getD j 0)).toNat) true).length = 48 := by rw [List.length_set]; exact hml
  refine qb (qc (qa (qf (ptr ub 0) rfl (qf (ii (t.getD j 0)) rfl (cX (qW ((-1) - (t.getD j 0)) rfl rfl (by omega) (by omega) (cX (jb rfl (cX (qA (1) jr rfl sizeOf198 (by decide) rfl rfl (cX (jI (i := (-1) - (t.getD j 0)) (((-1) - (t.getD j 0)).toNat) (1 + (((-1) - (t.getD j 0)).toNat)) jA qN rfl rfl (by omega) (by omega) (by omega) ?_))))))))))))
  obtain ⟨a1, ha1, hn1, he1⟩ := hbc.get (i := ((-1) - (t.getD j 0)).toNat) (by omega)
  refine cX (qn jn rfl (Rd.own [] rfl (get_1 he1)) (qh (a1) rfl (qb (qc (qa (qf (a1) rfl (cX (XOp.neNil qd rfl rfl (jc ha1) (qf (.bool (!isNil a1)) rfl ?_)))))))))
  by_cases h5 : (!isNil a1) = true
  ·have hbn := ne_of_notNil hn1 h5
   have hnb : isNil a1 = false := by rw [hn1]; exact decide_eq_false hbn
   have hlj : lkN bl (t.getD j 0) ≠ [] := by rw [lkN_get hj0]; exact hbn
   have hwj := hb.wt _ hj0 hlj
   rw [lkN_get hj0] at hwj
   refine qq (t := 45) rfl (vB h5) (qk (ptr ub 0) rfl (qq (t := 45) rfl (vB h5) (qk (ii (n)) rfl (qq (t := 45) rfl (vB h5) (qk (a1) rfl (qq (t := 45) rfl (vB h5) (qk (ptr sb 0) rfl (jG (jy (A := [_])) ?_))))))))
   show XL _ _ _ _ _ _ _ (cellsH sb (bools ((sm.set (((-1) - (t.getD j 0)).toNat) true))) 241 :: cellsH ub (arv :: bs) 200 :: L)
   refine jG (jy (A := [_])) ?_
   show XL _ _ _ _ _ _ _ (cellsH ub (arv :: bs) 200 :: cellsH sb (bools ((sm.set (((-1) - (t.getD j 0)).toNat) true))) 241 :: L)
   refine qq (t := 45) rfl (vB h5) (ql (args := [ptr ub 0, ii (n), a1, ptr sb 0]) call249 rfl (ih _ hrj har hbc (by assumption) ha1 hσ hρ hn hnf (fun m hm h0 => by have := hρ _ hj0 m (by rw [lkN_get hj0]; exact hm) h0; exact this) (fun i hi => hwj.geD hi) hwj.len.2 hl1 (hcl.down hmr hml hj0 hgj2 hrj)) ?_)
   rintro _ _ _ _ ⟨s1, rfl, hs1, hm1, rfl, rfl⟩
   refine cX (qX (.bool (decide (n ∈ ap σ ((bl.getD (((-1) - (t.getD j 0)).toNat) []))))) (vB h5) rfl (qb ?_))
   refine qF (p := n ∈ ap σ ((bl.getD (((-1) - (t.getD j 0)).toNat) []))) rfl (fun h6 => ?_) (fun h6 => ?_)
   ·have hoc := h6
    refine qc (qa (qh (.bool (true)) rfl (qb (qx (qs (qi (qi (qs (qi (qp (L' := cellsH ub (arv :: bs) 200 :: cellsH sb (bools s1) 241 :: L) [.bool (true)] (.bool (true)) (.tmp rfl .nil) rfl rF rF (sC (sC sR)) ?_))))))))))
    have hnt : decide (n ∈ ap σ t) = true := decide_eq_true (occ_in (j := j) hσ (by omega) rfl hlj (by rw [lkN_get hj0]; exact hoc))
    exact ⟨_, congrArg Value.bool hnt, hs1, fun h9 => absurd (of_decide_eq_true hnt) h9, rfl, rfl⟩
   have hnx : n ∉ σ (t.getD j 0) := bound_no hσ hlj (by rw [lkN_get hj0]; exact h6)
   have hmk := hmr.step hml hj0 hgj2 (hm1 h6) hnx
   refine qv (qa (cX (qT (((j + 1 : Nat) : Int)) rfl rfl (by omega) (by omega) (qf (ii (((j + 1 : Nat) : Int))) rfl (qb ?_)))))
   exact ⟨(j + 1, s1), _, FLe.refl _, rF, ⟨rfl, rfl, rfl, rfl, rfl, rfl, ⟨⟩⟩, (sC (sC sR)), ⟨rfl, (by (try dsimp only) <;> omega), (hs1), (hmk), (fun i hi => (Nat.lt_or_ge i j).elim (fun h => hno i h) (fun h => by obtain rfl : i = j := (by omega); exact hnx))⟩, (by omega)⟩
  rw [Bool.not_eq_true] at h5
  have hbe := eq_of_isNil hn1 h5
  have hnx : n ∉ σ (t.getD j 0) := free_no hσ hne (by rw [lkN_get hj0]; exact hbe)
  have hmk := hmr.set hml hj0 hgj2 hnx
  refine qu (t := 45) rfl (vB h5) (qu (t := 45) rfl (vB h5) (qu (t := 45) rfl (vB h5) (qu (t := 45) rfl (vB h5) (qu (t := 45) rfl (vB h5) (cX (qR (.bool (false)) (vB h5) rfl (qb (jx rfl (qv (qa (cX (qT (((j + 1 : Nat) : Int)) rfl rfl (by omega) (by omega) ?_))))))))))))
  refine qf (ii (((j + 1 : Nat) : Int))) rfl (qb ?_)
  exact ⟨(j + 1, (sm.set (((-1) - (t.getD j 0)).toNat) true)), _, FLe.refl _, rF, ⟨rfl, rfl, rfl, rfl, rfl, rfl, ⟨⟩⟩, (sC (sC sR)), ⟨rfl, (by (try dsimp only) <;> omega), (hl1), (hmk), (fun i hi => (Nat.lt_or_ge i j).elim (fun h => hno i h) (fun h => by obtain rfl : i = j := (by omega); exact hnx))⟩, (by omega)⟩
 refine jl (qE (qE (qS (qc (qa (qh (.bool (false)) rfl (qb (qx (qp (L' := cellsH ub (arv :: bs) 200 :: cellsH sb (bools sm) 241 :: L) [.bool (false)] (.bool (false)) (.tmp rfl .nil) rfl rF rF (sC (sC sR)) ?_)))))))))
 have hnt : n ∉ ap σ t := occ_not (fun i hi => hno i (by omega))
 exact ⟨_, congrArg Value.bool (decide_eq_false hnt), hml, fun _ => hmr, rfl, rfl⟩

theorem occurs_spec (k : Nat) : ∀ {F : FH} {L : List HP} {ub : Nat} {arv : Value} {ar : List Int} {bs : List Value} {bl : RowL} (har : IntsF F arv ar) (hbc : BindC F bs bl) (hb : BOk ar bl) {sb : Nat} {σ : Sbs} {ρ : Int → Nat} {n : Int} {tv : Value} {t : List Int} (ht : IntsF F tv t) {sn : List Bool} (hσ : Sol bl σ) (hρ : Acyc bl ρ) (hn : n < 0) (hnf : lkN bl n = []) (htk : ∀ m ∈ t, m < 0 → ρ m < k) (htg : ∀ i, i < t.length → -48 ≤ t.getD i 0) (htl : t.length ≤ 60) (hsl : sn.length = 48) (hcl : ClearM σ ρ n k sn), Does prog 249 [ptr ub 0, ii (n), tv, ptr sb 0] F (cellsH ub (arv :: bs) 200 :: cellsH sb (bools sn) 241 :: L) (fun v F' L' => ∃ s9 : List Bool, (.bool (decide (n ∈ ap σ t)) : Value) = v ∧ s9.length = 48 ∧ (n ∉ ap σ t → MarkR σ n sn s9) ∧ F = F' ∧ cellsH ub (arv :: bs) 200 :: cellsH sb (bools s9) 241 :: L = L') := by
  induction k using Nat.strongRecOn with
  | _ k ih =>
    intros
    exact occurs_step ih (by assumption) (by assumption) (by assumption) (by assumption) (by assumption) (by assumption) (by assumption) (by assumption) (by assumption) (by assumption) (by assumption) (by assumption) (by assumption)


/- (*impl.unifier).equate -/
set_option maxHeartbeats 2000000 in
set_option maxRecDepth 20000 in
theorem equate_step {k N : Nat} (ih : ∀ (k1 N1 : Nat), (k1 < k ∨ k1 = k ∧ N1 < N) → ∀ {F : FH} {L : List HP} {ub : Nat} {arv : Value} {ar : List Int} {bs : List Value} {bl : RowL} (har : IntsF F arv ar) (hbc : BindC F bs bl) (hb : BOk ar bl) {σ : Sbs} {av : Value} {a : List Int} (ha : IntsF F av a) {cv : Value} {c : List Int} (hc : IntsF F cv c) (hσ : Sol bl σ) (hoa : TermW ar a) (hoc : TermW ar c) (hna : isNil av = false) (hnc : isNil cv = false) (hk : unb bl ≤ k1) (hN : (ap σ a).length ≤ N1), DoesP prog 237 [ptr ub 0, av, cv] F (cellsH ub (arv :: bs) 200 :: L) (fun v F' L' => ∃ (b9 : List Value) (l9 : RowL), (.tuple #[] : Value) = v ∧ BindC F' b9 l9 ∧ Solves ar bl l9 (fun θ => ap θ a = ap θ c) ∧ cellsH ub (arv :: b9) 200 :: L = L') (fun ch F' L' => ∃ (b9 : List Value) (l9 : RowL), ch = [{ v := .iface 230 (.agg #[]), recovered := false }] ∧ BindC F' b9 l9 ∧ (∀ θ, GoodS ar θ → SatB bl θ → ap θ a ≠ ap θ c) ∧ cellsH ub (arv :: b9) 200 :: L = L')) {F : FH} {L : List HP} {ub : Nat} {arv : Value} {ar : List Int} {bs : List Value} {bl : RowL} (har : IntsF F arv ar) (hbc : BindC F bs bl) (hb : BOk ar bl) {σ : Sbs} {av : Value} {a : List Int} (ha : IntsF F av a) {cv : Value} {c : List Int} (hc : IntsF F cv c) (hσ : Sol bl σ) (hoa : TermW ar a) (hoc : TermW ar c) (hna : isNil av = false) (hnc : isNil cv = false) (hk : unb bl ≤ k) (hN : (ap σ a).length ≤ N) :
    DoesP prog 237 [ptr ub 0, av, cv] F (cellsH ub (arv :: bs) 200 :: L) (fun v F' L' => ∃ (b9 : List Value) (l9 : RowL), (.tuple #[] : Value) = v ∧ BindC F' b9 l9 ∧ Solves ar bl l9 (fun θ => ap θ a = ap θ c) ∧ cellsH ub (arv :: b9) 200 :: L = L') (fun ch F' L' => ∃ (b9 : List Value) (l9 : RowL), ch = [{ v := .iface 230 (.agg #[]), recovered := false }] ∧ BindC F' b9 l9 ∧ (∀ θ, GoodS ar θ → SatB bl θ → ap θ a ≠ ap θ c) ∧ cellsH ub (arv :: b9) 200 :: L = L') := by
 refine DoesP.of_X func237 rfl rfl rfl (qc (qa (qf (ptr ub 0) rfl (qf (av) rfl (cX (ql (args := [ptr ub 0, av]) call248 rfl (root_spec har hbc (by assumption) ha (ho := by assumption) (hnn := by assumption)) ?_))))))
 rintro v1 _ _ _ ⟨u1, hv1, hn1, hru1, rfl, rfl⟩
 refine qf (ptr ub 0) rfl (qf (cv) rfl (cX (ql (args := [ptr ub 0, cv]) call248 rfl (root_spec har hbc (by assumption) hc (ho := by assumption) (hnn := by assumption)) ?_)))
 rintro v2 _ _ _ ⟨u2, hv2, hn2, hru2, rfl, rfl⟩
 refine qh (v1) rfl (qh (v2) rfl ?_)
 have hl1 := hru1.w.len
 have hl2 := hru2.w.len
 refine qb (qc (qc ?_))
 refine jz [cellsH ub (arv :: bs) 200] L 6 [] [[], [0], [1], [], [3], [4]] (phiL [qe v1, qe (.pointer (some (elemA v1 (0)))), qe (ii (u1.getD 0 0)), qe v2, qe (.pointer (some (elemA v2 (0)))), qe (ii (u2.getD 0 0))]) (ownL []) mixed rfl rfl (by kernel_rfl) ?_ ?_
 ·refine pD (fun W R z9 => ?_) ?_
  ·refine qj (qk (v1) rfl ?_)
   exact ⟨rfl, rfl, rfl⟩
  refine pD (fun W R z9 => ?_) ?_
  ·rw [eS (l := [(0, _)]) ⟨z9 0 rfl, ⟨⟩⟩]
   refine qj (qB 0 qd qy rfl rfl rfl hv1.slv (by omega) (Nat.mul_one _) ?_)
   exact ⟨rfl, rfl, rfl⟩
  refine pD (fun W R z9 => ?_) ?_
  ·rw [eS (l := [(1, _)]) ⟨z9 1 rfl, ⟨⟩⟩]
   refine qj (qn qV rfl (hv1.rd (by omega)) ?_)
   exact ⟨rfl, rfl, rfl⟩
  refine pD (fun W R z9 => ?_) ?_
  ·refine qj (qk (v2) rfl ?_)
   exact ⟨rfl, rfl, rfl⟩
  refine pD (fun W R z9 => ?_) ?_
  ·rw [eS (l := [(3, _)]) ⟨z9 3 rfl, ⟨⟩⟩]
   refine qj (qB 0 qd qy rfl rfl rfl hv2.slv (by omega) (Nat.mul_one _) ?_)
   exact ⟨rfl, rfl, rfl⟩
  refine pD (fun W R z9 => ?_) ?_
  ·rw [eS (l := [(4, _)]) ⟨z9 4 rfl, ⟨⟩⟩]
   refine qj (qn qV rfl (hv2.rd (by omega)) ?_)
   exact ⟨rfl, rfl, rfl⟩
  exact stepsP.nil
 intro W hphi
 rw [eS (l := [(2, _), (5, _)]) ⟨(hphi 2 (by decide)), (hphi 5 (by decide)), ⟨⟩⟩]
 show XL _ _ _ _ _ _ _ (cellsH ub (arv :: bs) 200 :: L)
 refine cX (jt rfl rfl (qf (.bool (decide ((u1.getD 0 0 : Int) = u2.getD 0 0))) rfl ?_))
 by_cases h1 : (u1.getD 0 0 : Int) = u2.getD 0 0
 ·refine qq (t := 22) rfl (vT h1) (qk (v1) rfl (qq (t := 22) rfl (vT h1) (qB 0 qd qy rfl rfl rfl hv1.slv (by omega) (Nat.mul_one _) (qq (t := 22) rfl (vT h1) (qn qV rfl (hv1.rd (by omega)) (qq (t := 22) rfl (vT h1) (qZ rfl rfl (cX (qX (.bool (decide ((u1.getD 0 0 : Int) < 0))) (vT h1) rfl (qb ?_))))))))))
  refine qF (p := (u1.getD 0 0 : Int) < 0) rfl (fun h2 => ?_) (fun h2 => ?_)
  ·refine qx (qi (retEndP (L' := cellsH ub (arv :: bs) 200 :: L) [] (.tuple #[]) (by exact .nil) rfl rF rF (sC sR) ?_))
   exact ⟨_, _, rfl, hbc, same_eq hb hru1 hru2 (by omega) (by omega), rfl⟩
  refine qv (qc (qc ?_))
  by_cases h3 : (u2.getD 0 0 : Int) < 0
  ·exfalso
   omega
  refine jz [cellsH ub (arv :: bs) 200] L 16 [] [[], [0], [1], [2], [3], [4], [4, 5], [4, 6], [4, 7], [4, 8], [9], [9, 10], [9, 11], [9], [9, 13], [9, 14]] (phiL [qe v2, qe (.pointer (some (elemA v2 (0)))), qe (ii (u2.getD 0 0)), qe (.bool (decide ((u2.getD 0 0 : Int) < 0)) : Value), qe (.bool (decide ((u2.getD 0 0 : Int) < 0)) : Value), qe undef, qe undef, qe undef, qe undef, qe undef, qe undef, qe undef, qe undef, qe undef, qe undef, qe undef]) (ownL []) mixed rfl rfl (by kernel_rfl) ?_ ?_
  ·refine pD (fun W R z9 => ?_) ?_
   ·refine qj (qk (v2) rfl ?_)
    exact ⟨rfl, rfl, rfl⟩
   refine pD (fun W R z9 => ?_) ?_
   ·rw [eS (l := [(0, _)]) ⟨z9 0 rfl, ⟨⟩⟩]
    refine qj (qB 0 qd qy rfl rfl rfl hv2.slv (by omega) (Nat.mul_one _) ?_)
    exact ⟨rfl, rfl, rfl⟩
   refine pD (fun W R z9 => ?_) ?_
   ·rw [eS (l := [(1, _)]) ⟨z9 1 rfl, ⟨⟩⟩]
    refine qj (qn qV rfl (hv2.rd (by omega)) ?_)
    exact ⟨rfl, rfl, rfl⟩
   refine pD (fun W R z9 => ?_) ?_
   ·rw [eS (l := [(2, _)]) ⟨z9 2 rfl, ⟨⟩⟩]
    refine qj (qZ rfl rfl ?_)
    exact ⟨rfl, rfl, rfl⟩
   refine pD (fun W R z9 => ?_) ?_
   ·rw [eS (l := [(3, _)]) ⟨z9 3 rfl, ⟨⟩⟩]
    refine qj (qk (.bool (decide ((u2.getD 0 0 : Int) < 0))) rfl ?_)
    exact ⟨rfl, rfl, rfl⟩
   refine pD (fun W R z9 => ?_) ?_
   ·rw [eS (l := [(4, _)]) ⟨z9 4 rfl, ⟨⟩⟩]
    exact jm (t := 32) rfl (vF h3) ⟨rfl, rfl, rfl⟩
   refine pD (fun W R z9 => ?_) ?_
   ·rw [eS (l := [(4, _), (5, undef)]) ⟨z9 4 rfl, z9 5 rfl, ⟨⟩⟩]
    exact jm (t := 32) rfl (vF h3) ⟨rfl, rfl, rfl⟩
   refine pD (fun W R z9 => ?_) ?_
   ·rw [eS (l := [(4, _), (6, undef)]) ⟨z9 4 rfl, z9 6 rfl, ⟨⟩⟩]
    exact jm (t := 32) rfl (vF h3) ⟨rfl, rfl, rfl⟩
   refine pD (fun W R z9 => ?_) ?_
   ·rw [eS (l := [(4, _), (7, undef)]) ⟨z9 4 rfl, z9 7 rfl, ⟨⟩⟩]
    exact jm (t := 32) rfl (vF h3) ⟨rfl, rfl, rfl⟩
   refine pD (fun W R z9 => ?_) ?_
   ·rw [eS (l := [(4, _), (8, undef)]) ⟨z9 4 rfl, z9 8 rfl, ⟨⟩⟩]
    exact jm (t := 32) rfl (vF h3) ⟨rfl, rfl, rfl⟩
   refine pD (fun W R z9 => ?_) ?_
   ·rw [eS (l := [(9, undef)]) ⟨z9 9 rfl, ⟨⟩⟩]
    exact XG.noU (t := 37) rfl rfl ⟨rfl, rfl, rfl⟩
   refine pD (fun W R z9 => ?_) ?_
   ·rw [eS (l := [(9, undef), (10, undef)]) ⟨z9 9 rfl, z9 10 rfl, ⟨⟩⟩]
    exact XG.noU (t := 37) rfl rfl ⟨rfl, rfl, rfl⟩
   refine pD (fun W R z9 => ?_) ?_
   ·rw [eS (l := [(9, undef), (11, undef)]) ⟨z9 9 rfl, z9 11 rfl, ⟨⟩⟩]
    exact XG.noU (t := 37) rfl rfl ⟨rfl, rfl, rfl⟩
   refine pD (fun W R z9 => ?_) ?_
   ·rw [eS (l := [(9, undef)]) ⟨z9 9 rfl, ⟨⟩⟩]
    exact XG.noU (t := 37) rfl rfl ⟨rfl, rfl, rfl⟩
   refine pD (fun W R z9 => ?_) ?_
   ·rw [eS (l := [(9, undef), (13, undef)]) ⟨z9 9 rfl, z9 13 rfl, ⟨⟩⟩]
    exact XG.noU (t := 37) rfl rfl ⟨rfl, rfl, rfl⟩
   refine pD (fun W R z9 => ?_) ?_
   ·rw [eS (l := [(9, undef), (14, undef)]) ⟨z9 9 rfl, z9 14 rfl, ⟨⟩⟩]
    exact XG.noU (t := 37) rfl rfl ⟨rfl, rfl, rfl⟩
   exact stepsP.nil
  intro W hphi
  rw [eS (l := [(4, _), (9, undef), (12, undef), (15, undef)]) ⟨(hphi 4 (by decide)), (hphi 9 (by decide)), (hphi 12 (by decide)), (hphi 15 (by decide)), ⟨⟩⟩]
  show XL _ _ _ _ _ _ _ (cellsH ub (arv :: bs) 200 :: L)
  refine XL.noU (t := 37) rfl rfl (qu (t := 32) rfl (vF h3) (cX (qR (.bool (false)) (vF h3) rfl (qb (jx rfl (qv (qc (qc (qa ?_)))))))))
  have hrx := hru1
  have hry := hru2
  have hnx := hn1
  have hny := hn2
  have hwx := hrx.w
  have hwy := hry.w
  have hxl := hrx.w.len
  have hyl := hry.w.len
  have hxg := hrx.w.geD (p := 0) (by omega)
  have hyg := hry.w.geD (p := 0) (by omega)
  have hbl := hb.len
  skip
  refine qf (v1) rfl (cX (qB 0 qd qy rfl rfl rfl hv1.slv (by omega) (Nat.mul_one _) (cX (qn qV rfl (hv1.rd (by omega)) (cX (qZ rfl rfl (qb (jx (vF h2) (qv (qc (qc ?_)))))))))))
  refine jz [cellsH ub (arv :: bs) 200] L 6 [] [[], [0], [1], [], [3], [4]] (phiL [qe v1, qe (.pointer (some (elemA v1 (0)))), qe (ii (u1.getD 0 0)), qe v2, qe (.pointer (some (elemA v2 (0)))), qe (ii (u2.getD 0 0))]) (ownL []) mixed rfl rfl (by kernel_rfl) ?_ ?_
  ·refine pD (fun W R z9 => ?_) ?_
   ·refine qj (qk (v1) rfl ?_)
    exact ⟨rfl, rfl, rfl⟩
   refine pD (fun W R z9 => ?_) ?_
   ·rw [eS (l := [(0, _)]) ⟨z9 0 rfl, ⟨⟩⟩]
    refine qj (qB 0 qd qy rfl rfl rfl hv1.slv (by omega) (Nat.mul_one _) ?_)
    exact ⟨rfl, rfl, rfl⟩
   refine pD (fun W R z9 => ?_) ?_
   ·rw [eS (l := [(1, _)]) ⟨z9 1 rfl, ⟨⟩⟩]
    refine qj (qn qV rfl (hv1.rd (by omega)) ?_)
    exact ⟨rfl, rfl, rfl⟩
   refine pD (fun W R z9 => ?_) ?_
   ·refine qj (qk (v2) rfl ?_)
    exact ⟨rfl, rfl, rfl⟩
   refine pD (fun W R z9 => ?_) ?_
   ·rw [eS (l := [(3, _)]) ⟨z9 3 rfl, ⟨⟩⟩]
    refine qj (qB 0 qd qy rfl rfl rfl hv2.slv (by omega) (Nat.mul_one _) ?_)
    exact ⟨rfl, rfl, rfl⟩
   refine pD (fun W R z9 => ?_) ?_
   ·rw [eS (l := [(4, _)]) ⟨z9 4 rfl, ⟨⟩⟩]
    refine qj (qn qV rfl (hv2.rd (by omega)) ?_)
    exact ⟨rfl, rfl, rfl⟩
   exact stepsP.nil
  intro W hphi
  rw [eS (l := [(2, _), (5, _)]) ⟨(hphi 2 (by decide)), (hphi 5 (by decide)), ⟨⟩⟩]
  show XL _ _ _ _ _ _ _ (cellsH ub (arv :: bs) 200 :: L)
  refine cX (XOp.neq rfl rfl (qb ?_))
  refine qF (p := (u1.getD 0 0 : Int) ≠ u2.getD 0 0) rfl (fun h4 => ?_) (fun h4 => ?_)
  ·refine qa ?_
   skip
   refine cX (qY [] [] [] [] jE zeroValue230 rfl PlacesAre.nil rfl CellsAre.nil (cX (XOp.iface jE rfl (jG ((sC sR)) (XL.panicI rfl ?_)))))
   exact .inr ⟨_, rfl, _, _, rfl, hbc, (heads_ne hrx hry (by omega) (by omega) (by omega)), rfl⟩
  have hhd : u1.getD 0 0 = u2.getD 0 0 := by omega
  refine qv (qc ?_)
  refine X.drawG [cellsH ub (arv :: bs) 200] L 11 [] [[], [0], [1], [2], [], [3, 4], [], [6], [7], [8]] [] (phiG [pe (ptr ub 0), pe (ptr ub 0), pe (ptr ub 0), pe (.agg #[arv]), pe v1, fun FF us v => ((v) : Value) = v ∧ (IntsF FF (v) (argsL ar u1 0)), pe (ptr ub 0), pe (ptr ub 0), pe (ptr ub 0), pe (.agg #[arv]), pe v2]) (ownL []) mixed rfl rfl (by kernel_rfl) (by kernel_rfl) (MonoG.get (m1 (m1 (m1 (m1 (m1 (mC (fun le h => ⟨h.1, h.2.mono le⟩) (m1 (m1 (m1 (m1 (m1 MonoG.nil)))))))))))) ?_ ?_
  ·refine gD (fun W Fs R lF z9 => ?_) ?_
   ·refine qj (qk (ptr ub 0) rfl ?_)
    exact ⟨rfl, rfl⟩
   refine gD (fun W Fs R lF z9 => ?_) ?_
   ·replace har := har.mono lF
    replace hbc := hbc.mono lF
    replace hv1 := hv1.mono lF
    replace hv2 := hv2.mono lF
    rw [eS (l := [(0, _)]) ⟨z9 0 rfl, ⟨⟩⟩]
    refine qj (jb rfl ?_)
    exact ⟨rfl, rfl⟩
   refine gD (fun W Fs R lF z9 => ?_) ?_
   ·rw [eS (l := [(1, _)]) ⟨z9 1 rfl, ⟨⟩⟩]
    refine qj (qA (0) jr rfl qz (by decide) rfl rfl ?_)
    exact ⟨rfl, rfl⟩
   refine gD (fun W Fs R lF z9 => ?_) ?_
   ·replace har := har.mono lF
    replace hbc := hbc.mono lF
    replace hv1 := hv1.mono lF
    replace hv2 := hv2.mono lF
    rw [eS (l := [(2, _)]) ⟨z9 2 rfl, ⟨⟩⟩]
    refine qj (qr [arv] qL qz rfl rfl (Rd.ownN [] rfl rfl) ?_)
    exact ⟨rfl, rfl⟩
   refine gD (fun W Fs R lF z9 => ?_) ?_
   ·refine qj (qk (v1) rfl ?_)
    exact ⟨rfl, rfl⟩
   refine gD (fun W Fs R lF z9 => ?_) ?_
   ·replace har := har.mono lF
    replace hbc := hbc.mono lF
    replace hv1 := hv1.mono lF
    replace hv2 := hv2.mono lF
    rw [eS (l := [(3, _), (4, _)]) ⟨z9 3 rfl, z9 4 rfl, ⟨⟩⟩]
    refine qj (jJ <| ql (args := [.agg #[arv], v1, ii ((0 : Nat) : Int)]) call222 rfl (argsAtW_spec (p := 0) har hv1 (ho := (by first | assumption | rfl | omega | simp)) (hp := (by first | assumption | rfl | omega | simp))) ?_)
    rintro v4 _ _ _ ⟨rfl, hs2, rfl⟩
    refine ⟨_, _, rfl, fun F1 le1 hz1 => ?_⟩
    replace har := har.mono le1
    replace hbc := hbc.mono le1
    replace hv1 := hv1.mono le1
    replace hv2 := hv2.mono le1
    have hf1 : IntsF F1 v4 ((argsL ar u1 0)) := intsH.fz (xs := (argsL ar u1 0)) hz1.fz
    exact ⟨⟨rfl, hf1⟩, rfl⟩
   refine gD (fun W Fs R lF z9 => ?_) ?_
   ·refine qj (qk (ptr ub 0) rfl ?_)
    exact ⟨rfl, rfl⟩
   refine gD (fun W Fs R lF z9 => ?_) ?_
   ·replace har := har.mono lF
    replace hbc := hbc.mono lF
    replace hv1 := hv1.mono lF
    replace hv2 := hv2.mono lF
    rw [eS (l := [(6, _)]) ⟨z9 6 rfl, ⟨⟩⟩]
    refine qj (jb rfl ?_)
    exact ⟨rfl, rfl⟩
   refine gD (fun W Fs R lF z9 => ?_) ?_
   ·rw [eS (l := [(7, _)]) ⟨z9 7 rfl, ⟨⟩⟩]
    refine qj (qA (0) jr rfl qz (by decide) rfl rfl ?_)
    exact ⟨rfl, rfl⟩
   refine gD (fun W Fs R lF z9 => ?_) ?_
   ·replace har := har.mono lF
    replace hbc := hbc.mono lF
    replace hv1 := hv1.mono lF
    replace hv2 := hv2.mono lF
    rw [eS (l := [(8, _)]) ⟨z9 8 rfl, ⟨⟩⟩]
    refine qj (qr [arv] qL qz rfl rfl (Rd.ownN [] rfl rfl) ?_)
    exact ⟨rfl, rfl⟩
   refine gD (fun W Fs R lF z9 => ?_) ?_
   ·refine qj (qk (v2) rfl ?_)
    exact ⟨rfl, rfl⟩
   exact stepsG.nil
  intro W F2 le2 hphi
  obtain ⟨e5, f5_5ha⟩ := hphi 5 (by decide)
  generalize hu1 : ((W 5)) = u3 at e5 f5_5ha
  rw [eS (l := [(5, u3), (9, _), (10, _)]) ⟨hu1, (hphi 9 (by decide)), (hphi 10 (by decide)), ⟨⟩⟩]
  replace har := har.mono le2
  replace hbc := hbc.mono le2
  replace hv1 := hv1.mono le2
  replace hv2 := hv2.mono le2
  show XL _ _ _ _ _ _ _ (cellsH ub (arv :: bs) 200 :: L)
  refine cX (jJ <| ql (args := [.agg #[arv], v2, ii ((0 : Nat) : Int)]) call222 rfl (argsAtW_spec (p := 0) har hv2 (ho := (by first | assumption | rfl | omega | simp)) (hp := (by first | assumption | rfl | omega | simp))) ?_)
  rintro v5 _ _ _ ⟨rfl, hs3, rfl⟩
  refine ⟨_, _, rfl, fun F3 le3 hz2 => ?_⟩
  replace har := har.mono le3
  replace hbc := hbc.mono le3
  replace hv1 := hv1.mono le3
  replace hv2 := hv2.mono le3
  replace f5_5ha := f5_5ha.mono le3
  have hf2 : IntsF F3 v5 ((argsL ar u2 0)) := intsH.fz (xs := (argsL ar u2 0)) hz2.fz
  refine qh (u3) rfl (qh (v5) rfl (qb (qc (qa (qf (u3) rfl (cX (qO runUnderlying128 rfl f5_5ha.slv (qf (ii (0)) rfl (qb (qQ (js (α := Nat × List Value × RowL × FH) (fun xQ => [(0, ptr ub 0), (1, v1), (2, v2), (6, u3), (7, v5), (100, ii (((((argsL ar u1 0)).length : Nat) : Int))), (101, ii (((xQ.1 : Nat) : Int)))]) (fun xQ => cellsH ub (arv :: xQ.2.1) 200 :: L) (fun xQ F' => xQ.2.2.2 = F' ∧ F3 ≤ xQ.2.2.2 ∧ (BindC xQ.2.2.2 xQ.2.1 xQ.2.2.1) ∧ (xQ.1 ≤ (argsL ar u1 0).length) ∧ (Solves ar bl xQ.2.2.1 (EqTo ar u1 u2 xQ.1))) (fun xQ => (argsL ar u1 0).length - xQ.1) (0, bs, bl, F3) ⟨rfl, rfl, rfl, rfl, rfl, rfl, rfl, ⟨⟩⟩ (sC sR) ⟨rfl, FLe.refl _, (hbc), (Nat.zero_le _), (EqTo.start hb)⟩ ?_)))))))))))
  rintro ⟨j, bj, lj, G1⟩ rE _ _ ⟨rfl, leG, hbj, hj, hso⟩
  show X _ _ _ _ (envs [(0, ptr ub 0), (1, v1), (2, v2), (6, u3), (7, v5), (100, ii (((((argsL ar u1 0)).length : Nat) : Int))), (101, ii ((j : Int)))] rE) _ (cellsH ub (arv :: bj) 200 :: L)
  replace leG : F3 ≤ G1 := leG
  dsimp only at hbj hj hso
  have hajx := fun h : j < (argsL ar u1 0).length => hrx.w.args_in (p := 0) (by omega) h
  have hajy := fun h : j < (argsL ar u2 0).length => hry.w.args_in (p := 0) (by omega) h
  have hlax := args_same (ar := ar) hhd
  have hla3 := hrx.w.args_le (p := 0) (by omega)
  have hex0 := hrx.w.end0
  have hey0 := hry.w.end0
  have leG1 := leG
  replace har := har.mono leG1
  replace hbc := hbc.mono leG1
  replace hv1 := hv1.mono leG1
  replace hv2 := hv2.mono leG1
  replace f5_5ha := f5_5ha.mono leG1
  replace hf2 := hf2.mono leG1
  refine qc (qa (cX (qZ rfl rfl (qb (qc ?_)))))
  refine qF (p := (j : Int) < ((((argsL ar u1 0)).length : Nat) : Int)) rfl (fun h5 => ?_) (fun h5 => ?_)
  ·have hjx : j < (argsL ar u1 0).length := by omega
   have hjy : j < (argsL ar u2 0).length := by omega
   obtain ⟨σ1, k1, N1, hσ1, hk1, hN1, hless⟩ := EqTo.less hso hb hσ hrx (by rw [parts_args]; exact hjx) hk hN
   have hpx := parts_W hrx.w hjx
   have hpy := parts_W hry.w hjy
   have hb2 := hso.ok
   rw [parts_get hjx] at hpx hN1
   rw [parts_get hjy] at hpy
   refine qv (qc (qQ (qc (qa (qf (ii ((j : Int))) rfl (qh (ii ((j : Int))) rfl (qb ?_)))))))
   refine X.drawG [cellsH ub (arv :: bj) 200] L 21 [] [[], [], [1], [2], [3], [], [], [], [6, 7], [8], [4, 5, 9], [], [11], [12], [13], [], [], [], [16, 17], [18], [14, 15, 19]] [] (phiG [pe (ptr ub 0), pe (ptr ub 0), pe (ptr ub 0), pe (ptr ub 0), pe (.agg #[arv]), pe v1, pe u3, pe (ii ((j : Int)) : Value), pe (.pointer (some (elemA u3 (j)))), pe (ii (((argsL ar u1 0)).getD j 0)), fun FF us v => ((v) : Value) = v ∧ (IntsF FF (v) (sub ar u1 ((((argsL ar u1 0)).getD j 0).toNat))) ∧ (isNil (v) = false), pe (ptr ub 0), pe (ptr ub 0), pe (ptr ub 0), pe (.agg #[arv]), pe v2, pe v5, pe (ii ((j : Int)) : Value), pe (.pointer (some (elemA v5 (j)))), pe (ii (((argsL ar u2 0)).getD j 0)), fun FF us v => ((v) : Value) = v ∧ (IntsF FF (v) (sub ar u2 ((((argsL ar u2 0)).getD j 0).toNat))) ∧ (isNil (v) = false)]) (ownL []) mixed rfl rfl (by kernel_rfl) (by kernel_rfl) (MonoG.get (m1 (m1 (m1 (m1 (m1 (m1 (m1 (m1 (m1 (m1 (mC (fun le h => ⟨h.1, h.2.1.mono le, h.2.2⟩) (m1 (m1 (m1 (m1 (m1 (m1 (m1 (m1 (m1 (mC (fun le h => ⟨h.1, h.2.1.mono le, h.2.2⟩) MonoG.nil)))))))))))))))))))))) ?_ ?_
   ·refine gD (fun W Fs R lF z9 => ?_) ?_
    ·refine qj (qk (ptr ub 0) rfl ?_)
     exact ⟨rfl, rfl⟩
    refine gD (fun W Fs R lF z9 => ?_) ?_
    ·refine qj (qk (ptr ub 0) rfl ?_)
     exact ⟨rfl, rfl⟩
    refine gD (fun W Fs R lF z9 => ?_) ?_
    ·replace har := har.mono lF
     replace hbc := hbc.mono lF
     replace hv1 := hv1.mono lF
     replace hv2 := hv2.mono lF
     replace f5_5ha := f5_5ha.mono lF
     replace hf2 := hf2.mono lF
     replace hbj := hbj.mono lF
     rw [eS (l := [(1, _)]) ⟨z9 1 rfl, ⟨⟩⟩]
     refine qj (jb rfl ?_)
     exact ⟨rfl, rfl⟩
    refine gD (fun W Fs R lF z9 => ?_) ?_
    ·rw [eS (l := [(2, _)]) ⟨z9 2 rfl, ⟨⟩⟩]
     refine qj (qA (0) jr rfl qz (by decide) rfl rfl ?_)
     exact ⟨rfl, rfl⟩
    refine gD (fun W Fs R lF z9 => ?_) ?_
    ·replace har := har.mono lF
     replace hbc := hbc.mono lF
     replace hv1 := hv1.mono lF
     replace hv2 := hv2.mono lF
     replace f5_5ha := f5_5ha.mono lF
     replace hf2 := hf2.mono lF
     replace hbj := hbj.mono lF
     rw [eS (l := [(3, _)]) ⟨z9 3 rfl, ⟨⟩⟩]
     refine qj (qr [arv] qL qz rfl rfl (Rd.ownN [] rfl rfl) ?_)
     exact ⟨rfl, rfl⟩
    refine gD (fun W Fs R lF z9 => ?_) ?_
    ·refine qj (qk (v1) rfl ?_)
     exact ⟨rfl, rfl⟩
    refine gD (fun W Fs R lF z9 => ?_) ?_
    ·refine qj (qk (u3) rfl ?_)
     exact ⟨rfl, rfl⟩
    refine gD (fun W Fs R lF z9 => ?_) ?_
    ·refine qj (qk (ii ((j : Int))) rfl ?_)
     exact ⟨rfl, rfl⟩
    refine gD (fun W Fs R lF z9 => ?_) ?_
    ·replace har := har.mono lF
     replace hbc := hbc.mono lF
     replace hv1 := hv1.mono lF
     replace hv2 := hv2.mono lF
     replace f5_5ha := f5_5ha.mono lF
     replace hf2 := hf2.mono lF
     replace hbj := hbj.mono lF
     rw [eS (l := [(6, _), (7, _)]) ⟨z9 6 rfl, z9 7 rfl, ⟨⟩⟩]
     refine qj (qB j runUnderlying128 sizeOf3 rfl rfl rfl f5_5ha.slv (by omega) (Nat.mul_one _) ?_)
     exact ⟨rfl, rfl⟩
    refine gD (fun W Fs R lF z9 => ?_) ?_
    ·replace har := har.mono lF
     replace hbc := hbc.mono lF
     replace hv1 := hv1.mono lF
     replace hv2 := hv2.mono lF
     replace f5_5ha := f5_5ha.mono lF
     replace hf2 := hf2.mono lF
     replace hbj := hbj.mono lF
     rw [eS (l := [(8, _)]) ⟨z9 8 rfl, ⟨⟩⟩]
     refine qj (qn isAgg3 rfl (f5_5ha.rd (by omega)) ?_)
     exact ⟨rfl, rfl⟩
    refine gD (fun W Fs R lF z9 => ?_) ?_
    ·replace har := har.mono lF
     replace hbc := hbc.mono lF
     replace hv1 := hv1.mono lF
     replace hv2 := hv2.mono lF
     replace hf2 := hf2.mono lF
     replace hbj := hbj.mono lF
     rw [eS (l := [(4, _), (5, _), (9, _)]) ⟨z9 4 rfl, z9 5 rfl, z9 9 rfl, ⟨⟩⟩]
     refine qj (ql (args := [.agg #[arv], v1, ii (((((argsL ar u1 0)).getD j 0).toNat : Nat) : Int)]) call224 (by rw [show (((((argsL ar u1 0)).getD j 0).toNat : Nat) : Int) = ((argsL ar u1 0)).getD j 0 from by omega]; rfl) (subAtW_spec (p := (((argsL ar u1 0)).getD j 0).toNat) har hv1 (ho := (by first | assumption | rfl | omega | simp)) (hp := (by first | assumption | rfl | omega | simp)) (hnn := (by first | assumption | rfl | omega | simp))) ?_)
     rintro v8 _ _ _ ⟨rfl, rfl, hv5, hn5⟩
     exact ⟨⟨rfl, hv5, hn5⟩, rfl⟩
    refine gD (fun W Fs R lF z9 => ?_) ?_
    ·refine qj (qk (ptr ub 0) rfl ?_)
     exact ⟨rfl, rfl⟩
    refine gD (fun W Fs R lF z9 => ?_) ?_
    ·replace har := har.mono lF
     replace hbc := hbc.mono lF
     replace hv1 := hv1.mono lF
     replace hv2 := hv2.mono lF
     replace hf2 := hf2.mono lF
     replace hbj := hbj.mono lF
     rw [eS (l := [(11, _)]) ⟨z9 11 rfl, ⟨⟩⟩]
     refine qj (jb rfl ?_)
     exact ⟨rfl, rfl⟩
    refine gD (fun W Fs R lF z9 => ?_) ?_
    ·rw [eS (l := [(12, _)]) ⟨z9 12 rfl, ⟨⟩⟩]
     refine qj (qA (0) jr rfl qz (by decide) rfl rfl ?_)
     exact ⟨rfl, rfl⟩
    refine gD (fun W Fs R lF z9 => ?_) ?_
    ·replace har := har.mono lF
     replace hbc := hbc.mono lF
     replace hv1 := hv1.mono lF
     replace hv2 := hv2.mono lF
     replace hf2 := hf2.mono lF
     replace hbj := hbj.mono lF
     rw [eS (l := [(13, _)]) ⟨z9 13 rfl, ⟨⟩⟩]
     refine qj (qr [arv] qL qz rfl rfl (Rd.ownN [] rfl rfl) ?_)
     exact ⟨rfl, rfl⟩
    refine gD (fun W Fs R lF z9 => ?_) ?_
    ·refine qj (qk (v2) rfl ?_)
     exact ⟨rfl, rfl⟩
    refine gD (fun W Fs R lF z9 => ?_) ?_
    ·refine qj (qk (v5) rfl ?_)
     exact ⟨rfl, rfl⟩
    refine gD (fun W Fs R lF z9 => ?_) ?_
    ·refine qj (qk (ii ((j : Int))) rfl ?_)
     exact ⟨rfl, rfl⟩
    refine gD (fun W Fs R lF z9 => ?_) ?_
    ·replace har := har.mono lF
     replace hbc := hbc.mono lF
     replace hv1 := hv1.mono lF
     replace hv2 := hv2.mono lF
     replace hf2 := hf2.mono lF
     replace hbj := hbj.mono lF
     rw [eS (l := [(16, _), (17, _)]) ⟨z9 16 rfl, z9 17 rfl, ⟨⟩⟩]
     refine qj (qB j runUnderlying128 sizeOf3 rfl rfl rfl hf2.slv (by omega) (Nat.mul_one _) ?_)
     exact ⟨rfl, rfl⟩
    refine gD (fun W Fs R lF z9 => ?_) ?_
    ·replace har := har.mono lF
     replace hbc := hbc.mono lF
     replace hv1 := hv1.mono lF
     replace hv2 := hv2.mono lF
     replace hf2 := hf2.mono lF
     replace hbj := hbj.mono lF
     rw [eS (l := [(18, _)]) ⟨z9 18 rfl, ⟨⟩⟩]
     refine qj (qn isAgg3 rfl (hf2.rd (by omega)) ?_)
     exact ⟨rfl, rfl⟩
    refine gD (fun W Fs R lF z9 => ?_) ?_
    ·replace har := har.mono lF
     replace hbc := hbc.mono lF
     replace hv1 := hv1.mono lF
     replace hv2 := hv2.mono lF
     replace hbj := hbj.mono lF
     rw [eS (l := [(14, _), (15, _), (19, _)]) ⟨z9 14 rfl, z9 15 rfl, z9 19 rfl, ⟨⟩⟩]
     refine qj (ql (args := [.agg #[arv], v2, ii (((((argsL ar u2 0)).getD j 0).toNat : Nat) : Int)]) call224 (by rw [show (((((argsL ar u2 0)).getD j 0).toNat : Nat) : Int) = ((argsL ar u2 0)).getD j 0 from by omega]; rfl) (subAtW_spec (p := (((argsL ar u2 0)).getD j 0).toNat) har hv2 (ho := (by first | assumption | rfl | omega | simp)) (hp := (by first | assumption | rfl | omega | simp)) (hnn := (by first | assumption | rfl | omega | simp))) ?_)
     rintro v9 _ _ _ ⟨rfl, rfl, hv6, hn6⟩
     exact ⟨⟨rfl, hv6, hn6⟩, rfl⟩
    exact stepsG.nil
   intro W F4 le4 hphi
   obtain ⟨e10, f10_6ha, f10_6hn⟩ := hphi 10 (by decide)
   obtain ⟨e20, f20_6ha, f20_6hn⟩ := hphi 20 (by decide)
   generalize hu2 : ((W 10)) = u4 at e10 f10_6ha f10_6hn e20 f20_6ha f20_6hn
   generalize hu3 : ((W 20)) = u5 at e10 f10_6ha f10_6hn e20 f20_6ha f20_6hn
   rw [eS (l := [(0, _), (10, u4), (20, u5)]) ⟨(hphi 0 (by decide)), hu2, hu3, ⟨⟩⟩]
   replace har := har.mono le4
   replace hbc := hbc.mono le4
   replace hv1 := hv1.mono le4
   replace hv2 := hv2.mono le4
   replace hbj := hbj.mono le4
   show XL _ _ _ _ _ _ _ (cellsH ub (arv :: bj) 200 :: L)
   refine XL.callP [ptr ub 0, u4, u5] call237 rfl (ih k1 N1 hless har hbj hb2 f10_6ha f20_6ha hσ1 hpx hpy (by assumption) (by assumption) hk1 hN1) ?_ ?_
   ·rintro _ _ _ _ ⟨b9, l9, rfl, hb9, hne9, rfl⟩
    rw [← parts_get hjx, ← parts_get hjy] at hne9
    exact .inr ⟨_, rfl, b9, l9, rfl, hb9, (EqTo.stop hso hrx hry (by rw [parts_args]; exact hjx) (by omega) hhd hne9), rfl⟩
   rintro _ F5 _ le5 ⟨b1, l1, rfl, hb1, hso1, rfl⟩
   replace har := har.mono le5
   replace hbc := hbc.mono le5
   replace hv1 := hv1.mono le5
   replace hv2 := hv2.mono le5
   replace hbj := hbj.mono le5
   rw [← parts_get hjx, ← parts_get hjy] at hso1
   have hso2 := EqTo.next hso hso1
   refine qb (qa (cX (qT (((j + 1 : Nat) : Int)) rfl rfl (by omega) (by omega) (qf (ii (((j + 1 : Nat) : Int))) rfl (qb ?_)))))
   exact ⟨(j + 1, b1, l1, F5), _, (qg (qg leG1 le4) le5), rF, ⟨rfl, rfl, rfl, rfl, rfl, rfl, rfl, ⟨⟩⟩, (sC sR), ⟨rfl, (qg (qg leG1 le4) le5), (hb1), (by (try dsimp only) <;> omega), (hso2)⟩, (by omega)⟩
  refine jl (qE (qE (qS (id (retEndNP (L' := cellsH ub (arv :: bj) 200 :: L) [] (.tuple #[]) (by exact .nil) rfl (qg (qg le2 le3) leG1) rF (sC sR) ?_)))))
  exact ⟨_, _, rfl, hbj, (EqTo.done hso hrx hry (by rw [parts_args]; omega) (by omega) hhd), rfl⟩
 refine qu (t := 22) rfl (vF h1) (qu (t := 22) rfl (vF h1) (qu (t := 22) rfl (vF h1) (qu (t := 22) rfl (vF h1) (cX (qR (.bool (false)) (vF h1) rfl (qb (jx rfl (qv (qc (qc ?_))))))))))
 by_cases h6 : (u2.getD 0 0 : Int) < 0
 ·by_cases h7 : (u1.getD 0 0 : Int) ≥ 0
  ·refine jz [cellsH ub (arv :: bs) 200] L 16 [] [[], [0], [1], [2], [3], [4], [4, 5], [4, 6], [4, 7], [4, 8], [9], [9, 10], [9, 11], [9], [9, 13], [9, 14]] (phiL [qe v2, qe (.pointer (some (elemA v2 (0)))), qe (ii (u2.getD 0 0)), qe (.bool (decide ((u2.getD 0 0 : Int) < 0)) : Value), qe (.bool (decide ((u2.getD 0 0 : Int) < 0)) : Value), qe v1, qe (.pointer (some (elemA v1 (0)))), qe (ii (u1.getD 0 0)), qe (.bool (decide ((u1.getD 0 0 : Int) ≥ 0)) : Value), qe (.bool (decide ((u1.getD 0 0 : Int) ≥ 0)) : Value), qe undef, qe undef, qe undef, qe undef, qe undef, qe undef]) (ownL []) mixed rfl rfl (by kernel_rfl) ?_ ?_
   ·refine pD (fun W R z9 => ?_) ?_
    ·refine qj (qk (v2) rfl ?_)
     exact ⟨rfl, rfl, rfl⟩
    refine pD (fun W R z9 => ?_) ?_
    ·rw [eS (l := [(0, _)]) ⟨z9 0 rfl, ⟨⟩⟩]
     refine qj (qB 0 qd qy rfl rfl rfl hv2.slv (by omega) (Nat.mul_one _) ?_)
     exact ⟨rfl, rfl, rfl⟩
    refine pD (fun W R z9 => ?_) ?_
    ·rw [eS (l := [(1, _)]) ⟨z9 1 rfl, ⟨⟩⟩]
     refine qj (qn qV rfl (hv2.rd (by omega)) ?_)
     exact ⟨rfl, rfl, rfl⟩
    refine pD (fun W R z9 => ?_) ?_
    ·rw [eS (l := [(2, _)]) ⟨z9 2 rfl, ⟨⟩⟩]
     refine qj (qZ rfl rfl ?_)
     exact ⟨rfl, rfl, rfl⟩
    refine pD (fun W R z9 => ?_) ?_
    ·rw [eS (l := [(3, _)]) ⟨z9 3 rfl, ⟨⟩⟩]
     refine qj (qk (.bool (decide ((u2.getD 0 0 : Int) < 0))) rfl ?_)
     exact ⟨rfl, rfl, rfl⟩
    refine pD (fun W R z9 => ?_) ?_
    ·rw [eS (l := [(4, _)]) ⟨z9 4 rfl, ⟨⟩⟩]
     refine jf (t := 32) rfl (vT h6) (qk (v1) rfl ?_)
     exact ⟨rfl, rfl, rfl⟩
    refine pD (fun W R z9 => ?_) ?_
    ·rw [eS (l := [(4, _), (5, _)]) ⟨z9 4 rfl, z9 5 rfl, ⟨⟩⟩]
     refine jf (t := 32) rfl (vT h6) (qB 0 qd qy rfl rfl rfl hv1.slv (by omega) (Nat.mul_one _) ?_)
     exact ⟨rfl, rfl, rfl⟩
    refine pD (fun W R z9 => ?_) ?_
    ·rw [eS (l := [(4, _), (6, _)]) ⟨z9 4 rfl, z9 6 rfl, ⟨⟩⟩]
     refine jf (t := 32) rfl (vT h6) (qn qV rfl (hv1.rd (by omega)) ?_)
     exact ⟨rfl, rfl, rfl⟩
    refine pD (fun W R z9 => ?_) ?_
    ·rw [eS (l := [(4, _), (7, _)]) ⟨z9 4 rfl, z9 7 rfl, ⟨⟩⟩]
     refine jf (t := 32) rfl (vT h6) (ju rfl rfl ?_)
     exact ⟨rfl, rfl, rfl⟩
    refine pD (fun W R z9 => ?_) ?_
    ·rw [eS (l := [(4, _), (8, _)]) ⟨z9 4 rfl, z9 8 rfl, ⟨⟩⟩]
     refine jf (t := 32) rfl (vT h6) (qk (.bool (decide ((u1.getD 0 0 : Int) ≥ 0))) rfl ?_)
     exact ⟨rfl, rfl, rfl⟩
    refine pD (fun W R z9 => ?_) ?_
    ·rw [eS (l := [(9, _)]) ⟨z9 9 rfl, ⟨⟩⟩]
     exact jm (t := 37) rfl (vT h7) ⟨rfl, rfl, rfl⟩
    refine pD (fun W R z9 => ?_) ?_
    ·rw [eS (l := [(9, _), (10, undef)]) ⟨z9 9 rfl, z9 10 rfl, ⟨⟩⟩]
     exact jm (t := 37) rfl (vT h7) ⟨rfl, rfl, rfl⟩
    refine pD (fun W R z9 => ?_) ?_
    ·rw [eS (l := [(9, _), (11, undef)]) ⟨z9 9 rfl, z9 11 rfl, ⟨⟩⟩]
     exact jm (t := 37) rfl (vT h7) ⟨rfl, rfl, rfl⟩
    refine pD (fun W R z9 => ?_) ?_
    ·rw [eS (l := [(9, _)]) ⟨z9 9 rfl, ⟨⟩⟩]
     exact jm (t := 37) rfl (vT h7) ⟨rfl, rfl, rfl⟩
    refine pD (fun W R z9 => ?_) ?_
    ·rw [eS (l := [(9, _), (13, undef)]) ⟨z9 9 rfl, z9 13 rfl, ⟨⟩⟩]
     exact jm (t := 37) rfl (vT h7) ⟨rfl, rfl, rfl⟩
    refine pD (fun W R z9 => ?_) ?_
    ·rw [eS (l := [(9, _), (14, undef)]) ⟨z9 9 rfl, z9 14 rfl, ⟨⟩⟩]
     exact jm (t := 37) rfl (vT h7) ⟨rfl, rfl, rfl⟩
    exact stepsP.nil
   intro W hphi
   rw [eS (l := [(4, _), (9, _), (12, undef), (15, undef)]) ⟨(hphi 4 (by decide)), (hphi 9 (by decide)), (hphi 12 (by decide)), (hphi 15 (by decide)), ⟨⟩⟩]
   show XL _ _ _ _ _ _ _ (cellsH ub (arv :: bs) 200 :: L)
   refine qu (t := 37) rfl (vT h7) (qq (t := 32) rfl (vT h6) (qX (.bool (true)) (vT h7) rfl (cX (qX (.bool (true)) (vT h6) rfl (qb (jK rfl (qa (qf (v2) rfl (qf (v1) rfl (qh (v2) rfl (qh (v1) rfl ?_)))))))))))
   refine qb (qc (qc (qa ?_)))
   have hrx := hru2
   have hry := hru1
   have hnx := hn2
   have hny := hn1
   have hwx := hrx.w
   have hwy := hry.w
   have hxl := hrx.w.len
   have hyl := hry.w.len
   have hxg := hrx.w.geD (p := 0) (by omega)
   have hyg := hry.w.geD (p := 0) (by omega)
   have hbl := hb.len
   skip
   refine qf (v2) rfl (cX (qB 0 qd qy rfl rfl rfl hv2.slv (by omega) (Nat.mul_one _) (cX (qn qV rfl (hv2.rd (by omega)) (cX (qZ rfl rfl (qb (jK (vT h6) (qc (qc (qa (qf (v1) rfl (cX (qB 0 qd qy rfl rfl rfl hv1.slv (by omega) (Nat.mul_one _) (cX (qn qV rfl (hv1.rd (by omega)) ?_))))))))))))))))
   refine cX (ju rfl rfl (qf (.bool (decide ((u1.getD 0 0 : Int) ≥ 0))) rfl (qq (t := 57) rfl (vT h7) (qk (ptr ub 0) rfl (qq (t := 57) rfl (vT h7) (qk (v2) rfl (qq (t := 57) rfl (vT h7) (qB 0 qd qy rfl rfl rfl hv2.slv (by omega) (Nat.mul_one _) (qq (t := 57) rfl (vT h7) (qn qV rfl (hv2.rd (by omega)) (qq (t := 57) rfl (vT h7) (qk (v1) rfl (qq (t := 57) rfl (vT h7) (XOp.build0 (bools (List.replicate 48 false)) runUnderlying241 ⟨_, sizeOf4⟩ zeroValue241 rfl (qq (t := 57) rfl (vT h7) (jg (bools (List.replicate 48 false)) rfl rfl ?_))))))))))))))))
   intro b2
   have hl1 : (List.replicate 48 false).length = 48 := rfl
   have hx0 : u2.getD 0 0 < 0 := by omega
   obtain ⟨ρ9, hρ9⟩ := hb.acyc
   obtain ⟨k9, hk9⟩ := maxRank u1 ρ9
   refine jG (jy (A := [_])) ?_
   show XL _ _ _ _ _ _ _ (cellsH ub (arv :: bs) 200 :: cellsH b2 (bools ((List.replicate 48 false))) 241 :: L)
   refine qq (t := 57) rfl (vT h7) (ql (args := [ptr ub 0, ii (u2.getD 0 0), v1, ptr b2 0]) call249 rfl (occurs_spec k9 har hbc (by assumption) hv1 hσ hρ9 hx0 (hrx.top.resolve_left (by omega)) (fun m hm _ => hk9 m hm) (fun i hi => hry.w.geD hi) hyl.2 hl1 ClearM.nils) ?_)
   rintro _ _ _ _ ⟨s1, rfl, hs4, hm1, rfl, rfl⟩
   refine cX (qX (.bool (decide (u2.getD 0 0 ∈ ap σ u1))) (vT h7) rfl (qb ?_))
   refine qF (p := u2.getD 0 0 ∈ ap σ u1) rfl (fun h8 => ?_) (fun h8 => ?_)
   ·have hoy := h8
    refine qa ?_
    skip
    refine cX (qY [] [] [] [] jE zeroValue230 rfl PlacesAre.nil rfl CellsAre.nil (cX (XOp.iface jE rfl (jG ((sC (sD sR))) (XL.panicI rfl ?_)))))
    exact .inr ⟨_, rfl, _, _, rfl, hbc, (no_swap (occ_eq hb hσ hrx hry (by omega) (by omega) hoy)), rfl⟩
   have hoy := h8
   refine qv (qc ?_)
   refine jz [cellsH ub (arv :: bs) 200, cellsH b2 (bools s1) 241] L 8 [] [[], [], [1], [2], [3], [], [0], [6]] (phiL [qe (ptr ub 0), qe v2, qe (.pointer (some (elemA v2 (0)))), qe (ii (u2.getD 0 0)), qe (ii ((-1) - (u2.getD 0 0))), qe v1, qe (ptr ub 0), qe (ptr ub 1)]) (ownL []) mixed rfl rfl (by kernel_rfl) ?_ ?_
   ·refine pD (fun W R z9 => ?_) ?_
    ·refine qj (qk (ptr ub 0) rfl ?_)
     exact ⟨rfl, rfl, rfl⟩
    refine pD (fun W R z9 => ?_) ?_
    ·refine qj (qk (v2) rfl ?_)
     exact ⟨rfl, rfl, rfl⟩
    refine pD (fun W R z9 => ?_) ?_
    ·rw [eS (l := [(1, _)]) ⟨z9 1 rfl, ⟨⟩⟩]
     refine qj (qB 0 qd qy rfl rfl rfl hv2.slv (by omega) (Nat.mul_one _) ?_)
     exact ⟨rfl, rfl, rfl⟩
    refine pD (fun W R z9 => ?_) ?_
    ·rw [eS (l := [(2, _)]) ⟨z9 2 rfl, ⟨⟩⟩]
     refine qj (qn qV rfl (hv2.rd (by omega)) ?_)
     exact ⟨rfl, rfl, rfl⟩
    refine pD (fun W R z9 => ?_) ?_
    ·rw [eS (l := [(3, _)]) ⟨z9 3 rfl, ⟨⟩⟩]
     refine qj (qW ((-1) - (u2.getD 0 0)) rfl rfl (by omega) (by omega) ?_)
     exact ⟨rfl, rfl, rfl⟩
    refine pD (fun W R z9 => ?_) ?_
    ·refine qj (qk (v1) rfl ?_)
     exact ⟨rfl, rfl, rfl⟩
    refine pD (fun W R z9 => ?_) ?_
    ·rw [eS (l := [(0, _)]) ⟨z9 0 rfl, ⟨⟩⟩]
     refine qj (jb rfl ?_)
     exact ⟨rfl, rfl, rfl⟩
    refine pD (fun W R z9 => ?_) ?_
    ·rw [eS (l := [(6, _)]) ⟨z9 6 rfl, ⟨⟩⟩]
     refine qj (qA (1) jr rfl sizeOf198 (by decide) rfl rfl ?_)
     exact ⟨rfl, rfl, rfl⟩
    exact stepsP.nil
   intro W hphi
   rw [eS (l := [(4, _), (5, _), (7, _)]) ⟨(hphi 4 (by decide)), (hphi 5 (by decide)), (hphi 7 (by decide)), ⟨⟩⟩]
   show XL _ _ _ _ _ _ _ (cellsH ub (arv :: bs) 200 :: cellsH b2 (bools s1) 241 :: L)
   refine cX (jI (i := (-1) - (u2.getD 0 0)) (((-1) - (u2.getD 0 0)).toNat) (1 + (((-1) - (u2.getD 0 0)).toNat)) jA qN rfl rfl (by omega) (by omega) (by omega) (cX (jq [] _ (arv :: (bs.set (((-1) - (u2.getD 0 0)).toNat) v1)) qN rfl rfl (qP (jc hv1)) rfl (blt_1 (by have := CO.len hbc; (try simp only [List.length_set, List.length_replicate] at this ⊢) <;> omega)) set_1 ?_)))
   have hc1 := hbc.set (((-1) - (u2.getD 0 0)).toNat) hv1 (by rw [hny]; exact (decide_eq_false hry.w.ne).symm)
   refine qb (qx (qi (retEndP (L' := cellsH ub (arv :: ((bs.set (((-1) - (u2.getD 0 0)).toNat) v1))) 200 :: L) [] (.tuple #[]) (by exact .nil) rfl rF rF (sC (sD sR)) ?_)))
   exact ⟨_, _, rfl, hc1, (Solves.swap (bind_eq hb hσ hrx hry (by omega) (by first | exact hoy | exact bind_var hσ hry (by omega) (by omega)))), rfl⟩
  refine jz [cellsH ub (arv :: bs) 200] L 16 [] [[], [0], [1], [2], [3], [4], [4, 5], [4, 6], [4, 7], [4, 8], [9], [9, 10], [9, 11], [9], [9, 13], [9, 14]] (phiL [qe v2, qe (.pointer (some (elemA v2 (0)))), qe (ii (u2.getD 0 0)), qe (.bool (decide ((u2.getD 0 0 : Int) < 0)) : Value), qe (.bool (decide ((u2.getD 0 0 : Int) < 0)) : Value), qe v1, qe (.pointer (some (elemA v1 (0)))), qe (ii (u1.getD 0 0)), qe (.bool (decide ((u1.getD 0 0 : Int) ≥ 0)) : Value), qe (.bool (decide ((u1.getD 0 0 : Int) ≥ 0)) : Value), qe v2, qe (.pointer (some (elemA v2 (0)))), qe (ii (u2.getD 0 0)), qe v1, qe (.pointer (some (elemA v1 (0)))), qe (ii (u1.getD 0 0))]) (ownL []) mixed rfl rfl (by kernel_rfl) ?_ ?_
  ·refine pD (fun W R z9 => ?_) ?_
   ·refine qj (qk (v2) rfl ?_)
    exact ⟨rfl, rfl, rfl⟩
   refine pD (fun W R z9 => ?_) ?_
   ·rw [eS (l := [(0, _)]) ⟨z9 0 rfl, ⟨⟩⟩]
    refine qj (qB 0 qd qy rfl rfl rfl hv2.slv (by omega) (Nat.mul_one _) ?_)
    exact ⟨rfl, rfl, rfl⟩
   refine pD (fun W R z9 => ?_) ?_
   ·rw [eS (l := [(1, _)]) ⟨z9 1 rfl, ⟨⟩⟩]
    refine qj (qn qV rfl (hv2.rd (by omega)) ?_)
    exact ⟨rfl, rfl, rfl⟩
   refine pD (fun W R z9 => ?_) ?_
   ·rw [eS (l := [(2, _)]) ⟨z9 2 rfl, ⟨⟩⟩]
    refine qj (qZ rfl rfl ?_)
    exact ⟨rfl, rfl, rfl⟩
   refine pD (fun W R z9 => ?_) ?_
   ·rw [eS (l := [(3, _)]) ⟨z9 3 rfl, ⟨⟩⟩]
    refine qj (qk (.bool (decide ((u2.getD 0 0 : Int) < 0))) rfl ?_)
    exact ⟨rfl, rfl, rfl⟩
   refine pD (fun W R z9 => ?_) ?_
   ·rw [eS (l := [(4, _)]) ⟨z9 4 rfl, ⟨⟩⟩]
    refine jf (t := 32) rfl (vT h6) (qk (v1) rfl ?_)
    exact ⟨rfl, rfl, rfl⟩
   refine pD (fun W R z9 => ?_) ?_
   ·rw [eS (l := [(4, _), (5, _)]) ⟨z9 4 rfl, z9 5 rfl, ⟨⟩⟩]
    refine jf (t := 32) rfl (vT h6) (qB 0 qd qy rfl rfl rfl hv1.slv (by omega) (Nat.mul_one _) ?_)
    exact ⟨rfl, rfl, rfl⟩
   refine pD (fun W R z9 => ?_) ?_
   ·rw [eS (l := [(4, _), (6, _)]) ⟨z9 4 rfl, z9 6 rfl, ⟨⟩⟩]
    refine jf (t := 32) rfl (vT h6) (qn qV rfl (hv1.rd (by omega)) ?_)
    exact ⟨rfl, rfl, rfl⟩
   refine pD (fun W R z9 => ?_) ?_
   ·rw [eS (l := [(4, _), (7, _)]) ⟨z9 4 rfl, z9 7 rfl, ⟨⟩⟩]
    refine jf (t := 32) rfl (vT h6) (ju rfl rfl ?_)
    exact ⟨rfl, rfl, rfl⟩
   refine pD (fun W R z9 => ?_) ?_
   ·rw [eS (l := [(4, _), (8, _)]) ⟨z9 4 rfl, z9 8 rfl, ⟨⟩⟩]
    refine jf (t := 32) rfl (vT h6) (qk (.bool (decide ((u1.getD 0 0 : Int) ≥ 0))) rfl ?_)
    exact ⟨rfl, rfl, rfl⟩
   refine pD (fun W R z9 => ?_) ?_
   ·rw [eS (l := [(9, _)]) ⟨z9 9 rfl, ⟨⟩⟩]
    refine jf (t := 37) rfl (vF h7) (qk (v2) rfl ?_)
    exact ⟨rfl, rfl, rfl⟩
   refine pD (fun W R z9 => ?_) ?_
   ·rw [eS (l := [(9, _), (10, _)]) ⟨z9 9 rfl, z9 10 rfl, ⟨⟩⟩]
    refine jf (t := 37) rfl (vF h7) (qB 0 qd qy rfl rfl rfl hv2.slv (by omega) (Nat.mul_one _) ?_)
    exact ⟨rfl, rfl, rfl⟩
   refine pD (fun W R z9 => ?_) ?_
   ·rw [eS (l := [(9, _), (11, _)]) ⟨z9 9 rfl, z9 11 rfl, ⟨⟩⟩]
    refine jf (t := 37) rfl (vF h7) (qn qV rfl (hv2.rd (by omega)) ?_)
    exact ⟨rfl, rfl, rfl⟩
   refine pD (fun W R z9 => ?_) ?_
   ·rw [eS (l := [(9, _)]) ⟨z9 9 rfl, ⟨⟩⟩]
    refine jf (t := 37) rfl (vF h7) (qk (v1) rfl ?_)
    exact ⟨rfl, rfl, rfl⟩
   refine pD (fun W R z9 => ?_) ?_
   ·rw [eS (l := [(9, _), (13, _)]) ⟨z9 9 rfl, z9 13 rfl, ⟨⟩⟩]
    refine jf (t := 37) rfl (vF h7) (qB 0 qd qy rfl rfl rfl hv1.slv (by omega) (Nat.mul_one _) ?_)
    exact ⟨rfl, rfl, rfl⟩
   refine pD (fun W R z9 => ?_) ?_
   ·rw [eS (l := [(9, _), (14, _)]) ⟨z9 9 rfl, z9 14 rfl, ⟨⟩⟩]
    refine jf (t := 37) rfl (vF h7) (qn qV rfl (hv1.rd (by omega)) ?_)
    exact ⟨rfl, rfl, rfl⟩
   exact stepsP.nil
  intro W hphi
  rw [eS (l := [(4, _), (9, _), (12, _), (15, _)]) ⟨(hphi 4 (by decide)), (hphi 9 (by decide)), (hphi 12 (by decide)), (hphi 15 (by decide)), ⟨⟩⟩]
  show XL _ _ _ _ _ _ _ (cellsH ub (arv :: bs) 200 :: L)
  refine qq (t := 37) rfl (vF h7) (qZ rfl rfl (qq (t := 32) rfl (vT h6) (qR (.bool (decide ((u2.getD 0 0 : Int) < u1.getD 0 0))) (vF h7) rfl (cX (qX (.bool (decide ((u2.getD 0 0 : Int) < u1.getD 0 0))) (vT h6) rfl (qb ?_))))))
  refine qF (p := (u2.getD 0 0 : Int) < u1.getD 0 0) rfl (fun h9 => ?_) (fun h9 => ?_)
  ·refine qa (qf (v2) rfl (qf (v1) rfl (qh (v2) rfl (qh (v1) rfl (qb (qc (qc (qa ?_))))))))
   have hrx := hru2
   have hry := hru1
   have hnx := hn2
   have hny := hn1
   have hwx := hrx.w
   have hwy := hry.w
   have hxl := hrx.w.len
   have hyl := hry.w.len
   have hxg := hrx.w.geD (p := 0) (by omega)
   have hyg := hry.w.geD (p := 0) (by omega)
   have hbl := hb.len
   skip
   refine qf (v2) rfl (cX (qB 0 qd qy rfl rfl rfl hv2.slv (by omega) (Nat.mul_one _) (cX (qn qV rfl (hv2.rd (by omega)) (cX (qZ rfl rfl (qb (jK (vT h6) (qc (qc (qa (qf (v1) rfl (cX (qB 0 qd qy rfl rfl rfl hv1.slv (by omega) (Nat.mul_one _) (cX (qn qV rfl (hv1.rd (by omega)) ?_))))))))))))))))
   refine cX (ju rfl rfl (qf (.bool (decide ((u1.getD 0 0 : Int) ≥ 0))) rfl (qu (t := 57) rfl (vF h7) (qu (t := 57) rfl (vF h7) (qu (t := 57) rfl (vF h7) (qu (t := 57) rfl (vF h7) (qu (t := 57) rfl (vF h7) (qu (t := 57) rfl (vF h7) (qu (t := 57) rfl (vF h7) (qu (t := 57) rfl (vF h7) ?_))))))))))
   refine cX (qR (.bool (false)) (vF h7) rfl (qb (jx rfl (qv (qc ?_)))))
   refine jz [cellsH ub (arv :: bs) 200] L 8 [] [[], [], [1], [2], [3], [], [0], [6]] (phiL [qe (ptr ub 0), qe v2, qe (.pointer (some (elemA v2 (0)))), qe (ii (u2.getD 0 0)), qe (ii ((-1) - (u2.getD 0 0))), qe v1, qe (ptr ub 0), qe (ptr ub 1)]) (ownL []) mixed rfl rfl (by kernel_rfl) ?_ ?_
   ·refine pD (fun W R z9 => ?_) ?_
    ·refine qj (qk (ptr ub 0) rfl ?_)
     exact ⟨rfl, rfl, rfl⟩
    refine pD (fun W R z9 => ?_) ?_
    ·refine qj (qk (v2) rfl ?_)
     exact ⟨rfl, rfl, rfl⟩
    refine pD (fun W R z9 => ?_) ?_
    ·rw [eS (l := [(1, _)]) ⟨z9 1 rfl, ⟨⟩⟩]
     refine qj (qB 0 qd qy rfl rfl rfl hv2.slv (by omega) (Nat.mul_one _) ?_)
     exact ⟨rfl, rfl, rfl⟩
    refine pD (fun W R z9 => ?_) ?_
    ·rw [eS (l := [(2, _)]) ⟨z9 2 rfl, ⟨⟩⟩]
     refine qj (qn qV rfl (hv2.rd (by omega)) ?_)
     exact ⟨rfl, rfl, rfl⟩
    refine pD (fun W R z9 => ?_) ?_
    ·rw [eS (l := [(3, _)]) ⟨z9 3 rfl, ⟨⟩⟩]
     refine qj (qW ((-1) - (u2.getD 0 0)) rfl rfl (by omega) (by omega) ?_)
     exact ⟨rfl, rfl, rfl⟩
    refine pD (fun W R z9 => ?_) ?_
    ·refine qj (qk (v1) rfl ?_)
     exact ⟨rfl, rfl, rfl⟩
    refine pD (fun W R z9 => ?_) ?_
    ·rw [eS (l := [(0, _)]) ⟨z9 0 rfl, ⟨⟩⟩]
     refine qj (jb rfl ?_)
     exact ⟨rfl, rfl, rfl⟩
    refine pD (fun W R z9 => ?_) ?_
    ·rw [eS (l := [(6, _)]) ⟨z9 6 rfl, ⟨⟩⟩]
     refine qj (qA (1) jr rfl sizeOf198 (by decide) rfl rfl ?_)
     exact ⟨rfl, rfl, rfl⟩
    exact stepsP.nil
   intro W hphi
   rw [eS (l := [(4, _), (5, _), (7, _)]) ⟨(hphi 4 (by decide)), (hphi 5 (by decide)), (hphi 7 (by decide)), ⟨⟩⟩]
   show XL _ _ _ _ _ _ _ (cellsH ub (arv :: bs) 200 :: L)
   refine cX (jI (i := (-1) - (u2.getD 0 0)) (((-1) - (u2.getD 0 0)).toNat) (1 + (((-1) - (u2.getD 0 0)).toNat)) jA qN rfl rfl (by omega) (by omega) (by omega) (cX (jq [] _ (arv :: (bs.set (((-1) - (u2.getD 0 0)).toNat) v1)) qN rfl rfl (qP (jc hv1)) rfl (blt_1 (by have := CO.len hbc; (try simp only [List.length_set, List.length_replicate] at this ⊢) <;> omega)) set_1 ?_)))
   have hc2 := hbc.set (((-1) - (u2.getD 0 0)).toNat) hv1 (by rw [hny]; exact (decide_eq_false hry.w.ne).symm)
   refine qb (qx (qi (retEndP (L' := cellsH ub (arv :: ((bs.set (((-1) - (u2.getD 0 0)).toNat) v1))) 200 :: L) [] (.tuple #[]) (by exact .nil) rfl rF rF (sC sR) ?_)))
   exact ⟨_, _, rfl, hc2, (Solves.swap (bind_eq hb hσ hrx hry (by omega) (by first | exact hoy | exact bind_var hσ hry (by omega) (by omega)))), rfl⟩
  refine qv (qc (qc (qa ?_)))
  have hrx := hru1
  have hry := hru2
  have hnx := hn1
  have hny := hn2
  have hwx := hrx.w
  have hwy := hry.w
  have hxl := hrx.w.len
  have hyl := hry.w.len
  have hxg := hrx.w.geD (p := 0) (by omega)
  have hyg := hry.w.geD (p := 0) (by omega)
  have hbl := hb.len
  skip
  refine qf (v1) rfl (cX (qB 0 qd qy rfl rfl rfl hv1.slv (by omega) (Nat.mul_one _) (cX (qn qV rfl (hv1.rd (by omega)) (cX (qZ rfl rfl (qb ?_)))))))
  refine qF (p := (u1.getD 0 0 : Int) < 0) rfl (fun h10 => ?_) (fun h10 => ?_)
  ·refine qc (qc (qa (qf (v2) rfl (cX (qB 0 qd qy rfl rfl rfl hv2.slv (by omega) (Nat.mul_one _) (cX (qn qV rfl (hv2.rd (by omega)) (cX (ju rfl rfl (qf (.bool (decide ((u2.getD 0 0 : Int) ≥ 0))) rfl ?_))))))))))
   by_cases h11 : (u2.getD 0 0 : Int) ≥ 0
   ·refine qq (t := 57) rfl (vT h11) (qk (ptr ub 0) rfl (qq (t := 57) rfl (vT h11) (qk (v1) rfl (qq (t := 57) rfl (vT h11) (qB 0 qd qy rfl rfl rfl hv1.slv (by omega) (Nat.mul_one _) (qq (t := 57) rfl (vT h11) (qn qV rfl (hv1.rd (by omega)) (qq (t := 57) rfl (vT h11) (qk (v2) rfl (qq (t := 57) rfl (vT h11) (XOp.build0 (bools (List.replicate 48 false)) runUnderlying241 ⟨_, sizeOf4⟩ zeroValue241 rfl (qq (t := 57) rfl (vT h11) (jg (bools (List.replicate 48 false)) rfl rfl ?_)))))))))))))
    intro b3
    have hl2 : (List.replicate 48 false).length = 48 := rfl
    have hx0 : u1.getD 0 0 < 0 := by omega
    obtain ⟨ρ9, hρ9⟩ := hb.acyc
    obtain ⟨k9, hk9⟩ := maxRank u2 ρ9
    refine jG (jy (A := [_])) ?_
    show XL _ _ _ _ _ _ _ (cellsH ub (arv :: bs) 200 :: cellsH b3 (bools ((List.replicate 48 false))) 241 :: L)
    refine qq (t := 57) rfl (vT h11) (ql (args := [ptr ub 0, ii (u1.getD 0 0), v2, ptr b3 0]) call249 rfl (occurs_spec k9 har hbc (by assumption) hv2 hσ hρ9 hx0 (hrx.top.resolve_left (by omega)) (fun m hm _ => hk9 m hm) (fun i hi => hry.w.geD hi) hyl.2 hl2 ClearM.nils) ?_)
    rintro _ _ _ _ ⟨s2, rfl, hs5, hm2, rfl, rfl⟩
    refine cX (qX (.bool (decide (u1.getD 0 0 ∈ ap σ u2))) (vT h11) rfl (qb ?_))
    refine qF (p := u1.getD 0 0 ∈ ap σ u2) rfl (fun h12 => ?_) (fun h12 => ?_)
    ·have hoy := h12
     refine qa ?_
     skip
     refine cX (qY [] [] [] [] jE zeroValue230 rfl PlacesAre.nil rfl CellsAre.nil (cX (XOp.iface jE rfl (jG ((sC (sD sR))) (XL.panicI rfl ?_)))))
     exact .inr ⟨_, rfl, _, _, rfl, hbc, (occ_eq hb hσ hrx hry (by omega) (by omega) hoy), rfl⟩
    have hoy := h12
    refine qv (qc ?_)
    refine jz [cellsH ub (arv :: bs) 200, cellsH b3 (bools s2) 241] L 8 [] [[], [], [1], [2], [3], [], [0], [6]] (phiL [qe (ptr ub 0), qe v1, qe (.pointer (some (elemA v1 (0)))), qe (ii (u1.getD 0 0)), qe (ii ((-1) - (u1.getD 0 0))), qe v2, qe (ptr ub 0), qe (ptr ub 1)]) (ownL []) mixed rfl rfl (by kernel_rfl) ?_ ?_
    ·refine pD (fun W R z9 => ?_) ?_
     ·refine qj (qk (ptr ub 0) rfl ?_)
      exact ⟨rfl, rfl, rfl⟩
     refine pD (fun W R z9 => ?_) ?_
     ·refine qj (qk (v1) rfl ?_)
      exact ⟨rfl, rfl, rfl⟩
     refine pD (fun W R z9 => ?_) ?_
     ·rw [eS (l := [(1, _)]) ⟨z9 1 rfl, ⟨⟩⟩]
      refine qj (qB 0 qd qy rfl rfl rfl hv1.slv (by omega) (Nat.mul_one _) ?_)
      exact ⟨rfl, rfl, rfl⟩
     refine pD (fun W R z9 => ?_) ?_
     ·rw [eS (l := [(2, _)]) ⟨z9 2 rfl, ⟨⟩⟩]
      refine qj (qn qV rfl (hv1.rd (by omega)) ?_)
      exact ⟨rfl, rfl, rfl⟩
     refine pD (fun W R z9 => ?_) ?_
     ·rw [eS (l := [(3, _)]) ⟨z9 3 rfl, ⟨⟩⟩]
      refine qj (qW ((-1) - (u1.getD 0 0)) rfl rfl (by omega) (by omega) ?_)
      exact ⟨rfl, rfl, rfl⟩
     refine pD (fun W R z9 => ?_) ?_
     ·refine qj (qk (v2) rfl ?_)
      exact ⟨rfl, rfl, rfl⟩
     refine pD (fun W R z9 => ?_) ?_
     ·rw [eS (l := [(0, _)]) ⟨z9 0 rfl, ⟨⟩⟩]
      refine qj (jb rfl ?_)
      exact ⟨rfl, rfl, rfl⟩
     refine pD (fun W R z9 => ?_) ?_
     ·rw [eS (l := [(6, _)]) ⟨z9 6 rfl, ⟨⟩⟩]
      refine qj (qA (1) jr rfl sizeOf198 (by decide) rfl rfl ?_)
      exact ⟨rfl, rfl, rfl⟩
     exact stepsP.nil
    intro W hphi
    rw [eS (l := [(4, _), (5, _), (7, _)]) ⟨(hphi 4 (by decide)), (hphi 5 (by decide)), (hphi 7 (by decide)), ⟨⟩⟩]
    show XL _ _ _ _ _ _ _ (cellsH ub (arv :: bs) 200 :: cellsH b3 (bools s2) 241 :: L)
    refine cX (jI (i := (-1) - (u1.getD 0 0)) (((-1) - (u1.getD 0 0)).toNat) (1 + (((-1) - (u1.getD 0 0)).toNat)) jA qN rfl rfl (by omega) (by omega) (by omega) (cX (jq [] _ (arv :: (bs.set (((-1) - (u1.getD 0 0)).toNat) v2)) qN rfl rfl (qP (jc hv2)) rfl (blt_1 (by have := CO.len hbc; (try simp only [List.length_set, List.length_replicate] at this ⊢) <;> omega)) set_1 ?_)))
    have hc3 := hbc.set (((-1) - (u1.getD 0 0)).toNat) hv2 (by rw [hny]; exact (decide_eq_false hry.w.ne).symm)
    refine qb (qx (qi (retEndP (L' := cellsH ub (arv :: ((bs.set (((-1) - (u1.getD 0 0)).toNat) v2))) 200 :: L) [] (.tuple #[]) (by exact .nil) rfl rF rF (sC (sD sR)) ?_)))
    exact ⟨_, _, rfl, hc3, (bind_eq hb hσ hrx hry (by omega) (by first | exact hoy | exact bind_var hσ hry (by omega) (by omega))), rfl⟩
   refine qu (t := 57) rfl (vF h11) (qu (t := 57) rfl (vF h11) (qu (t := 57) rfl (vF h11) (qu (t := 57) rfl (vF h11) (qu (t := 57) rfl (vF h11) (qu (t := 57) rfl (vF h11) (qu (t := 57) rfl (vF h11) (qu (t := 57) rfl (vF h11) (cX (qR (.bool (false)) (vF h11) rfl (qb ?_))))))))))
   refine jx rfl (qv (qc ?_))
   refine jz [cellsH ub (arv :: bs) 200] L 8 [] [[], [], [1], [2], [3], [], [0], [6]] (phiL [qe (ptr ub 0), qe v1, qe (.pointer (some (elemA v1 (0)))), qe (ii (u1.getD 0 0)), qe (ii ((-1) - (u1.getD 0 0))), qe v2, qe (ptr ub 0), qe (ptr ub 1)]) (ownL []) mixed rfl rfl (by kernel_rfl) ?_ ?_
   ·refine pD (fun W R z9 => ?_) ?_
    ·refine qj (qk (ptr ub 0) rfl ?_)
     exact ⟨rfl, rfl, rfl⟩
    refine pD (fun W R z9 => ?_) ?_
    ·refine qj (qk (v1) rfl ?_)
     exact ⟨rfl, rfl, rfl⟩
    refine pD (fun W R z9 => ?_) ?_
    ·rw [eS (l := [(1, _)]) ⟨z9 1 rfl, ⟨⟩⟩]
     refine qj (qB 0 qd qy rfl rfl rfl hv1.slv (by omega) (Nat.mul_one _) ?_)
     exact ⟨rfl, rfl, rfl⟩
    refine pD (fun W R z9 => ?_) ?_
    ·rw [eS (l := [(2, _)]) ⟨z9 2 rfl, ⟨⟩⟩]
     refine qj (qn qV rfl (hv1.rd (by omega)) ?_)
     exact ⟨rfl, rfl, rfl⟩
    refine pD (fun W R z9 => ?_) ?_
    ·rw [eS (l := [(3, _)]) ⟨z9 3 rfl, ⟨⟩⟩]
     refine qj (qW ((-1) - (u1.getD 0 0)) rfl rfl (by omega) (by omega) ?_)
     exact ⟨rfl, rfl, rfl⟩
    refine pD (fun W R z9 => ?_) ?_
    ·refine qj (qk (v2) rfl ?_)
     exact ⟨rfl, rfl, rfl⟩
    refine pD (fun W R z9 => ?_) ?_
    ·rw [eS (l := [(0, _)]) ⟨z9 0 rfl, ⟨⟩⟩]
     refine qj (jb rfl ?_)
     exact ⟨rfl, rfl, rfl⟩
    refine pD (fun W R z9 => ?_) ?_
    ·rw [eS (l := [(6, _)]) ⟨z9 6 rfl, ⟨⟩⟩]
     refine qj (qA (1) jr rfl sizeOf198 (by decide) rfl rfl ?_)
     exact ⟨rfl, rfl, rfl⟩
    exact stepsP.nil
   intro W hphi
   rw [eS (l := [(4, _), (5, _), (7, _)]) ⟨(hphi 4 (by decide)), (hphi 5 (by decide)), (hphi 7 (by decide)), ⟨⟩⟩]
   show XL _ _ _ _ _ _ _ (cellsH ub (arv :: bs) 200 :: L)
   refine cX (jI (i := (-1) - (u1.getD 0 0)) (((-1) - (u1.getD 0 0)).toNat) (1 + (((-1) - (u1.getD 0 0)).toNat)) jA qN rfl rfl (by omega) (by omega) (by omega) (cX (jq [] _ (arv :: (bs.set (((-1) - (u1.getD 0 0)).toNat) v2)) qN rfl rfl (qP (jc hv2)) rfl (blt_1 (by have := CO.len hbc; (try simp only [List.length_set, List.length_replicate] at this ⊢) <;> omega)) set_1 ?_)))
   have hc4 := hbc.set (((-1) - (u1.getD 0 0)).toNat) hv2 (by rw [hny]; exact (decide_eq_false hry.w.ne).symm)
   refine qb (qx (qi (retEndP (L' := cellsH ub (arv :: ((bs.set (((-1) - (u1.getD 0 0)).toNat) v2))) 200 :: L) [] (.tuple #[]) (by exact .nil) rfl rF rF (sC sR) ?_)))
   exact ⟨_, _, rfl, hc4, (bind_eq hb hσ hrx hry (by omega) (by first | exact hoy | exact bind_var hσ hry (by omega) (by omega))), rfl⟩
  exfalso
  omega
 refine jz [cellsH ub (arv :: bs) 200] L 16 [] [[], [0], [1], [2], [3], [4], [4, 5], [4, 6], [4, 7], [4, 8], [9], [9, 10], [9, 11], [9], [9, 13], [9, 14]] (phiL [qe v2, qe (.pointer (some (elemA v2 (0)))), qe (ii (u2.getD 0 0)), qe (.bool (decide ((u2.getD 0 0 : Int) < 0)) : Value), qe (.bool (decide ((u2.getD 0 0 : Int) < 0)) : Value), qe undef, qe undef, qe undef, qe undef, qe undef, qe undef, qe undef, qe undef, qe undef, qe undef, qe undef]) (ownL []) mixed rfl rfl (by kernel_rfl) ?_ ?_
 ·refine pD (fun W R z9 => ?_) ?_
  ·refine qj (qk (v2) rfl ?_)
   exact ⟨rfl, rfl, rfl⟩
  refine pD (fun W R z9 => ?_) ?_
  ·rw [eS (l := [(0, _)]) ⟨z9 0 rfl, ⟨⟩⟩]
   refine qj (qB 0 qd qy rfl rfl rfl hv2.slv (by omega) (Nat.mul_one _) ?_)
   exact ⟨rfl, rfl, rfl⟩
  refine pD (fun W R z9 => ?_) ?_
  ·rw [eS (l := [(1, _)]) ⟨z9 1 rfl, ⟨⟩⟩]
   refine qj (qn qV rfl (hv2.rd (by omega)) ?_)
   exact ⟨rfl, rfl, rfl⟩
  refine pD (fun W R z9 => ?_) ?_
  ·rw [eS (l := [(2, _)]) ⟨z9 2 rfl, ⟨⟩⟩]
   refine qj (qZ rfl rfl ?_)
   exact ⟨rfl, rfl, rfl⟩
  refine pD (fun W R z9 => ?_) ?_
  ·rw [eS (l := [(3, _)]) ⟨z9 3 rfl, ⟨⟩⟩]
   refine qj (qk (.bool (decide ((u2.getD 0 0 : Int) < 0))) rfl ?_)
   exact ⟨rfl, rfl, rfl⟩
  refine pD (fun W R z9 => ?_) ?_
  ·rw [eS (l := [(4, _)]) ⟨z9 4 rfl, ⟨⟩⟩]
   exact jm (t := 32) rfl (vF h6) ⟨rfl, rfl, rfl⟩
  refine pD (fun W R z9 => ?_) ?_
  ·rw [eS (l := [(4, _), (5, undef)]) ⟨z9 4 rfl, z9 5 rfl, ⟨⟩⟩]
   exact jm (t := 32) rfl (vF h6) ⟨rfl, rfl, rfl⟩
  refine pD (fun W R z9 => ?_) ?_
  ·rw [eS (l := [(4, _), (6, undef)]) ⟨z9 4 rfl, z9 6 rfl, ⟨⟩⟩]
   exact jm (t := 32) rfl (vF h6) ⟨rfl, rfl, rfl⟩
  refine pD (fun W R z9 => ?_) ?_
  ·rw [eS (l := [(4, _), (7, undef)]) ⟨z9 4 rfl, z9 7 rfl, ⟨⟩⟩]
   exact jm (t := 32) rfl (vF h6) ⟨rfl, rfl, rfl⟩
  refine pD (fun W R z9 => ?_) ?_
  ·rw [eS (l := [(4, _), (8, undef)]) ⟨z9 4 rfl, z9 8 rfl, ⟨⟩⟩]
   exact jm (t := 32) rfl (vF h6) ⟨rfl, rfl, rfl⟩
  refine pD (fun W R z9 => ?_) ?_
  ·rw [eS (l := [(9, undef)]) ⟨z9 9 rfl, ⟨⟩⟩]
   exact XG.noU (t := 37) rfl rfl ⟨rfl, rfl, rfl⟩
  refine pD (fun W R z9 => ?_) ?_
  ·rw [eS (l := [(9, undef), (10, undef)]) ⟨z9 9 rfl, z9 10 rfl, ⟨⟩⟩]
   exact XG.noU (t := 37) rfl rfl ⟨rfl, rfl, rfl⟩
  refine pD (fun W R z9 => ?_) ?_
  ·rw [eS (l := [(9, undef), (11, undef)]) ⟨z9 9 rfl, z9 11 rfl, ⟨⟩⟩]
   exact XG.noU (t := 37) rfl rfl ⟨rfl, rfl, rfl⟩
  refine pD (fun W R z9 => ?_) ?_
  ·rw [eS (l := [(9, undef)]) ⟨z9 9 rfl, ⟨⟩⟩]
   exact XG.noU (t := 37) rfl rfl ⟨rfl, rfl, rfl⟩
  refine pD (fun W R z9 => ?_) ?_
  ·rw [eS (l := [(9, undef), (13, undef)]) ⟨z9 9 rfl, z9 13 rfl, ⟨⟩⟩]
   exact XG.noU (t := 37) rfl rfl ⟨rfl, rfl, rfl⟩
  refine pD (fun W R z9 => ?_) ?_
  ·rw [eS (l := [(9, undef), (14, undef)]) ⟨z9 9 rfl, z9 14 rfl, ⟨⟩⟩]
   exact XG.noU (t := 37) rfl rfl ⟨rfl, rfl, rfl⟩
  exact stepsP.nil
 intro W hphi
 rw [eS (l := [(4, _), (9, undef), (12, undef), (15, undef)]) ⟨(hphi 4 (by decide)), (hphi 9 (by decide)), (hphi 12 (by decide)), (hphi 15 (by decide)), ⟨⟩⟩]
 show XL _ _ _ _ _ _ _ (cellsH ub (arv :: bs) 200 :: L)
 refine XL.noU (t := 37) rfl rfl (qu (t := 32) rfl (vF h6) (cX (qR (.bool (false)) (vF h6) rfl (qb (jx rfl (qv (qc (qc (qa ?_)))))))))
 have hrx := hru1
 have hry := hru2
 have hnx := hn1
 have hny := hn2
 have hwx := hrx.w
 have hwy := hry.w
 have hxl := hrx.w.len
 have hyl := hry.w.len
 have hxg := hrx.w.geD (p := 0) (by omega)
 have hyg := hry.w.geD (p := 0) (by omega)
 have hbl := hb.len
 skip
 refine qf (v1) rfl (cX (qB 0 qd qy rfl rfl rfl hv1.slv (by omega) (Nat.mul_one _) (cX (qn qV rfl (hv1.rd (by omega)) (cX (qZ rfl rfl (qb ?_)))))))
 refine qF (p := (u1.getD 0 0 : Int) < 0) rfl (fun h13 => ?_) (fun h13 => ?_)
 ·refine qc (qc (qa (qf (v2) rfl (cX (qB 0 qd qy rfl rfl rfl hv2.slv (by omega) (Nat.mul_one _) (cX (qn qV rfl (hv2.rd (by omega)) (cX (ju rfl rfl (qf (.bool (decide ((u2.getD 0 0 : Int) ≥ 0))) rfl ?_))))))))))
  by_cases h14 : (u2.getD 0 0 : Int) ≥ 0
  ·refine qq (t := 57) rfl (vT h14) (qk (ptr ub 0) rfl (qq (t := 57) rfl (vT h14) (qk (v1) rfl (qq (t := 57) rfl (vT h14) (qB 0 qd qy rfl rfl rfl hv1.slv (by omega) (Nat.mul_one _) (qq (t := 57) rfl (vT h14) (qn qV rfl (hv1.rd (by omega)) (qq (t := 57) rfl (vT h14) (qk (v2) rfl (qq (t := 57) rfl (vT h14) (XOp.build0 (bools (List.replicate 48 false)) runUnderlying241 ⟨_, sizeOf4⟩ zeroValue241 rfl (qq (t := 57) rfl (vT h14) (jg (bools (List.replicate 48 false)) rfl rfl ?_)))))))))))))
   intro b4
   have hl3 : (List.replicate 48 false).length = 48 := rfl
   have hx0 : u1.getD 0 0 < 0 := by omega
   obtain ⟨ρ9, hρ9⟩ := hb.acyc
   obtain ⟨k9, hk9⟩ := maxRank u2 ρ9
   refine jG (jy (A := [_])) ?_
   show XL _ _ _ _ _ _ _ (cellsH ub (arv :: bs) 200 :: cellsH b4 (bools ((List.replicate 48 false))) 241 :: L)
   refine qq (t := 57) rfl (vT h14) (ql (args := [ptr ub 0, ii (u1.getD 0 0), v2, ptr b4 0]) call249 rfl (occurs_spec k9 har hbc (by assumption) hv2 hσ hρ9 hx0 (hrx.top.resolve_left (by omega)) (fun m hm _ => hk9 m hm) (fun i hi => hry.w.geD hi) hyl.2 hl3 ClearM.nils) ?_)
   rintro _ _ _ _ ⟨s3, rfl, hs6, hm3, rfl, rfl⟩
   refine cX (qX (.bool (decide (u1.getD 0 0 ∈ ap σ u2))) (vT h14) rfl (qb ?_))
   refine qF (p := u1.getD 0 0 ∈ ap σ u2) rfl (fun h15 => ?_) (fun h15 => ?_)
   ·have hoy := h15
    refine qa ?_
    skip
    refine cX (qY [] [] [] [] jE zeroValue230 rfl PlacesAre.nil rfl CellsAre.nil (cX (XOp.iface jE rfl (jG ((sC (sD sR))) (XL.panicI rfl ?_)))))
    exact .inr ⟨_, rfl, _, _, rfl, hbc, (occ_eq hb hσ hrx hry (by omega) (by omega) hoy), rfl⟩
   have hoy := h15
   refine qv (qc ?_)
   refine jz [cellsH ub (arv :: bs) 200, cellsH b4 (bools s3) 241] L 8 [] [[], [], [1], [2], [3], [], [0], [6]] (phiL [qe (ptr ub 0), qe v1, qe (.pointer (some (elemA v1 (0)))), qe (ii (u1.getD 0 0)), qe (ii ((-1) - (u1.getD 0 0))), qe v2, qe (ptr ub 0), qe (ptr ub 1)]) (ownL []) mixed rfl rfl (by kernel_rfl) ?_ ?_
   ·refine pD (fun W R z9 => ?_) ?_
    ·refine qj (qk (ptr ub 0) rfl ?_)
     exact ⟨rfl, rfl, rfl⟩
    refine pD (fun W R z9 => ?_) ?_
    ·refine qj (qk (v1) rfl ?_)
     exact ⟨rfl, rfl, rfl⟩
    refine pD (fun W R z9 => ?_) ?_
    ·rw [eS (l := [(1, _)]) ⟨z9 1 rfl, ⟨⟩⟩]
     refine qj (qB 0 qd qy rfl rfl rfl hv1.slv (by omega) (Nat.mul_one _) ?_)
     exact ⟨rfl, rfl, rfl⟩
    refine pD (fun W R z9 => ?_) ?_
    ·rw [eS (l := [(2, _)]) ⟨z9 2 rfl, ⟨⟩⟩]
     refine qj (qn qV rfl (hv1.rd (by omega)) ?_)
     exact ⟨rfl, rfl, rfl⟩
    refine pD (fun W R z9 => ?_) ?_
    ·rw [eS (l := [(3, _)]) ⟨z9 3 rfl, ⟨⟩⟩]
     refine qj (qW ((-1) - (u1.getD 0 0)) rfl rfl (by omega) (by omega) ?_)
     exact ⟨rfl, rfl, rfl⟩
    refine pD (fun W R z9 => ?_) ?_
    ·refine qj (qk (v2) rfl ?_)
     exact ⟨rfl, rfl, rfl⟩
    refine pD (fun W R z9 => ?_) ?_
    ·rw [eS (l := [(0, _)]) ⟨z9 0 rfl, ⟨⟩⟩]
     refine qj (jb rfl ?_)
     exact ⟨rfl, rfl, rfl⟩
    refine pD (fun W R z9 => ?_) ?_
    ·rw [eS (l := [(6, _)]) ⟨z9 6 rfl, ⟨⟩⟩]
     refine qj (qA (1) jr rfl sizeOf198 (by decide) rfl rfl ?_)
     exact ⟨rfl, rfl, rfl⟩
    exact stepsP.nil
   intro W hphi
   rw [eS (l := [(4, _), (5, _), (7, _)]) ⟨(hphi 4 (by decide)), (hphi 5 (by decide)), (hphi 7 (by decide)), ⟨⟩⟩]
   show XL _ _ _ _ _ _ _ (cellsH ub (arv :: bs) 200 :: cellsH b4 (bools s3) 241 :: L)
   refine cX (jI (i := (-1) - (u1.getD 0 0)) (((-1) - (u1.getD 0 0)).toNat) (1 + (((-1) - (u1.getD 0 0)).toNat)) jA qN rfl rfl (by omega) (by omega) (by omega) (cX (jq [] _ (arv :: (bs.set (((-1) - (u1.getD 0 0)).toNat) v2)) qN rfl rfl (qP (jc hv2)) rfl (blt_1 (by have := CO.len hbc; (try simp only [List.length_set, List.length_replicate] at this ⊢) <;> omega)) set_1 ?_)))
   have hc5 := hbc.set (((-1) - (u1.getD 0 0)).toNat) hv2 (by rw [hny]; exact (decide_eq_false hry.w.ne).symm)
   refine qb (qx (qi (retEndP (L' := cellsH ub (arv :: ((bs.set (((-1) - (u1.getD 0 0)).toNat) v2))) 200 :: L) [] (.tuple #[]) (by exact .nil) rfl rF rF (sC (sD sR)) ?_)))
   exact ⟨_, _, rfl, hc5, (bind_eq hb hσ hrx hry (by omega) (by first | exact hoy | exact bind_var hσ hry (by omega) (by omega))), rfl⟩
  refine qu (t := 57) rfl (vF h14) (qu (t := 57) rfl (vF h14) (qu (t := 57) rfl (vF h14) (qu (t := 57) rfl (vF h14) (qu (t := 57) rfl (vF h14) (qu (t := 57) rfl (vF h14) (qu (t := 57) rfl (vF h14) (qu (t := 57) rfl (vF h14) (cX (qR (.bool (false)) (vF h14) rfl (qb ?_))))))))))
  refine jx rfl (qv (qc ?_))
  refine jz [cellsH ub (arv :: bs) 200] L 8 [] [[], [], [1], [2], [3], [], [0], [6]] (phiL [qe (ptr ub 0), qe v1, qe (.pointer (some (elemA v1 (0)))), qe (ii (u1.getD 0 0)), qe (ii ((-1) - (u1.getD 0 0))), qe v2, qe (ptr ub 0), qe (ptr ub 1)]) (ownL []) mixed rfl rfl (by kernel_rfl) ?_ ?_
  ·refine pD (fun W R z9 => ?_) ?_
   ·refine qj (qk (ptr ub 0) rfl ?_)
    exact ⟨rfl, rfl, rfl⟩
   refine pD (fun W R z9 => ?_) ?_
   ·refine qj (qk (v1) rfl ?_)
    exact ⟨rfl, rfl, rfl⟩
   refine pD (fun W R z9 => ?_) ?_
   ·rw [eS (l := [(1, _)]) ⟨z9 1 rfl, ⟨⟩⟩]
    refine qj (qB 0 qd qy rfl rfl rfl hv1.slv (by omega) (Nat.mul_one _) ?_)
    exact ⟨rfl, rfl, rfl⟩
   refine pD (fun W R z9 => ?_) ?_
   ·rw [eS (l := [(2, _)]) ⟨z9 2 rfl, ⟨⟩⟩]
    refine qj (qn qV rfl (hv1.rd (by omega)) ?_)
    exact ⟨rfl, rfl, rfl⟩
   refine pD (fun W R z9 => ?_) ?_
   ·rw [eS (l := [(3, _)]) ⟨z9 3 rfl, ⟨⟩⟩]
    refine qj (qW ((-1) - (u1.getD 0 0)) rfl rfl (by omega) (by omega) ?_)
    exact ⟨rfl, rfl, rfl⟩
   refine pD (fun W R z9 => ?_) ?_
   ·refine qj (qk (v2) rfl ?_)
    exact ⟨rfl, rfl, rfl⟩
   refine pD (fun W R z9 => ?_) ?_
   ·rw [eS (l := [(0, _)]) ⟨z9 0 rfl, ⟨⟩⟩]
    refine qj (jb rfl ?_)
    exact ⟨rfl, rfl, rfl⟩
   refine pD (fun W R z9 => ?_) ?_
   ·rw [eS (l := [(6, _)]) ⟨z9 6 rfl, ⟨⟩⟩]
    refine qj (qA (1) jr rfl sizeOf198 (by decide) rfl rfl ?_)
    exact ⟨rfl, rfl, rfl⟩
   exact stepsP.nil
  intro W hphi
  rw [eS (l := [(4, _), (5, _), (7, _)]) ⟨(hphi 4 (by decide)), (hphi 5 (by decide)), (hphi 7 (by decide)), ⟨⟩⟩]
  show XL _ _ _ _ _ _ _ (cellsH ub (arv :: bs) 200 :: L)
  refine cX (jI (i := (-1) - (u1.getD 0 0)) (((-1) - (u1.getD 0 0)).toNat) (1 + (((-1) - (u1.getD 0 0)).toNat)) jA qN rfl rfl (by omega) (by omega) (by omega) (cX (jq [] _ (arv :: (bs.set (((-1) - (u1.getD 0 0)).toNat) v2)) qN rfl rfl (qP (jc hv2)) rfl (blt_1 (by have := CO.len hbc; (try simp only [List.length_set, List.length_replicate] at this ⊢) <;> omega)) set_1 ?_)))
  have hc6 := hbc.set (((-1) - (u1.getD 0 0)).toNat) hv2 (by rw [hny]; exact (decide_eq_false hry.w.ne).symm)
  refine qb (qx (qi (retEndP (L' := cellsH ub (arv :: ((bs.set (((-1) - (u1.getD 0 0)).toNat) v2))) 200 :: L) [] (.tuple #[]) (by exact .nil) rfl rF rF (sC sR) ?_)))
  exact ⟨_, _, rfl, hc6, (bind_eq hb hσ hrx hry (by omega) (by first | exact hoy | exact bind_var hσ hry (by omega) (by omega))), rfl⟩
 refine qv (qc (qc ?_))
 refine jz [cellsH ub (arv :: bs) 200] L 6 [] [[], [0], [1], [], [3], [4]] (phiL [qe v1, qe (.pointer (some (elemA v1 (0)))), qe (ii (u1.getD 0 0)), qe v2, qe (.pointer (some (elemA v2 (0)))), qe (ii (u2.getD 0 0))]) (ownL []) mixed rfl rfl (by kernel_rfl) ?_ ?_
 ·refine pD (fun W R z9 => ?_) ?_
  ·refine qj (qk (v1) rfl ?_)
   exact ⟨rfl, rfl, rfl⟩
  refine pD (fun W R z9 => ?_) ?_
  ·rw [eS (l := [(0, _)]) ⟨z9 0 rfl, ⟨⟩⟩]
   refine qj (qB 0 qd qy rfl rfl rfl hv1.slv (by omega) (Nat.mul_one _) ?_)
   exact ⟨rfl, rfl, rfl⟩
  refine pD (fun W R z9 => ?_) ?_
  ·rw [eS (l := [(1, _)]) ⟨z9 1 rfl, ⟨⟩⟩]
   refine qj (qn qV rfl (hv1.rd (by omega)) ?_)
   exact ⟨rfl, rfl, rfl⟩
  refine pD (fun W R z9 => ?_) ?_
  ·refine qj (qk (v2) rfl ?_)
   exact ⟨rfl, rfl, rfl⟩
  refine pD (fun W R z9 => ?_) ?_
  ·rw [eS (l := [(3, _)]) ⟨z9 3 rfl, ⟨⟩⟩]
   refine qj (qB 0 qd qy rfl rfl rfl hv2.slv (by omega) (Nat.mul_one _) ?_)
   exact ⟨rfl, rfl, rfl⟩
  refine pD (fun W R z9 => ?_) ?_
  ·rw [eS (l := [(4, _)]) ⟨z9 4 rfl, ⟨⟩⟩]
   refine qj (qn qV rfl (hv2.rd (by omega)) ?_)
   exact ⟨rfl, rfl, rfl⟩
  exact stepsP.nil
 intro W hphi
 rw [eS (l := [(2, _), (5, _)]) ⟨(hphi 2 (by decide)), (hphi 5 (by decide)), ⟨⟩⟩]
 show XL _ _ _ _ _ _ _ (cellsH ub (arv :: bs) 200 :: L)
 refine cX (XOp.neq rfl rfl (qb ?_))
 refine qF (p := (u1.getD 0 0 : Int) ≠ u2.getD 0 0) rfl (fun h16 => ?_) (fun h16 => ?_)
 ·refine qa ?_
  skip
  refine cX (qY [] [] [] [] jE zeroValue230 rfl PlacesAre.nil rfl CellsAre.nil (cX (XOp.iface jE rfl (jG ((sC sR)) (XL.panicI rfl ?_)))))
  exact .inr ⟨_, rfl, _, _, rfl, hbc, (heads_ne hrx hry (by omega) (by omega) (by omega)), rfl⟩
 exfalso
 omega

theorem equate_spec (k N : Nat) : ∀ {F : FH} {L : List HP} {ub : Nat} {arv : Value} {ar : List Int} {bs : List Value} {bl : RowL} (har : IntsF F arv ar) (hbc : BindC F bs bl) (hb : BOk ar bl) {σ : Sbs} {av : Value} {a : List Int} (ha : IntsF F av a) {cv : Value} {c : List Int} (hc : IntsF F cv c) (hσ : Sol bl σ) (hoa : TermW ar a) (hoc : TermW ar c) (hna : isNil av = false) (hnc : isNil cv = false) (hk : unb bl ≤ k) (hN : (ap σ a).length ≤ N), DoesP prog 237 [ptr ub 0, av, cv] F (cellsH ub (arv :: bs) 200 :: L) (fun v F' L' => ∃ (b9 : List Value) (l9 : RowL), (.tuple #[] : Value) = v ∧ BindC F' b9 l9 ∧ Solves ar bl l9 (fun θ => ap θ a = ap θ c) ∧ cellsH ub (arv :: b9) 200 :: L = L') (fun ch F' L' => ∃ (b9 : List Value) (l9 : RowL), ch = [{ v := .iface 230 (.agg #[]), recovered := false }] ∧ BindC F' b9 l9 ∧ (∀ θ, GoodS ar θ → SatB bl θ → ap θ a ≠ ap θ c) ∧ cellsH ub (arv :: b9) 200 :: L = L') := by
  induction k using Nat.strongRecOn generalizing N with
  | _ k ihk =>
    induction N using Nat.strongRecOn with
    | _ N ihN =>
      intros
      refine equate_step (fun k1 N1 h => ?_) (by assumption) (by assumption) (by assumption) (by assumption) (by assumption) (by assumption) (by assumption) (by assumption) (by assumption) (by assumption) (by assumption) (by assumption)
      rcases h with h | ⟨rfl, h⟩
      · exact ihk k1 h N1
      · exact ihN N1 h


set_option maxRecDepth 20000 in
theorem solve_catch {F : FH} {L : List HP} {b : Nat} {x : Bool} {w : World} (H : Holds F (cellsH b [.bool x] 4 :: L) w) :
    CallsD prog 236 #[.pointer (some ⟨b, 0, none⟩)] (.panicking [{ v := .iface 230 (.agg #[]), recovered := false }]) w fun e u' w' =>
      e = .returned (.tuple #[]) ∧ u' = .panicking [{ v := .iface 230 (.agg #[]), recovered := true }] ∧ Holds F (cellsH b [.bool false] 4 :: L) w' := by
  refine callsD_of_wpS func236 rfl fun c₀ cs hu => ?_
  apply wpS_seq
  apply wpS_region
  simp [wpOpsS, go_sem, recoverD, hu, ntmps236, Exit.thenS]
  apply wpS_seq
  apply wpS_region
  simp [wpOpsS, go_sem, recoverD, hu, ntmps236, Exit.thenS]
  refine wpS_cond (t := true) (by simp [Act.eval, Array.replicate]) ?_
  simp only [if_true]
  refine wpS_of_wp (Code.wp_mono ?_ (wp_of_X (n := 15) (Q := fun e ρ F' L' => e = .normal ∧ Sub L' (cellsH b [.bool false] 4 :: L)) [(0, ptr b 0), (1, .iface 230 (.agg #[]))] (by simp) rfl ⟨by simp, by simp [Array.replicate], ⟨⟩⟩ rfl (fun rE => ?_) H))
  · rintro e a' w' ⟨ρ, F', L', r, le, H', rfl, s⟩
    exact ⟨r.defers, _, rfl, _, results_none rfl _ _ _, rfl, rfl, s.holds (H'.forget le)⟩
  · skip
    refine qc (qc (qa (qf ((.iface 230 (.agg #[]))) rfl (cX (XOp.assertOk jE rfl (qf (.tuple #[.agg #[], .bool (true)]) rfl (cX (qH (.agg #[]) rfl rfl (cX (qH (.bool (true)) rfl rfl (cX (jd [] zeroValue230 rfl ?_))))))))))))
    intro b1
    refine cX (qt [] _ [] sizeOf230 rfl rfl rfl qC rfl rfl rfl (qh (.bool (true)) rfl (qb (qc (qa (qf (.bool (true)) rfl (cX (jh rfl (qb (jx rfl (qv (qa (cX (jq [_] _ [.bool (false)] sizeOf4 rfl rfl rfl rfl rfl rfl (qb ?_)))))))))))))))
    exact ⟨rfl, (sD (sC sR))⟩


theorem solve_idle {p : Value} {w : World} :
    CallsD prog 236 #[p] .returning w fun e u' w' => e = .returned (.tuple #[]) ∧ u' = .returning ∧ w' = w := by
  refine callsD_of_wpS func236 rfl fun c₀ cs hu => ?_
  apply wpS_seq
  apply wpS_region
  simp [wpOpsS, go_sem, recoverD, hu, ntmps236, Exit.thenS]
  apply wpS_seq
  apply wpS_region
  simp [wpOpsS, go_sem, recoverD, hu, ntmps236, Exit.thenS]
  refine wpS_cond (t := false) (by simp [Act.eval, Array.replicate]) ?_
  simp only [Bool.false_eq_true, if_false]
  refine wpS_of_wp (wp_skip ?_)
  cases c₀
  simp_all [bodyPostS, results, results236]


set_option maxRecDepth 20000 in
theorem solve_spec {F : FH} {L : List HP} {ub : Nat} {arv : Value} {ar : List Int} {bs : List Value} {bl : RowL} (har : IntsF F arv ar) (hbc : BindC F bs bl) (hb : BOk ar bl) {av : Value} {a : List Int} (ha : IntsF F av a) {cv : Value} {c : List Int} (hc : IntsF F cv c) (hoa : TermW ar a) (hoc : TermW ar c) (hna : isNil av = false) (hnc : isNil cv = false) :
    Does prog 208 [ptr ub 0, av, cv] F (cellsH ub (arv :: bs) 200 :: L) (fun v F' L' => ∃ (ok : Bool) (b9 : List Value) (l9 : RowL), (.bool ok : Value) = v ∧ BindC F' b9 l9 ∧ (ok = true → Solves ar bl l9 (fun θ => ap θ a = ap θ c)) ∧ (ok = false → ∀ θ, GoodS ar θ → SatB bl θ → ap θ a ≠ ap θ c) ∧ cellsH ub (arv :: b9) 200 :: L = L') := by
  obtain ⟨σ, hσ⟩ := hb.sol
  intro w H
  have hmf : ∀ (fn : Go.Fn) (first cap : Array Value) (w : World), (Instr.makeFunc fn first cap).run prog w = .ok (.func fn first cap) w := fun _ _ _ _ => rfl
  refine (?_ : ∀ R : Ending → World → Prop, (∀ v F' L' w', F ≤ F' → Holds F' L' w' → (∃ (ok : Bool) (b9 : List Value) (l9 : RowL), (.bool ok : Value) = v ∧ BindC F' b9 l9 ∧ (ok = true → Solves ar bl l9 (fun θ => ap θ a = ap θ c)) ∧ (ok = false → ∀ θ, GoodS ar θ → SatB bl θ → ap θ a ≠ ap θ c) ∧ cellsH ub (arv :: b9) 200 :: L = L') → R (.returned v) w') → Calls prog 208 #[ptr ub 0, av, cv] w R) _ fun v F' L' w' le H' q => ⟨v, F', L', rfl, le, H', q⟩
  intro R hR
  go_enter_defers func208, ntmps208
  refine wp_seq (wp_region_lit (wpList_one rfl ?_))
  simp only [Oper.wp, execOp]
  simp [wpList, go_sem, Exit.then]
  refine wp_seq (wp_region_lit (wpList_one rfl ?_))
  simp [go_sem, hmf]
  refine wpList_one rfl ?_
  simp [go_sem, hmf]
  show Code.wp _ _ _ _ _
  refine wp_seq (wp_region_lit (wpList_one rfl ?_))
  simp [go_sem]
  refine wpList_one rfl ?_
  simp [go_sem]
  refine wpList_one rfl ?_
  simp [go_sem]
  refine wpList_one rfl ?_
  simp [go_sem, Oper.upon]
  have H1 : Holds F (cellsH w.heap.size [.bool false] 4 :: cellsH ub (arv :: bs) 200 :: L) (w.alloc (.cells #[.bool false] 4)) := H.new _
  have H2 : Holds F (cellsH ub (arv :: bs) 200 :: cellsH w.heap.size [.bool false] 4 :: L) (w.alloc (.cells #[.bool false] 4)) := (Sub.perm (List.Perm.swap ..)).holds H1
  refine (equate_spec _ _ har hbc hb ha hc hσ hoa hoc hna hnc (Nat.le_refl _) (Nat.le_refl _) _ H2).mono ?_
  rintro e w2 (⟨v, F2, L2, rfl, le, H3, b9, l9, rfl, hb9, hso, rfl⟩ | ⟨ch, F2, L2, rfl, le, H3, b9, l9, rfl, hb9, hne, rfl⟩)
  · show Code.wp _ _ _ _ _
    refine wp_seq (wp_region_lit (wpList_one rfl (wp_XOp_raw (F := F2) (K := fun v F' L' => F' = F2 ∧ L' = [cellsH ub (arv :: b9) 200] ++ cellsH w.heap.size [.bool true] 4 :: L) (jq (b := w.heap.size) (o := 0) (v := .bool true) [_] _ [.bool true] sizeOf4 rfl rfl rfl rfl rfl rfl ⟨rfl, rfl⟩) H3 ?_)))
    rintro v F' L' w3 _ H4 ⟨rfl, rfl⟩
    show Code.wp _ _ _ _ _
    refine wp_ret ?_
    show Leaves _ _ _ _ _ _ _
    refine leaves_cons (f := 236) (args := #[.pointer (some ⟨w.heap.size, 0, none⟩)]) (by simp) (by simp [go_sem]) (solve_idle.mono ?_)
    rintro e u' w'' ⟨rfl, rfl, rfl⟩
    have hcell : w''.cell? ⟨w.heap.size, 0, none⟩ = some (.bool true) := cell_of_heap H4.getCells rfl
    exact ⟨.bool true, by simp [results, results208, go_sem, hcell], hR (.bool true) F' _ _ le ((sC (sD sR)).holds H4) ⟨true, b9, l9, rfl, hb9, fun _ => hso, fun h => (by cases h), rfl⟩⟩
  · show Leaves _ _ _ _ _ _ _
    refine leaves_cons (f := 236) (args := #[.pointer (some ⟨w.heap.size, 0, none⟩)]) (by simp) (by simp [go_sem]) ?_
    have H3' := (Sub.perm (List.Perm.swap ..)).holds H3
    refine (solve_catch H3').mono ?_
    rintro e u' w3 ⟨rfl, rfl, H4⟩
    have hcell : w3.cell? ⟨w.heap.size, 0, none⟩ = some (.bool false) := cell_of_heap (H4.getCells (A := [])) rfl
    exact ⟨.bool false, by simp [results, results208, go_sem, hcell], hR (.bool false) F2 _ _ le ((sD sR).holds H4) ⟨false, b9, l9, rfl, hb9, fun h => (by cases h), fun _ => hne, rfl⟩⟩


/- (*impl.unifier).resolve -/
set_option maxHeartbeats 1000000 in
theorem resolve_step {k : Nat} (ih : ∀ k9 : Nat, k9 < k → ∀ {F : FH} {L : List HP} {ub : Nat} {arv : Value} {ar : List Int} {bs : List Value} {bl : RowL} (har : IntsF F arv ar) (hbc : BindC F bs bl) (hb : BOk ar bl) {σ : Sbs} {ρ : Int → Nat} {ov : Value} {os : List Int} {tv : Value} {t : List Int} (ht : IntsF F tv t) (hov : IsSl ov) (hol : os.length ≤ 60) (hσ : Sol bl σ) (hρ : Acyc bl ρ) (htk : ∀ m ∈ t, m < 0 → ρ m < k9) (htg : ∀ i, i < t.length → -48 ≤ t.getD i 0) (htl : t.length ≤ 60), Does prog 182 [ptr ub 0, ov, tv] F (intsH 2 ov os :: cellsH ub (arv :: bs) 200 :: L) (fun v F' L' => ∃ a9 : Value, (.tuple #[a9, .bool (resOk σ os t)] : Value) = v ∧ IsSl a9 ∧ F = F' ∧ intsH 2 a9 ((resX σ os t)) :: cellsH ub (arv :: bs) 200 :: L = L')) {F : FH} {L : List HP} {ub : Nat} {arv : Value} {ar : List Int} {bs : List Value} {bl : RowL} (har : IntsF F arv ar) (hbc : BindC F bs bl) (hb : BOk ar bl) {σ : Sbs} {ρ : Int → Nat} {ov : Value} {os : List Int} {tv : Value} {t : List Int} (ht : IntsF F tv t) (hov : IsSl ov) (hol : os.length ≤ 60) (hσ : Sol bl σ) (hρ : Acyc bl ρ) (htk : ∀ m ∈ t, m < 0 → ρ m < k) (htg : ∀ i, i < t.length → -48 ≤ t.getD i 0) (htl : t.length ≤ 60) :
    Does prog 182 [ptr ub 0, ov, tv] F (intsH 2 ov os :: cellsH ub (arv :: bs) 200 :: L) (fun v F' L' => ∃ a9 : Value, (.tuple #[a9, .bool (resOk σ os t)] : Value) = v ∧ IsSl a9 ∧ F = F' ∧ intsH 2 a9 ((resX σ os t)) :: cellsH ub (arv :: bs) 200 :: L = L') := by
 refine qM func182 rfl rfl rfl ?_
 have hbl := hb.len
 refine qc (qa (qh (sN) rfl (qh (.bool (false)) rfl (qb (qc (qc (qa (qf (tv) rfl (cX (qO qd rfl ht.slv (qf (ii (0)) rfl (qb (qQ (js (α := Nat × Value × List Int) (fun xQ => [(0, ptr ub 0), (1, xQ.2.1), (11, tv), (12, ii ((t.length : Int))), (13, ii (((xQ.1 : Nat) : Int)))]) (fun xQ => intsH 2 xQ.2.1 xQ.2.2 :: cellsH ub (arv :: bs) 200 :: L) (fun xQ F' => F = F' ∧ (IsSl xQ.2.1) ∧ (xQ.1 ≤ t.length) ∧ (xQ.2.2 = os ++ ap σ (t.take xQ.1)) ∧ (xQ.2.2.length ≤ 60)) (fun xQ => t.length - xQ.1) (0, ov, os) ⟨rfl, rfl, rfl, rfl, rfl, ⟨⟩⟩ (sC (sC sR)) ⟨rfl, (hov), (by (try dsimp only) <;> omega), (by simp [ap]), (hol)⟩ ?_))))))))))))))
 rintro ⟨j, wv, ws⟩ rE _ _ ⟨rfl, hwv, hj, hws, hwl⟩
 show X _ _ _ _ (envs [(0, ptr ub 0), (1, wv), (11, tv), (12, ii ((t.length : Int))), (13, ii ((j : Int)))] rE) _ (intsH 2 wv ws :: cellsH ub (arv :: bs) 200 :: L)
 dsimp only at hwv hj hws hwl
 have hgj := fun h : j < t.length => htg j h
 have hwl2 : ws.length = os.length + (ap σ (t.take j)).length := by rw [hws, List.length_append]
 refine qc (qa (cX (qZ rfl rfl (qb (qc ?_)))))
 refine qF (p := (j : Int) < (t.length : Int)) rfl (fun h1 => ?_) (fun h1 => ?_)
 ·refine qv (qc (qQ (qc (qa (cX (qB j qd qy rfl rfl rfl ht.slv (by omega) (Nat.mul_one _) (cX (qn qV rfl (ht.rd (by omega)) (qh (ii (t.getD j 0)) rfl (qb (qc (qc (qa (qf (ii (t.getD j 0)) rfl (cX (qZ rfl rfl (qf (.bool (decide ((t.getD j 0 : Int) < 0))) rfl ?_)))))))))))))))))
  by_cases h2 : (t.getD j 0 : Int) < 0
  ·have hj0 : t.getD j 0 < 0 := h2
   have hgj2 := hgj (by omega)
   have hrj := htk _ (mem_of_getD (k := j) (by omega) rfl) hj0
   refine qq (t := 19) rfl (vT h2) (qk (ptr ub 0) rfl (qq (t := 19) rfl (vT h2) (qk (ii (t.getD j 0)) rfl (qq (t := 19) rfl (vT h2) (qW ((-1) - (t.getD j 0)) rfl rfl (by omega) (by omega) (qq (t := 19) rfl (vT h2) (jb rfl (qq (t := 19) rfl (vT h2) (qA (1) jr rfl sizeOf198 (by decide) rfl rfl (qq (t := 19) rfl (vT h2) (jI (i := (-1) - (t.getD j 0)) (((-1) - (t.getD j 0)).toNat) (1 + (((-1) - (t.getD j 0)).toNat)) jA qN rfl rfl (by omega) (by omega) (by omega) ?_)))))))))))
   obtain ⟨a1, ha1, hn1, he1⟩ := hbc.get (i := ((-1) - (t.getD j 0)).toNat) (by omega)
   refine qq (t := 19) rfl (vT h2) (qn jn rfl (Rd.own [_] rfl (get_1 he1)) (qq (t := 19) rfl (vT h2) (XOp.neNil qd rfl rfl (jc ha1) (cX (qX (.bool (!isNil a1)) (vT h2) rfl (qb ?_))))))
   refine jk (t := !isNil a1) rfl (fun h3 => ?_) (fun h3 => ?_)
   ·have hbn := ne_of_notNil hn1 h3
    have hnb : isNil a1 = false := by rw [hn1]; exact decide_eq_false hbn
    have hlj : lkN bl (t.getD j 0) ≠ [] := by rw [lkN_get hj0]; exact hbn
    have hwj := hb.wt _ hj0 hlj
    rw [lkN_get hj0] at hwj
    have hsj : σ (t.getD j 0) = ap σ (bl.getD (varIx (t.getD j 0)) []) := by rw [hσ.bound hlj, lkN_get hj0]
    refine qc (qa (qh (.bool (false)) rfl (qb (qc (qc (qa (qf (ptr ub 0) rfl (qf (wv) rfl (qf (ptr ub 0) rfl (qf (ii (t.getD j 0)) rfl (cX (qW ((-1) - (t.getD j 0)) rfl rfl (by omega) (by omega) (cX (jb rfl (cX (qA (1) jr rfl sizeOf198 (by decide) rfl rfl ?_))))))))))))))))
    refine cX (jI (i := (-1) - (t.getD j 0)) (((-1) - (t.getD j 0)).toNat) (1 + (((-1) - (t.getD j 0)).toNat)) jA qN rfl rfl (by omega) (by omega) (by omega) (cX (qn jn rfl (Rd.own [_] rfl (get_1 he1)) (jG (jy (A := [_])) ?_))))
    show XL _ _ _ _ _ _ _ (cellsH ub (arv :: bs) 200 :: intsH 2 wv ws :: L)
    refine jG (jy (A := [_])) ?_
    show XL _ _ _ _ _ _ _ (intsH 2 wv ws :: cellsH ub (arv :: bs) 200 :: L)
    refine cX (ql (args := [ptr ub 0, wv, a1]) call182 rfl (ih _ hrj har hbc (by assumption) (os := ws) ha1 hwv hwl hσ hρ (fun m hm h0 => hρ _ hj0 m (by rw [lkN_get hj0]; exact hm) h0) (fun i hi => hwj.geD hi) hwj.len.2) ?_)
    rintro _ _ _ _ ⟨v1, rfl, hs1, rfl, rfl⟩
    refine qf (.tuple #[v1, .bool (resOk σ ws ((bl.getD (((-1) - (t.getD j 0)).toNat) [])))]) rfl (cX (qH (v1) rfl rfl (cX (qH (.bool (resOk σ ws ((bl.getD (((-1) - (t.getD j 0)).toNat) [])))) rfl rfl (qh (v1) rfl (qh (.bool (resOk σ ws ((bl.getD (((-1) - (t.getD j 0)).toNat) [])))) rfl (qb (qc (qa (qf (.bool (resOk σ ws ((bl.getD (((-1) - (t.getD j 0)).toNat) [])))) rfl (cX (jh rfl (qb ?_)))))))))))))
    refine jk (t := !(resOk σ ws ((bl.getD (((-1) - (t.getD j 0)).toNat) [])))) rfl (fun h4 => ?_) (fun h4 => ?_)
    ·have hro : resOk σ ws (bl.getD (varIx (t.getD j 0)) []) = false := Bool.not_inj (y := false) h4
     have hrn := of_decide_eq_false hro
     refine qc (qa (qh (sN) rfl (qh (.bool (false)) rfl (qb (qx (qi (qi (qs (qi (qi (qs (qi (qp (L' := intsH 2 (sN) ([]) :: cellsH ub (arv :: bs) 200 :: L) [sN, .bool (false)] (.tuple #[sN, .bool (false)]) (.tmp rfl (.tmp rfl .nil)) rfl rF rF (jp (intsH.addNil 2 none _) (sC (sD (sC sR)))) ?_)))))))))))))
     have e9 : resOk σ os t = false := res_no (j := j) (by omega) (by rw [hsj]; first | omega | (rw [List.length_singleton]; omega))
     have e8 : resX σ os t = [] := by unfold resX; rw [if_neg (by rw [e9]; simp)]
     rw [e9, e8]
     exact ⟨_, rfl, ⟨_, _, _, rfl⟩, rfl, rfl⟩
    have hro : resOk σ ws (bl.getD (varIx (t.getD j 0)) []) = true := Bool.not_inj (y := true) h4
    have hrn := of_decide_eq_true hro
    have hnext : resX σ ws (bl.getD (varIx (t.getD j 0)) []) = ws ++ σ (t.getD j 0) := by unfold resX; rw [if_pos hro, hsj]
    have hnlen : (resX σ ws (bl.getD (varIx (t.getD j 0)) [])).length ≤ 60 := by rw [hnext, List.length_append, hsj]; exact hrn
    refine qv (jl (qE (qS (qa (cX (qT (((j + 1 : Nat) : Int)) rfl rfl (by omega) (by omega) (qf (ii (((j + 1 : Nat) : Int))) rfl (qb ?_))))))))
    exact ⟨(j + 1, v1, (resX σ ws ((bl.getD (((-1) - (t.getD j 0)).toNat) [])))), _, FLe.refl _, rF, ⟨rfl, rfl, rfl, rfl, rfl, ⟨⟩⟩, (sC (sC sR)), ⟨rfl, (hs1), (by (try dsimp only) <;> omega), (by (try dsimp only); rw [ap_take (by omega), ← List.append_assoc, ← hws]; exact hnext), (by (try dsimp only); exact hnlen)⟩, (by omega)⟩
   have hbe := eq_of_isNil hn1 h3
   have hsj : σ (t.getD j 0) = [(t.getD j 0)] := hσ.free (by rw [lkN_get hj0]; exact hbe)
   refine qv (qc (qc (qa (qf (wv) rfl (cX (qO qd rfl (intsH.slv [] rfl) (cX (jt rfl rfl (qb ?_)))))))))
   refine qF (p := ((ws.length : Int) : Int) = 60) rfl (fun h5 => ?_) (fun h5 => ?_)
   ·refine qc (qa (qh (sN) rfl (qh (.bool (false)) rfl (qb (qx (qi (qs (qi (qi (qs (qi (qp (L' := intsH 2 (sN) ([]) :: cellsH ub (arv :: bs) 200 :: L) [sN, .bool (false)] (.tuple #[sN, .bool (false)]) (.tmp rfl (.tmp rfl .nil)) rfl rF rF (jp (intsH.addNil 2 none _) (sC (sD (sC sR)))) ?_))))))))))))
    have e9 : resOk σ os t = false := res_no (j := j) (by omega) (by rw [hsj]; first | omega | (rw [List.length_singleton]; omega))
    have e8 : resX σ os t = [] := by unfold resX; rw [if_neg (by rw [e9]; simp)]
    rw [e9, e8]
    exact ⟨_, rfl, ⟨_, _, _, rfl⟩, rfl, rfl⟩
   have hnext : ws ++ [(t.getD j 0)] = ws ++ σ (t.getD j 0) := by rw [hsj]
   have hnlen : (ws ++ [(t.getD j 0)]).length ≤ 60 := by rw [List.length_append, List.length_singleton]; omega
   refine qv (qa (qf (wv) rfl (qf (ii (t.getD j 0)) rfl (cX (qD (s := 1) [ii (t.getD j 0)] [ii (0)] [(0, [ii (t.getD j 0)])] qd qy qU rfl (by decide) rfl (.cons rfl CellsAre.nil) rfl ?_)))))
   intro v2 hv1
   refine cX (jC (u := t.getD j 0) [_] _ qd typeInfo2 rfl rfl rfl rfl rfl rfl (SlV.own [] rfl) (Rd.sl [] rfl rfl) (by (try simp only [List.length_append, List.length_nil, List.length_cons, List.length_singleton, List.length_take, List.length_drop]); omega) ?_)
   intro v3 hs2 hn2
   refine qh (v3) rfl (qb (qa (cX (qT (((j + 1 : Nat) : Int)) rfl rfl (by omega) (by omega) (qf (ii (((j + 1 : Nat) : Int))) rfl (qb ?_))))))
   exact ⟨(j + 1, v3, ws ++ [t.getD j 0]), _, FLe.refl _, rF, ⟨rfl, rfl, rfl, rfl, rfl, ⟨⟩⟩, (sD (sC (sC sR))), ⟨rfl, (hs2), (by (try dsimp only) <;> omega), (by (try dsimp only); rw [ap_take (by omega), ← List.append_assoc, ← hws]; exact hnext), (by (try dsimp only); exact hnlen)⟩, (by omega)⟩
  have hsj : σ (t.getD j 0) = [(t.getD j 0)] := hσ.sym (by omega)
  refine qu (t := 19) rfl (vF h2) (qu (t := 19) rfl (vF h2) (qu (t := 19) rfl (vF h2) (qu (t := 19) rfl (vF h2) (qu (t := 19) rfl (vF h2) (qu (t := 19) rfl (vF h2) (qu (t := 19) rfl (vF h2) (qu (t := 19) rfl (vF h2) (cX (qR (.bool (false)) (vF h2) rfl (qb ?_))))))))))
  refine jx rfl (qv (qc (qc (qa (qf (wv) rfl (cX (qO qd rfl (intsH.slv [] rfl) (cX (jt rfl rfl (qb ?_))))))))))
  refine qF (p := ((ws.length : Int) : Int) = 60) rfl (fun h6 => ?_) (fun h6 => ?_)
  ·refine qc (qa (qh (sN) rfl (qh (.bool (false)) rfl (qb (qx (qi (qs (qi (qi (qs (qi (qp (L' := intsH 2 (sN) ([]) :: cellsH ub (arv :: bs) 200 :: L) [sN, .bool (false)] (.tuple #[sN, .bool (false)]) (.tmp rfl (.tmp rfl .nil)) rfl rF rF (jp (intsH.addNil 2 none _) (sC (sD (sC sR)))) ?_))))))))))))
   have e9 : resOk σ os t = false := res_no (j := j) (by omega) (by rw [hsj]; first | omega | (rw [List.length_singleton]; omega))
   have e8 : resX σ os t = [] := by unfold resX; rw [if_neg (by rw [e9]; simp)]
   rw [e9, e8]
   exact ⟨_, rfl, ⟨_, _, _, rfl⟩, rfl, rfl⟩
  have hnext : ws ++ [(t.getD j 0)] = ws ++ σ (t.getD j 0) := by rw [hsj]
  have hnlen : (ws ++ [(t.getD j 0)]).length ≤ 60 := by rw [List.length_append, List.length_singleton]; omega
  refine qv (qa (qf (wv) rfl (qf (ii (t.getD j 0)) rfl (cX (qD (s := 1) [ii (t.getD j 0)] [ii (0)] [(0, [ii (t.getD j 0)])] qd qy qU rfl (by decide) rfl (.cons rfl CellsAre.nil) rfl ?_)))))
  intro v4 hv2
  refine cX (jC (u := t.getD j 0) [_] _ qd typeInfo2 rfl rfl rfl rfl rfl rfl (SlV.own [] rfl) (Rd.sl [] rfl rfl) (by (try simp only [List.length_append, List.length_nil, List.length_cons, List.length_singleton, List.length_take, List.length_drop]); omega) ?_)
  intro v5 hs3 hn3
  refine qh (v5) rfl (qb (qa (cX (qT (((j + 1 : Nat) : Int)) rfl rfl (by omega) (by omega) (qf (ii (((j + 1 : Nat) : Int))) rfl (qb ?_))))))
  exact ⟨(j + 1, v5, ws ++ [t.getD j 0]), _, FLe.refl _, rF, ⟨rfl, rfl, rfl, rfl, rfl, ⟨⟩⟩, (sD (sC (sC sR))), ⟨rfl, (hs3), (by (try dsimp only) <;> omega), (by (try dsimp only); rw [ap_take (by omega), ← List.append_assoc, ← hws]; exact hnext), (by (try dsimp only); exact hnlen)⟩, (by omega)⟩
 refine jl (qE (qE (qS (qc (qa (qf (wv) rfl (qh (wv) rfl (qh (.bool (true)) rfl (qb (qx (qp (L' := intsH 2 wv ws :: cellsH ub (arv :: bs) 200 :: L) [wv, .bool (true)] (.tuple #[wv, .bool (true)]) (.tmp rfl (.tmp rfl .nil)) rfl rF rF (sC (sC sR)) ?_)))))))))))
 obtain ⟨e9, e8⟩ := res_end (σ := σ) (os := os) (t := t) (j := j) (by omega) (by omega)
 rw [e9, e8, ← hws]
 exact ⟨_, rfl, hwv, rfl, rfl⟩

theorem resolve_spec (k : Nat) : ∀ {F : FH} {L : List HP} {ub : Nat} {arv : Value} {ar : List Int} {bs : List Value} {bl : RowL} (har : IntsF F arv ar) (hbc : BindC F bs bl) (hb : BOk ar bl) {σ : Sbs} {ρ : Int → Nat} {ov : Value} {os : List Int} {tv : Value} {t : List Int} (ht : IntsF F tv t) (hov : IsSl ov) (hol : os.length ≤ 60) (hσ : Sol bl σ) (hρ : Acyc bl ρ) (htk : ∀ m ∈ t, m < 0 → ρ m < k) (htg : ∀ i, i < t.length → -48 ≤ t.getD i 0) (htl : t.length ≤ 60), Does prog 182 [ptr ub 0, ov, tv] F (intsH 2 ov os :: cellsH ub (arv :: bs) 200 :: L) (fun v F' L' => ∃ a9 : Value, (.tuple #[a9, .bool (resOk σ os t)] : Value) = v ∧ IsSl a9 ∧ F = F' ∧ intsH 2 a9 ((resX σ os t)) :: cellsH ub (arv :: bs) 200 :: L = L') := by
  induction k using Nat.strongRecOn with
  | _ k ih =>
    intros
    exact resolve_step ih (by assumption) (by assumption) (by assumption) (by assumption) (by assumption) (by assumption) (by assumption) (by assumption) (by assumption) (by assumption) (by assumption)


/- impl.renumber -/
set_option maxHeartbeats 1000000 in
set_option maxRecDepth 20000 in
theorem renumber_spec {F : FH} {L : List HP} {tsv : Value} {ts : List (List Int)} (hts : RowsF F tsv ts) (htl : ts.length ≤ 100) (hrb : ∀ i, i < ts.length → (ts.getD i []).length ≤ 60) :
    Does prog 142 [tsv] F (L) (fun v F' L' => ∃ (cs : List Value) (Us : List HP), ArrF F' 1 v (rnL [] ts).length cs ∧ RowsC F' cs (rnL [] ts) ∧ DeepL 1 (RowO 2) cs (rnL [] ts) Us ∧ Fresh F F' (star Us) ∧ L = L') := by
 refine qM func142 rfl rfl rfl (qc (qa (qh (sN) rfl (qb (qc (qa (qh (sN) rfl (qb (qc (qa (qh (sN) rfl (qb (qc (qc (qa (qf (tsv) rfl (cX (qO qJ rfl hts.slv ?_))))))))))))))))))
 refine qf (ii (0)) rfl (qb (qQ (js (α := Nat × Value × RowL × List Value × List HP × Nat × Value × List Int × FH) (fun xQ => [(3, xQ.2.2.2.2.2.2.1), (4, xQ.2.1), (11, tsv), (12, ii ((ts.length : Int))), (13, ii (((xQ.1 : Nat) : Int)))]) (fun xQ => slH 27 1 xQ.2.1 xQ.2.2.2.2.2.1 xQ.2.2.2.1 :: intsH 2 xQ.2.2.2.2.2.2.1 xQ.2.2.2.2.2.2.2.1 :: L) (fun xQ F' => xQ.2.2.2.2.2.2.2.2 = F' ∧ F ≤ xQ.2.2.2.2.2.2.2.2 ∧ (IsSl xQ.2.1) ∧ (xQ.1 ≤ ts.length) ∧ (RowsC xQ.2.2.2.2.2.2.2.2 xQ.2.2.2.1 xQ.2.2.1) ∧ (xQ.2.2.2.2.2.1 = xQ.2.2.1.length) ∧ (DeepL 1 (RowO 2) xQ.2.2.2.1 xQ.2.2.1 xQ.2.2.2.2.1) ∧ (Fresh F xQ.2.2.2.2.2.2.2.2 (star xQ.2.2.2.2.1)) ∧ (IsSl xQ.2.2.2.2.2.2.1) ∧ (rnL [] ts = xQ.2.2.1 ++ rnL xQ.2.2.2.2.2.2.2.1 (ts.drop xQ.1)) ∧ (xQ.2.2.2.2.2.2.2.1.length ≤ xQ.1 * 60)) (fun xQ => ts.length - xQ.1) (0, sN, [], [], [], 0, sN, [], F) ⟨rfl, rfl, rfl, rfl, rfl, ⟨⟩⟩ (jp (Sub.addNil 27 1 _ _) (sC (jp (intsH.addNil 2 none _) (sC sR)))) ⟨rfl, FLe.refl _, (⟨_, _, _, rfl⟩), (by (try dsimp only) <;> omega), (CO.nil), (rfl), (DeepL.nil), (Fresh.nilL), (⟨_, _, _, rfl⟩), (rfl), (Nat.zero_le _)⟩ ?_)))
 rintro ⟨k, ov, os, ocs, Us, m, zv, zs, G1⟩ rE _ _ ⟨rfl, leG, hov, hk, hC, hm, hD, hZ, hzv, hrn, hzl⟩
 show X _ _ _ _ (envs [(3, zv), (4, ov), (11, tsv), (12, ii ((ts.length : Int))), (13, ii ((k : Int)))] rE) _ (slH 27 1 ov m ocs :: intsH 2 zv zs :: L)
 replace leG : F ≤ G1 := leG
 dsimp only at hov hk hC hm hD hZ hzv hrn hzl
 have hrbk := hrb k
 have hol : os.length ≤ ts.length := by have h9 := congrArg List.length hrn; rw [List.length_append, rnL_len] at h9; omega
 have leG1 := leG
 replace hts := hts.mono leG1
 refine qc (qa (cX (qZ rfl rfl (qb (qc ?_)))))
 refine qF (p := (k : Int) < (ts.length : Int)) rfl (fun h1 => ?_) (fun h1 => ?_)
 ·refine qv (qc (qQ (qc (qa (cX (qB k qJ qN rfl rfl rfl hts.slv (by omega) (Nat.mul_one _) ?_))))))
  obtain ⟨a1, ha1, hr1⟩ := hts.rd (i := k) (by omega)
  refine cX (qn jn rfl (hr1 _) (qh (a1) rfl (qb (qc (qa (qf (a1) rfl (cX (ql (args := [a1]) call188 rfl (Clone_spec ha1 (hlt := (by have := hrbk (by omega); omega))) ?_))))))))
  rintro v1 _ _ _ ⟨rfl, hs1, rfl⟩
  refine qh (v1) rfl (qb (qc (qc (qa (qf (v1) rfl (cX (qO qd rfl (intsH.slv [] rfl) (qf (ii (0)) rfl (qb (qQ (js (α := Nat × List Int × Value × List Int) (fun xQ => [(3, xQ.2.2.1), (4, ov), (7, v1), (11, tsv), (12, ii ((ts.length : Int))), (13, ii ((k : Int))), (19, v1), (20, ii (((((((ts.getD k [])))).length : Nat) : Int))), (21, ii (((xQ.1 : Nat) : Int)))]) (fun xQ => intsH 2 v1 xQ.2.1 :: slH 27 1 ov m ocs :: intsH 2 xQ.2.2.1 xQ.2.2.2 :: L) (fun xQ F' => G1 = F' ∧ (xQ.1 ≤ (ts.getD k []).length) ∧ (IsSl xQ.2.2.1) ∧ (RnAt zs (ts.getD k []) xQ.2.2.2 xQ.2.1 xQ.1) ∧ (xQ.2.2.2.length ≤ k * 60 + xQ.1)) (fun xQ => (ts.getD k []).length - xQ.1) (0, (ts.getD k []), zv, zs) ⟨rfl, rfl, rfl, rfl, rfl, rfl, rfl, rfl, rfl, ⟨⟩⟩ (sC (sC (sC sR))) ⟨rfl, (by (try dsimp only) <;> omega), (hzv), (RnAt.start), (by (try dsimp only); omega)⟩ ?_)))))))))))
  rintro ⟨j, ws, zv2, zs2⟩ rE _ _ ⟨rfl, hj, hzv2, hR, hzl2⟩
  show X _ _ _ _ (envs [(3, zv2), (4, ov), (7, v1), (11, tsv), (12, ii ((ts.length : Int))), (13, ii ((k : Int))), (19, v1), (20, ii (((((((ts.getD k [])))).length : Nat) : Int))), (21, ii ((j : Int)))] rE) _ (intsH 2 v1 ws :: slH 27 1 ov m ocs :: intsH 2 zv2 zs2 :: L)
  dsimp only at hj hzv2 hR hzl2
  have hwl := hR.len
  have hwj := fun h : j < (ts.getD k []).length => hR.at h
  refine qc (qa (cX (qZ rfl rfl (qb (qc ?_)))))
  refine qF (p := (j : Int) < ((((((ts.getD k [])))).length : Nat) : Int)) rfl (fun h2 => ?_) (fun h2 => ?_)
  ·refine qv (qc (qQ (qc (qa (qf (ii ((j : Int))) rfl (cX (qB j qd qy rfl rfl rfl (intsH.slv [] rfl) (by omega) (Nat.mul_one _) (cX (qn qV rfl (intsH.rd [] rfl (by omega)) (qh (ii ((j : Int))) rfl (qh (ii (ws.getD j 0)) rfl (qb (qc (qc (qa (qf (ii (ws.getD j 0)) rfl (cX (ju rfl rfl (qb ?_)))))))))))))))))))
   refine qF (p := (ws.getD j 0 : Int) ≥ 0) rfl (fun h3 => ?_) (fun h3 => ?_)
   ·refine jl (qE (qS (qa (cX (qT (((j + 1 : Nat) : Int)) rfl rfl (by omega) (by omega) (qf (ii (((j + 1 : Nat) : Int))) rfl (qb ?_)))))))
    exact ⟨(j + 1, ws, zv2, zs2), _, FLe.refl _, rF, ⟨rfl, rfl, rfl, rfl, rfl, rfl, rfl, rfl, rfl, ⟨⟩⟩, (sC (sC (sC sR))), ⟨rfl, (by (try dsimp only) <;> omega), (hzv2), (hR.sym (by omega) (by have := hwj (by omega); omega)), (by (try dsimp only); (try rw [List.length_append, List.length_singleton]); omega)⟩, (by omega)⟩
   have hwj1 := hwj (by omega)
   have hj0 : (ts.getD k []).getD j 0 < 0 := by omega
   refine qv (qc (qa (qf (zv2) rfl (qf (ii (ws.getD j 0)) rfl (cX (XOp.lend [_, _] _ _ rfl (fun F1 le1 hz1 => ?_)))))))
   have hf1 : IntsF _ zv2 zs2 := intsH.fz (xs := zs2) hz1
   refine id (ql (args := [zv2, ii (ws.getD j 0)]) call204 rfl (Index_spec (n := ws.getD j 0) hf1 (hbd := (by first | assumption | rfl | omega | simp))) ?_)
   rintro _ _ _ _ ⟨rfl, rfl, rfl⟩
   show XL _ _ _ _ _ _ _ (intsH 2 zv2 zs2 :: intsH 2 v1 ws :: slH 27 1 ov m ocs :: L)
   refine qh (ii (indexZ zs2 (ws.getD j 0))) rfl (qb (qc (qc (qa (qf (ii (indexZ zs2 (ws.getD j 0))) rfl (cX (qZ rfl rfl (qb ?_))))))))
   refine qF (p := (indexZ zs2 (ws.getD j 0) : Int) < 0) rfl (fun h4 => ?_) (fun h4 => ?_)
   ·have hil := indexZ_le zs2 (ws.getD j 0)
    refine qc (qa (qf (zv2) rfl (cX (qO qd rfl (intsH.slv [] rfl) (qh (ii ((zs2.length : Int))) rfl (qb (qa (qf (zv2) rfl (qf (ii (ws.getD j 0)) rfl (cX (qD (s := 1) [ii (ws.getD j 0)] [ii (0)] [(0, [ii (ws.getD j 0)])] qd qy qU rfl (by decide) rfl (.cons rfl CellsAre.nil) rfl ?_)))))))))))
    intro v2 hv1
    refine cX (jC (u := ws.getD j 0) [_] _ qd typeInfo2 rfl rfl rfl rfl rfl rfl (SlV.own [] rfl) (Rd.sl [] rfl rfl) (by (try simp only [List.length_append, List.length_nil, List.length_cons, List.length_singleton, List.length_take, List.length_drop]); omega) ?_)
    intro v3 hs2 hn1
    refine qh (v3) rfl (qb (qa (qf (v1) rfl (qf (ii ((j : Int))) rfl (qf (ii ((zs2.length : Int))) rfl (cX (qW ((-1) - ((zs2.length : Int))) rfl rfl (by omega) (by omega) (cX (qB j qd qy rfl rfl rfl (intsH.slv [_, _] rfl) (by omega) (Nat.mul_one _) (cX (intsH.storeX (i := j) (v := v1) [_, _] _ (ws.set j ((-1) - ((zs2.length : Int)))) qy rfl rfl rfl (by omega) rfl (qb (qa (cX (qT (((j + 1 : Nat) : Int)) rfl rfl (by omega) (by omega) ?_)))))))))))))))
    refine qf (ii (((j + 1 : Nat) : Int))) rfl (qb ?_)
    exact ⟨(j + 1, (ws.set j ((-1) - ((zs2.length : Int)))), v3, zs2 ++ [ws.getD j 0]), _, FLe.refl _, rF, ⟨rfl, rfl, rfl, rfl, rfl, rfl, rfl, rfl, rfl, ⟨⟩⟩, (jp (jy (A := [_])) (jp (jy (A := [_, _, _])) (jp (jy (A := [_, _, _])) (sC (sC (sC (sD sR))))))), ⟨rfl, (by (try dsimp only) <;> omega), (hs2), ((by (try dsimp only); rw [hwj1]; exact hR.new (by omega) hj0 (fun hc => by have := indexZ_mem.2 hc; rw [← hwj1] at this; omega))), (by (try dsimp only); (try rw [List.length_append, List.length_singleton]); omega)⟩, (by omega)⟩
   have hil := indexZ_le zs2 (ws.getD j 0)
   refine qv (qa (qf (v1) rfl (qf (ii ((j : Int))) rfl (qf (ii (indexZ zs2 (ws.getD j 0))) rfl (cX (qW ((-1) - (indexZ zs2 (ws.getD j 0))) rfl rfl (by omega) (by omega) (cX (qB j qd qy rfl rfl rfl (intsH.slv [_] rfl) (by omega) (Nat.mul_one _) (cX (intsH.storeX (i := j) (v := v1) [_] _ (ws.set j ((-1) - (indexZ zs2 (ws.getD j 0)))) qy rfl rfl rfl (by omega) rfl (qb (qa (cX (qT (((j + 1 : Nat) : Int)) rfl rfl (by omega) (by omega) (qf (ii (((j + 1 : Nat) : Int))) rfl ?_)))))))))))))))
   refine qb ?_
   exact ⟨(j + 1, (ws.set j ((-1) - (indexZ zs2 (ws.getD j 0)))), zv2, zs2), _, FLe.refl _, rF, ⟨rfl, rfl, rfl, rfl, rfl, rfl, rfl, rfl, rfl, ⟨⟩⟩, (jp (jy (A := [_, _])) (jp (jy (A := [_, _])) (sC (sC (sC sR))))), ⟨rfl, (by (try dsimp only) <;> omega), (hzv2), ((by (try dsimp only); rw [hwj1]; exact hR.old (by omega) hj0 (indexZ_mem.1 (by rw [← hwj1]; omega)))), (by (try dsimp only); (try rw [List.length_append, List.length_singleton]); omega)⟩, (by omega)⟩
  refine jl (qE (qE (qS (qa (qf (ov) rfl (qf (v1) rfl (cX (qD (s := 1) [v1] [sN] [(0, [v1])] qJ qN jB rfl (by decide) rfl (.cons (cells_one hs1) CellsAre.nil) rfl ?_))))))))
  intro v4 hv2
  refine XL.freezeF [_] _ _ rfl (fun F2 le2 hz2 => ?_)
  replace hC := hC.mono le2
  have hf2 : IntsF F2 v1 ws := intsH.fz (xs := ws) hz2.fz
  refine cX (XOp.append (m := 1) (bytes := 24) (cs := ocs) [_] _ [v1] qJ typeInfo27 rfl rfl rfl rfl rfl rfl rfl (SlV.own [] rfl) rfl (Rd.lit [] rfl) (qw (qP (jc hf2)) qC) (by (try simp only [List.length_append, List.length_nil, List.length_cons, List.length_singleton]); omega) (by (try simp only [List.length_append, List.length_nil, List.length_cons, List.length_singleton]); omega) ?_)
  intro v5 hs3 hn2 hm1
  have hc1 := RowsC.snoc hC hf2
  skip
  refine qh (v5) rfl (qb (qa (cX (qT (((k + 1 : Nat) : Int)) rfl rfl (by omega) (by omega) (qf (ii (((k + 1 : Nat) : Int))) rfl (qb ?_))))))
  exact ⟨(k + 1, v5, os ++ [ws], ocs ++ [v1], Us ++ [intsH 2 v1 ws], (m) + 1, zv2, zs2, F2), _, (qg leG1 le2), rF, ⟨rfl, rfl, rfl, rfl, rfl, ⟨⟩⟩, (sD (sC (sC sR))), ⟨rfl, (qg leG1 le2), (hs3), (by (try dsimp only) <;> omega), (hc1), (by (try dsimp only); rw [List.length_append, List.length_singleton]; omega), (DeepL.snoc hD rfl ⟨_, rfl, rfl⟩), ((Fresh.app hZ leG1 (Fresh.one hz2) le2)), (hzv2), (rn_next (by omega) hrn (hR.done (by omega))), (by (try dsimp only); have := orderGo_len (ts.getD k []) zs; rw [(hR.done (by omega)).1]; have := hrbk (by omega); omega)⟩, (by omega)⟩
 refine jl (qE (qE (qS (qc (qa (qf (ov) rfl (qh (ov) rfl (qb (ji [] _ _ rfl (fun F3 le3 hz3 => ?_))))))))))
 replace hC := hC.mono le3
 have hf3 : RowsF F3 ov os := CO.fz hC (by first | rfl | omega | (rw [List.length_set]; omega) | (simp; done)) hz3.fz
 refine qx (qp (L' := L) [ov] (ov) (.tmp rfl .nil) rfl (qg leG1 le3) rF (sD sR) ?_)
 have e9 := rn_done (by omega) hrn
 rw [e9]
 subst hm
 exact ⟨ocs, Us, hz3.fz.sl, hC, hD, (hZ.mono le3), rfl⟩

/- spec.l2Order -/
theorem l2OrderL_spec {F : FH} {L : List HP} {tv : Value} {t : List Int} (ht : IntsF F tv t) (hlt : t.length ≤ 4000000) :
    Does prog 147 [tv] F (L) (fun v F' L' => F = F' ∧ IsSl v ∧ intsH 2 v (orderL t) :: L = L') := by
 refine qM func147 rfl rfl rfl (qc (qa (qh (sN) rfl (qb (qc (qa (cX (qD (s := 1) [] [ii (0)] [] qd qy qU rfl (by decide) rfl CellsAre.nil rfl ?_))))))))
 intro v1 hv1
 refine qh (v1) rfl (qb (qc (qc (qa (qh (ii (0)) rfl (qb (qQ (js (α := Nat × Value × List Int × FH) (fun xQ => [(0, tv), (3, xQ.2.1), (4, ii (((xQ.1 : Nat) : Int)))]) (fun xQ => intsH 2 xQ.2.1 xQ.2.2.1 :: L) (fun xQ F' => xQ.2.2.2 = F' ∧ F ≤ xQ.2.2.2 ∧ (IsSl xQ.2.1) ∧ (xQ.1 ≤ t.length) ∧ (xQ.2.2.1 = orderL (t.take xQ.1)) ∧ (xQ.2.2.1.length ≤ xQ.1)) (fun xQ => t.length - xQ.1) (0, v1, [], F) ⟨rfl, rfl, rfl, ⟨⟩⟩ (sC sR) ⟨rfl, FLe.refl _, ((jo hv1)), (by (try dsimp only) <;> omega), (rfl), (Nat.le_refl _)⟩ ?_))))))))
 rintro ⟨j, ov, os, G1⟩ rE _ _ ⟨rfl, leG, hov, hj, hos, hol⟩
 show X _ _ _ _ (envs [(0, tv), (3, ov), (4, ii ((j : Int)))] rE) _ (intsH 2 ov os :: L)
 replace leG : F ≤ G1 := leG
 dsimp only at hov hj hos hol
 have leG1 := leG
 replace ht := ht.mono leG1
 refine qc (qc (qa (qf (ii ((j : Int))) rfl (qf (tv) rfl (cX (qO qd rfl ht.slv (cX (qZ rfl rfl (qb ?_)))))))))
 refine qF (p := (j : Int) < (t.length : Int)) rfl (fun h1 => ?_) (fun h1 => ?_)
 ·refine qv (qc (qQ (qc (qa (qf (tv) rfl (qf (ii ((j : Int))) rfl (cX (qB j qd qy rfl rfl rfl ht.slv (by omega) (Nat.mul_one _) (cX (qn qV rfl (ht.rd (by omega)) (cX (qZ rfl rfl (qf (.bool (decide ((t.getD j 0 : Int) < 0))) rfl ?_)))))))))))))
  by_cases h2 : (t.getD j 0 : Int) < 0
  ·refine qq (t := 17) rfl (vT h2) (qk (ov) rfl (qq (t := 17) rfl (vT h2) (qk (tv) rfl (qq (t := 17) rfl (vT h2) (qk (ii ((j : Int))) rfl (qq (t := 17) rfl (vT h2) (qB j qd qy rfl rfl rfl ht.slv (by omega) (Nat.mul_one _) (qq (t := 17) rfl (vT h2) (qn qV rfl (ht.rd (by omega)) (qq (t := 17) rfl (vT h2) (XOp.lend [] _ _ rfl (fun F1 le1 hz1 => ?_))))))))))))
   have hf1 : IntsF _ ov os := intsH.fz (xs := os) hz1
   refine id (ql (args := [ov, ii (t.getD j 0)]) call206 rfl (l1Has_spec (n := t.getD j 0) hf1 (hbd := (by first | assumption | rfl | omega | simp))) ?_)
   rintro _ _ _ _ ⟨rfl, rfl, rfl⟩
   show XL _ _ _ _ _ _ _ (intsH 2 ov os :: L)
   refine qq (t := 17) rfl (vT h2) (XOp.notD rfl (cX (qX (.bool (decide (¬((t.getD j 0) ∈ os)))) (vT h2) rfl (qb ?_))))
   refine qF (p := ¬((t.getD j 0) ∈ os)) rfl (fun h3 => ?_) (fun h3 => ?_)
   ·have hor := h3
    refine qa (qf (ov) rfl (qf (tv) rfl (qf (ii ((j : Int))) rfl (cX (qB j qd qy rfl rfl rfl ht.slv (by omega) (Nat.mul_one _) (cX (qn qV rfl (ht.rd (by omega)) (cX (qD (s := 1) [ii (t.getD j 0)] [ii (0)] [(0, [ii (t.getD j 0)])] qd qy qU rfl (by decide) rfl (.cons rfl CellsAre.nil) rfl ?_)))))))))
    intro v2 hv2
    refine cX (jC (u := t.getD j 0) [_] _ qd typeInfo2 rfl rfl rfl rfl rfl rfl (SlV.own [] rfl) (Rd.sl [] rfl rfl) (by (try simp only [List.length_append, List.length_nil, List.length_cons, List.length_singleton, List.length_take, List.length_drop]); omega) ?_)
    intro v3 hs1 hn1
    refine qh (v3) rfl (qb (qa (qf (ii ((j : Int))) rfl (cX (qT (((j + 1 : Nat) : Int)) rfl rfl (by omega) (by omega) (qh (ii (((j + 1 : Nat) : Int))) rfl (qb ?_)))))))
    exact ⟨(j + 1, v3, os ++ [t.getD j 0], G1), _, leG1, rF, ⟨rfl, rfl, rfl, ⟨⟩⟩, (sD (sC sR)), ⟨rfl, leG1, (hs1), (by (try dsimp only) <;> omega), (by (try dsimp only); first | exact ord_skip (by omega) hos (.inl (by omega)) | exact ord_skip (by omega) hos (.inr (by simpa using hor)) | exact ord_add (by omega) hos (by omega) (by simpa using hor)), (by (try dsimp only); (try rw [List.length_append, List.length_singleton]); omega)⟩, (by omega)⟩
   have hor := h3
   refine qv (qa (qf (ii ((j : Int))) rfl (cX (qT (((j + 1 : Nat) : Int)) rfl rfl (by omega) (by omega) (qh (ii (((j + 1 : Nat) : Int))) rfl (qb ?_))))))
   exact ⟨(j + 1, ov, os, G1), _, leG1, rF, ⟨rfl, rfl, rfl, ⟨⟩⟩, (sC sR), ⟨rfl, leG1, (hov), (by (try dsimp only) <;> omega), (by (try dsimp only); first | exact ord_skip (by omega) hos (.inl (by omega)) | exact ord_skip (by omega) hos (.inr (by simpa using hor)) | exact ord_add (by omega) hos (by omega) (by simpa using hor)), (by (try dsimp only); (try rw [List.length_append, List.length_singleton]); omega)⟩, (by omega)⟩
  refine qu (t := 17) rfl (vF h2) (qu (t := 17) rfl (vF h2) (qu (t := 17) rfl (vF h2) (qu (t := 17) rfl (vF h2) (qu (t := 17) rfl (vF h2) (qu (t := 17) rfl (vF h2) (qu (t := 17) rfl (vF h2) (cX (qR (.bool (false)) (vF h2) rfl (qb (jx rfl ?_))))))))))
  refine qv (qa (qf (ii ((j : Int))) rfl (cX (qT (((j + 1 : Nat) : Int)) rfl rfl (by omega) (by omega) (qh (ii (((j + 1 : Nat) : Int))) rfl (qb ?_))))))
  exact ⟨(j + 1, ov, os, G1), _, leG1, rF, ⟨rfl, rfl, rfl, ⟨⟩⟩, (sC sR), ⟨rfl, leG1, (hov), (by (try dsimp only) <;> omega), (by (try dsimp only); first | exact ord_skip (by omega) hos (.inl (by omega)) | exact ord_skip (by omega) hos (.inr (by simpa using hor)) | exact ord_add (by omega) hos (by omega) (by simpa using hor)), (by (try dsimp only); (try rw [List.length_append, List.length_singleton]); omega)⟩, (by omega)⟩
 refine jl (qE (qE (qS (qc (qa (qf (ov) rfl (qh (ov) rfl (qb (qx (qp (L' := intsH 2 ov os :: L) [ov] (ov) (.tmp rfl .nil) rfl rF leG1 (sC sR) ?_))))))))))
 refine ⟨rfl, hov, ?_⟩
 have hxs : (orderL t : List Int) = os := by rw [hos, show j = t.length from by omega, List.take_length]
 exact congrArg (fun z => intsH 2 _ z :: L) hxs

/- spec.l2By -/
theorem l2ByL_spec {F : FH} {L : List HP} {wv : Value} {w : List Int} (hw : IntsF F wv w) {tv : Value} {t : List Int} (ht : IntsF F tv t) (hno : w.Nodup) (hlo : w.length ≤ 4000000) (hlt : t.length ≤ 4000000) :
    Does prog 146 [wv, tv] F (L) (fun v F' L' => F = F' ∧ IsSl v ∧ intsH 2 v (byL w t) :: L = L') := by
 refine qM func146 rfl rfl rfl (qc (qa (qh (sN) rfl (qb (qc (qa (cX (qD (s := 1) [] [ii (0)] [] qd qy qU rfl (by decide) rfl CellsAre.nil rfl ?_))))))))
 intro v1 hv1
 refine qh (v1) rfl (qb (qc (qc (qa (qh (ii (0)) rfl (qb (qQ (js (α := Nat × Value × List Int) (fun xQ => [(0, wv), (1, tv), (5, xQ.2.1), (6, ii (((xQ.1 : Nat) : Int)))]) (fun xQ => intsH 2 xQ.2.1 xQ.2.2 :: L) (fun xQ F' => F = F' ∧ (IsSl xQ.2.1) ∧ (xQ.1 ≤ t.length) ∧ (xQ.2.2 = byL w (t.take xQ.1)) ∧ (xQ.2.2.length = xQ.1)) (fun xQ => t.length - xQ.1) (0, v1, []) ⟨rfl, rfl, rfl, rfl, ⟨⟩⟩ (sC sR) ⟨rfl, ((jo hv1)), (by (try dsimp only) <;> omega), (rfl), (rfl)⟩ ?_))))))))
 rintro ⟨j, ov, os⟩ rE _ _ ⟨rfl, hov, hj, hos, hol⟩
 show X _ _ _ _ (envs [(0, wv), (1, tv), (5, ov), (6, ii ((j : Int)))] rE) _ (intsH 2 ov os :: L)
 dsimp only at hov hj hos hol
 refine qc (qc (qa (qf (ii ((j : Int))) rfl (qf (tv) rfl (cX (qO qd rfl ht.slv (cX (qZ rfl rfl (qb ?_)))))))))
 refine qF (p := (j : Int) < (t.length : Int)) rfl (fun h1 => ?_) (fun h1 => ?_)
 ·refine qv (qc (qQ (qc (qa (qf (tv) rfl (qf (ii ((j : Int))) rfl (cX (qB j qd qy rfl rfl rfl ht.slv (by omega) (Nat.mul_one _) (cX (qn qV rfl (ht.rd (by omega)) (qh (ii (t.getD j 0)) rfl (qb (qc (qc (qa (qh (ii (0)) rfl (qb (qQ (js (α := Nat × Int) (fun xQ => [(0, wv), (1, tv), (5, ov), (6, ii ((j : Int))), (7, ii (xQ.2)), (8, ii (((xQ.1 : Nat) : Int)))]) (fun xQ => intsH 2 ov os :: L) (fun xQ F' => F = F' ∧ (xQ.1 ≤ w.length) ∧ (xQ.2 = byN w xQ.1 (t.getD j 0))) (fun xQ => w.length - xQ.1) (0, (t.getD j 0)) ⟨rfl, rfl, rfl, rfl, rfl, rfl, ⟨⟩⟩ (sC sR) ⟨rfl, (by (try dsimp only) <;> omega), (by_start)⟩ ?_)))))))))))))))))))
  rintro ⟨k, n⟩ rE _ _ ⟨rfl, hk, hn⟩
  show X _ _ _ _ (envs [(0, wv), (1, tv), (5, ov), (6, ii ((j : Int))), (7, ii (n)), (8, ii ((k : Int)))] rE) _ (intsH 2 ov os :: L)
  dsimp only at hk hn
  refine qc (qc (qa (qf (ii ((k : Int))) rfl (qf (wv) rfl (cX (qO qd rfl hw.slv (cX (qZ rfl rfl (qf (.bool (decide ((k : Int) < (w.length : Int)))) rfl ?_)))))))))
  by_cases h2 : (k : Int) < (w.length : Int)
  ·refine qq (t := 24) rfl (vT h2) (qk (tv) rfl (qq (t := 24) rfl (vT h2) (qk (ii ((j : Int))) rfl (qq (t := 24) rfl (vT h2) (qB j qd qy rfl rfl rfl ht.slv (by omega) (Nat.mul_one _) (qq (t := 24) rfl (vT h2) (qn qV rfl (ht.rd (by omega)) (qq (t := 24) rfl (vT h2) (qZ rfl rfl (cX (qX (.bool (decide ((t.getD j 0 : Int) < 0))) (vT h2) rfl (qb ?_))))))))))))
   refine qF (p := (t.getD j 0 : Int) < 0) rfl (fun h3 => ?_) (fun h3 => ?_)
   ·refine qv (qc (qQ (qc ?_)))
    refine jz [intsH 2 ov os] L 8 [] [[], [], [0, 1], [2], [], [], [4, 5], [6]] (phiL [qe wv, qe (ii ((k : Int)) : Value), qe (.pointer (some (elemA wv (k)))), qe (ii (w.getD k 0)), qe tv, qe (ii ((j : Int)) : Value), qe (.pointer (some (elemA tv (j)))), qe (ii (t.getD j 0))]) (ownL []) mixed rfl rfl (by kernel_rfl) ?_ ?_
    ·refine pD (fun W R z9 => ?_) ?_
     ·refine qj (qk (wv) rfl ?_)
      exact ⟨rfl, rfl, rfl⟩
     refine pD (fun W R z9 => ?_) ?_
     ·refine qj (qk (ii ((k : Int))) rfl ?_)
      exact ⟨rfl, rfl, rfl⟩
     refine pD (fun W R z9 => ?_) ?_
     ·rw [eS (l := [(0, _), (1, _)]) ⟨z9 0 rfl, z9 1 rfl, ⟨⟩⟩]
      refine qj (qB k qd qy rfl rfl rfl hw.slv (by omega) (Nat.mul_one _) ?_)
      exact ⟨rfl, rfl, rfl⟩
     refine pD (fun W R z9 => ?_) ?_
     ·rw [eS (l := [(2, _)]) ⟨z9 2 rfl, ⟨⟩⟩]
      refine qj (qn qV rfl (hw.rd (by omega)) ?_)
      exact ⟨rfl, rfl, rfl⟩
     refine pD (fun W R z9 => ?_) ?_
     ·refine qj (qk (tv) rfl ?_)
      exact ⟨rfl, rfl, rfl⟩
     refine pD (fun W R z9 => ?_) ?_
     ·refine qj (qk (ii ((j : Int))) rfl ?_)
      exact ⟨rfl, rfl, rfl⟩
     refine pD (fun W R z9 => ?_) ?_
     ·rw [eS (l := [(4, _), (5, _)]) ⟨z9 4 rfl, z9 5 rfl, ⟨⟩⟩]
      refine qj (qB j qd qy rfl rfl rfl ht.slv (by omega) (Nat.mul_one _) ?_)
      exact ⟨rfl, rfl, rfl⟩
     refine pD (fun W R z9 => ?_) ?_
     ·rw [eS (l := [(6, _)]) ⟨z9 6 rfl, ⟨⟩⟩]
      refine qj (qn qV rfl (ht.rd (by omega)) ?_)
      exact ⟨rfl, rfl, rfl⟩
     exact stepsP.nil
    intro W hphi
    rw [eS (l := [(3, _), (7, _)]) ⟨(hphi 3 (by decide)), (hphi 7 (by decide)), ⟨⟩⟩]
    show XL _ _ _ _ _ _ _ (intsH 2 ov os :: L)
    refine cX (jt rfl rfl (qb ?_))
    refine qF (p := (w.getD k 0 : Int) = t.getD j 0) rfl (fun h4 => ?_) (fun h4 => ?_)
    ·refine qa (qf (ii ((k : Int))) rfl (cX (qW ((-1) - ((k : Int))) rfl rfl (by omega) (by omega) (qh (ii ((-1) - ((k : Int)))) rfl (qb (qa (qf (ii ((k : Int))) rfl (cX (qT (((k + 1 : Nat) : Int)) rfl rfl (by omega) (by omega) (qh (ii (((k + 1 : Nat) : Int))) rfl (qb ?_)))))))))))
     exact ⟨(k + 1, (-1) - ((k : Int))), _, FLe.refl _, rF, ⟨rfl, rfl, rfl, rfl, rfl, rfl, ⟨⟩⟩, (sC sR), ⟨rfl, (by (try dsimp only) <;> omega), (by (try dsimp only); exact by_hit hno (by omega) (by omega) (by omega))⟩, (by omega)⟩
    refine qv (qa (qf (ii ((k : Int))) rfl (cX (qT (((k + 1 : Nat) : Int)) rfl rfl (by omega) (by omega) (qh (ii (((k + 1 : Nat) : Int))) rfl (qb ?_))))))
    exact ⟨(k + 1, n), _, FLe.refl _, rF, ⟨rfl, rfl, rfl, rfl, rfl, rfl, ⟨⟩⟩, (sC sR), ⟨rfl, (by (try dsimp only) <;> omega), (by (try dsimp only); rw [hn]; exact by_miss (by omega) (by omega))⟩, (by omega)⟩
   refine jl (qE (qE (qS (qa (qf (ov) rfl (qf (ii (n)) rfl (cX (qD (s := 1) [ii (n)] [ii (0)] [(0, [ii (n)])] qd qy qU rfl (by decide) rfl (.cons rfl CellsAre.nil) rfl ?_))))))))
   intro v2 hv2
   refine cX (jC (u := n) [_] _ qd typeInfo2 rfl rfl rfl rfl rfl rfl (SlV.own [] rfl) (Rd.sl [] rfl rfl) (by (try simp only [List.length_append, List.length_nil, List.length_cons, List.length_singleton, List.length_take, List.length_drop]); omega) ?_)
   intro v3 hs1 hn1
   refine qh (v3) rfl (qb (qa (qf (ii ((j : Int))) rfl (cX (qT (((j + 1 : Nat) : Int)) rfl rfl (by omega) (by omega) (qh (ii (((j + 1 : Nat) : Int))) rfl (qb ?_)))))))
   exact ⟨(j + 1, v3, os ++ [n]), _, FLe.refl _, rF, ⟨rfl, rfl, rfl, rfl, ⟨⟩⟩, (sD (sC sR)), ⟨rfl, (hs1), (by (try dsimp only) <;> omega), (by (try dsimp only); rw [hos]; exact by_take (by omega) (by_done hn (by omega))), (by (try dsimp only); rw [List.length_append, List.length_singleton]; omega)⟩, (by omega)⟩
  refine qu (t := 24) rfl (vF h2) (qu (t := 24) rfl (vF h2) (qu (t := 24) rfl (vF h2) (qu (t := 24) rfl (vF h2) (qu (t := 24) rfl (vF h2) (cX (qR (.bool (false)) (vF h2) rfl (qb (jx rfl (jl (qE (qE (qS (qa ?_)))))))))))))
  refine qf (ov) rfl (qf (ii (n)) rfl (cX (qD (s := 1) [ii (n)] [ii (0)] [(0, [ii (n)])] qd qy qU rfl (by decide) rfl (.cons rfl CellsAre.nil) rfl ?_)))
  intro v4 hv3
  refine cX (jC (u := n) [_] _ qd typeInfo2 rfl rfl rfl rfl rfl rfl (SlV.own [] rfl) (Rd.sl [] rfl rfl) (by (try simp only [List.length_append, List.length_nil, List.length_cons, List.length_singleton, List.length_take, List.length_drop]); omega) ?_)
  intro v5 hs2 hn2
  refine qh (v5) rfl (qb (qa (qf (ii ((j : Int))) rfl (cX (qT (((j + 1 : Nat) : Int)) rfl rfl (by omega) (by omega) (qh (ii (((j + 1 : Nat) : Int))) rfl (qb ?_)))))))
  exact ⟨(j + 1, v5, os ++ [n]), _, FLe.refl _, rF, ⟨rfl, rfl, rfl, rfl, ⟨⟩⟩, (sD (sC sR)), ⟨rfl, (hs2), (by (try dsimp only) <;> omega), (by (try dsimp only); rw [hos]; exact by_take (by omega) (by_done hn (by omega))), (by (try dsimp only); rw [List.length_append, List.length_singleton]; omega)⟩, (by omega)⟩
 refine jl (qE (qE (qS (qc (qa (qf (ov) rfl (qh (ov) rfl (qb (qx (qp (L' := intsH 2 ov os :: L) [ov] (ov) (.tmp rfl .nil) rfl rF rF (sC sR) ?_))))))))))
 refine ⟨rfl, hov, ?_⟩
 have hxs : (byL w t : List Int) = os := by rw [hos, show j = t.length from by omega, List.take_length]
 exact congrArg (fun z => intsH 2 _ z :: L) hxs

/- impl.unify -/
set_option maxHeartbeats 1000000 in
set_option maxRecDepth 20000 in
theorem unify_spec {F : FH} {L : List HP} {arv : Value} {ar : List Int} (har : IntsF F arv ar) {av : Value} {a : List Int} (ha : IntsF F av a) {cv : Value} {c : List Int} (hc : IntsF F cv c) (hoa : termOk ar a = true) (hoc : termOk ar c = true) :
    Does prog 155 [.agg #[arv], av, cv] F (L) (fun v F' L' => ∃ (x : Value), ∃ (s : RowL), (.tuple #[.agg #[x], .bool (uniB ar a c)] : Value) = v ∧ (RowsF F' x s) ∧ (uniB ar a c = true → UniR ar a c s) ∧ (uniB ar a c = false → s = []) ∧ L = L') := by
 refine qM func155 rfl rfl rfl ?_
 have hla := termOk_len hoa
 have hlc := termOk_len hoc
 refine qc (qa (cX (jg [arv] rfl rfl ?_)))
 intro b1
 refine cX (jd [sN] qG rfl ?_)
 intro b2
 refine qh (.bool (false)) rfl (qb (qc (qa (cX (qr [arv] qL qz rfl rfl (Rd.ownN [_] rfl rfl) (cX (qY [arv, sN, sN, sN, sN, sN, sN, sN, sN, sN, sN, sN, sN, sN, sN, sN, sN, sN, sN, sN, sN, sN, sN, sN, sN, sN, sN, sN, sN, sN, sN, sN, sN, sN, sN, sN, sN, sN, sN, sN, sN, sN, sN, sN, sN, sN, sN, sN, sN] [sN, sN, sN, sN, sN, sN, sN, sN, sN, sN, sN, sN, sN, sN, sN, sN, sN, sN, sN, sN, sN, sN, sN, sN, sN, sN, sN, sN, sN, sN, sN, sN, sN, sN, sN, sN, sN, sN, sN, sN, sN, sN, sN, sN, sN, sN, sN, sN, sN] [(0, 1), (1, 48)] [(0, [arv])] jr zeroValue200 rfl (.cons rfl qz (.cons rfl sizeOf198 PlacesAre.nil)) rfl (.cons rfl CellsAre.nil) (cX (jg [arv, sN, sN, sN, sN, sN, sN, sN, sN, sN, sN, sN, sN, sN, sN, sN, sN, sN, sN, sN, sN, sN, sN, sN, sN, sN, sN, sN, sN, sN, sN, sN, sN, sN, sN, sN, sN, sN, sN, sN, sN, sN, sN, sN, sN, sN, sN, sN, sN] rfl rfl ?_)))))))))
 intro b3
 have hc1 : BindC F _ _ := BindC.nils 48
 show XL _ _ _ _ _ _ _ (cellsH b3 (arv :: ((List.replicate 48 (sN)))) 200 :: cellsH b2 [sN] 50 :: cellsH b1 [arv] 29 :: L)
 skip
 refine qh (ptr b3 0) rfl (qb (qc (qc (qa (qf (ptr b3 0) rfl (qf (av) rfl (qf (cv) rfl (cX (ql (args := [ptr b3 0, av, cv]) call208 rfl (solve_spec har hc1 BOk.nils ha hc (termW_of hoa) (termW_of hoc) (notNil_of_pos ha (by omega)) (notNil_of_pos hc (by omega))) ?_)))))))))
 rintro _ F1 _ le1 ⟨ok9, b4, l1, rfl, hb1, hy1, hn1, rfl⟩
 cases ok9
 ·replace har := har.mono le1
  replace ha := ha.mono le1
  replace hc := hc.mono le1
  refine cX (jh rfl (qb (jK rfl (qc (qa (cX (qY [sN] [sN] [(0, 1)] [] qo qG rfl (.cons rfl qI PlacesAre.nil) rfl CellsAre.nil (cX (qt [_] _ [sN] qm rfl rfl rfl (qw rfl qC) rfl rfl rfl (qh (.bool (false)) rfl (qb (qx (qi (qp (L' := L) [.agg #[sN], .bool (false)] (.tuple #[.agg #[sN], .bool (false)]) (.cell rfl (ja [sN] qK qm rfl (Rd.ownN [_] rfl rfl)) (.tmp rfl .nil)) rfl le1 rF (sD (sD (sD sR))) ?_))))))))))))))
  have e9 : uniB ar a c = false := uni_none (nils_no (hn1 rfl))
  exact ⟨_, [], by rw [e9], SlOf.nilV, fun h => (by rw [e9] at h; cases h), fun _ => rfl, rfl⟩
 replace har := har.mono le1
 replace ha := ha.mono le1
 replace hc := hc.mono le1
 refine cX (jh rfl (qb (jx rfl (qv (qc (qc (qa ?_)))))))
 have hmg := Mgu.of (hy1 rfl)
 have hbo := hmg.ok
 have hbl := hbo.len
 obtain ⟨σ, hσ⟩ := hbo.sol
 refine qf (ptr b3 0) rfl (qf (av) rfl ?_)
 obtain ⟨ρ9, hρ9⟩ := hbo.acyc
 obtain ⟨k9, hk9⟩ := maxRank a ρ9
 have hw9 := W_ge (termW_of hoa)
 refine jG (intsH.addNil 2 none _) (jG (jy (A := [_])) ?_)
 show XL _ _ _ _ _ _ _ (cellsH b3 (arv :: b4) 200 :: intsH 2 (sN) ([]) :: cellsH b2 [sN] 50 :: cellsH b1 [arv] 29 :: L)
 refine jG (jy (A := [_])) ?_
 show XL _ _ _ _ _ _ _ (intsH 2 (sN) ([]) :: cellsH b3 (arv :: b4) 200 :: cellsH b2 [sN] 50 :: cellsH b1 [arv] 29 :: L)
 refine cX (ql (args := [ptr b3 0, sN, av]) call182 rfl (resolve_spec k9 har hb1 (by assumption) (os := []) ha ⟨_, _, _, rfl⟩ (Nat.zero_le _) hσ hρ9 (fun m hm _ => hk9 m hm) hw9.1 hw9.2) ?_)
 rintro _ _ _ _ ⟨v1, rfl, hs1, rfl, rfl⟩
 refine qf (.tuple #[v1, .bool (resOk σ ([] : List Int) a)]) rfl (cX (qH (v1) rfl rfl (cX (qH (.bool (resOk σ ([] : List Int) a)) rfl rfl (qh (v1) rfl (qh (.bool (resOk σ ([] : List Int) a)) rfl (qb (qc (qa (qf (.bool (resOk σ ([] : List Int) a)) rfl (cX (jh rfl (qb ?_)))))))))))))
 refine jk (t := !(resOk σ ([] : List Int) a)) rfl (fun h1 => ?_) (fun h1 => ?_)
 ·have hf9 := resOk_false (Bool.not_inj (y := false) h1)
  refine qc (qa (cX (qY [sN] [sN] [(0, 1)] [] qo qG rfl (.cons rfl qI PlacesAre.nil) rfl CellsAre.nil (cX (qt [_, _] _ [sN] qm rfl rfl rfl (qw rfl qC) rfl rfl rfl (qh (.bool (false)) rfl (qb (qx (qi (qp (L' := L) [.agg #[sN], .bool (false)] (.tuple #[.agg #[sN], .bool (false)]) (.cell rfl (ja [sN] qK qm rfl (Rd.ownN [_, _] rfl rfl)) (.tmp rfl .nil)) rfl le1 rF (sD (sD (sD (sD sR)))) ?_))))))))))
  have e9 : uniB ar a c = false := mgu_long hmg hσ (.inl hf9)
  exact ⟨_, [], by rw [e9], SlOf.nilV, fun h => (by rw [e9] at h; cases h), fun _ => rfl, rfl⟩
 obtain ⟨eA, lA⟩ := resX_eq (Bool.not_inj (y := true) h1)
 refine qv (qc (qa (cX (XOp.makeSlice (n := 24) (bytes := 24) [sN] qJ qN typeInfo27 rfl jB rfl rfl rfl rfl (by omega) (by omega) ?_))))
 intro v2 hv1
 rw [nils]
 have hc2 : RowsC F1 _ _ := RowsC.nils 24
 refine cX (qY [v2] [sN] [(0, 1)] [(0, [v2])] qo qG rfl (.cons rfl qI PlacesAre.nil) rfl (.cons (cells_one (jo hv1)) CellsAre.nil) (cX (jd [sN] qG rfl ?_)))
 intro b5
 refine cX (qt [] _ [v2] qm rfl rfl rfl (qw (qP (jo hv1)) qC) rfl rfl rfl (qb (qc (qc (qa (qf (ptr b3 0) rfl (cX (jb rfl (cX (qA (1) jr rfl sizeOf198 (by decide) rfl rfl (cX (XOp.sliceArrV (b := b3) (o := 1) (m := 24) (n := 48) jA qN rfl rfl (by omega) (cX (qO qJ rfl (SlV.lit (by omega)) (qf (ii (0)) rfl (qb (qQ (js (α := Nat × RowL × List Value × FH) (fun xQ => [(6, ptr b2 0), (8, ptr b3 0), (11, ptr b5 0), (39, .slice (some ⟨b3, 1, none⟩) 24 48), (40, ii (((24 : Nat) : Int))), (41, ii (((xQ.1 : Nat) : Int)))]) (fun xQ => cellsH b5 [v2] 50 :: slH 27 1 v2 24 xQ.2.2.1 :: cellsH b3 (arv :: b4) 200 :: cellsH b2 [sN] 50 :: cellsH b1 [arv] 29 :: L) (fun xQ F' => xQ.2.2.2 = F' ∧ F1 ≤ xQ.2.2.2 ∧ (RowsC xQ.2.2.2 xQ.2.2.1 xQ.2.1) ∧ (xQ.1 ≤ 24) ∧ (xQ.2.1 = unR l1 σ xQ.1) ∧ (∀ i : Nat, i < xQ.1 → l1.getD i [] ≠ [] → (σ (-1 - (i : Int))).length ≤ 60)) (fun xQ => 24 - xQ.1) (0, (List.replicate 24 [] : List (List Int)), (List.replicate 24 (sN)), F1) ⟨rfl, rfl, rfl, rfl, rfl, rfl, ⟨⟩⟩ (sC (sC (sD (sC (sC (sC sR)))))) ⟨rfl, FLe.refl _, (hc2), (by (try dsimp only) <;> omega), (unR_zero.symm), (fun i hi => absurd hi (by omega))⟩ ?_))))))))))))))))))
 rintro ⟨k, os, cs, G1⟩ rE _ _ ⟨rfl, leG, hC, hk, hos, hsh⟩
 show X _ _ _ _ (envs [(6, ptr b2 0), (8, ptr b3 0), (11, ptr b5 0), (39, .slice (some ⟨b3, 1, none⟩) 24 48), (40, ii (((24 : Nat) : Int))), (41, ii ((k : Int)))] rE) _ (cellsH b5 [v2] 50 :: slH 27 1 v2 24 cs :: cellsH b3 (arv :: b4) 200 :: cellsH b2 [sN] 50 :: cellsH b1 [arv] 29 :: L)
 replace leG : F1 ≤ G1 := leG
 dsimp only at hC hk hos hsh
 have hol : os.length = 24 := by rw [hos]; exact unR_len
 have leG1 := leG
 replace har := har.mono leG1
 replace hc := hc.mono leG1
 replace hb1 := hb1.mono leG1
 refine qc (qa (cX (qZ rfl rfl (qb (qc ?_)))))
 refine qF (p := (k : Int) < ((24 : Nat) : Int)) rfl (fun h2 => ?_) (fun h2 => ?_)
 ·refine qv (qc (qQ (qc (qa (qf (ii ((k : Int))) rfl (cX (XOp.indexSV (b := b3) (o := 1) (m := 24) (n := 48) (i := (k : Int)) k (1 + k) qJ qN rfl rfl rfl (by omega) (by omega) rfl ?_)))))))
  obtain ⟨a1, ha1, hn2, he1⟩ := hb1.get (i := k) (by omega)
  refine cX (qn jn rfl (Rd.own [_, _] rfl (get_1 he1)) (qh (ii ((k : Int))) rfl (qh (a1) rfl (qb (qc (qc (qa (qf (a1) rfl (cX (XOp.eqNil qd rfl rfl (jc ha1) (qb ?_)))))))))))
  refine jk (t := isNil a1) rfl (fun h3 => ?_) (fun h3 => ?_)
  ·have hbe := eq_of_isNil hn2 (by rw [h3]; rfl)
   refine jl (qE (qS (qa (cX (qT (((k + 1 : Nat) : Int)) rfl rfl (by omega) (by omega) (qf (ii (((k + 1 : Nat) : Int))) rfl (qb ?_)))))))
   exact ⟨(k + 1, os, cs, G1), _, leG1, rF, ⟨rfl, rfl, rfl, rfl, rfl, rfl, ⟨⟩⟩, (sC (sC (sC (sC (sC sR))))), ⟨rfl, leG1, (hC), (by (try dsimp only) <;> omega), (by (try dsimp only); rw [unR_skip (by omega) hbe]; exact hos), (fun i hi hn => (Nat.lt_or_ge i k).elim (fun h => hsh i h hn) (fun h => absurd (by rw [show i = k from by omega]; exact hbe) hn))⟩, (by omega)⟩
  have hbn := ne_of_notNil hn2 (by rw [h3]; rfl)
  have hwk := bok_row hbo (by omega) hbn
  refine qv (qc (qa (qf (ptr b3 0) rfl (qf (a1) rfl ?_))))
  obtain ⟨ρ9, hρ9⟩ := hbo.acyc
  obtain ⟨k9, hk9⟩ := maxRank ((l1.getD k [])) ρ9
  have hw9 := W_ge hwk
  refine jG (intsH.addNil 2 none _) (jG (jy (A := [_, _, _])) ?_)
  show XL _ _ _ _ _ _ _ (cellsH b3 (arv :: b4) 200 :: intsH 2 (sN) ([]) :: cellsH b5 [v2] 50 :: slH 27 1 v2 24 cs :: cellsH b2 [sN] 50 :: cellsH b1 [arv] 29 :: L)
  refine jG (jy (A := [_])) ?_
  show XL _ _ _ _ _ _ _ (intsH 2 (sN) ([]) :: cellsH b3 (arv :: b4) 200 :: cellsH b5 [v2] 50 :: slH 27 1 v2 24 cs :: cellsH b2 [sN] 50 :: cellsH b1 [arv] 29 :: L)
  refine cX (ql (args := [ptr b3 0, sN, a1]) call182 rfl (resolve_spec k9 har hb1 (by assumption) (os := []) ha1 ⟨_, _, _, rfl⟩ (Nat.zero_le _) hσ hρ9 (fun m hm _ => hk9 m hm) hw9.1 hw9.2) ?_)
  rintro _ _ _ _ ⟨v3, rfl, hs2, rfl, rfl⟩
  refine qf (.tuple #[v3, .bool (resOk σ ([] : List Int) ((l1.getD k [])))]) rfl (cX (qH (v3) rfl rfl (cX (qH (.bool (resOk σ ([] : List Int) ((l1.getD k [])))) rfl rfl (qh (v3) rfl (qh (.bool (resOk σ ([] : List Int) ((l1.getD k [])))) rfl (qb (qc (qc (qa (qf (.bool (resOk σ ([] : List Int) ((l1.getD k [])))) rfl (cX (jh rfl (qb ?_))))))))))))))
  refine jk (t := !(resOk σ ([] : List Int) ((l1.getD k [])))) rfl (fun h4 => ?_) (fun h4 => ?_)
  ·have hf9 := resOk_false (Bool.not_inj (y := false) h4)
   rw [sol_row hσ hbn] at hf9
   refine qc (qa (cX (qY [sN] [sN] [(0, 1)] [] qo qG rfl (.cons rfl qI PlacesAre.nil) rfl CellsAre.nil (cX (qt [_, _, _, _] _ [sN] qm rfl rfl rfl (qw rfl qC) rfl rfl rfl (qh (.bool (false)) rfl (qb (qx (qi (qs (qi (qi (qs (qi (qp (L' := L) [.agg #[sN], .bool (false)] (.tuple #[.agg #[sN], .bool (false)]) (.cell rfl (ja [sN] qK qm rfl (Rd.ownN [_, _, _, _] rfl rfl)) (.tmp rfl .nil)) rfl (qg le1 leG1) rF (sD (sD (sD (sD (sD (sD sR)))))) ?_)))))))))))))))
   have e9 : uniB ar a c = false := mgu_long hmg hσ (.inr ⟨k, by omega, hf9⟩)
   exact ⟨_, [], by rw [e9], SlOf.nilV, fun h => (by rw [e9] at h; cases h), fun _ => rfl, rfl⟩
  obtain ⟨eK, lK⟩ := resX_eq (Bool.not_inj (y := true) h4)
  rw [sol_row hσ hbn] at eK lK
  refine qv (qa (XL.freezeF [] _ _ rfl (fun F2 le2 hz1 => ?_)))
  replace hc := hc.mono le2
  replace hC := hC.mono le2
  have hf1 : IntsF F2 v3 ((resX σ ([] : List Int) ((l1.getD k [])))) := intsH.fz (xs := (resX σ ([] : List Int) ((l1.getD k [])))) hz1.fz
  skip
  refine cX (qA (0) qo rfl qI (by decide) rfl rfl (cX (qn jv rfl (Rd.own [_] rfl rfl) (qf (ii ((k : Int))) rfl (qf (v3) rfl (cX (qB k qJ qN rfl rfl rfl (SlV.own [_, _] rfl) (by omega) (Nat.mul_one _) (cX (XOp.storeS (i := k) (cs := cs) [_, _] _ qN rfl rfl (qP (jc hf1)) rfl (by have h9 := CO.len hC; (try simp only [List.length_set, List.length_replicate] at h9 ⊢) <;> omega) ?_)))))))))
  have hc3 := hC.set k hf1
  refine qb (qa (cX (qT (((k + 1 : Nat) : Int)) rfl rfl (by omega) (by omega) (qf (ii (((k + 1 : Nat) : Int))) rfl (qb ?_)))))
  exact ⟨(k + 1, (os.set k ((resX σ ([] : List Int) ((l1.getD k []))))), (cs.set k v3), F2), _, (qg leG1 le2), rF, ⟨rfl, rfl, rfl, rfl, rfl, rfl, ⟨⟩⟩, (jp (jy (A := [_, _, _, _])) (jp (jy (A := [_, _, _, _])) (jp (jy (A := [_, _])) (jp (jy (A := [_, _, _, _])) (jp (jy (A := [_, _, _, _])) (sC (sC (sC (sC (sC sR)))))))))), ⟨rfl, (qg leG1 le2), (hc3), (by (try dsimp only) <;> omega), (by (try dsimp only); rw [unR_put (by omega) hbn, eK, hos]), (fun i hi hn => (Nat.lt_or_ge i k).elim (fun h => hsh i h hn) (fun h => by obtain rfl : i = k := (by omega); exact lK))⟩, (by omega)⟩
 refine jl (qE (qE (qS (qc (qa (cX (qr [v2] qK qm rfl rfl (Rd.ownN [] rfl rfl) (XL.freezeF [_] _ _ rfl (fun F3 le3 hz2 => ?_)))))))))
 replace hc := hc.mono le3
 replace hC := hC.mono le3
 have hf2 : RowsF F3 v2 os := CO.fz hC (by first | rfl | omega | (rw [List.length_set]; omega) | (simp; done)) hz2.fz
 refine cX (ql (args := [.agg #[v2]]) call209 rfl (plain_spec hf2 (hsl := (by omega)) (hsb := (fun i hi => by have h9 := unR_len (l := l1) (σ := σ) (k := k); rw [hos, unR_get (by omega)]; split; (rename_i hc; have := hsh i hc.1 hc.2; omega); simp))) ?_)
 rintro _ F4 _ le4 ⟨x1, rfl, hr1, rfl⟩
 refine cX (qt [_, _] _ [x1] qm rfl rfl rfl (qw (qP (RowsF.isSl hr1)) qC) rfl rfl rfl (qh (.bool (true)) rfl (qb (qx (qp (L' := L) [.agg #[x1], .bool (true)] (.tuple #[.agg #[x1], .bool (true)]) (.cell rfl (ja [x1] qK qm rfl (Rd.ownN [_, _] rfl rfl)) (.tmp rfl .nil)) rfl (qg (qg (qg le1 leG1) le3) le4) rF (sD (sD (sD (sD sR)))) ?_)))))
 have h9 := unR_told hoa hoc hmg hσ lA (fun i hi hn => hsh i (by omega) hn)
 rw [show k = 24 from by omega] at hos
 subst hos
 exact ⟨_, _, by rw [h9.2], hr1, fun _ => h9.1, fun h => (by rw [h9.2] at h; cases h), rfl⟩

/- spec.l1Max -/
theorem l1Max_spec {F : FH} {L : List HP} {m : Int} {n : Int} :
    Does prog 153 [ii (m), ii (n)] F (L) (fun v F' L' => (ii (if m > n then m else n) : Value) = v ∧ F = F' ∧ L = L') := by
 refine qM func153 rfl rfl rfl (qc (qa (qh (ii (0)) rfl (qb (qc (qc (qa (qf (ii (m)) rfl (qf (ii (n)) rfl (cX (jF rfl rfl (qb ?_))))))))))))
 refine qF (p := (m : Int) > n) rfl (fun h1 => ?_) (fun h1 => ?_)
 ·refine qc (qa (qf (ii (m)) rfl (qh (ii (m)) rfl (qb (qx (qi (qp (L' := L) [ii (m)] (ii (m)) (.tmp rfl .nil) rfl rF rF sR ?_)))))))
  exact ⟨(vI (by split <;> omega)), rfl, rfl⟩
 refine qv (qc (qa (qf (ii (n)) rfl (qh (ii (n)) rfl (qb (qx (qp (L' := L) [ii (n)] (ii (n)) (.tmp rfl .nil) rfl rF rF sR ?_)))))))
 exact ⟨(vI (by split <;> omega)), rfl, rfl⟩

/- spec.l5Behind -/
theorem l5Behind_spec {F : FH} {L : List HP} {tv : Value} {t : List Int} (ht : IntsF F tv t) (hlt : t.length ≤ 4000000) (htg : ∀ k, k < t.length → -24 ≤ t.getD k 0) (htu : ∀ k, k < t.length → t.getD k 0 ≤ 4000000) (hgm : ∀ x ∈ t, -24 ≤ x) :
    Does prog 82 [tv] F (L) (fun v F' L' => (ii (behL t) : Value) = v ∧ F = F' ∧ L = L') := by
 refine qM func82 rfl rfl rfl (qc (qa (qh (ii (0)) rfl (qb (qc (qa (qh (ii (0)) rfl (qb (qc (qc (qa (qh (ii (0)) rfl (qb (qQ (js (α := Nat × Int) (fun xQ => [(0, tv), (3, ii (xQ.2)), (4, ii (((xQ.1 : Nat) : Int)))]) (fun xQ => L) (fun xQ F' => F = F' ∧ (xQ.1 ≤ t.length) ∧ (xQ.2 = behL (t.take xQ.1))) (fun xQ => t.length - xQ.1) (0, 0) ⟨rfl, rfl, rfl, ⟨⟩⟩ sR ⟨rfl, (by (try dsimp only) <;> omega), (by simp [behL])⟩ ?_)))))))))))))))
 rintro ⟨k, n⟩ rE _ _ ⟨rfl, hk, hn⟩
 show X _ _ _ _ (envs [(0, tv), (3, ii (n)), (4, ii ((k : Int)))] rE) _ (L)
 dsimp only at hk hn
 have htk := htg k
 have htv := htu k
 have hbt := beh_take hgm k
 refine qc (qc (qa (qf (ii ((k : Int))) rfl (qf (tv) rfl (cX (qO qd rfl ht.slv (cX (qZ rfl rfl (qb ?_)))))))))
 refine qF (p := (k : Int) < (t.length : Int)) rfl (fun h1 => ?_) (fun h1 => ?_)
 ·refine qv (qc (qQ (qa (qf (ii (n)) rfl (qf (tv) rfl (qf (ii ((k : Int))) rfl (cX (qB k qd qy rfl rfl rfl ht.slv (by omega) (Nat.mul_one _) (cX (qn qV rfl (ht.rd (by omega)) (cX (XOp.neg (a := t.getD k 0) rfl (by omega) (cX (ql (args := [ii (n), ii (-(t.getD k 0))]) call153 rfl (l1Max_spec (m := n) (n := -(t.getD k 0))) ?_))))))))))))))
  rintro _ _ _ _ ⟨rfl, rfl, rfl⟩
  refine qh (ii (if n > (-(t.getD k 0)) then n else (-(t.getD k 0)))) rfl (qb (qa (qf (ii ((k : Int))) rfl (cX (qT (((k + 1 : Nat) : Int)) rfl rfl (by omega) (by omega) (qh (ii (((k + 1 : Nat) : Int))) rfl (qb ?_)))))))
  exact ⟨(k + 1, if n > (-(t.getD k 0)) then n else (-(t.getD k 0))), _, FLe.refl _, rF, ⟨rfl, rfl, rfl, ⟨⟩⟩, sR, ⟨rfl, (by (try dsimp only) <;> omega), (by (try dsimp only); rw [beh_next (by omega), ← hn]; rfl)⟩, (by omega)⟩
 refine jl (qE (qE (qS (qc (qa (qf (ii (n)) rfl (qh (ii (n)) rfl (qb (qx (qp (L' := L) [ii (n)] (ii (n)) (.tmp rfl .nil) rfl rF rF sR ?_))))))))))
 exact ⟨(vI (by rw [hn, show k = t.length from by omega, List.take_length])), rfl, rfl⟩

/- impl.behind -/
theorem behind_spec {F : FH} {L : List HP} {tv : Value} {t : List Int} (ht : IntsF F tv t) (hlt : 1 ≤ t.length ∧ t.length ≤ 4000000) (hgm : ∀ x ∈ t, -24 ≤ x) (h0u : t.getD 0 0 ≤ 4000000) :
    Does prog 80 [tv] F (L) (fun v F' L' => (ii (behL t) : Value) = v ∧ F = F' ∧ L = L') := by
 refine qM func80 rfl rfl rfl ?_
 have hmg := (minL_ge hlt.1 (-24)).2 hgm
 have hmi := beh_min hlt.1
 have hmx := (minL_ge hlt.1 (minL t)).1 (Int.le_refl _) (t.getD 0 0) (mem_of_getD (by omega) rfl)
 refine qc (qa (qh (ii (0)) rfl (qb (qc (qa (qf (tv) rfl (cX (ql (args := [tv]) call149 rfl (Min_spec ht (h1 := (hlt.1)) (hbd := (by omega))) ?_))))))))
 rintro _ _ _ _ ⟨rfl, rfl, rfl⟩
 refine cX (XOp.neg (a := minL t) rfl (by omega) (cX (XOp.max2 (a := 0) (b := -(minL t)) rfl rfl (qh (ii (if 0 < -(minL t) then -(minL t) else 0)) rfl (qb (qx (qp (L' := L) [ii (if 0 < -(minL t) then -(minL t) else 0)] (ii (if 0 < -(minL t) then -(minL t) else 0)) (.tmp rfl .nil) rfl rF rF sR ?_)))))))
 exact ⟨(vI (by rw [← hmi])), rfl, rfl⟩

/- impl.BehindOf -/
theorem BehindOf_spec {F : FH} {L : List HP} {arv : Value} {ar : List Int} (har : IntsF F arv ar) {tv : Value} {t : List Int} (ht : IntsF F tv t) :
    Does prog 25 [.agg #[arv], tv] F (L) (fun v F' L' => (ii (if termOk ar t = true then behL t else -1) : Value) = v ∧ F = F' ∧ L = L') := by
 refine qM func25 rfl rfl rfl (qc (qa (cX (jg [arv] rfl rfl ?_))))
 intro b1
 refine qh (ii (0)) rfl (qb (qc (qc (qa (cX (qr [arv] qL qz rfl rfl (Rd.ownN [] rfl rfl) (qf (tv) rfl (cX (ql (args := [.agg #[arv], tv]) call79 rfl (TermOk_spec har ht) ?_)))))))))
 rintro _ _ _ _ ⟨rfl, rfl, rfl⟩
 refine cX (jh rfl (qb ?_))
 refine jk (t := !(termOk ar t)) rfl (fun h1 => ?_) (fun h1 => ?_)
 ·have hot : termOk ar t = false := Bool.not_inj (y := false) h1
  refine qc (qa (qh (ii (-1)) rfl (qb (qx (qi (qp (L' := L) [ii (-1)] (ii (-1)) (.tmp rfl .nil) rfl rF rF (sD sR) ?_))))))
  exact ⟨(vI (by rw [if_neg (by rw [hot]; simp)])), rfl, rfl⟩
 have hot : termOk ar t = true := Bool.not_inj (y := true) h1
 have hgt := fun k (hk : k < t.length) => termOk_ge hot hk
 have hlt := termOk_len hot
 have hgmt := (termOk_iff.1 hot).ge
 have hbrt := beh_range hgmt
 have hlt0t := termOk_lt hot (p := 0) (by omega)
 have hsgt := sigOk_spec (termOk_sig hot)
 refine qv (qc (qa (qf (tv) rfl (cX (ql (args := [tv]) call80 rfl (behind_spec ht (hlt := (by omega)) (hgm := (hgmt)) (h0u := (by omega))) ?_)))))
 rintro _ _ _ _ ⟨rfl, rfl, rfl⟩
 refine qh (ii (behL t)) rfl (qb (qx (qp (L' := L) [ii (behL t)] (ii (behL t)) (.tmp rfl .nil) rfl rF rF (sD sR) ?_)))
 exact ⟨(vI (by rw [if_pos hot])), rfl, rfl⟩

/- spec.BehindOf -/
theorem sBehindOf_spec {F : FH} {L : List HP} {arv : Value} {ar : List Int} (har : IntsF F arv ar) {tv : Value} {t : List Int} (ht : IntsF F tv t) (hla : ar.length ≤ 4000000) (hlt : t.length ≤ 4000000) :
    Does prog 26 [.agg #[arv], tv] F (L) (fun v F' L' => (ii (if termOk ar t = true then behL t else -1) : Value) = v ∧ F = F' ∧ L = L') := by
 refine qM func26 rfl rfl rfl (qc (qa (cX (jg [arv] rfl rfl ?_))))
 intro b1
 refine qh (ii (0)) rfl (qb (qc (qc (qa (cX (qr [arv] qL qz rfl rfl (Rd.ownN [] rfl rfl) (qf (tv) rfl (cX (ql (args := [.agg #[arv], tv]) call81 rfl (sTermOk_spec har ht (hla := (by first | assumption | rfl | omega | simp)) (hlt := (by first | assumption | rfl | omega | simp))) ?_)))))))))
 rintro _ _ _ _ ⟨rfl, rfl, rfl⟩
 refine cX (jh rfl (qb ?_))
 refine jk (t := !(termOk ar t)) rfl (fun h1 => ?_) (fun h1 => ?_)
 ·have hot : termOk ar t = false := Bool.not_inj (y := false) h1
  refine qc (qa (qh (ii (-1)) rfl (qb (qx (qi (qp (L' := L) [ii (-1)] (ii (-1)) (.tmp rfl .nil) rfl rF rF (sD sR) ?_))))))
  exact ⟨(vI (by rw [if_neg (by rw [hot]; simp)])), rfl, rfl⟩
 have hot : termOk ar t = true := Bool.not_inj (y := true) h1
 have hgt := fun k (hk : k < t.length) => termOk_ge hot hk
 have hlt := termOk_len hot
 have hgmt := (termOk_iff.1 hot).ge
 have hbrt := beh_range hgmt
 have hlt0t := termOk_lt hot (p := 0) (by omega)
 have hsgt := sigOk_spec (termOk_sig hot)
 refine qv (qc (qa (qf (tv) rfl (cX (ql (args := [tv]) call82 rfl (l5Behind_spec ht (hlt := (by omega)) (htg := (hgt)) (htu := (fun k hk => by have := termOk_lt hot hk; omega)) (hgm := (hgmt))) ?_)))))
 rintro _ _ _ _ ⟨rfl, rfl, rfl⟩
 refine qh (ii (behL t)) rfl (qb (qx (qp (L' := L) [ii (behL t)] (ii (behL t)) (.tmp rfl .nil) rfl rF rF (sD sR) ?_)))
 exact ⟨(vI (by rw [if_pos hot])), rfl, rfl⟩

/- impl.shift -/
theorem shift_spec {F : FH} {L : List HP} {tv : Value} {t : List Int} (ht : IntsF F tv t) {n : Int} (hlt : t.length ≤ 4000000) (htg : ∀ k, k < t.length → -24 ≤ t.getD k 0) (hn : 0 ≤ n ∧ n ≤ 24) :
    Does prog 154 [tv, ii (n)] F (L) (fun v F' L' => ∃ (x : Value), (.tuple #[x, .bool (shiftB t n)] : Value) = v ∧ (IntsF F' x (if shiftB t n = true then shiftL t n else [])) ∧ L = L') := by
 refine qM func154 rfl rfl rfl (qc (qa (qh (sN) rfl (qh (.bool (false)) rfl (qb (qc (qa (qf (tv) rfl (cX (ql (args := [tv]) call188 rfl (Clone_spec ht (hlt := (by first | assumption | rfl | omega | simp))) ?_))))))))))
 rintro v1 _ _ _ ⟨rfl, hs1, rfl⟩
 refine qh (v1) rfl (qb (qc (qc (qa (qf (v1) rfl (cX (qO qd rfl (intsH.slv [] rfl) (qf (ii (0)) rfl (qb (qQ (js (α := Nat × List Int) (fun xQ => [(1, ii (n)), (6, v1), (11, v1), (12, ii (((((t)).length : Nat) : Int))), (13, ii (((xQ.1 : Nat) : Int)))]) (fun xQ => intsH 2 v1 xQ.2 :: L) (fun xQ F' => F = F' ∧ (xQ.1 ≤ t.length) ∧ (xQ.2 = shiftL (t.take xQ.1) n ++ t.drop xQ.1) ∧ (∀ i, i < xQ.1 → t.getD i 0 < 0 → -24 ≤ t.getD i 0 - n)) (fun xQ => t.length - xQ.1) (0, t) ⟨rfl, rfl, rfl, rfl, rfl, ⟨⟩⟩ (sC sR) ⟨rfl, (by (try dsimp only) <;> omega), (by simp [shiftL]), (fun i hi => absurd hi (by omega))⟩ ?_)))))))))))
 rintro ⟨k, ws⟩ rE _ _ ⟨rfl, hk, hws, hal⟩
 show X _ _ _ _ (envs [(1, ii (n)), (6, v1), (11, v1), (12, ii (((((t)).length : Nat) : Int))), (13, ii ((k : Int)))] rE) _ (intsH 2 v1 ws :: L)
 dsimp only at hk hws hal
 have hwl : ws.length = t.length := by rw [hws]; simp [shiftL]; omega
 have htk := htg k
 have hwk : k < t.length → ws.getD k 0 = t.getD k 0 := fun h => by rw [hws]; exact shift_at h
 refine qc (qa (cX (qZ rfl rfl (qb (qc ?_)))))
 refine qF (p := (k : Int) < ((((t)).length : Nat) : Int)) rfl (fun h1 => ?_) (fun h1 => ?_)
 ·refine qv (qc (qQ (qc (qa (qf (ii ((k : Int))) rfl (cX (qB k qd qy rfl rfl rfl (intsH.slv [] rfl) (by omega) (Nat.mul_one _) (cX (qn qV rfl (intsH.rd [] rfl (by omega)) (qh (ii ((k : Int))) rfl (qh (ii (ws.getD k 0)) rfl (qb (qc (qc (qa (qf (ii (ws.getD k 0)) rfl (cX (ju rfl rfl (qb ?_)))))))))))))))))))
  refine qF (p := (ws.getD k 0 : Int) ≥ 0) rfl (fun h2 => ?_) (fun h2 => ?_)
  ·have hwk1 := hwk (by omega)
   refine jl (qE (qS (qa (cX (qT (((k + 1 : Nat) : Int)) rfl rfl (by omega) (by omega) (qf (ii (((k + 1 : Nat) : Int))) rfl (qb ?_)))))))
   exact ⟨(k + 1, ws), _, FLe.refl _, rF, ⟨rfl, rfl, rfl, rfl, rfl, ⟨⟩⟩, (sC sR), ⟨rfl, (by (try dsimp only) <;> omega), (by (try dsimp only); first | exact shift_keep (by omega) hws (by omega) | exact shift_set (by omega) hws h0k (by rw [hwk1])), (fun i hi h9 => (Nat.lt_or_ge i k).elim (fun h => hal i h h9) (fun h => by obtain rfl : i = k := (by omega); omega))⟩, (by omega)⟩
  have hwk1 := hwk (by omega)
  have h0k : t.getD k 0 < 0 := by omega
  refine qv (qc (qa (qf (v1) rfl (qf (ii ((k : Int))) rfl (qf (ii (ws.getD k 0)) rfl (qf (ii (n)) rfl (cX (qW ((ws.getD k 0) - n) rfl rfl (by omega) (by omega) (cX (qB k qd qy rfl rfl rfl (intsH.slv [] rfl) (by omega) (Nat.mul_one _) (cX (intsH.storeX (i := k) (v := v1) [] _ (ws.set k ((ws.getD k 0) - n)) qy rfl rfl rfl (by omega) rfl ?_))))))))))))
  have hwl3 : (ws.set k (ws.getD k 0 - n)).length = ws.length := List.length_set
  refine qb (qc (qa (qf (v1) rfl (qf (ii ((k : Int))) rfl (cX (qB k qd qy rfl rfl rfl (intsH.slv [] rfl) (by omega) (Nat.mul_one _) (cX (qn qV rfl (intsH.rd [] rfl (by omega)) (cX (qZ rfl rfl (qb ?_)))))))))))
  refine qF (p := (((ws.set k ((ws.getD k 0) - n))).getD k 0 : Int) < -24) rfl (fun h3 => ?_) (fun h3 => ?_)
  ·have hh9 := h3
   rw [shift_hit (by omega), hwk1] at hh9
   refine qc (qa (qh (sN) rfl (qh (.bool (false)) rfl (qb (qx (qs (qi (qi (qs (qi (qp (L' := L) [sN, .bool (false)] (.tuple #[sN, .bool (false)]) (.tmp rfl (.tmp rfl .nil)) rfl rF rF (sD sR) ?_)))))))))))
   have e9 : shiftB t n = false := shift_no (i := k) (by omega) h0k (by omega)
   exact ⟨_, by rw [e9], by rw [e9]; exact IntsF.nilV, rfl⟩
  have hh9 := h3
  rw [shift_hit (by omega), hwk1] at hh9
  refine qv (qa (cX (qT (((k + 1 : Nat) : Int)) rfl rfl (by omega) (by omega) (qf (ii (((k + 1 : Nat) : Int))) rfl (qb ?_)))))
  exact ⟨(k + 1, (ws.set k ((ws.getD k 0) - n))), _, FLe.refl _, rF, ⟨rfl, rfl, rfl, rfl, rfl, ⟨⟩⟩, (sC sR), ⟨rfl, (by (try dsimp only) <;> omega), (by (try dsimp only); first | exact shift_keep (by omega) hws (by omega) | exact shift_set (by omega) hws h0k (by rw [hwk1])), (fun i hi h9 => (Nat.lt_or_ge i k).elim (fun h => hal i h h9) (fun h => by obtain rfl : i = k := (by omega); omega))⟩, (by omega)⟩
 refine jl (qE (qE (qS (qc (qa (qf (v1) rfl (qh (v1) rfl (qh (.bool (true)) rfl (qb (ji [] _ _ rfl (fun F1 le1 hz1 => ?_)))))))))))
 have hf1 : IntsF F1 v1 ws := intsH.fz (xs := ws) hz1.fz
 refine qx (qp (L' := L) [v1, .bool (true)] (.tuple #[v1, .bool (true)]) (.tmp rfl (.tmp rfl .nil)) rfl le1 rF sR ?_)
 have e9 : shiftB t n = true := shift_yes (fun i hi => hal i (by omega))
 rw [show k = t.length from by omega, List.take_length, List.drop_length, List.append_nil] at hws
 subst hws
 exact ⟨_, by rw [e9], by rw [e9]; exact hf1, rfl⟩

/- spec.Shifted -/
theorem sShifted_spec {F : FH} {L : List HP} {arv : Value} {ar : List Int} (har : IntsF F arv ar) {tv : Value} {t : List Int} (ht : IntsF F tv t) {n : Int} (hla : ar.length ≤ 4000000) (hlt : t.length ≤ 4000000) :
    Does prog 143 [.agg #[arv], tv, ii (n)] F (L) (fun v F' L' => ∃ (x : Value), (.tuple #[x, .bool (((termOk ar t && decide (0 ≤ n ∧ n ≤ 24)) && shiftB t n))] : Value) = v ∧ (IntsF F' x (if (termOk ar t && decide (0 ≤ n ∧ n ≤ 24)) = true ∧ shiftB t n = true then shiftL t n else [])) ∧ L = L') := by
 refine qM func143 rfl rfl rfl (qc (qa (cX (jg [arv] rfl rfl ?_))))
 intro b1
 refine qh (sN) rfl (qh (.bool (false)) rfl (qb (qc (qc (qa (cX (qr [arv] qL qz rfl rfl (Rd.ownN [] rfl rfl) (qf (tv) rfl (cX (ql (args := [.agg #[arv], tv]) call81 rfl (sTermOk_spec har ht (hla := (by first | assumption | rfl | omega | simp)) (hlt := (by first | assumption | rfl | omega | simp))) ?_))))))))))
 rintro _ _ _ _ ⟨rfl, rfl, rfl⟩
 refine cX (jh rfl (qf (.bool (!(termOk ar t))) rfl ?_))
 by_cases h1 : (!(termOk ar t)) = true
 ·have hot : termOk ar t = false := Bool.not_inj (y := false) h1
  refine qu (t := 15) rfl (vB h1) (qu (t := 15) rfl (vB h1) (qu (t := 15) rfl (vB h1) (cX (qX (.bool (true)) (vB h1) rfl (qb (jK rfl (qc (qa (cX (qD (s := 1) [] [ii (0)] [] qd qy qU rfl (by decide) rfl CellsAre.nil rfl ?_))))))))))
  intro v1 hv1
  refine qh (v1) rfl (qh (.bool (false)) rfl (qb ?_))
  show X _ _ _ _ _ _ (intsH 2 v1 ([] : List Int) :: cellsH b1 [arv] 29 :: L)
  refine ji [] _ _ rfl (fun F1 le1 hz1 => ?_)
  replace ht := ht.mono le1
  have hf1 : IntsF F1 v1 ([]) := intsH.fz (xs := []) hz1.fz
  refine qx (qi (qp (L' := L) [v1, .bool (false)] (.tuple #[v1, .bool (false)]) (.tmp rfl (.tmp rfl .nil)) rfl le1 rF (sD sR) ?_))
  have e9 : (termOk ar t && decide (0 ≤ n ∧ n ≤ 24)) = false := by simp_all
  exact ⟨_, by rw [e9]; rfl, by rw [if_neg (by rw [e9]; simp)]; exact hf1, rfl⟩
 rw [Bool.not_eq_true] at h1
 have hot : termOk ar t = true := Bool.not_inj (y := true) h1
 have hgt := fun k (hk : k < t.length) => termOk_ge hot hk
 have hlt := termOk_len hot
 have hgmt := (termOk_iff.1 hot).ge
 have hbrt := beh_range hgmt
 have hlt0t := termOk_lt hot (p := 0) (by omega)
 have hsgt := sigOk_spec (termOk_sig hot)
 refine qq (t := 15) rfl (vB h1) (qk (ii (n)) rfl (qq (t := 15) rfl (vB h1) (ql (args := [ii (n), ii (0), ii (24)]) call112 rfl (l1In_spec (n := n) (a := 0) (b := 24)) ?_)))
 rintro _ _ _ _ ⟨rfl, rfl, rfl⟩
 refine qq (t := 15) rfl (vB h1) (XOp.notD rfl (cX (qR (.bool (decide (¬(0 ≤ n ∧ n ≤ 24)))) (vB h1) rfl (qb ?_))))
 refine qF (p := ¬(0 ≤ n ∧ n ≤ 24)) rfl (fun h2 => ?_) (fun h2 => ?_)
 ·refine qc (qa (cX (qD (s := 1) [] [ii (0)] [] qd qy qU rfl (by decide) rfl CellsAre.nil rfl ?_)))
  intro v2 hv2
  refine qh (v2) rfl (qh (.bool (false)) rfl (qb ?_))
  show X _ _ _ _ _ _ (intsH 2 v2 ([] : List Int) :: cellsH b1 [arv] 29 :: L)
  refine ji [] _ _ rfl (fun F2 le2 hz2 => ?_)
  replace ht := ht.mono le2
  have hf2 : IntsF F2 v2 ([]) := intsH.fz (xs := []) hz2.fz
  refine qx (qi (qp (L' := L) [v2, .bool (false)] (.tuple #[v2, .bool (false)]) (.tmp rfl (.tmp rfl .nil)) rfl le2 rF (sD sR) ?_))
  have e9 : (termOk ar t && decide (0 ≤ n ∧ n ≤ 24)) = false := by simp_all
  exact ⟨_, by rw [e9]; rfl, by rw [if_neg (by rw [e9]; simp)]; exact hf2, rfl⟩
 refine qv (qc (qa (cX (qD (s := 1) [] [ii (0)] [] qd qy qU rfl (by decide) rfl CellsAre.nil rfl ?_))))
 intro v3 hv3
 refine qh (v3) rfl (qb (qc (qc (qa (qh (ii (0)) rfl (qb (qQ (js (α := Nat × Value × List Int) (fun xQ => [(1, tv), (2, ii (n)), (8, xQ.2.1), (9, ii (((xQ.1 : Nat) : Int)))]) (fun xQ => intsH 2 xQ.2.1 xQ.2.2 :: cellsH b1 [arv] 29 :: L) (fun xQ F' => F = F' ∧ (IsSl xQ.2.1) ∧ (xQ.1 ≤ t.length) ∧ (xQ.2.2 = shiftL (t.take xQ.1) n) ∧ (∀ i, i < xQ.1 → t.getD i 0 < 0 → -24 ≤ t.getD i 0 - n)) (fun xQ => t.length - xQ.1) (0, v3, []) ⟨rfl, rfl, rfl, rfl, ⟨⟩⟩ (sC (sC sR)) ⟨rfl, ((jo hv3)), (by (try dsimp only) <;> omega), (by simp [shiftL]), (fun i hi => absurd hi (by omega))⟩ ?_))))))))
 rintro ⟨k, ov, os⟩ rE _ _ ⟨rfl, hov, hk, hos, hal⟩
 show X _ _ _ _ (envs [(1, tv), (2, ii (n)), (8, ov), (9, ii ((k : Int)))] rE) _ (intsH 2 ov os :: cellsH b1 [arv] 29 :: L)
 dsimp only at hov hk hos hal
 have htk := hgt k
 have hol : os.length ≤ k := by rw [hos, shift_len, List.length_take]; omega
 refine qc (qc (qa (qf (ii ((k : Int))) rfl (qf (tv) rfl (cX (qO qd rfl ht.slv (cX (qZ rfl rfl (qb ?_)))))))))
 refine qF (p := (k : Int) < (t.length : Int)) rfl (fun h3 => ?_) (fun h3 => ?_)
 ·refine qv (qc (qQ (qc (qa (qf (tv) rfl (qf (ii ((k : Int))) rfl (cX (qB k qd qy rfl rfl rfl ht.slv (by omega) (Nat.mul_one _) (cX (qn qV rfl (ht.rd (by omega)) (qh (ii (t.getD k 0)) rfl (qb (qc (qc (qa (qf (ii (t.getD k 0)) rfl (cX (qZ rfl rfl (qb ?_)))))))))))))))))))
  refine qF (p := (t.getD k 0 : Int) < 0) rfl (fun h4 => ?_) (fun h4 => ?_)
  ·refine qa (qf (ii (t.getD k 0)) rfl (qf (ii (n)) rfl (cX (qW ((t.getD k 0) - n) rfl rfl (by omega) (by omega) (qh (ii ((t.getD k 0) - n)) rfl (qb (qc (qc (qa (qf (ii ((t.getD k 0) - n)) rfl (cX (qZ rfl rfl (qb ?_)))))))))))))
   refine qF (p := ((t.getD k 0) - n : Int) < -24) rfl (fun h5 => ?_) (fun h5 => ?_)
   ·refine qc (qa (cX (qD (s := 1) [] [ii (0)] [] qd qy qU rfl (by decide) rfl CellsAre.nil rfl ?_)))
    intro v4 hv4
    refine qh (v4) rfl (qh (.bool (false)) rfl (qb ?_))
    show X _ _ _ _ _ _ (intsH 2 v4 ([] : List Int) :: intsH 2 ov os :: cellsH b1 [arv] 29 :: L)
    refine ji [] _ _ rfl (fun F3 le3 hz3 => ?_)
    have hf3 : IntsF F3 v4 ([]) := intsH.fz (xs := []) hz3.fz
    refine qx (qi (qs (qi (qi (qs (qi (qp (L' := L) [v4, .bool (false)] (.tuple #[v4, .bool (false)]) (.tmp rfl (.tmp rfl .nil)) rfl le3 rF (sD (sD sR)) ?_)))))))
    have e9 : shiftB t n = false := shift_no (i := k) (by omega) (by omega) (by omega)
    exact ⟨_, by rw [e9, Bool.and_false], by rw [if_neg (by rw [e9]; simp)]; exact hf3, rfl⟩
   refine qv (qa (qf (ov) rfl (qf (ii ((t.getD k 0) - n)) rfl (cX (qD (s := 1) [ii ((t.getD k 0) - n)] [ii (0)] [(0, [ii ((t.getD k 0) - n)])] qd qy qU rfl (by decide) rfl (.cons rfl CellsAre.nil) rfl ?_)))))
   intro v5 hv5
   refine cX (jC (u := (t.getD k 0) - n) [_] _ qd typeInfo2 rfl rfl rfl rfl rfl rfl (SlV.own [] rfl) (Rd.sl [] rfl rfl) (by (try simp only [List.length_append, List.length_nil, List.length_cons, List.length_singleton, List.length_take, List.length_drop]); omega) ?_)
   intro v6 hs1 hn1
   refine qh (v6) rfl (qb (qa (qf (ii ((k : Int))) rfl (cX (qT (((k + 1 : Nat) : Int)) rfl rfl (by omega) (by omega) (qh (ii (((k + 1 : Nat) : Int))) rfl (qb ?_)))))))
   exact ⟨(k + 1, v6, os ++ [(t.getD k 0) - n]), _, FLe.refl _, rF, ⟨rfl, rfl, rfl, rfl, ⟨⟩⟩, (sD (sC (sC sR))), ⟨rfl, (hs1), (by (try dsimp only) <;> omega), (by (try dsimp only); rw [hos]; first | exact shift_nextN (by omega) (by omega) | exact shift_nextS (by omega) (by omega)), (fun i hi h9 => (Nat.lt_or_ge i k).elim (fun h => hal i h h9) (fun h => by obtain rfl : i = k := (by omega); omega))⟩, (by omega)⟩
  refine qv (qc (qc (qa (qf (ii (t.getD k 0)) rfl (cX (qZ rfl rfl (qb ?_)))))))
  refine qF (p := (t.getD k 0 : Int) < -24) rfl (fun h6 => ?_) (fun h6 => ?_)
  ·refine qc (qa (cX (qD (s := 1) [] [ii (0)] [] qd qy qU rfl (by decide) rfl CellsAre.nil rfl ?_)))
   intro v7 hv6
   refine qh (v7) rfl (qh (.bool (false)) rfl (qb ?_))
   show X _ _ _ _ _ _ (intsH 2 v7 ([] : List Int) :: intsH 2 ov os :: cellsH b1 [arv] 29 :: L)
   refine ji [] _ _ rfl (fun F4 le4 hz4 => ?_)
   have hf4 : IntsF F4 v7 ([]) := intsH.fz (xs := []) hz4.fz
   refine qx (qi (qs (qi (qi (qs (qi (qp (L' := L) [v7, .bool (false)] (.tuple #[v7, .bool (false)]) (.tmp rfl (.tmp rfl .nil)) rfl le4 rF (sD (sD sR)) ?_)))))))
   have e9 : shiftB t n = false := shift_no (i := k) (by omega) (by omega) (by omega)
   exact ⟨_, by rw [e9, Bool.and_false], by rw [if_neg (by rw [e9]; simp)]; exact hf4, rfl⟩
  refine qv (qa (qf (ov) rfl (qf (ii (t.getD k 0)) rfl (cX (qD (s := 1) [ii (t.getD k 0)] [ii (0)] [(0, [ii (t.getD k 0)])] qd qy qU rfl (by decide) rfl (.cons rfl CellsAre.nil) rfl ?_)))))
  intro v8 hv7
  refine cX (jC (u := t.getD k 0) [_] _ qd typeInfo2 rfl rfl rfl rfl rfl rfl (SlV.own [] rfl) (Rd.sl [] rfl rfl) (by (try simp only [List.length_append, List.length_nil, List.length_cons, List.length_singleton, List.length_take, List.length_drop]); omega) ?_)
  intro v9 hs2 hn2
  refine qh (v9) rfl (qb (qa (qf (ii ((k : Int))) rfl (cX (qT (((k + 1 : Nat) : Int)) rfl rfl (by omega) (by omega) (qh (ii (((k + 1 : Nat) : Int))) rfl (qb ?_)))))))
  exact ⟨(k + 1, v9, os ++ [t.getD k 0]), _, FLe.refl _, rF, ⟨rfl, rfl, rfl, rfl, ⟨⟩⟩, (sD (sC (sC sR))), ⟨rfl, (hs2), (by (try dsimp only) <;> omega), (by (try dsimp only); rw [hos]; first | exact shift_nextN (by omega) (by omega) | exact shift_nextS (by omega) (by omega)), (fun i hi h9 => (Nat.lt_or_ge i k).elim (fun h => hal i h h9) (fun h => by obtain rfl : i = k := (by omega); omega))⟩, (by omega)⟩
 refine jl (qE (qE (qS (qc (qa (qf (ov) rfl (qh (ov) rfl (qh (.bool (true)) rfl (qb (ji [] _ _ rfl (fun F5 le5 hz5 => ?_)))))))))))
 have hf5 : IntsF F5 ov os := intsH.fz (xs := os) hz5.fz
 refine qx (qp (L' := L) [ov, .bool (true)] (.tuple #[ov, .bool (true)]) (.tmp rfl (.tmp rfl .nil)) rfl le5 rF (sD sR) ?_)
 have e9 : shiftB t n = true := shift_yes (fun i hi => hal i (by omega))
 have e8 : (termOk ar t && decide (0 ≤ n ∧ n ≤ 24)) = true := by simp_all
 rw [show k = t.length from by omega, List.take_length] at hos
 subst hos
 exact ⟨_, by rw [e9, e8]; rfl, by rw [if_pos ⟨e8, e9⟩]; exact hf5, rfl⟩

/- impl.unifyApart -/
set_option maxRecDepth 20000 in
theorem unifyApart_spec {F : FH} {L : List HP} {arv : Value} {ar : List Int} (har : IntsF F arv ar) {av : Value} {a : List Int} (ha : IntsF F av a) {cv : Value} {c : List Int} (hc : IntsF F cv c) (hoa : termOk ar a = true) (hoc : termOk ar c = true) :
    Does prog 83 [.agg #[arv], av, cv] F (L) (fun v F' L' => ∃ (x : Value), ∃ (s : RowL), (.tuple #[.agg #[x], .bool ((shiftB c (behL a) && uniB ar a (shiftL c (behL a))))] : Value) = v ∧ (RowsF F' x s) ∧ ((shiftB c (behL a) && uniB ar a (shiftL c (behL a))) = true → UniR ar a (shiftL c (behL a)) s) ∧ ((shiftB c (behL a) && uniB ar a (shiftL c (behL a))) = false → s = []) ∧ L = L') := by
 refine qM func83 rfl rfl rfl ?_
 have hga := fun k (hk : k < a.length) => termOk_ge hoa hk
 have hla := termOk_len hoa
 have hgma := (termOk_iff.1 hoa).ge
 have hbra := beh_range hgma
 have hgc := fun k (hk : k < c.length) => termOk_ge hoc hk
 have hlc := termOk_len hoc
 have hgmc := (termOk_iff.1 hoc).ge
 have hbrc := beh_range hgmc
 have hlt0a := termOk_lt hoa (p := 0) (by omega)
 have hsga := sigOk_spec (termOk_sig hoa)
 refine qc (qa (cX (jg [arv] rfl rfl ?_)))
 intro b1
 refine cX (jd [sN] qG rfl ?_)
 intro b2
 refine qh (.bool (false)) rfl (qb (qc (qa (qf (cv) rfl (qf (av) rfl (cX (ql (args := [av]) call80 rfl (behind_spec ha (hlt := (by omega)) (hgm := (hgma)) (h0u := (by omega))) ?_)))))))
 rintro _ _ _ _ ⟨rfl, rfl, rfl⟩
 refine cX (ql (args := [cv, ii (behL a)]) call154 rfl (shift_spec (n := behL a) hc (hlt := (by omega)) (htg := (hgc)) (hn := (hbra))) ?_)
 rintro _ F1 _ le1 ⟨x1, rfl, hr1, rfl⟩
 replace har := har.mono le1
 replace ha := ha.mono le1
 refine qf (.tuple #[x1, .bool (shiftB c (behL a))]) rfl (cX (qH (x1) rfl rfl (cX (qH (.bool (shiftB c (behL a))) rfl rfl (qh (x1) rfl (qh (.bool (shiftB c (behL a))) rfl (qb (qc (qc (qa (qf (.bool (shiftB c (behL a))) rfl (cX (jh rfl (qb ?_))))))))))))))
 refine jk (t := !(shiftB c (behL a))) rfl (fun h1 => ?_) (fun h1 => ?_)
 ·have hsh : shiftB c (behL a) = false := Bool.not_inj (y := false) h1
  refine qc (qa (cX (qY [sN] [sN] [(0, 1)] [] qo qG rfl (.cons rfl qI PlacesAre.nil) rfl CellsAre.nil (cX (qt [] _ [sN] qm rfl rfl rfl (qw rfl qC) rfl rfl rfl (qh (.bool (false)) rfl (qb (qx (qi (qp (L' := L) [.agg #[sN], .bool (false)] (.tuple #[.agg #[sN], .bool (false)]) (.cell rfl (ja [sN] qK qm rfl (Rd.ownN [] rfl rfl)) (.tmp rfl .nil)) rfl le1 rF (sD (sD sR)) ?_))))))))))
  have e9 : (shiftB c (behL a) && uniB ar a (shiftL c (behL a))) = false := by rw [hsh]; rfl
  exact ⟨_, [], by rw [e9], SlOf.nilV, fun h => (by rw [e9] at h; cases h), fun _ => rfl, rfl⟩
 have hsh : shiftB c (behL a) = true := Bool.not_inj (y := true) h1
 have hoc2 := shift_ok hbra.1 hoc hsh
 have hlc2 := termOk_len hoc2
 refine qv (qc (qa (cX (qr [arv] qL qz rfl rfl (Rd.ownN [_] rfl rfl) (qf (av) rfl (qf (x1) rfl (cX (ql (args := [.agg #[arv], av, x1]) call155 rfl (unify_spec har ha hr1 (hoa := (hoa)) (hoc := (by rw [if_pos hsh]; exact hoc2))) ?_))))))))
 rintro _ F2 _ le2 ⟨x2, x3, rfl, hr2, hr3, hr4, rfl⟩
 refine cX (qH (.agg #[x2]) rfl rfl (cX (qH (.bool (uniB ar a ((if shiftB c (behL a) = true then shiftL c (behL a) else [])))) rfl rfl (cX (qt [] _ [x2] qm rfl rfl rfl (qw (qP (RowsF.isSl hr2)) qC) rfl rfl rfl (qh (.bool (uniB ar a ((if shiftB c (behL a) = true then shiftL c (behL a) else [])))) rfl (qb (qx (qp (L' := L) [.agg #[x2], .bool (uniB ar a ((if shiftB c (behL a) = true then shiftL c (behL a) else [])))] (.tuple #[.agg #[x2], .bool (uniB ar a ((if shiftB c (behL a) = true then shiftL c (behL a) else [])))]) (.cell rfl (ja [x2] qK qm rfl (Rd.ownN [] rfl rfl)) (.tmp rfl .nil)) rfl (qg le1 le2) rF (sD (sD sR)) ?_)))))))))
 rw [if_pos hsh] at *
 exact ⟨_, _, by rw [hsh, Bool.true_and], hr2, fun h => hr3 (by rw [hsh, Bool.true_and] at h; exact h), fun h => hr4 (by rw [hsh, Bool.true_and] at h; exact h), rfl⟩

/- impl.UnifiedApart -/
set_option maxRecDepth 20000 in
theorem UnifiedApart_spec {F : FH} {L : List HP} {arv : Value} {ar : List Int} (har : IntsF F arv ar) {av : Value} {a : List Int} (ha : IntsF F av a) {cv : Value} {c : List Int} (hc : IntsF F cv c) :
    Does prog 27 [.agg #[arv], av, cv] F (L) (fun v F' L' => ∃ (x : Value), ∃ (s : RowL), (.tuple #[.agg #[x], .bool (apartB ar a c)] : Value) = v ∧ (RowsF F' x s) ∧ (apartB ar a c = true → UniR ar a (shiftL c (behL a)) s) ∧ (apartB ar a c = false → s = []) ∧ L = L') := by
 refine qM func27 rfl rfl rfl (qc (qa (cX (jg [arv] rfl rfl ?_))))
 intro b1
 refine cX (jd [sN] qG rfl ?_)
 intro b2
 refine qh (.bool (false)) rfl (qb (qc (qc (qa (cX (qr [arv] qL qz rfl rfl (Rd.ownN [_] rfl rfl) (qf (av) rfl (cX (ql (args := [.agg #[arv], av]) call79 rfl (TermOk_spec har ha) ?_)))))))))
 rintro _ _ _ _ ⟨rfl, rfl, rfl⟩
 refine cX (jh rfl (qf (.bool (!(termOk ar a))) rfl ?_))
 by_cases h1 : (!(termOk ar a)) = true
 ·have hoa : termOk ar a = false := Bool.not_inj (y := false) h1
  refine qu (t := 12) rfl (vB h1) (qu (t := 12) rfl (vB h1) (qu (t := 12) rfl (vB h1) (qu (t := 12) rfl (vB h1) (cX (qX (.bool (true)) (vB h1) rfl (qb (jK rfl (qc (qa (cX (qY [sN] [sN] [(0, 1)] [] qo qG rfl (.cons rfl qI PlacesAre.nil) rfl CellsAre.nil (cX (qt [] _ [sN] qm rfl rfl rfl (qw rfl qC) rfl rfl rfl ?_)))))))))))))
  refine qh (.bool (false)) rfl (qb (qx (qi (qp (L' := L) [.agg #[sN], .bool (false)] (.tuple #[.agg #[sN], .bool (false)]) (.cell rfl (ja [sN] qK qm rfl (Rd.ownN [] rfl rfl)) (.tmp rfl .nil)) rfl rF rF (sD (sD sR)) ?_))))
  have e9 : apartB ar a c = false := by unfold apartB; simp_all
  exact ⟨_, [], by rw [e9], SlOf.nilV, fun h => (by rw [e9] at h; cases h), fun _ => rfl, rfl⟩
 rw [Bool.not_eq_true] at h1
 have hoa : termOk ar a = true := Bool.not_inj (y := true) h1
 have hga := fun k (hk : k < a.length) => termOk_ge hoa hk
 have hla := termOk_len hoa
 have hgma := (termOk_iff.1 hoa).ge
 have hbra := beh_range hgma
 have hlt0a := termOk_lt hoa (p := 0) (by omega)
 have hsga := sigOk_spec (termOk_sig hoa)
 refine qq (t := 12) rfl (vB h1) (qr [arv] qL qz rfl rfl (Rd.ownN [_] rfl rfl) (qq (t := 12) rfl (vB h1) (qk (cv) rfl (qq (t := 12) rfl (vB h1) (ql (args := [.agg #[arv], cv]) call79 rfl (TermOk_spec har hc) ?_)))))
 rintro _ _ _ _ ⟨rfl, rfl, rfl⟩
 refine qq (t := 12) rfl (vB h1) (jh rfl (cX (qR (.bool (!(termOk ar c))) (vB h1) rfl (qb ?_))))
 refine jk (t := !(termOk ar c)) rfl (fun h2 => ?_) (fun h2 => ?_)
 ·have hoc : termOk ar c = false := Bool.not_inj (y := false) h2
  refine qc (qa (cX (qY [sN] [sN] [(0, 1)] [] qo qG rfl (.cons rfl qI PlacesAre.nil) rfl CellsAre.nil (cX (qt [] _ [sN] qm rfl rfl rfl (qw rfl qC) rfl rfl rfl (qh (.bool (false)) rfl (qb (qx (qi (qp (L' := L) [.agg #[sN], .bool (false)] (.tuple #[.agg #[sN], .bool (false)]) (.cell rfl (ja [sN] qK qm rfl (Rd.ownN [] rfl rfl)) (.tmp rfl .nil)) rfl rF rF (sD (sD sR)) ?_))))))))))
  have e9 : apartB ar a c = false := by unfold apartB; simp_all
  exact ⟨_, [], by rw [e9], SlOf.nilV, fun h => (by rw [e9] at h; cases h), fun _ => rfl, rfl⟩
 have hoc : termOk ar c = true := Bool.not_inj (y := true) h2
 have hgc := fun k (hk : k < c.length) => termOk_ge hoc hk
 have hlc := termOk_len hoc
 have hgmc := (termOk_iff.1 hoc).ge
 have hbrc := beh_range hgmc
 have hlt0c := termOk_lt hoc (p := 0) (by omega)
 have hsgc := sigOk_spec (termOk_sig hoc)
 refine qv (qc (qa (cX (qr [arv] qL qz rfl rfl (Rd.ownN [_] rfl rfl) (qf (av) rfl (qf (cv) rfl (cX (ql (args := [.agg #[arv], av, cv]) call83 rfl (unifyApart_spec har ha hc (hoa := (by first | assumption | rfl | omega | simp)) (hoc := (by first | assumption | rfl | omega | simp))) ?_))))))))
 rintro _ F1 _ le1 ⟨x1, x2, rfl, hr1, hr2, hr3, rfl⟩
 refine cX (qH (.agg #[x1]) rfl rfl (cX (qH (.bool ((shiftB c (behL a) && uniB ar a (shiftL c (behL a))))) rfl rfl (cX (qt [] _ [x1] qm rfl rfl rfl (qw (qP (RowsF.isSl hr1)) qC) rfl rfl rfl (qh (.bool ((shiftB c (behL a) && uniB ar a (shiftL c (behL a))))) rfl (qb (qx (qp (L' := L) [.agg #[x1], .bool ((shiftB c (behL a) && uniB ar a (shiftL c (behL a))))] (.tuple #[.agg #[x1], .bool ((shiftB c (behL a) && uniB ar a (shiftL c (behL a))))]) (.cell rfl (ja [x1] qK qm rfl (Rd.ownN [] rfl rfl)) (.tmp rfl .nil)) rfl le1 rF (sD (sD sR)) ?_)))))))))
 have e9 : apartB ar a c = (shiftB c (behL a) && uniB ar a (shiftL c (behL a))) := by unfold apartB; rw [hoa, hoc]; rfl
 exact ⟨_, _, by rw [e9], hr1, fun h => hr2 (by rw [← e9]; exact h), fun h => hr3 (by rw [← e9]; exact h), rfl⟩

/- impl.renamed -/
theorem renamed_spec {F : FH} {L : List HP} {tv : Value} {t : List Int} (ht : IntsF F tv t) (hlt : t.length ≤ 60) :
    Does prog 75 [tv] F (L) (fun v F' L' => ∃ (x : Value), (x : Value) = v ∧ (IntsF F' x (byL (orderL t) t)) ∧ L = L') := by
 refine qM func75 rfl rfl rfl (qc (qa (qh (sN) rfl (qb (qc (qa (qf (tv) rfl (cX (qD (s := 1) [tv] [sN] [(0, [tv])] qJ qN jB rfl (by decide) rfl (.cons (cells_one (jc ht)) CellsAre.nil) rfl ?_)))))))))
 intro v1 hv1
 have hc1 : RowsC F [tv] ([t] : List (List Int)) := (RowsC.snoc (CO.nil : RowsC F [] []) ht)
 refine XL.freezeF [] _ _ rfl (fun F1 le1 hz1 => ?_)
 replace hc1 := hc1.mono le1
 have hf1 : RowsF F1 v1 (([t] : List (List Int))) := CO.fz hc1 (by first | rfl | omega | (rw [List.length_set]; omega) | (simp; done)) hz1.fz
 refine cX (ql (args := [v1]) call142 rfl (renumber_spec hf1 (by simp) (fun i hi => by match i, hi with | 0, _ => exact hlt)) ?_)
 rintro v2 F2 _ le2 ⟨cs1, Us1, hA1, hC1, hD1, hZ1, rfl⟩
 have hR1 : RowsF F2 v2 (rnL [] (([t] : List (List Int)))) := ⟨_, hA1, hC1.2⟩
 refine cX (qB 0 qJ qN rfl rfl rfl hR1.slv (by rw [rnL_len]; simp) (Nat.mul_one _) ?_)
 obtain ⟨a1, ha1, hr1⟩ := hR1.rd (i := 0) (by rw [rnL_len]; simp)
 refine cX (qn jn rfl (hr1 _) (qh (a1) rfl (qb (qx (qp (L' := L) [a1] (a1) (.tmp rfl .nil) rfl (qg le1 le2) rF sR ?_)))))
 exact ⟨_, rfl, by have h9 := ha1; rw [rn_one] at h9; exact h9, rfl⟩

/- impl.Renamed -/
theorem Renamed_spec {F : FH} {L : List HP} {arv : Value} {ar : List Int} (har : IntsF F arv ar) {tv : Value} {t : List Int} (ht : IntsF F tv t) :
    Does prog 29 [.agg #[arv], tv] F (L) (fun v F' L' => ∃ (x : Value), (x : Value) = v ∧ (IntsF F' x (if termOk ar t = true then byL (orderL t) t else [])) ∧ L = L') := by
 refine qM func29 rfl rfl rfl (qc (qa (cX (jg [arv] rfl rfl ?_))))
 intro b1
 refine qh (sN) rfl (qb (qc (qc (qa (cX (qr [arv] qL qz rfl rfl (Rd.ownN [] rfl rfl) (qf (tv) rfl (cX (ql (args := [.agg #[arv], tv]) call79 rfl (TermOk_spec har ht) ?_)))))))))
 rintro _ _ _ _ ⟨rfl, rfl, rfl⟩
 refine cX (jh rfl (qb ?_))
 refine jk (t := !(termOk ar t)) rfl (fun h1 => ?_) (fun h1 => ?_)
 ·have hot : termOk ar t = false := Bool.not_inj (y := false) h1
  refine qc (qa (qh (sN) rfl (qb (qx (qi (qp (L' := L) [sN] (sN) (.tmp rfl .nil) rfl rF rF (sD sR) ?_))))))
  exact ⟨_, rfl, by rw [if_neg (by rw [hot]; simp)]; exact IntsF.nilV, rfl⟩
 have hot : termOk ar t = true := Bool.not_inj (y := true) h1
 have hgt := fun k (hk : k < t.length) => termOk_ge hot hk
 have hlt := termOk_len hot
 have hgmt := (termOk_iff.1 hot).ge
 have hbrt := beh_range hgmt
 have hlt0t := termOk_lt hot (p := 0) (by omega)
 have hsgt := sigOk_spec (termOk_sig hot)
 refine qv (qc (qa (qf (tv) rfl (cX (ql (args := [tv]) call75 rfl (renamed_spec ht (hlt := (by omega))) ?_)))))
 rintro _ F1 _ le1 ⟨x1, rfl, hr1, rfl⟩
 refine qh (x1) rfl (qb (qx (qp (L' := L) [x1] (x1) (.tmp rfl .nil) rfl le1 rF (sD sR) ?_)))
 exact ⟨_, rfl, by rw [if_pos hot]; exact hr1, rfl⟩

/- spec.l2Renamed -/
theorem l2Renamed_spec {F : FH} {L : List HP} {tv : Value} {t : List Int} (ht : IntsF F tv t) (hlt : t.length ≤ 60) :
    Does prog 78 [tv] F (L) (fun v F' L' => ∃ (x : Value), (x : Value) = v ∧ (IntsF F' x (byL (orderL t) t)) ∧ L = L') := by
 refine qM func78 rfl rfl rfl ?_
 have hol := ord_len (t := t)
 refine qc (qa (qh (sN) rfl (qb (qc (qa (qf (tv) rfl (cX (jJ <| ql (args := [tv]) call147 rfl (l2OrderL_spec ht (hlt := (by omega))) ?_))))))))
 rintro v1 _ _ _ ⟨rfl, hs1, rfl⟩
 refine ⟨_, _, rfl, fun F1 le1 hz1 => ?_⟩
 replace ht := ht.mono le1
 have hf1 : IntsF F1 v1 ((orderL t)) := intsH.fz (xs := (orderL t)) hz1.fz
 refine qf (tv) rfl (cX (jJ <| ql (args := [v1, tv]) call146 rfl (l2ByL_spec hf1 ht (hno := (ord_nodup)) (hlo := (by omega)) (hlt := (by omega))) ?_))
 rintro v2 _ _ _ ⟨rfl, hs2, rfl⟩
 refine ⟨_, _, rfl, fun F2 le2 hz2 => ?_⟩
 have hf2 : IntsF F2 v2 ((byL ((orderL t)) t)) := intsH.fz (xs := (byL ((orderL t)) t)) hz2.fz
 refine qh (v2) rfl (qb (qx (qp (L' := L) [v2] (v2) (.tmp rfl .nil) rfl (qg le1 le2) rF sR ?_)))
 exact ⟨_, rfl, hf2, rfl⟩

/- spec.l5Bind -/
set_option maxHeartbeats 1000000 in
set_option maxRecDepth 20000 in
theorem l5Bind_spec {F : FH} {L : List HP} {sv : Value} {s : List (List Int)} (hs : RowsF F sv s) {i : Nat} {uv : Value} {u : List Int} (hu : IntsF F uv u) (hsl : s.length ≤ 24) (hsb : ∀ j, (s.getD j []).length ≤ 60) (hi : i < 24) (hun : u ≠ []) (hul : u.length ≤ 60) (hsg : ∀ k : Nat, k < 24 → ∀ q, q < (lk s (-1 - (k : Int))).length → -4000000 ≤ (lk s (-1 - (k : Int))).getD q 0) :
    Does prog 234 [.agg #[sv], ii ((i : Int)), uv] F (L) (fun v F' L' => ∃ (x : Value), (.tuple #[.agg #[x], .bool (bindB s (-1 - (i : Int)) u)] : Value) = v ∧ (RowsF F' x (if bindB s (-1 - (i : Int)) u = true then bindR s (-1 - (i : Int)) u else [])) ∧ L = L') := by
 refine qM func234 rfl rfl rfl (qc (qa (cX (jg [sv] rfl rfl ?_))))
 intro b1
 refine cX (jd [sN] qG rfl ?_)
 intro b2
 refine qh (.bool (false)) rfl (qb (qc (qa (cX (XOp.makeSlice (n := 24) (bytes := 24) [sN] qJ qN typeInfo27 rfl jB rfl rfl rfl rfl (by omega) (by omega) ?_)))))
 intro v1 hv1
 rw [nils]
 have hc1 : RowsC F _ _ := RowsC.nils 24
 refine cX (qY [v1] [sN] [(0, 1)] [(0, [v1])] qo qG rfl (.cons rfl qI PlacesAre.nil) rfl (.cons (cells_one (jo hv1)) CellsAre.nil) (cX (jd [sN] qG rfl ?_)))
 intro b3
 refine cX (qt [] _ [v1] qm rfl rfl rfl (qw (qP (jo hv1)) qC) rfl rfl rfl (qb (qc (qa (cX (qA (0) qo rfl qI (by decide) rfl rfl (cX (qn jv rfl (Rd.own [] rfl rfl) (qf (ii ((i : Int))) rfl (qf (uv) rfl (cX (qB i qJ qN rfl rfl rfl (SlV.own [_] rfl) (by omega) (Nat.mul_one _) (cX (XOp.storeS (i := i) (cs := (List.replicate 24 (sN))) [_] _ qN rfl rfl (qP (jc hu)) rfl (by have h9 := CO.len hc1; (try simp only [List.length_set, List.length_replicate] at h9 ⊢) <;> omega) ?_))))))))))))))
 have hc2 := hc1.set i hu
 refine qb (qc (qa (cX (qY [sN] [sN] [(0, 1)] [] qo qG rfl (.cons rfl qI PlacesAre.nil) rfl CellsAre.nil (cX (jd [sN] qG rfl ?_))))))
 intro b4
 refine cX (qt [] _ [sN] qm rfl rfl rfl (qw rfl qC) rfl rfl rfl (qb (qc (qc (qa (qh (ii (0)) rfl (qb (qQ (ji [_, _] _ _ rfl (fun F1 le1 hz1 => ?_))))))))))
 replace hs := hs.mono le1
 replace hc2 := hc2.mono le1
 have hf1 : RowsF F1 v1 ((((List.replicate 24 [] : List (List Int))).set i u)) := CO.fz hc2 (by first | rfl | omega | (rw [List.length_set]; omega) | (simp; done)) hz1.fz
 refine js (α := Nat × Value × RowL × List Value × Nat × FH) (fun xQ => [(3, ptr b1 0), (6, ptr b2 0), (8, ptr b3 0), (9, ptr b4 0), (10, ii (((xQ.1 : Nat) : Int)))]) (fun xQ => slH 27 1 xQ.2.1 xQ.2.2.2.2.1 xQ.2.2.2.1 :: cellsH b4 [xQ.2.1] 50 :: cellsH b3 [v1] 50 :: cellsH b2 [sN] 50 :: cellsH b1 [sv] 50 :: L) (fun xQ F' => xQ.2.2.2.2.2 = F' ∧ F1 ≤ xQ.2.2.2.2.2 ∧ (IsSl xQ.2.1) ∧ (RowsC xQ.2.2.2.2.2 xQ.2.2.2.1 xQ.2.2.1) ∧ (xQ.2.2.2.2.1 = xQ.2.2.1.length) ∧ (xQ.1 ≤ 24) ∧ (xQ.2.2.1 = (bindR s (-1 - (i : Int)) u).take xQ.1) ∧ (∀ j : Nat, j < xQ.1 → (ap (oneS (-1 - (i : Int)) u) (lk s (-1 - (j : Int)))).length ≤ 60)) (fun xQ => 24 - xQ.1) (0, sN, [], [], 0, F1) ⟨rfl, rfl, rfl, rfl, rfl, ⟨⟩⟩ (jp (Sub.addNil 27 1 _ _) (sC (sC (sC (sC (sC sR)))))) ⟨rfl, FLe.refl _, (⟨_, _, _, rfl⟩), (CO.nil), (rfl), (by (try dsimp only) <;> omega), (by simp), (fun j hj => absurd hj (by omega))⟩ ?_
 rintro ⟨k, ov, os, cs, m, G1⟩ rE _ _ ⟨rfl, leG, hov, hC, hm, hk, hos, hal⟩
 show X _ _ _ _ (envs [(3, ptr b1 0), (6, ptr b2 0), (8, ptr b3 0), (9, ptr b4 0), (10, ii ((k : Int)))] rE) _ (slH 27 1 ov m cs :: cellsH b4 [ov] 50 :: cellsH b3 [v1] 50 :: cellsH b2 [sN] 50 :: cellsH b1 [sv] 50 :: L)
 replace leG : F1 ≤ G1 := leG
 dsimp only at hov hC hm hk hos hal
 have hol : os.length = k := by rw [hos, List.length_take, bindR_len]; omega
 have hlkl : (lk s (-1 - (k : Int))).length ≤ 60 := lk_bound (by omega) hsb _
 have hlkg := hsg k
 have leG1 := leG
 replace hs := hs.mono leG1
 replace hf1 := hf1.mono leG1
 refine qc (qc (qa (qf (ii ((k : Int))) rfl (cX (qZ rfl rfl (qb ?_))))))
 refine qF (p := (k : Int) < 24) rfl (fun h1 => ?_) (fun h1 => ?_)
 ·refine qv (qc (qQ (qc ?_)))
  refine X.drawG [slH 27 1 ov m cs, cellsH b4 [ov] 50, cellsH b3 [v1] 50, cellsH b2 [sN] 50, cellsH b1 [sv] 50] L 9 [[], [], [], [], [], [4], [4], [], [4]] [[], [], [], [1, 2], [0, 3], [4], [4, 5], [4, 5], [4, 6]] [] (phiG [pe (.agg #[v1]), pe (.agg #[sv]), pe (ii ((k : Int)) : Value), fun FF us v => ((v) : Value) = v ∧ (IntsF FF (v) (lk s (-1 - (k : Int)))), fun FF us v => (.tuple #[((tupAt v 0)), .bool ((fillL ((((List.replicate 24 [] : List (List Int))).set i u)) ((lk s (-1 - (k : Int))))).isSome)] : Value) = v ∧ (IntsF FF ((tupAt v 0)) ((fillL ((((List.replicate 24 [] : List (List Int))).set i u)) ((lk s (-1 - (k : Int))))).getD [])), fun FF us v => v = (.tuple #[((tupAt (us.getD 0 undef) 0)), .bool ((fillL ((((List.replicate 24 [] : List (List Int))).set i u)) ((lk s (-1 - (k : Int))))).isSome)] : Value), fun FF us v => v = ((tupAt (us.getD 0 undef) 0)), pe (.bool ((fillL ((((List.replicate 24 [] : List (List Int))).set i u)) ((lk s (-1 - (k : Int))))).isSome) : Value), fun FF us v => v = ((tupAt (us.getD 0 undef) 0))]) (ownL []) mixed rfl rfl (by kernel_rfl) (by kernel_rfl) (MonoG.get (m1 (m1 (m1 (mC (fun le h => ⟨h.1, h.2.mono le⟩) (mC (fun le h => ⟨h.1, h.2.mono le⟩) (mC (fun le h => h) (mC (fun le h => h) (m1 (mC (fun le h => h) MonoG.nil)))))))))) ?_ ?_
  ·refine gD (fun W Fs R lF z9 => ?_) ?_
   ·replace hs := hs.mono lF
    replace hf1 := hf1.mono lF
    replace hC := hC.mono lF
    refine qj (qr [v1] qK qm rfl rfl (Rd.ownN [_, _] rfl rfl) ?_)
    exact ⟨rfl, rfl⟩
   refine gD (fun W Fs R lF z9 => ?_) ?_
   ·replace hs := hs.mono lF
    replace hf1 := hf1.mono lF
    replace hC := hC.mono lF
    refine qj (qr [sv] qK qm rfl rfl (Rd.ownN [_, _, _, _] rfl rfl) ?_)
    exact ⟨rfl, rfl⟩
   refine gD (fun W Fs R lF z9 => ?_) ?_
   ·refine qj (qk (ii ((k : Int))) rfl ?_)
    exact ⟨rfl, rfl⟩
   refine gD (fun W Fs R lF z9 => ?_) ?_
   ·replace hs := hs.mono lF
    replace hf1 := hf1.mono lF
    replace hC := hC.mono lF
    rw [eS (l := [(1, _), (2, _)]) ⟨z9 1 rfl, z9 2 rfl, ⟨⟩⟩]
    refine qj (jJ <| ql (args := [.agg #[sv], ii (k : Int)]) call145 rfl (l2Gives_spec (i := k) hs (hsl := (by omega)) (hi := (by first | assumption | rfl | omega | simp)) (hsb := (by have := hsb k; omega))) ?_)
    rintro v3 _ _ _ ⟨rfl, hs2, rfl⟩
    refine ⟨_, _, rfl, fun F3 le3 hz2 => ?_⟩
    replace hf1 := hf1.mono le3
    replace hC := hC.mono le3
    have hf2 : IntsF F3 v3 ((lk s (-1 - (k : Int)))) := intsH.fz (xs := (lk s (-1 - (k : Int)))) hz2.fz
    exact ⟨⟨rfl, hf2⟩, rfl⟩
   refine gD (fun W Fs R lF z9 => ?_) ?_
   ·obtain ⟨e3, f3_1ha⟩ := z9 3 rfl
    replace hf1 := hf1.mono lF
    replace hC := hC.mono lF
    rw [eS (l := [(0, _), (3, ((W 3)))]) ⟨z9 0 rfl, (e3).symm, ⟨⟩⟩]
    refine qj (ql (args := [.agg #[v1], ((W 3))]) call77 rfl (l2Filled_spec hf1 f3_1ha (hsl := (by (try simp only [List.length_set, List.length_replicate]); omega)) (hsb := (fun j => one_len hul j)) (htl := (by omega)) (htg := (hlkg (by omega)))) ?_)
    rintro _ F4 _ le4 ⟨x2, rfl, hr2, rfl⟩
    replace hC := hC.mono le4
    replace f3_1ha := f3_1ha.mono le4
    exact ⟨⟨rfl, hr2⟩, rfl⟩
   refine gD (fun W Fs R lF z9 => ?_) ?_
   ·obtain ⟨e4, f4_1hr⟩ := z9 4 rfl
    rw [eS (l := [(4, (.tuple #[((tupAt (W 4) 0)), .bool ((fillL ((((List.replicate 24 [] : List (List Int))).set i u)) ((lk s (-1 - (k : Int))))).isSome)]))]) ⟨(e4).symm, ⟨⟩⟩]
    refine qj (qk (.tuple #[((tupAt (W 4) 0)), .bool ((fillL ((((List.replicate 24 [] : List (List Int))).set i u)) ((lk s (-1 - (k : Int))))).isSome)]) rfl ?_)
    exact ⟨rfl, rfl⟩
   refine gD (fun W Fs R lF z9 => ?_) ?_
   ·obtain ⟨e4, f4_1hr⟩ := z9 4 rfl
    have e5 : W 5 = (.tuple #[((tupAt (W 4) 0)), .bool ((fillL ((((List.replicate 24 [] : List (List Int))).set i u)) ((lk s (-1 - (k : Int))))).isSome)] : Value) := z9 5 rfl
    rw [eS (l := [(4, (.tuple #[((tupAt (W 4) 0)), .bool ((fillL ((((List.replicate 24 [] : List (List Int))).set i u)) ((lk s (-1 - (k : Int))))).isSome)])), (5, (.tuple #[((tupAt (W 4) 0)), .bool ((fillL ((((List.replicate 24 [] : List (List Int))).set i u)) ((lk s (-1 - (k : Int))))).isSome)]))]) ⟨(e4).symm, e5, ⟨⟩⟩]
    refine qj (qH (((tupAt (W 4) 0))) rfl rfl ?_)
    exact ⟨rfl, rfl⟩
   refine gD (fun W Fs R lF z9 => ?_) ?_
   ·obtain ⟨e4, f4_1hr⟩ := z9 4 rfl
    have e5 : W 5 = (.tuple #[((tupAt (W 4) 0)), .bool ((fillL ((((List.replicate 24 [] : List (List Int))).set i u)) ((lk s (-1 - (k : Int))))).isSome)] : Value) := z9 5 rfl
    rw [eS (l := [(4, (.tuple #[((tupAt (W 4) 0)), .bool ((fillL ((((List.replicate 24 [] : List (List Int))).set i u)) ((lk s (-1 - (k : Int))))).isSome)])), (5, (.tuple #[((tupAt (W 4) 0)), .bool ((fillL ((((List.replicate 24 [] : List (List Int))).set i u)) ((lk s (-1 - (k : Int))))).isSome)]))]) ⟨(e4).symm, e5, ⟨⟩⟩]
    refine qj (qH (.bool ((fillL ((((List.replicate 24 [] : List (List Int))).set i u)) ((lk s (-1 - (k : Int))))).isSome)) rfl rfl ?_)
    exact ⟨rfl, rfl⟩
   refine gD (fun W Fs R lF z9 => ?_) ?_
   ·obtain ⟨e4, f4_1hr⟩ := z9 4 rfl
    have e6 : W 6 = ((tupAt (W 4) 0)) := z9 6 rfl
    rw [eS (l := [(4, (.tuple #[((tupAt (W 4) 0)), .bool ((fillL ((((List.replicate 24 [] : List (List Int))).set i u)) ((lk s (-1 - (k : Int))))).isSome)])), (6, ((tupAt (W 4) 0)))]) ⟨(e4).symm, e6, ⟨⟩⟩]
    refine qj (XOp.assign (((tupAt (W 4) 0))) rfl ?_)
    exact ⟨rfl, rfl⟩
   exact stepsG.nil
  intro W F5 le5 hphi
  obtain ⟨e3, f3_1ha⟩ := hphi 3 (by decide)
  obtain ⟨e4, f4_1hr⟩ := hphi 4 (by decide)
  have e5 : W 5 = (.tuple #[((tupAt (W 4) 0)), .bool ((fillL ((((List.replicate 24 [] : List (List Int))).set i u)) ((lk s (-1 - (k : Int))))).isSome)] : Value) := hphi 5 (by decide)
  have e6 : W 6 = ((tupAt (W 4) 0)) := hphi 6 (by decide)
  have e8 : W 8 = ((tupAt (W 4) 0)) := hphi 8 (by decide)
  generalize hu1 : ((W 3)) = u1 at e3 f3_1ha e4 f4_1hr e5 e6 e8
  generalize hu2 : ((tupAt (W 4) 0)) = u2 at e3 f3_1ha e4 f4_1hr e5 e6 e8
  rw [eS (l := [(4, (.tuple #[u2, .bool ((fillL ((((List.replicate 24 [] : List (List Int))).set i u)) ((lk s (-1 - (k : Int))))).isSome)])), (7, _), (8, u2)]) ⟨(e4).symm, (hphi 7 (by decide)), e8, ⟨⟩⟩]
  replace hC := hC.mono le5
  show XL _ _ _ _ _ _ _ (slH 27 1 ov m cs :: cellsH b4 [ov] 50 :: cellsH b3 [v1] 50 :: cellsH b2 [sN] 50 :: cellsH b1 [sv] 50 :: L)
  refine qh (.bool ((fillL ((((List.replicate 24 [] : List (List Int))).set i u)) ((lk s (-1 - (k : Int))))).isSome)) rfl (qb (qc (qc (qa (qf (.bool ((fillL ((((List.replicate 24 [] : List (List Int))).set i u)) ((lk s (-1 - (k : Int))))).isSome)) rfl (cX (jh rfl (qb ?_))))))))
  refine jk (t := !((fillL ((((List.replicate 24 [] : List (List Int))).set i u)) ((lk s (-1 - (k : Int))))).isSome)) rfl (fun h2 => ?_) (fun h2 => ?_)
  ·have hf9 := fill_long (Bool.not_inj (y := false) h2)
   rw [lk_one hi hun] at hf9
   refine qc (qa (cX (qY [sN] [sN] [(0, 1)] [] qo qG rfl (.cons rfl qI PlacesAre.nil) rfl CellsAre.nil (cX (qt [_, _, _] _ [sN] qm rfl rfl rfl (qw rfl qC) rfl rfl rfl (qh (.bool (false)) rfl (qb (qx (qi (qs (qi (qi (qs (qi (qp (L' := L) [.agg #[sN], .bool (false)] (.tuple #[.agg #[sN], .bool (false)]) (.cell rfl (ja [sN] qK qm rfl (Rd.ownN [_, _, _] rfl rfl)) (.tmp rfl .nil)) rfl (qg (qg le1 leG1) le5) rF (sD (sD (sD (sD (sD sR))))) ?_)))))))))))))))
   have e9 : bindB s (-1 - (i : Int)) u = false := bind_fail (k := k) (by omega) hf9
   exact ⟨_, by rw [e9], by rw [if_neg (by rw [e9]; simp)]; exact SlOf.nilV, rfl⟩
  have hfy := fill_yes (Bool.not_inj (y := true) h2)
  rw [lk_one hi hun] at hfy
  refine qv (qa (cX (qA (0) qo rfl qI (by decide) rfl rfl (cX (qn jv rfl (Rd.own [_] rfl rfl) (qf (u2) rfl (cX (qD (s := 1) [u2] [sN] [(0, [u2])] qJ qN jB rfl (by decide) rfl (.cons (cells_one (jc f4_1hr)) CellsAre.nil) rfl ?_))))))))
  intro v4 hv2
  refine cX (XOp.append (m := 1) (bytes := 24) (cs := cs) [_] _ [u2] qJ typeInfo27 rfl rfl rfl rfl rfl rfl rfl (SlV.own [] rfl) rfl (Rd.lit [] rfl) (qw (qP (jc f4_1hr)) qC) (by (try simp only [List.length_append, List.length_nil, List.length_cons, List.length_singleton]); omega) (by (try simp only [List.length_append, List.length_nil, List.length_cons, List.length_singleton]); omega) ?_)
  intro v5 hs3 hn1 hm1
  have hc3 := RowsC.snoc hC f4_1hr
  refine cX (qA (0) qo rfl qI (by decide) rfl rfl (cX (jq [_, _] _ [v5] qI rfl rfl (qP hs3) rfl rfl rfl (qb (qa (qf (ii ((k : Int))) rfl (cX (qT (((k + 1 : Nat) : Int)) rfl rfl (by omega) (by omega) (qh (ii (((k + 1 : Nat) : Int))) rfl (qb ?_))))))))))
  exact ⟨(k + 1, v5, os ++ [(fillL ((((List.replicate 24 [] : List (List Int))).set i u)) ((lk s (-1 - (k : Int))))).getD []], cs ++ [u2], (m) + 1, F5), _, (qg leG1 le5), rF, ⟨rfl, rfl, rfl, rfl, rfl, ⟨⟩⟩, (sD (sC (sC (sC (sC (sC sR)))))), ⟨rfl, (qg leG1 le5), (hs3), (hc3), (by (try dsimp only); rw [List.length_append]; simp only [List.length_singleton]; omega), (by (try dsimp only) <;> omega), (by (try dsimp only); rw [bind_take (by omega), hfy.1, hos]), (fun j hj => (Nat.lt_or_ge j k).elim (fun h => hal j h) (fun h => by obtain rfl : j = k := (by omega); exact hfy.2))⟩, (by omega)⟩
 refine jl (qE (qE (qS (qc (qa (cX (qr [ov] qK qm rfl rfl (Rd.ownN [_] rfl rfl) (cX (qt [_, _, _] _ [ov] qm rfl rfl rfl (qw (qP hov) qC) rfl rfl rfl (qh (.bool (true)) rfl (qb (ji [] _ _ rfl (fun F6 le6 hz3 => ?_)))))))))))))
 replace hC := hC.mono le6
 have hf3 : RowsF F6 ov os := CO.fz hC (by first | rfl | omega | (rw [List.length_set]; omega) | (simp; done)) hz3.fz
 refine qx (qp (L' := L) [.agg #[ov], .bool (true)] (.tuple #[.agg #[ov], .bool (true)]) (.cell rfl (ja [ov] qK qm rfl (Rd.ownN [_, _] rfl rfl)) (.tmp rfl .nil)) rfl (qg (qg le1 leG1) le6) rF (sD (sD (sD (sD sR)))) ?_)
 have e9 : bindB s (-1 - (i : Int)) u = true := bind_all (fun j hj => hal j (by omega))
 rw [show k = 24 from by omega, List.take_of_length_le (by rw [bindR_len]; omega)] at hos
 subst hos
 exact ⟨_, by rw [e9], by rw [if_pos e9]; exact hf3, rfl⟩
end Go.Proofs.Ytcdjpapjjoldeaa
