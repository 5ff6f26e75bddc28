/-
  Walks, one after the other (part 2).
-/
import Derived.Test.YthkebalahfalhaaGreatQAFL1
import Derived.Test.YthkebalahfalhaaGreatQAFB0
import Derived.Recover
import Derived.Tactics
import Derived.Tactics2
set_option linter.unusedSimpArgs false
set_option linter.unusedVariables false
namespace Go.Proofs.YthkebalahfalhaaGreat
open Go X M Tryz

/- impl.argsAt -/

theorem endAtW_ok {F : FH} {L : List HP} {p : Nat} {arv : Value} {ar : List Int} (har : IntsF F arv ar) {tv : Value} {t : List Int} (ht : IntsF F tv t) (ho : TermW ar t) (hp : p < t.length) :
    Does prog 63 [.agg #[arv], tv, ii (p : Int)] F L (fun v F' L' => (ii ((endN ar t p : Nat) : Int) : Value) = v ∧ F = F' ∧ L = L') := by
  have hl := ho.len
  have h := endAt_spec (F := F) (L := L) (p := p) har ht ho.sig (by omega) (by omega)
  rw [ho.endZ hp] at h
  exact h


/- impl.subAt -/
theorem subAtW_spec {F : FH} {L : List HP} {arv : Value} {ar : List Int} (har : IntsF F arv ar) {tv : Value} {t : List Int} (ht : IntsF F tv t) {p : Nat} (ho : TermW ar t) (hp : p < t.length) (hnn : isNil tv = false) :
    Does prog 71 [.agg #[arv], tv, ii ((p : Int))] F (L) (fun v F' L' => F = F' ∧ L = L' ∧ IntsF F v (sub ar t p) ∧ isNil v = false) := by
 refine qH func71 rfl rfl rfl ?_
 have hsl := sigOk_spec ho.sig
 have htl := ho.len
 have hsig := ho.sig
 have hee := ho.endN hp
 refine qc (qa (cX (qY [arv] rfl rfl ?_)))
 intro b1
 refine qh (sN) rfl (qb (qc (qa (qd (tv) rfl (qd (ii ((p : Int))) rfl (cX (qv [arv] qU qB rfl rfl (Rd.ownN [] rfl rfl) (qd (tv) rfl (qd (ii ((p : Int))) rfl (cX (qt (args := [.agg #[arv], tv, ii (p : Int)]) call63 rfl (endAtW_ok (p := p) har ht (ho := (by first | assumption | rfl | omega | (left; simp; done) | (right; simp; done))) (hp := (by first | assumption | rfl | omega | (left; simp; done) | (right; simp; done)))) ?_)))))))))))
 rintro _ _ _ _ ⟨rfl, rfl, rfl⟩
 refine cX (XOp.sliceI p (endN ar t p) qf qC rfl ht ⟨_, rfl⟩ ⟨_, rfl⟩ (by omega) (by omega) ?_)
 intro v1 hv1 hn1
 refine qh (v1) rfl (qb (qw (qu (L' := L) [v1] (v1) (.tmp rfl .nil) rfl rF rF (sD sR) ?_)))
 exact ⟨rfl, rfl, hv1, by rw [hn1]; exact hnn⟩

/- impl.argsAt -/
theorem argsAtW_spec {F : FH} {L : List HP} {arv : Value} {ar : List Int} (har : IntsF F arv ar) {tv : Value} {t : List Int} (ht : IntsF F tv t) {p : Nat} (ho : TermW ar t) (hp : p < t.length) :
    Does prog 90 [.agg #[arv], tv, ii ((p : Int))] F (L) (fun v F' L' => F = F' ∧ IsSl v ∧ intsH 3 v (argsL ar t p) :: L = L') := by
 refine qH func90 rfl rfl rfl ?_
 have hsl := sigOk_spec ho.sig
 have htl := ho.len
 have hsig := ho.sig
 have hA := arity_le hsig (ho.lt hp)
 have hge := ho.geD hp
 have hlt := ho.lt hp
 refine qc (qa (cX (qY [arv] rfl rfl ?_)))
 intro b1
 refine qh (sN) rfl (qb (qc (qa (qh (sN) rfl (qb (qc (qa (qd (ii ((p : Int))) rfl (cX (qM (((p + 1 : Nat) : Int)) rfl rfl (by omega) (by omega) (qh (ii (((p + 1 : Nat) : Int))) rfl (qb (qc (qc ?_))))))))))))))
 refine jL [cellsH b1 [arv] 26] L 5 [] [[], [], [], [1, 2], [3]] (phiL [qe (.agg #[arv]), qe tv, qe (ii ((p : Int)) : Value), qe (.pointer (some (elemA tv (p)))), qe (ii (t.getD p 0))]) (ownL []) mixed rfl rfl (by kernel_rfl) ?_ ?_
 ·refine pD (fun W R z9 => ?_) ?_
  ·refine qg (qv [arv] qU qB rfl rfl (Rd.ownN [] rfl rfl) ?_)
   exact ⟨rfl, rfl, rfl⟩
  refine pD (fun W R z9 => ?_) ?_
  ·refine qg (ql (tv) rfl ?_)
   exact ⟨rfl, rfl, rfl⟩
  refine pD (fun W R z9 => ?_) ?_
  ·refine qg (ql (ii ((p : Int))) rfl ?_)
   exact ⟨rfl, rfl, rfl⟩
  refine pD (fun W R z9 => ?_) ?_
  ·rw [zB 1 2 (z9 1 rfl) (z9 2 rfl)]
   refine qg (qx p qf qC rfl rfl rfl ht.slv (by omega) (Nat.mul_one _) ?_)
   exact ⟨rfl, rfl, rfl⟩
  refine pD (fun W R z9 => ?_) ?_
  ·rw [zA 3 (z9 3 rfl)]
   refine qg (qj jh rfl (ht.rd (by omega)) ?_)
   exact ⟨rfl, rfl, rfl⟩
  exact stepsP.nil
 intro W hphi
 rw [zB 0 4 (hphi 0 (by decide)) (hphi 4 (by decide))]
 show XL _ _ _ _ _ _ _ (cellsH b1 [arv] 26 :: L)
 refine cX (qt (args := [.agg #[arv], ii (t.getD p 0)]) call101 rfl (arityAt_spec (n := t.getD p 0) har (hn := (by first | assumption | rfl | omega | simp))) ?_)
 rintro _ _ _ _ ⟨rfl, rfl, rfl⟩
 refine qh (ii (arity ar (t.getD p 0))) rfl (qb (qJ (jv (α := Nat × Nat × Value × List Int) (fun xQ => [(1, tv), (3, ptr b1 0), (7, xQ.2.2.1), (8, ii (((xQ.2.1 : Nat) : Int))), (9, ii (((xQ.1 : Nat) : Int)))]) (fun xQ => intsH 3 xQ.2.2.1 xQ.2.2.2 :: cellsH b1 [arv] 26 :: L) (fun xQ F' => F = F' ∧ (IsSl xQ.2.2.1) ∧ (Stand ar t xQ.1 xQ.2.1 (endN ar t p)) ∧ (argsL ar t p = xQ.2.2.2 ++ argsGo ar t xQ.1 xQ.2.1) ∧ (xQ.2.2.2.length + xQ.1 ≤ 3)) (fun xQ => xQ.1) ((arity ar (t.getD p 0)).toNat, p + 1, sN, []) ⟨rfl, rfl, rfl, rfl, (vI (by first | omega | (rw [sArity_eq (by omega)]; omega))), ⟨⟩⟩ (qW (intsH.addNil 3 none _) (sC (sC sR))) ⟨rfl, (⟨_, _, _, rfl⟩), (ho.stand0 hp), (rfl), (by rw [List.length_nil]; omega)⟩ ?_)))
 rintro ⟨m, q, ov, os⟩ rE _ _ ⟨rfl, hov, hS, hos, hol⟩
 show X _ _ _ _ (envs [(1, tv), (3, ptr b1 0), (7, ov), (8, ii ((q : Int))), (9, ii ((m : Int)))] rE) _ (intsH 3 ov os :: cellsH b1 [arv] 26 :: L)
 dsimp only at hov hS hos hol
 have hst := fun (h : 1 ≤ m) => ho.stand (n := m - 1) (by rw [Nat.sub_add_cancel h]; exact hS)
 refine qc (qc (qa (qd (ii ((m : Int))) rfl (cX (jU rfl rfl (qb ?_))))))
 refine qE (p := (m : Int) > 0) rfl (fun h1 => ?_) (fun h1 => ?_)
 ·refine qA (qc (qJ (qc (qa (qd (ov) rfl (qd (ii ((q : Int))) rfl (cX (qD (s := 1) [ii ((q : Int))] [ii (0)] [(0, [ii ((q : Int))])] ja jC zeroValue3 rfl (by decide) rfl (.cons rfl CellsAre.nil) rfl ?_))))))))
  intro v1 hv1
  refine cX (XOp.append1 (u := (q : Int)) [_] _ ja typeInfo3 rfl rfl rfl rfl rfl rfl (SlV.own [] rfl) (Rd.sl [] rfl rfl) (by (try simp only [List.length_append, List.length_nil, List.length_cons, List.length_singleton, List.length_take, List.length_drop]); omega) ?_)
  intro v2 hs1 hn1
  refine qh (v2) rfl (qb (qa (cX (qv [arv] qU qB rfl rfl (Rd.ownN [_, _] rfl rfl) (qd (tv) rfl (qd (ii ((q : Int))) rfl (cX (qt (args := [.agg #[arv], tv, ii (q : Int)]) call63 rfl (endAtW_ok (p := q) har ht (ho := (by first | assumption | rfl | omega | (left; simp; done) | (right; simp; done))) (hp := (hst (by omega)).1)) ?_))))))))
  rintro _ _ _ _ ⟨rfl, rfl, rfl⟩
  refine qh (ii (((endN ar t q : Nat) : Int))) rfl (qb (qa (qd (ii ((m : Int))) rfl (cX (jq (((m : Int)) - 1) rfl rfl (by omega) (by omega) (qh (ii (((m : Int)) - 1)) rfl (qb ?_)))))))
  exact ⟨(m - 1, endN ar t q, v2, os ++ [(q : Int)]), _, FLe.refl _, rF, ⟨rfl, rfl, rfl, rfl, (vI (by omega)), ⟨⟩⟩, (sD (sC (sC sR))), ⟨rfl, (hs1), ((hst (by omega)).2.1), (args_nextW (by omega) hos), (by dsimp only; rw [List.length_append, List.length_singleton]; omega)⟩, (by omega)⟩
 refine jn (qz (qz (qR (qc (qa (qd (ov) rfl (qh (ov) rfl (qb (qw (qu (L' := intsH 3 ov os :: L) [ov] (ov) (.tmp rfl .nil) rfl rF rF (sC (sD sR)) ?_))))))))))
 refine ⟨rfl, hov, ?_⟩
 have hxs : (argsL ar t p : List Int) = os := by rw [hos, show m = 0 from by omega]; simp [argsGo]
 exact congrArg (fun z => intsH 3 _ z :: L) hxs

/- (*impl.unifier).root -/
theorem root_spec {F : FH} {L : List HP} {ub : Nat} {arv : Value} {ar : List Int} {bs : List Value} {bl : RowL} (har : IntsF F arv ar) (hbc : BindC F bs bl) (hb : BOk ar bl) {tv : Value} {t : List Int} (ht : IntsF F tv t) (ho : TermW ar t) (hnn : isNil tv = false) :
    Does prog 109 [ptr ub 0, tv] F (cellsH ub (arv :: bs) 174 :: L) (fun v F' L' => ∃ u : List Int, IntsF F v u ∧ isNil v = false ∧ Root ar bl t u ∧ F = F' ∧ cellsH ub (arv :: bs) 174 :: L = L') := by
 refine qH func109 rfl rfl rfl ?_
 obtain ⟨ρ, hρ⟩ := hb.acyc
 have hbl := hb.len
 refine qc (qa (qh (sN) rfl (qb (qc (qJ (jv (α := Value × List Int) (fun xQ => [(0, ptr ub 0), (1, xQ.1)]) (fun xQ => cellsH ub (arv :: bs) 174 :: L) (fun xQ F' => F = F' ∧ (IntsF F xQ.1 xQ.2) ∧ (isNil xQ.1 = false) ∧ (RootTo ar bl t xQ.2)) (fun xQ => rootMu ρ xQ.2) (tv, t) ⟨rfl, rfl, ⟨⟩⟩ (sC sR) ⟨rfl, (ht), (hnn), (RootTo.refl ho)⟩ ?_))))))
 rintro ⟨uv, u⟩ rE _ _ ⟨rfl, huv, hun, hrt⟩
 show X _ _ _ _ (envs [(0, ptr ub 0), (1, uv)] rE) _ (cellsH ub (arv :: bs) 174 :: L)
 dsimp only at huv hun hrt
 have hul := hrt.1.len
 have hug := hrt.1.geD (p := 0) (by omega)
 refine qc (qc ?_)
 by_cases h1 : (u.getD 0 0 : Int) < 0
 ·have hx0 : u.getD 0 0 < 0 := h1
  refine jL [cellsH ub (arv :: bs) 174] L 12 [] [[], [0], [1], [2], [3], [4], [4], [4, 6], [4, 7], [4, 8], [4, 5], [4, 10]] (phiL [qe uv, qe (.pointer (some (elemA uv (0)))), qe (ii (u.getD 0 0)), qe (.bool (decide ((u.getD 0 0 : Int) < 0)) : Value), qe (.bool (decide ((u.getD 0 0 : Int) < 0)) : Value), qe (ptr ub 0), qe uv, qe (.pointer (some (elemA uv (0)))), qe (ii (u.getD 0 0)), qe (ii ((-1) - (u.getD 0 0))), qe (ptr ub 0), qe (ptr ub 1)]) (ownL []) mixed rfl rfl (by kernel_rfl) ?_ ?_
  ·refine pD (fun W R z9 => ?_) ?_
   ·refine qg (ql (uv) rfl ?_)
    exact ⟨rfl, rfl, rfl⟩
   refine pD (fun W R z9 => ?_) ?_
   ·rw [zA 0 (z9 0 rfl)]
    refine qg (qx 0 qf qC rfl rfl rfl huv.slv (by omega) (Nat.mul_one _) ?_)
    exact ⟨rfl, rfl, rfl⟩
   refine pD (fun W R z9 => ?_) ?_
   ·rw [zA 1 (z9 1 rfl)]
    refine qg (qj jh rfl (huv.rd (by omega)) ?_)
    exact ⟨rfl, rfl, rfl⟩
   refine pD (fun W R z9 => ?_) ?_
   ·rw [zA 2 (z9 2 rfl)]
    refine qg (qX rfl rfl ?_)
    exact ⟨rfl, rfl, rfl⟩
   refine pD (fun W R z9 => ?_) ?_
   ·rw [zA 3 (z9 3 rfl)]
    refine qg (ql (.bool (decide ((u.getD 0 0 : Int) < 0))) rfl ?_)
    exact ⟨rfl, rfl, rfl⟩
   refine pD (fun W R z9 => ?_) ?_
   ·rw [zA 4 (z9 4 rfl)]
    refine jm (t := 9) rfl (vT h1) (ql (ptr ub 0) rfl ?_)
    exact ⟨rfl, rfl, rfl⟩
   refine pD (fun W R z9 => ?_) ?_
   ·rw [zA 4 (z9 4 rfl)]
    refine jm (t := 9) rfl (vT h1) (ql (uv) rfl ?_)
    exact ⟨rfl, rfl, rfl⟩
   refine pD (fun W R z9 => ?_) ?_
   ·rw [zB 4 6 (z9 4 rfl) (z9 6 rfl)]
    refine jm (t := 9) rfl (vT h1) (qx 0 qf qC rfl rfl rfl huv.slv (by omega) (Nat.mul_one _) ?_)
    exact ⟨rfl, rfl, rfl⟩
   refine pD (fun W R z9 => ?_) ?_
   ·rw [zB 4 7 (z9 4 rfl) (z9 7 rfl)]
    refine jm (t := 9) rfl (vT h1) (qj jh rfl (huv.rd (by omega)) ?_)
    exact ⟨rfl, rfl, rfl⟩
   refine pD (fun W R z9 => ?_) ?_
   ·rw [zB 4 8 (z9 4 rfl) (z9 8 rfl)]
    refine jm (t := 9) rfl (vT h1) (jq ((-1) - (u.getD 0 0)) rfl rfl (by omega) (by omega) ?_)
    exact ⟨rfl, rfl, rfl⟩
   refine pD (fun W R z9 => ?_) ?_
   ·rw [zB 4 5 (z9 4 rfl) (z9 5 rfl)]
    refine jm (t := 9) rfl (vT h1) (qL rfl ?_)
    exact ⟨rfl, rfl, rfl⟩
   refine pD (fun W R z9 => ?_) ?_
   ·rw [zB 4 10 (z9 4 rfl) (z9 10 rfl)]
    refine jm (t := 9) rfl (vT h1) (qn (1) jH rfl sizeOf172 (by decide) rfl rfl ?_)
    exact ⟨rfl, rfl, rfl⟩
   exact stepsP.nil
  intro W hphi
  rw [eS (l := [(4, _), (9, _), (11, _)]) ⟨(hphi 4 (by decide)), (hphi 9 (by decide)), (hphi 11 (by decide)), ⟨⟩⟩]
  show XL _ _ _ _ _ _ _ (cellsH ub (arv :: bs) 174 :: L)
  refine qs (t := 9) rfl (vT h1) (jN (i := (-1) - (u.getD 0 0)) (((-1) - (u.getD 0 0)).toNat) (1 + (((-1) - (u.getD 0 0)).toNat)) ya qr rfl rfl (by omega) (by omega) (by omega) ?_)
  obtain ⟨a1, ha1, hn1, he1⟩ := hbc.get (i := ((-1) - (u.getD 0 0)).toNat) (by omega)
  refine qs (t := 9) rfl (vT h1) (qj qN rfl (Rd.own [] rfl (get_1 he1)) (qs (t := 9) rfl (vT h1) (XOp.neNil qf rfl rfl (qp ha1) (cX (qT (.bool (!isNil a1)) (vT h1) rfl (qb ?_))))))
  refine jG (t := !isNil a1) rfl (fun h2 => ?_) (fun h2 => ?_)
  ·have hbn := ne_of_notNil hn1 h2
   have hnb : isNil a1 = false := by rw [hn1]; exact decide_eq_false hbn
   refine qA (qJ ?_)
   refine jL [cellsH ub (arv :: bs) 174] L 7 [] [[], [], [1], [2], [3], [0], [5]] (phiL [qe (ptr ub 0), qe uv, qe (.pointer (some (elemA uv (0)))), qe (ii (u.getD 0 0)), qe (ii ((-1) - (u.getD 0 0))), qe (ptr ub 0), qe (ptr ub 1)]) (ownL []) mixed rfl rfl (by kernel_rfl) ?_ ?_
   ·refine pD (fun W R z9 => ?_) ?_
    ·refine qg (ql (ptr ub 0) rfl ?_)
     exact ⟨rfl, rfl, rfl⟩
    refine pD (fun W R z9 => ?_) ?_
    ·refine qg (ql (uv) rfl ?_)
     exact ⟨rfl, rfl, rfl⟩
    refine pD (fun W R z9 => ?_) ?_
    ·rw [zA 1 (z9 1 rfl)]
     refine qg (qx 0 qf qC rfl rfl rfl huv.slv (by omega) (Nat.mul_one _) ?_)
     exact ⟨rfl, rfl, rfl⟩
    refine pD (fun W R z9 => ?_) ?_
    ·rw [zA 2 (z9 2 rfl)]
     refine qg (qj jh rfl (huv.rd (by omega)) ?_)
     exact ⟨rfl, rfl, rfl⟩
    refine pD (fun W R z9 => ?_) ?_
    ·rw [zA 3 (z9 3 rfl)]
     refine qg (jq ((-1) - (u.getD 0 0)) rfl rfl (by omega) (by omega) ?_)
     exact ⟨rfl, rfl, rfl⟩
    refine pD (fun W R z9 => ?_) ?_
    ·rw [zA 0 (z9 0 rfl)]
     refine qg (qL rfl ?_)
     exact ⟨rfl, rfl, rfl⟩
    refine pD (fun W R z9 => ?_) ?_
    ·rw [zA 5 (z9 5 rfl)]
     refine qg (qn (1) jH rfl sizeOf172 (by decide) rfl rfl ?_)
     exact ⟨rfl, rfl, rfl⟩
    exact stepsP.nil
   intro W hphi
   rw [zB 4 6 (hphi 4 (by decide)) (hphi 6 (by decide))]
   show XL _ _ _ _ _ _ _ (cellsH ub (arv :: bs) 174 :: L)
   refine cX (jN (i := (-1) - (u.getD 0 0)) (((-1) - (u.getD 0 0)).toNat) (1 + (((-1) - (u.getD 0 0)).toNat)) ya qr rfl rfl (by omega) (by omega) (by omega) (cX (qj qN rfl (Rd.own [] rfl (get_1 he1)) (qh (a1) rfl (qb ?_)))))
   exact ⟨(a1, (bl.getD (((-1) - (u.getD 0 0)).toNat) [])), _, FLe.refl _, rF, ⟨rfl, rfl, ⟨⟩⟩, (sC sR), ⟨rfl, (ha1), (hnb), (hrt.next hb hx0 hbn)⟩, (rootMu_lt hρ hb hx0 hbn)⟩
  have hbe := eq_of_isNil hn1 h2
  have htop : 0 ≤ u.getD 0 0 ∨ bl.getD (varIx (u.getD 0 0)) [] = [] := .inr hbe
  refine jn (qz (qz (qR (qc (qa (qd (uv) rfl (qh (uv) rfl (qb (qw (qu (L' := cellsH ub (arv :: bs) 174 :: L) [uv] (uv) (.tmp rfl .nil) rfl rF rF (sC sR) ?_))))))))))
  exact ⟨_, huv, hun, hrt.done htop, rfl, rfl⟩
 have htop : 0 ≤ u.getD 0 0 ∨ bl.getD (varIx (u.getD 0 0)) [] = [] := .inl (by omega)
 refine jL [cellsH ub (arv :: bs) 174] L 12 [] [[], [0], [1], [2], [3], [4], [4], [4, 6], [4, 7], [4, 8], [4, 5], [4, 10]] (phiL [qe uv, qe (.pointer (some (elemA uv (0)))), qe (ii (u.getD 0 0)), qe (.bool (decide ((u.getD 0 0 : Int) < 0)) : Value), qe (.bool (decide ((u.getD 0 0 : Int) < 0)) : Value), qe undef, qe undef, qe undef, qe undef, qe undef, qe undef, qe undef]) (ownL []) mixed rfl rfl (by kernel_rfl) ?_ ?_
 ·refine pD (fun W R z9 => ?_) ?_
  ·refine qg (ql (uv) rfl ?_)
   exact ⟨rfl, rfl, rfl⟩
  refine pD (fun W R z9 => ?_) ?_
  ·rw [zA 0 (z9 0 rfl)]
   refine qg (qx 0 qf qC rfl rfl rfl huv.slv (by omega) (Nat.mul_one _) ?_)
   exact ⟨rfl, rfl, rfl⟩
  refine pD (fun W R z9 => ?_) ?_
  ·rw [zA 1 (z9 1 rfl)]
   refine qg (qj jh rfl (huv.rd (by omega)) ?_)
   exact ⟨rfl, rfl, rfl⟩
  refine pD (fun W R z9 => ?_) ?_
  ·rw [zA 2 (z9 2 rfl)]
   refine qg (qX rfl rfl ?_)
   exact ⟨rfl, rfl, rfl⟩
  refine pD (fun W R z9 => ?_) ?_
  ·rw [zA 3 (z9 3 rfl)]
   refine qg (ql (.bool (decide ((u.getD 0 0 : Int) < 0))) rfl ?_)
   exact ⟨rfl, rfl, rfl⟩
  refine pD (fun W R z9 => ?_) ?_
  ·rw [zA 4 (z9 4 rfl)]
   exact jt (t := 9) rfl (vF h1) ⟨rfl, rfl, rfl⟩
  refine pD (fun W R z9 => ?_) ?_
  ·rw [zA 4 (z9 4 rfl)]
   exact jt (t := 9) rfl (vF h1) ⟨rfl, rfl, rfl⟩
  refine pD (fun W R z9 => ?_) ?_
  ·rw [eS (l := [(4, _), (6, undef)]) ⟨z9 4 rfl, z9 6 rfl, ⟨⟩⟩]
   exact jt (t := 9) rfl (vF h1) ⟨rfl, rfl, rfl⟩
  refine pD (fun W R z9 => ?_) ?_
  ·rw [eS (l := [(4, _), (7, undef)]) ⟨z9 4 rfl, z9 7 rfl, ⟨⟩⟩]
   exact jt (t := 9) rfl (vF h1) ⟨rfl, rfl, rfl⟩
  refine pD (fun W R z9 => ?_) ?_
  ·rw [eS (l := [(4, _), (8, undef)]) ⟨z9 4 rfl, z9 8 rfl, ⟨⟩⟩]
   exact jt (t := 9) rfl (vF h1) ⟨rfl, rfl, rfl⟩
  refine pD (fun W R z9 => ?_) ?_
  ·rw [eS (l := [(4, _), (5, undef)]) ⟨z9 4 rfl, z9 5 rfl, ⟨⟩⟩]
   exact jt (t := 9) rfl (vF h1) ⟨rfl, rfl, rfl⟩
  refine pD (fun W R z9 => ?_) ?_
  ·rw [eS (l := [(4, _), (10, undef)]) ⟨z9 4 rfl, z9 10 rfl, ⟨⟩⟩]
   exact jt (t := 9) rfl (vF h1) ⟨rfl, rfl, rfl⟩
  exact stepsP.nil
 intro W hphi
 rw [eS (l := [(4, _), (9, undef), (11, undef)]) ⟨(hphi 4 (by decide)), (hphi 9 (by decide)), (hphi 11 (by decide)), ⟨⟩⟩]
 show XL _ _ _ _ _ _ _ (cellsH ub (arv :: bs) 174 :: L)
 refine qq (t := 9) rfl (vF h1) (qq (t := 9) rfl (vF h1) (qq (t := 9) rfl (vF h1) (cX (qP (.bool (false)) (vF h1) rfl (qb (jW rfl (jn (qz (qz (qR (qc (qa (qd (uv) rfl (qh (uv) rfl ?_))))))))))))))
 refine qb (qw (qu (L' := cellsH ub (arv :: bs) 174 :: L) [uv] (uv) (.tmp rfl .nil) rfl rF rF (sC sR) ?_))
 exact ⟨_, huv, hun, hrt.done htop, rfl, rfl⟩

/- (*impl.unifier).occurs -/
set_option maxHeartbeats 1000000 in
theorem occurs_step {k : Nat} (ih : ∀ k9 : Nat, k9 < k → ∀ {F : FH} {L : List HP} {ub : Nat} {arv : Value} {ar : List Int} {bs : List Value} {bl : RowL} (har : IntsF F arv ar) (hbc : BindC F bs bl) (hb : BOk ar bl) {sb : Nat} {σ : Sbs} {ρ : Int → Nat} {n : Int} {tv : Value} {t : List Int} (ht : IntsF F tv t) {sn : List Bool} (hσ : Sol bl σ) (hρ : Acyc bl ρ) (hn : n < 0) (hnf : lkN bl n = []) (htk : ∀ m ∈ t, m < 0 → ρ m < k9) (htg : ∀ i, i < t.length → -48 ≤ t.getD i 0) (htl : t.length ≤ 60) (hsl : sn.length = 48) (hcl : ClearM σ ρ n k9 sn), Does prog 110 [ptr ub 0, ii (n), tv, ptr sb 0] F (cellsH ub (arv :: bs) 174 :: cellsH sb (bools sn) 184 :: L) (fun v F' L' => ∃ s9 : List Bool, (.bool (decide (n ∈ ap σ t)) : Value) = v ∧ s9.length = 48 ∧ (n ∉ ap σ t → MarkR σ n sn s9) ∧ F = F' ∧ cellsH ub (arv :: bs) 174 :: cellsH sb (bools s9) 184 :: L = L')) {F : FH} {L : List HP} {ub : Nat} {arv : Value} {ar : List Int} {bs : List Value} {bl : RowL} (har : IntsF F arv ar) (hbc : BindC F bs bl) (hb : BOk ar bl) {sb : Nat} {σ : Sbs} {ρ : Int → Nat} {n : Int} {tv : Value} {t : List Int} (ht : IntsF F tv t) {sn : List Bool} (hσ : Sol bl σ) (hρ : Acyc bl ρ) (hn : n < 0) (hnf : lkN bl n = []) (htk : ∀ m ∈ t, m < 0 → ρ m < k) (htg : ∀ i, i < t.length → -48 ≤ t.getD i 0) (htl : t.length ≤ 60) (hsl : sn.length = 48) (hcl : ClearM σ ρ n k sn) :
    Does prog 110 [ptr ub 0, ii (n), tv, ptr sb 0] F (cellsH ub (arv :: bs) 174 :: cellsH sb (bools sn) 184 :: L) (fun v F' L' => ∃ s9 : List Bool, (.bool (decide (n ∈ ap σ t)) : Value) = v ∧ s9.length = 48 ∧ (n ∉ ap σ t → MarkR σ n sn s9) ∧ F = F' ∧ cellsH ub (arv :: bs) 174 :: cellsH sb (bools s9) 184 :: L = L') := by
 refine qH func110 rfl rfl rfl ?_
 have hbl := hb.len
 refine qc (qa (qh (.bool (false)) rfl (qb (qc (qc (qa (qd (tv) rfl (cX (qG qf rfl ht.slv (qd (ii (0)) rfl (qb (qJ (jv (α := Nat × List Bool) (fun xQ => [(0, ptr ub 0), (1, ii (n)), (3, ptr sb 0), (12, tv), (13, ii ((t.length : Int))), (14, ii (((xQ.1 : Nat) : Int)))]) (fun xQ => cellsH ub (arv :: bs) 174 :: cellsH sb (bools xQ.2) 184 :: L) (fun xQ F' => F = F' ∧ (xQ.1 ≤ t.length) ∧ (xQ.2.length = 48) ∧ (MarkR σ n sn xQ.2) ∧ (∀ i, i < xQ.1 → n ∉ σ (t.getD i 0))) (fun xQ => t.length - xQ.1) (0, sn) ⟨rfl, rfl, rfl, rfl, rfl, rfl, ⟨⟩⟩ (sC (sC sR)) ⟨rfl, (by (try dsimp only) <;> omega), (hsl), (MarkR.refl), (fun i hi => absurd hi (by omega))⟩ ?_)))))))))))))
 rintro ⟨j, sm⟩ rE _ _ ⟨rfl, hj, hml, hmr, hno⟩
 show X _ _ _ _ (envs [(0, ptr ub 0), (1, ii (n)), (3, ptr sb 0), (12, tv), (13, ii ((t.length : Int))), (14, ii ((j : Int)))] rE) _ (cellsH ub (arv :: bs) 174 :: cellsH sb (bools sm) 184 :: L)
 dsimp only at hj hml hmr hno
 have hgj := fun h : j < t.length => htg j h
 refine qc (qa (cX (qX rfl rfl (qb (qc ?_)))))
 refine qE (p := (j : Int) < (t.length : Int)) rfl (fun h1 => ?_) (fun h1 => ?_)
 ·refine qA (qc (qJ (qc (qa (cX (qx j qf qC rfl rfl rfl ht.slv (by omega) (Nat.mul_one _) (cX (qj jh rfl (ht.rd (by omega)) (qh (ii (t.getD j 0)) rfl (qb (qc (qc (qa (qd (ii (t.getD j 0)) rfl (qd (ii (n)) rfl (cX (jo rfl rfl (qb ?_))))))))))))))))))
  refine qE (p := (t.getD j 0 : Int) = n) rfl (fun h2 => ?_) (fun h2 => ?_)
  ·refine qc (qa (qh (.bool (true)) rfl (qb (qw (qo (qF (qo (qo (qF (qo (qu (L' := cellsH ub (arv :: bs) 174 :: cellsH sb (bools sm) 184 :: L) [.bool (true)] (.bool (true)) (.tmp rfl .nil) rfl rF rF (sC (sC sR)) ?_)))))))))))
   have hnt : decide (n ∈ ap σ t) = true := decide_eq_true (occ_here (j := j) hnf hσ (by omega) (by assumption))
   exact ⟨_, congrArg Value.bool hnt, hml, fun h9 => absurd (of_decide_eq_true hnt) h9, rfl, rfl⟩
  have hne : t.getD j 0 ≠ n := h2
  refine qA (qc (qc (qa (qd (ii (t.getD j 0)) rfl (cX (jV rfl rfl (qd (.bool (decide ((t.getD j 0 : Int) ≥ 0))) rfl ?_)))))))
  by_cases h3 : (t.getD j 0 : Int) ≥ 0
  ·have hnx : n ∉ σ (t.getD j 0) := sym_no hσ hn (by omega)
   have hmk := hmr
   refine qq (t := 23) rfl (vT h3) (qq (t := 23) rfl (vT h3) (qq (t := 23) rfl (vT h3) (qq (t := 23) rfl (vT h3) (qq (t := 23) rfl (vT h3) (qq (t := 23) rfl (vT h3) (cX (qT (.bool (true)) (vT h3) rfl (qb (jO rfl (jn (qz (qR ?_))))))))))))
   refine qa (cX (qM (((j + 1 : Nat) : Int)) rfl rfl (by omega) (by omega) (qd (ii (((j + 1 : Nat) : Int))) rfl (qb ?_))))
   exact ⟨(j + 1, sm), _, FLe.refl _, rF, ⟨rfl, rfl, rfl, rfl, rfl, rfl, ⟨⟩⟩, (sC (sC sR)), ⟨rfl, (by (try dsimp only) <;> omega), (hml), (hmk), (fun i hi => (Nat.lt_or_ge i j).elim (fun h => hno i h) (fun h => by obtain rfl : i = j := (by omega); exact hnx))⟩, (by omega)⟩
  have hj0 : t.getD j 0 < 0 := by omega
  have hgj2 := hgj (by omega)
  have hrj := htk _ (mem_of_getD (k := j) (by omega) rfl) hj0
  refine qs (t := 23) rfl (vF h3) (ql (ptr sb 0) rfl (qs (t := 23) rfl (vF h3) (ql (ii (t.getD j 0)) rfl (qs (t := 23) rfl (vF h3) (jq ((-1) - (t.getD j 0)) rfl rfl (by omega) (by omega) (qs (t := 23) rfl (vF h3) (qL rfl (qs (t := 23) rfl (vF h3) (jN (i := (-1) - (t.getD j 0)) (((-1) - (t.getD j 0)).toNat) (((-1) - (t.getD j 0)).toNat) runUnderlying184 sizeOf4 rfl rfl (by omega) (by omega) (by omega) (qs (t := 23) rfl (vF h3) (qj isAgg4 rfl (Rd.own [_] rfl (bools_get (by rw [hml]; omega))) (cX (qP (.bool (sm.getD (((-1) - (t.getD j 0)).toNat) false)) (vF h3) rfl (qb ?_))))))))))))))
  refine jG (t := sm.getD (((-1) - (t.getD j 0)).toNat) false) rfl (fun h4 => ?_) (fun h4 => ?_)
  ·have hnx : n ∉ σ (t.getD j 0) := hcl.seen hmr hj0 h4 hrj
   have hmk := hmr
   refine jn (qz (qR (qa (cX (qM (((j + 1 : Nat) : Int)) rfl rfl (by omega) (by omega) (qd (ii (((j + 1 : Nat) : Int))) rfl (qb ?_)))))))
   exact ⟨(j + 1, sm), _, FLe.refl _, rF, ⟨rfl, rfl, rfl, rfl, rfl, rfl, ⟨⟩⟩, (sC (sC sR)), ⟨rfl, (by (try dsimp only) <;> omega), (hml), (hmk), (fun i hi => (Nat.lt_or_ge i j).elim (fun h => hno i h) (fun h => by obtain rfl : i = j := (by omega); exact hnx))⟩, (by omega)⟩
  have hun := h4
  refine qA (qc (qa (qd (ptr sb 0) rfl (qd (ii (t.getD j 0)) rfl (cX (jq ((-1) - (t.getD j 0)) rfl rfl (by omega) (by omega) (cX (qL rfl (cX (jN (i := (-1) - (t.getD j 0)) (((-1) - (t.getD j 0)).toNat) (((-1) - (t.getD j 0)).toNat) runUnderlying184 sizeOf4 rfl rfl (by omega) (by omega) (by omega) (cX (jz [_] _ (bools (sm.set (((-1) - (t.getD j 0)).toNat) true)) sizeOf4 rfl rfl rfl rfl (bools_blt (by rw [hml]; omega)) bools_set ?_))))))))))))
  have hl1 : (sm.set (((-1) - (t.getD j 0)).toNat) true).length = 48 := by rw [List.length_set]; exact hml
  refine qb (qc (qa (qd (ptr ub 0) rfl (qd (ii (t.getD j 0)) rfl (cX (jq ((-1) - (t.getD j 0)) rfl rfl (by omega) (by omega) (cX (qL rfl (cX (qn (1) jH rfl sizeOf172 (by decide) rfl rfl (cX (jN (i := (-1) - (t.getD j 0)) (((-1) - (t.getD j 0)).toNat) (1 + (((-1) - (t.getD j 0)).toNat)) ya qr rfl rfl (by omega) (by omega) (by omega) ?_))))))))))))
  obtain ⟨a1, ha1, hn1, he1⟩ := hbc.get (i := ((-1) - (t.getD j 0)).toNat) (by omega)
  refine cX (qj qN rfl (Rd.own [] rfl (get_1 he1)) (qh (a1) rfl (qb (qc (qa (qd (a1) rfl (cX (XOp.neNil qf rfl rfl (qp ha1) (qd (.bool (!isNil a1)) rfl ?_)))))))))
  by_cases h5 : (!isNil a1) = true
  ·have hbn := ne_of_notNil hn1 h5
   have hnb : isNil a1 = false := by rw [hn1]; exact decide_eq_false hbn
   have hlj : lkN bl (t.getD j 0) ≠ [] := by rw [lkN_get hj0]; exact hbn
   have hwj := hb.wt _ hj0 hlj
   rw [lkN_get hj0] at hwj
   refine qs (t := 45) rfl (vB h5) (ql (ptr ub 0) rfl (qs (t := 45) rfl (vB h5) (ql (ii (n)) rfl (qs (t := 45) rfl (vB h5) (ql (a1) rfl (qs (t := 45) rfl (vB h5) (ql (ptr sb 0) rfl (jK (jg (A := [_])) ?_))))))))
   show XL _ _ _ _ _ _ _ (cellsH sb (bools ((sm.set (((-1) - (t.getD j 0)).toNat) true))) 184 :: cellsH ub (arv :: bs) 174 :: L)
   refine jK (jg (A := [_])) ?_
   show XL _ _ _ _ _ _ _ (cellsH ub (arv :: bs) 174 :: cellsH sb (bools ((sm.set (((-1) - (t.getD j 0)).toNat) true))) 184 :: L)
   refine qs (t := 45) rfl (vB h5) (qt (args := [ptr ub 0, ii (n), a1, ptr sb 0]) call110 rfl (ih _ hrj har hbc (by assumption) ha1 hσ hρ hn hnf (fun m hm h0 => by have := hρ _ hj0 m (by rw [lkN_get hj0]; exact hm) h0; exact this) (fun i hi => hwj.geD hi) hwj.len.2 hl1 (hcl.down hmr hml hj0 hgj2 hrj)) ?_)
   rintro _ _ _ _ ⟨s1, rfl, hs1, hm1, rfl, rfl⟩
   refine cX (qT (.bool (decide (n ∈ ap σ ((bl.getD (((-1) - (t.getD j 0)).toNat) []))))) (vB h5) rfl (qb ?_))
   refine qE (p := n ∈ ap σ ((bl.getD (((-1) - (t.getD j 0)).toNat) []))) rfl (fun h6 => ?_) (fun h6 => ?_)
   ·have hoc := h6
    refine qc (qa (qh (.bool (true)) rfl (qb (qw (qF (qo (qo (qF (qo (qu (L' := cellsH ub (arv :: bs) 174 :: cellsH sb (bools s1) 184 :: L) [.bool (true)] (.bool (true)) (.tmp rfl .nil) rfl rF rF (sC (sC sR)) ?_))))))))))
    have hnt : decide (n ∈ ap σ t) = true := decide_eq_true (occ_in (j := j) hσ (by omega) rfl hlj (by rw [lkN_get hj0]; exact hoc))
    exact ⟨_, congrArg Value.bool hnt, hs1, fun h9 => absurd (of_decide_eq_true hnt) h9, rfl, rfl⟩
   have hnx : n ∉ σ (t.getD j 0) := bound_no hσ hlj (by rw [lkN_get hj0]; exact h6)
   have hmk := hmr.step hml hj0 hgj2 (hm1 h6) hnx
   refine qA (qa (cX (qM (((j + 1 : Nat) : Int)) rfl rfl (by omega) (by omega) (qd (ii (((j + 1 : Nat) : Int))) rfl (qb ?_)))))
   exact ⟨(j + 1, s1), _, FLe.refl _, rF, ⟨rfl, rfl, rfl, rfl, rfl, rfl, ⟨⟩⟩, (sC (sC sR)), ⟨rfl, (by (try dsimp only) <;> omega), (hs1), (hmk), (fun i hi => (Nat.lt_or_ge i j).elim (fun h => hno i h) (fun h => by obtain rfl : i = j := (by omega); exact hnx))⟩, (by omega)⟩
  rw [Bool.not_eq_true] at h5
  have hbe := eq_of_isNil hn1 h5
  have hnx : n ∉ σ (t.getD j 0) := free_no hσ hne (by rw [lkN_get hj0]; exact hbe)
  have hmk := hmr.set hml hj0 hgj2 hnx
  refine qq (t := 45) rfl (vB h5) (qq (t := 45) rfl (vB h5) (qq (t := 45) rfl (vB h5) (qq (t := 45) rfl (vB h5) (qq (t := 45) rfl (vB h5) (cX (qP (.bool (false)) (vB h5) rfl (qb (jW rfl (qA (qa (cX (qM (((j + 1 : Nat) : Int)) rfl rfl (by omega) (by omega) ?_))))))))))))
  refine qd (ii (((j + 1 : Nat) : Int))) rfl (qb ?_)
  exact ⟨(j + 1, (sm.set (((-1) - (t.getD j 0)).toNat) true)), _, FLe.refl _, rF, ⟨rfl, rfl, rfl, rfl, rfl, rfl, ⟨⟩⟩, (sC (sC sR)), ⟨rfl, (by (try dsimp only) <;> omega), (hl1), (hmk), (fun i hi => (Nat.lt_or_ge i j).elim (fun h => hno i h) (fun h => by obtain rfl : i = j := (by omega); exact hnx))⟩, (by omega)⟩
 refine jn (qz (qz (qR (qc (qa (qh (.bool (false)) rfl (qb (qw (qu (L' := cellsH ub (arv :: bs) 174 :: cellsH sb (bools sm) 184 :: L) [.bool (false)] (.bool (false)) (.tmp rfl .nil) rfl rF rF (sC (sC sR)) ?_)))))))))
 have hnt : n ∉ ap σ t := occ_not (fun i hi => hno i (by omega))
 exact ⟨_, congrArg Value.bool (decide_eq_false hnt), hml, fun _ => hmr, rfl, rfl⟩

theorem occurs_spec (k : Nat) : ∀ {F : FH} {L : List HP} {ub : Nat} {arv : Value} {ar : List Int} {bs : List Value} {bl : RowL} (har : IntsF F arv ar) (hbc : BindC F bs bl) (hb : BOk ar bl) {sb : Nat} {σ : Sbs} {ρ : Int → Nat} {n : Int} {tv : Value} {t : List Int} (ht : IntsF F tv t) {sn : List Bool} (hσ : Sol bl σ) (hρ : Acyc bl ρ) (hn : n < 0) (hnf : lkN bl n = []) (htk : ∀ m ∈ t, m < 0 → ρ m < k) (htg : ∀ i, i < t.length → -48 ≤ t.getD i 0) (htl : t.length ≤ 60) (hsl : sn.length = 48) (hcl : ClearM σ ρ n k sn), Does prog 110 [ptr ub 0, ii (n), tv, ptr sb 0] F (cellsH ub (arv :: bs) 174 :: cellsH sb (bools sn) 184 :: L) (fun v F' L' => ∃ s9 : List Bool, (.bool (decide (n ∈ ap σ t)) : Value) = v ∧ s9.length = 48 ∧ (n ∉ ap σ t → MarkR σ n sn s9) ∧ F = F' ∧ cellsH ub (arv :: bs) 174 :: cellsH sb (bools s9) 184 :: L = L') := by
  induction k using Nat.strongRecOn with
  | _ k ih =>
    intros
    exact occurs_step ih (by assumption) (by assumption) (by assumption) (by assumption) (by assumption) (by assumption) (by assumption) (by assumption) (by assumption) (by assumption) (by assumption) (by assumption) (by assumption)


/- (*impl.unifier).equate -/
set_option maxHeartbeats 2000000 in
set_option maxRecDepth 20000 in
theorem equate_step {k N : Nat} (ih : ∀ (k1 N1 : Nat), (k1 < k ∨ k1 = k ∧ N1 < N) → ∀ {F : FH} {L : List HP} {ub : Nat} {arv : Value} {ar : List Int} {bs : List Value} {bl : RowL} (har : IntsF F arv ar) (hbc : BindC F bs bl) (hb : BOk ar bl) {σ : Sbs} {av : Value} {a : List Int} (ha : IntsF F av a) {cv : Value} {c : List Int} (hc : IntsF F cv c) (hσ : Sol bl σ) (hoa : TermW ar a) (hoc : TermW ar c) (hna : isNil av = false) (hnc : isNil cv = false) (hk : unb bl ≤ k1) (hN : (ap σ a).length ≤ N1), DoesP prog 108 [ptr ub 0, av, cv] F (cellsH ub (arv :: bs) 174 :: L) (fun v F' L' => ∃ (b9 : List Value) (l9 : RowL), (.tuple #[] : Value) = v ∧ BindC F' b9 l9 ∧ Solves ar bl l9 (fun θ => ap θ a = ap θ c) ∧ cellsH ub (arv :: b9) 174 :: L = L') (fun ch F' L' => ∃ (b9 : List Value) (l9 : RowL), ch = [{ v := .iface 179 (.agg #[]), recovered := false }] ∧ BindC F' b9 l9 ∧ (∀ θ, GoodS ar θ → SatB bl θ → ap θ a ≠ ap θ c) ∧ cellsH ub (arv :: b9) 174 :: L = L')) {F : FH} {L : List HP} {ub : Nat} {arv : Value} {ar : List Int} {bs : List Value} {bl : RowL} (har : IntsF F arv ar) (hbc : BindC F bs bl) (hb : BOk ar bl) {σ : Sbs} {av : Value} {a : List Int} (ha : IntsF F av a) {cv : Value} {c : List Int} (hc : IntsF F cv c) (hσ : Sol bl σ) (hoa : TermW ar a) (hoc : TermW ar c) (hna : isNil av = false) (hnc : isNil cv = false) (hk : unb bl ≤ k) (hN : (ap σ a).length ≤ N) :
    DoesP prog 108 [ptr ub 0, av, cv] F (cellsH ub (arv :: bs) 174 :: L) (fun v F' L' => ∃ (b9 : List Value) (l9 : RowL), (.tuple #[] : Value) = v ∧ BindC F' b9 l9 ∧ Solves ar bl l9 (fun θ => ap θ a = ap θ c) ∧ cellsH ub (arv :: b9) 174 :: L = L') (fun ch F' L' => ∃ (b9 : List Value) (l9 : RowL), ch = [{ v := .iface 179 (.agg #[]), recovered := false }] ∧ BindC F' b9 l9 ∧ (∀ θ, GoodS ar θ → SatB bl θ → ap θ a ≠ ap θ c) ∧ cellsH ub (arv :: b9) 174 :: L = L') := by
 refine DoesP.of_X func108 rfl rfl rfl (qc (qa (qd (ptr ub 0) rfl (qd (av) rfl (cX (qt (args := [ptr ub 0, av]) call109 rfl (root_spec har hbc (by assumption) ha (ho := by assumption) (hnn := by assumption)) ?_))))))
 rintro v1 _ _ _ ⟨u1, hv1, hn1, hru1, rfl, rfl⟩
 refine qd (ptr ub 0) rfl (qd (cv) rfl (cX (qt (args := [ptr ub 0, cv]) call109 rfl (root_spec har hbc (by assumption) hc (ho := by assumption) (hnn := by assumption)) ?_)))
 rintro v2 _ _ _ ⟨u2, hv2, hn2, hru2, rfl, rfl⟩
 refine qh (v1) rfl (qh (v2) rfl ?_)
 have hl1 := hru1.w.len
 have hl2 := hru2.w.len
 refine qb (qc (qc ?_))
 refine jL [cellsH ub (arv :: bs) 174] L 6 [] [[], [0], [1], [], [3], [4]] (phiL [qe v1, qe (.pointer (some (elemA v1 (0)))), qe (ii (u1.getD 0 0)), qe v2, qe (.pointer (some (elemA v2 (0)))), qe (ii (u2.getD 0 0))]) (ownL []) mixed rfl rfl (by kernel_rfl) ?_ ?_
 ·refine pD (fun W R z9 => ?_) ?_
  ·refine qg (ql (v1) rfl ?_)
   exact ⟨rfl, rfl, rfl⟩
  refine pD (fun W R z9 => ?_) ?_
  ·rw [zA 0 (z9 0 rfl)]
   refine qg (qx 0 qf qC rfl rfl rfl hv1.slv (by omega) (Nat.mul_one _) ?_)
   exact ⟨rfl, rfl, rfl⟩
  refine pD (fun W R z9 => ?_) ?_
  ·rw [zA 1 (z9 1 rfl)]
   refine qg (qj jh rfl (hv1.rd (by omega)) ?_)
   exact ⟨rfl, rfl, rfl⟩
  refine pD (fun W R z9 => ?_) ?_
  ·refine qg (ql (v2) rfl ?_)
   exact ⟨rfl, rfl, rfl⟩
  refine pD (fun W R z9 => ?_) ?_
  ·rw [zA 3 (z9 3 rfl)]
   refine qg (qx 0 qf qC rfl rfl rfl hv2.slv (by omega) (Nat.mul_one _) ?_)
   exact ⟨rfl, rfl, rfl⟩
  refine pD (fun W R z9 => ?_) ?_
  ·rw [zA 4 (z9 4 rfl)]
   refine qg (qj jh rfl (hv2.rd (by omega)) ?_)
   exact ⟨rfl, rfl, rfl⟩
  exact stepsP.nil
 intro W hphi
 rw [zB 2 5 (hphi 2 (by decide)) (hphi 5 (by decide))]
 show XL _ _ _ _ _ _ _ (cellsH ub (arv :: bs) 174 :: L)
 refine cX (jo rfl rfl (qd (.bool (decide ((u1.getD 0 0 : Int) = u2.getD 0 0))) rfl ?_))
 by_cases h1 : (u1.getD 0 0 : Int) = u2.getD 0 0
 ·refine qs (t := 22) rfl (vT h1) (ql (v1) rfl (qs (t := 22) rfl (vT h1) (qx 0 qf qC rfl rfl rfl hv1.slv (by omega) (Nat.mul_one _) (qs (t := 22) rfl (vT h1) (qj jh rfl (hv1.rd (by omega)) (qs (t := 22) rfl (vT h1) (qX rfl rfl (cX (qT (.bool (decide ((u1.getD 0 0 : Int) < 0))) (vT h1) rfl (qb ?_))))))))))
  refine qE (p := (u1.getD 0 0 : Int) < 0) rfl (fun h2 => ?_) (fun h2 => ?_)
  ·refine qw (qo (retEndP (L' := cellsH ub (arv :: bs) 174 :: L) [] (.tuple #[]) (by exact .nil) rfl rF rF (sC sR) ?_))
   exact ⟨_, _, rfl, hbc, same_eq hb hru1 hru2 (by omega) (by omega), rfl⟩
  refine qA (qc (qc ?_))
  by_cases h3 : (u2.getD 0 0 : Int) < 0
  ·exfalso
   omega
  refine jL [cellsH ub (arv :: bs) 174] L 16 [] [[], [0], [1], [2], [3], [4], [4, 5], [4, 6], [4, 7], [4, 8], [9], [9, 10], [9, 11], [9], [9, 13], [9, 14]] (phiL [qe v2, qe (.pointer (some (elemA v2 (0)))), qe (ii (u2.getD 0 0)), qe (.bool (decide ((u2.getD 0 0 : Int) < 0)) : Value), qe (.bool (decide ((u2.getD 0 0 : Int) < 0)) : Value), qe undef, qe undef, qe undef, qe undef, qe undef, qe undef, qe undef, qe undef, qe undef, qe undef, qe undef]) (ownL []) mixed rfl rfl (by kernel_rfl) ?_ ?_
  ·refine pD (fun W R z9 => ?_) ?_
   ·refine qg (ql (v2) rfl ?_)
    exact ⟨rfl, rfl, rfl⟩
   refine pD (fun W R z9 => ?_) ?_
   ·rw [zA 0 (z9 0 rfl)]
    refine qg (qx 0 qf qC rfl rfl rfl hv2.slv (by omega) (Nat.mul_one _) ?_)
    exact ⟨rfl, rfl, rfl⟩
   refine pD (fun W R z9 => ?_) ?_
   ·rw [zA 1 (z9 1 rfl)]
    refine qg (qj jh rfl (hv2.rd (by omega)) ?_)
    exact ⟨rfl, rfl, rfl⟩
   refine pD (fun W R z9 => ?_) ?_
   ·rw [zA 2 (z9 2 rfl)]
    refine qg (qX rfl rfl ?_)
    exact ⟨rfl, rfl, rfl⟩
   refine pD (fun W R z9 => ?_) ?_
   ·rw [zA 3 (z9 3 rfl)]
    refine qg (ql (.bool (decide ((u2.getD 0 0 : Int) < 0))) rfl ?_)
    exact ⟨rfl, rfl, rfl⟩
   refine pD (fun W R z9 => ?_) ?_
   ·rw [zA 4 (z9 4 rfl)]
    exact jt (t := 32) rfl (vF h3) ⟨rfl, rfl, rfl⟩
   refine pD (fun W R z9 => ?_) ?_
   ·rw [eS (l := [(4, _), (5, undef)]) ⟨z9 4 rfl, z9 5 rfl, ⟨⟩⟩]
    exact jt (t := 32) rfl (vF h3) ⟨rfl, rfl, rfl⟩
   refine pD (fun W R z9 => ?_) ?_
   ·rw [eS (l := [(4, _), (6, undef)]) ⟨z9 4 rfl, z9 6 rfl, ⟨⟩⟩]
    exact jt (t := 32) rfl (vF h3) ⟨rfl, rfl, rfl⟩
   refine pD (fun W R z9 => ?_) ?_
   ·rw [eS (l := [(4, _), (7, undef)]) ⟨z9 4 rfl, z9 7 rfl, ⟨⟩⟩]
    exact jt (t := 32) rfl (vF h3) ⟨rfl, rfl, rfl⟩
   refine pD (fun W R z9 => ?_) ?_
   ·rw [eS (l := [(4, _), (8, undef)]) ⟨z9 4 rfl, z9 8 rfl, ⟨⟩⟩]
    exact jt (t := 32) rfl (vF h3) ⟨rfl, rfl, rfl⟩
   refine pD (fun W R z9 => ?_) ?_
   ·rw [eS (l := [(9, undef)]) ⟨z9 9 rfl, ⟨⟩⟩]
    exact XG.noU (t := 37) rfl rfl ⟨rfl, rfl, rfl⟩
   refine pD (fun W R z9 => ?_) ?_
   ·rw [eS (l := [(9, undef), (10, undef)]) ⟨z9 9 rfl, z9 10 rfl, ⟨⟩⟩]
    exact XG.noU (t := 37) rfl rfl ⟨rfl, rfl, rfl⟩
   refine pD (fun W R z9 => ?_) ?_
   ·rw [eS (l := [(9, undef), (11, undef)]) ⟨z9 9 rfl, z9 11 rfl, ⟨⟩⟩]
    exact XG.noU (t := 37) rfl rfl ⟨rfl, rfl, rfl⟩
   refine pD (fun W R z9 => ?_) ?_
   ·rw [eS (l := [(9, undef)]) ⟨z9 9 rfl, ⟨⟩⟩]
    exact XG.noU (t := 37) rfl rfl ⟨rfl, rfl, rfl⟩
   refine pD (fun W R z9 => ?_) ?_
   ·rw [eS (l := [(9, undef), (13, undef)]) ⟨z9 9 rfl, z9 13 rfl, ⟨⟩⟩]
    exact XG.noU (t := 37) rfl rfl ⟨rfl, rfl, rfl⟩
   refine pD (fun W R z9 => ?_) ?_
   ·rw [eS (l := [(9, undef), (14, undef)]) ⟨z9 9 rfl, z9 14 rfl, ⟨⟩⟩]
    exact XG.noU (t := 37) rfl rfl ⟨rfl, rfl, rfl⟩
   exact stepsP.nil
  intro W hphi
  rw [eS (l := [(4, _), (9, undef), (12, undef), (15, undef)]) ⟨(hphi 4 (by decide)), (hphi 9 (by decide)), (hphi 12 (by decide)), (hphi 15 (by decide)), ⟨⟩⟩]
  show XL _ _ _ _ _ _ _ (cellsH ub (arv :: bs) 174 :: L)
  refine XL.noU (t := 37) rfl rfl (qq (t := 32) rfl (vF h3) (cX (qP (.bool (false)) (vF h3) rfl (qb (jW rfl (qA (qc (qc (qa ?_)))))))))
  have hrx := hru1
  have hry := hru2
  have hnx := hn1
  have hny := hn2
  have hwx := hrx.w
  have hwy := hry.w
  have hxl := hrx.w.len
  have hyl := hry.w.len
  have hxg := hrx.w.geD (p := 0) (by omega)
  have hyg := hry.w.geD (p := 0) (by omega)
  have hbl := hb.len
  skip
  refine qd (v1) rfl (cX (qx 0 qf qC rfl rfl rfl hv1.slv (by omega) (Nat.mul_one _) (cX (qj jh rfl (hv1.rd (by omega)) (cX (qX rfl rfl (qb (jW (vF h2) (qA (qc (qc ?_)))))))))))
  refine jL [cellsH ub (arv :: bs) 174] L 6 [] [[], [0], [1], [], [3], [4]] (phiL [qe v1, qe (.pointer (some (elemA v1 (0)))), qe (ii (u1.getD 0 0)), qe v2, qe (.pointer (some (elemA v2 (0)))), qe (ii (u2.getD 0 0))]) (ownL []) mixed rfl rfl (by kernel_rfl) ?_ ?_
  ·refine pD (fun W R z9 => ?_) ?_
   ·refine qg (ql (v1) rfl ?_)
    exact ⟨rfl, rfl, rfl⟩
   refine pD (fun W R z9 => ?_) ?_
   ·rw [zA 0 (z9 0 rfl)]
    refine qg (qx 0 qf qC rfl rfl rfl hv1.slv (by omega) (Nat.mul_one _) ?_)
    exact ⟨rfl, rfl, rfl⟩
   refine pD (fun W R z9 => ?_) ?_
   ·rw [zA 1 (z9 1 rfl)]
    refine qg (qj jh rfl (hv1.rd (by omega)) ?_)
    exact ⟨rfl, rfl, rfl⟩
   refine pD (fun W R z9 => ?_) ?_
   ·refine qg (ql (v2) rfl ?_)
    exact ⟨rfl, rfl, rfl⟩
   refine pD (fun W R z9 => ?_) ?_
   ·rw [zA 3 (z9 3 rfl)]
    refine qg (qx 0 qf qC rfl rfl rfl hv2.slv (by omega) (Nat.mul_one _) ?_)
    exact ⟨rfl, rfl, rfl⟩
   refine pD (fun W R z9 => ?_) ?_
   ·rw [zA 4 (z9 4 rfl)]
    refine qg (qj jh rfl (hv2.rd (by omega)) ?_)
    exact ⟨rfl, rfl, rfl⟩
   exact stepsP.nil
  intro W hphi
  rw [zB 2 5 (hphi 2 (by decide)) (hphi 5 (by decide))]
  show XL _ _ _ _ _ _ _ (cellsH ub (arv :: bs) 174 :: L)
  refine cX (XOp.neq rfl rfl (qb ?_))
  refine qE (p := (u1.getD 0 0 : Int) ≠ u2.getD 0 0) rfl (fun h4 => ?_) (fun h4 => ?_)
  ·refine qa ?_
   skip
   refine cX (qZ [] [] [] [] yb zeroValue179 rfl PlacesAre.nil rfl CellsAre.nil (cX (XOp.iface yb rfl (jK ((sC sR)) (XL.panicI rfl ?_)))))
   exact .inr ⟨_, rfl, _, _, rfl, hbc, (heads_ne hrx hry (by omega) (by omega) (by omega)), rfl⟩
  have hhd : u1.getD 0 0 = u2.getD 0 0 := by omega
  refine qA (qc ?_)
  refine yc [cellsH ub (arv :: bs) 174] L 11 [] [[], [0], [1], [2], [], [3, 4], [], [6], [7], [8]] [] (phiG [pe (ptr ub 0), pe (ptr ub 0), pe (ptr ub 0), pe (.agg #[arv]), pe v1, fun FF us v => ((v) : Value) = v ∧ (IntsF FF (v) (argsL ar u1 0)), pe (ptr ub 0), pe (ptr ub 0), pe (ptr ub 0), pe (.agg #[arv]), pe v2]) (ownL []) mixed rfl rfl (by kernel_rfl) (by kernel_rfl) (MonoG.get (m1 (m1 (m1 (m1 (m1 (mC (fun le h => ⟨h.1, h.2.mono le⟩) (m1 (m1 (m1 (m1 (m1 MonoG.nil)))))))))))) ?_ ?_
  ·refine gD (fun W Fs R lF z9 => ?_) ?_
   ·refine qg (ql (ptr ub 0) rfl ?_)
    exact ⟨rfl, rfl⟩
   refine gD (fun W Fs R lF z9 => ?_) ?_
   ·replace har := har.mono lF
    replace hbc := hbc.mono lF
    replace hv1 := hv1.mono lF
    replace hv2 := hv2.mono lF
    rw [zA 0 (z9 0 rfl)]
    refine qg (qL rfl ?_)
    exact ⟨rfl, rfl⟩
   refine gD (fun W Fs R lF z9 => ?_) ?_
   ·rw [zA 1 (z9 1 rfl)]
    refine qg (qn (0) jH rfl qB (by decide) rfl rfl ?_)
    exact ⟨rfl, rfl⟩
   refine gD (fun W Fs R lF z9 => ?_) ?_
   ·replace har := har.mono lF
    replace hbc := hbc.mono lF
    replace hv1 := hv1.mono lF
    replace hv2 := hv2.mono lF
    rw [zA 2 (z9 2 rfl)]
    refine qg (qv [arv] qU qB rfl rfl (Rd.ownN [] rfl rfl) ?_)
    exact ⟨rfl, rfl⟩
   refine gD (fun W Fs R lF z9 => ?_) ?_
   ·refine qg (ql (v1) rfl ?_)
    exact ⟨rfl, rfl⟩
   refine gD (fun W Fs R lF z9 => ?_) ?_
   ·replace har := har.mono lF
    replace hbc := hbc.mono lF
    replace hv1 := hv1.mono lF
    replace hv2 := hv2.mono lF
    rw [zB 3 4 (z9 3 rfl) (z9 4 rfl)]
    refine qg (jT <| qt (args := [.agg #[arv], v1, ii ((0 : Nat) : Int)]) call90 rfl (argsAtW_spec (p := 0) har hv1 (ho := (by first | assumption | rfl | omega | simp)) (hp := (by first | assumption | rfl | omega | simp))) ?_)
    rintro v4 _ _ _ ⟨rfl, hs2, rfl⟩
    refine ⟨_, _, rfl, fun F1 le1 hz1 => ?_⟩
    replace har := har.mono le1
    replace hbc := hbc.mono le1
    replace hv1 := hv1.mono le1
    replace hv2 := hv2.mono le1
    have hf1 : IntsF F1 v4 ((argsL ar u1 0)) := intsH.fz (xs := (argsL ar u1 0)) hz1.fz
    exact ⟨⟨rfl, hf1⟩, rfl⟩
   refine gD (fun W Fs R lF z9 => ?_) ?_
   ·refine qg (ql (ptr ub 0) rfl ?_)
    exact ⟨rfl, rfl⟩
   refine gD (fun W Fs R lF z9 => ?_) ?_
   ·replace har := har.mono lF
    replace hbc := hbc.mono lF
    replace hv1 := hv1.mono lF
    replace hv2 := hv2.mono lF
    rw [zA 6 (z9 6 rfl)]
    refine qg (qL rfl ?_)
    exact ⟨rfl, rfl⟩
   refine gD (fun W Fs R lF z9 => ?_) ?_
   ·rw [zA 7 (z9 7 rfl)]
    refine qg (qn (0) jH rfl qB (by decide) rfl rfl ?_)
    exact ⟨rfl, rfl⟩
   refine gD (fun W Fs R lF z9 => ?_) ?_
   ·replace har := har.mono lF
    replace hbc := hbc.mono lF
    replace hv1 := hv1.mono lF
    replace hv2 := hv2.mono lF
    rw [zA 8 (z9 8 rfl)]
    refine qg (qv [arv] qU qB rfl rfl (Rd.ownN [] rfl rfl) ?_)
    exact ⟨rfl, rfl⟩
   refine gD (fun W Fs R lF z9 => ?_) ?_
   ·refine qg (ql (v2) rfl ?_)
    exact ⟨rfl, rfl⟩
   exact stepsG.nil
  intro W F2 le2 hphi
  obtain ⟨e5, f5_5ha⟩ := hphi 5 (by decide)
  generalize hu1 : ((W 5)) = u3 at e5 f5_5ha
  rw [eS (l := [(5, u3), (9, _), (10, _)]) ⟨hu1, (hphi 9 (by decide)), (hphi 10 (by decide)), ⟨⟩⟩]
  replace har := har.mono le2
  replace hbc := hbc.mono le2
  replace hv1 := hv1.mono le2
  replace hv2 := hv2.mono le2
  show XL _ _ _ _ _ _ _ (cellsH ub (arv :: bs) 174 :: L)
  refine cX (jT <| qt (args := [.agg #[arv], v2, ii ((0 : Nat) : Int)]) call90 rfl (argsAtW_spec (p := 0) har hv2 (ho := (by first | assumption | rfl | omega | simp)) (hp := (by first | assumption | rfl | omega | simp))) ?_)
  rintro v5 _ _ _ ⟨rfl, hs3, rfl⟩
  refine ⟨_, _, rfl, fun F3 le3 hz2 => ?_⟩
  replace har := har.mono le3
  replace hbc := hbc.mono le3
  replace hv1 := hv1.mono le3
  replace hv2 := hv2.mono le3
  replace f5_5ha := f5_5ha.mono le3
  have hf2 : IntsF F3 v5 ((argsL ar u2 0)) := intsH.fz (xs := (argsL ar u2 0)) hz2.fz
  refine qh (u3) rfl (qh (v5) rfl (qb (qc (qa (qd (u3) rfl (cX (qG ja rfl f5_5ha.slv (qd (ii (0)) rfl (qb (qJ (jv (α := Nat × List Value × RowL × FH) (fun xQ => [(0, ptr ub 0), (1, v1), (2, v2), (6, u3), (7, v5), (100, ii (((((argsL ar u1 0)).length : Nat) : Int))), (101, ii (((xQ.1 : Nat) : Int)))]) (fun xQ => cellsH ub (arv :: xQ.2.1) 174 :: L) (fun xQ F' => xQ.2.2.2 = F' ∧ F3 ≤ xQ.2.2.2 ∧ (BindC xQ.2.2.2 xQ.2.1 xQ.2.2.1) ∧ (xQ.1 ≤ (argsL ar u1 0).length) ∧ (Solves ar bl xQ.2.2.1 (EqTo ar u1 u2 xQ.1))) (fun xQ => (argsL ar u1 0).length - xQ.1) (0, bs, bl, F3) ⟨rfl, rfl, rfl, rfl, rfl, rfl, rfl, ⟨⟩⟩ (sC sR) ⟨rfl, FLe.refl _, (hbc), (Nat.zero_le _), (EqTo.start hb)⟩ ?_)))))))))))
  rintro ⟨j, bj, lj, G1⟩ rE _ _ ⟨rfl, leG, hbj, hj, hso⟩
  show X _ _ _ _ (envs [(0, ptr ub 0), (1, v1), (2, v2), (6, u3), (7, v5), (100, ii (((((argsL ar u1 0)).length : Nat) : Int))), (101, ii ((j : Int)))] rE) _ (cellsH ub (arv :: bj) 174 :: L)
  replace leG : F3 ≤ G1 := leG
  dsimp only at hbj hj hso
  have hajx := fun h : j < (argsL ar u1 0).length => hrx.w.args_in (p := 0) (by omega) h
  have hajy := fun h : j < (argsL ar u2 0).length => hry.w.args_in (p := 0) (by omega) h
  have hlax := args_same (ar := ar) hhd
  have hla3 := hrx.w.args_le (p := 0) (by omega)
  have hex0 := hrx.w.end0
  have hey0 := hry.w.end0
  have leG1 := leG
  replace har := har.mono leG1
  replace hbc := hbc.mono leG1
  replace hv1 := hv1.mono leG1
  replace hv2 := hv2.mono leG1
  replace f5_5ha := f5_5ha.mono leG1
  replace hf2 := hf2.mono leG1
  refine qc (qa (cX (qX rfl rfl (qb (qc ?_)))))
  refine qE (p := (j : Int) < ((((argsL ar u1 0)).length : Nat) : Int)) rfl (fun h5 => ?_) (fun h5 => ?_)
  ·have hjx : j < (argsL ar u1 0).length := by omega
   have hjy : j < (argsL ar u2 0).length := by omega
   obtain ⟨σ1, k1, N1, hσ1, hk1, hN1, hless⟩ := EqTo.less hso hb hσ hrx (by rw [parts_args]; exact hjx) hk hN
   have hpx := parts_W hrx.w hjx
   have hpy := parts_W hry.w hjy
   have hb2 := hso.ok
   rw [parts_get hjx] at hpx hN1
   rw [parts_get hjy] at hpy
   refine qA (qc (qJ (qc (qa (qd (ii ((j : Int))) rfl (qh (ii ((j : Int))) rfl (qb ?_)))))))
   refine yc [cellsH ub (arv :: bj) 174] L 21 [] [[], [], [1], [2], [3], [], [], [], [6, 7], [8], [4, 5, 9], [], [11], [12], [13], [], [], [], [16, 17], [18], [14, 15, 19]] [] (phiG [pe (ptr ub 0), pe (ptr ub 0), pe (ptr ub 0), pe (ptr ub 0), pe (.agg #[arv]), pe v1, pe u3, pe (ii ((j : Int)) : Value), pe (.pointer (some (elemA u3 (j)))), pe (ii (((argsL ar u1 0)).getD j 0)), fun FF us v => ((v) : Value) = v ∧ (IntsF FF (v) (sub ar u1 ((((argsL ar u1 0)).getD j 0).toNat))) ∧ (isNil (v) = false), pe (ptr ub 0), pe (ptr ub 0), pe (ptr ub 0), pe (.agg #[arv]), pe v2, pe v5, pe (ii ((j : Int)) : Value), pe (.pointer (some (elemA v5 (j)))), pe (ii (((argsL ar u2 0)).getD j 0)), fun FF us v => ((v) : Value) = v ∧ (IntsF FF (v) (sub ar u2 ((((argsL ar u2 0)).getD j 0).toNat))) ∧ (isNil (v) = false)]) (ownL []) mixed rfl rfl (by kernel_rfl) (by kernel_rfl) (MonoG.get (m1 (m1 (m1 (m1 (m1 (m1 (m1 (m1 (m1 (m1 (mC (fun le h => ⟨h.1, h.2.1.mono le, h.2.2⟩) (m1 (m1 (m1 (m1 (m1 (m1 (m1 (m1 (m1 (mC (fun le h => ⟨h.1, h.2.1.mono le, h.2.2⟩) MonoG.nil)))))))))))))))))))))) ?_ ?_
   ·refine gD (fun W Fs R lF z9 => ?_) ?_
    ·refine qg (ql (ptr ub 0) rfl ?_)
     exact ⟨rfl, rfl⟩
    refine gD (fun W Fs R lF z9 => ?_) ?_
    ·refine qg (ql (ptr ub 0) rfl ?_)
     exact ⟨rfl, rfl⟩
    refine gD (fun W Fs R lF z9 => ?_) ?_
    ·replace har := har.mono lF
     replace hbc := hbc.mono lF
     replace hv1 := hv1.mono lF
     replace hv2 := hv2.mono lF
     replace f5_5ha := f5_5ha.mono lF
     replace hf2 := hf2.mono lF
     replace hbj := hbj.mono lF
     rw [zA 1 (z9 1 rfl)]
     refine qg (qL rfl ?_)
     exact ⟨rfl, rfl⟩
    refine gD (fun W Fs R lF z9 => ?_) ?_
    ·rw [zA 2 (z9 2 rfl)]
     refine qg (qn (0) jH rfl qB (by decide) rfl rfl ?_)
     exact ⟨rfl, rfl⟩
    refine gD (fun W Fs R lF z9 => ?_) ?_
    ·replace har := har.mono lF
     replace hbc := hbc.mono lF
     replace hv1 := hv1.mono lF
     replace hv2 := hv2.mono lF
     replace f5_5ha := f5_5ha.mono lF
     replace hf2 := hf2.mono lF
     replace hbj := hbj.mono lF
     rw [zA 3 (z9 3 rfl)]
     refine qg (qv [arv] qU qB rfl rfl (Rd.ownN [] rfl rfl) ?_)
     exact ⟨rfl, rfl⟩
    refine gD (fun W Fs R lF z9 => ?_) ?_
    ·refine qg (ql (v1) rfl ?_)
     exact ⟨rfl, rfl⟩
    refine gD (fun W Fs R lF z9 => ?_) ?_
    ·refine qg (ql (u3) rfl ?_)
     exact ⟨rfl, rfl⟩
    refine gD (fun W Fs R lF z9 => ?_) ?_
    ·refine qg (ql (ii ((j : Int))) rfl ?_)
     exact ⟨rfl, rfl⟩
    refine gD (fun W Fs R lF z9 => ?_) ?_
    ·replace har := har.mono lF
     replace hbc := hbc.mono lF
     replace hv1 := hv1.mono lF
     replace hv2 := hv2.mono lF
     replace f5_5ha := f5_5ha.mono lF
     replace hf2 := hf2.mono lF
     replace hbj := hbj.mono lF
     rw [zB 6 7 (z9 6 rfl) (z9 7 rfl)]
     refine qg (qx j ja jC rfl rfl rfl f5_5ha.slv (by omega) (Nat.mul_one _) ?_)
     exact ⟨rfl, rfl⟩
    refine gD (fun W Fs R lF z9 => ?_) ?_
    ·replace har := har.mono lF
     replace hbc := hbc.mono lF
     replace hv1 := hv1.mono lF
     replace hv2 := hv2.mono lF
     replace f5_5ha := f5_5ha.mono lF
     replace hf2 := hf2.mono lF
     replace hbj := hbj.mono lF
     rw [zA 8 (z9 8 rfl)]
     refine qg (qj yd rfl (f5_5ha.rd (by omega)) ?_)
     exact ⟨rfl, rfl⟩
    refine gD (fun W Fs R lF z9 => ?_) ?_
    ·replace har := har.mono lF
     replace hbc := hbc.mono lF
     replace hv1 := hv1.mono lF
     replace hv2 := hv2.mono lF
     replace hf2 := hf2.mono lF
     replace hbj := hbj.mono lF
     rw [eS (l := [(4, _), (5, _), (9, _)]) ⟨z9 4 rfl, z9 5 rfl, z9 9 rfl, ⟨⟩⟩]
     refine qg (qt (args := [.agg #[arv], v1, ii (((((argsL ar u1 0)).getD j 0).toNat : Nat) : Int)]) call71 (by rw [show (((((argsL ar u1 0)).getD j 0).toNat : Nat) : Int) = ((argsL ar u1 0)).getD j 0 from by omega]; rfl) (subAtW_spec (p := (((argsL ar u1 0)).getD j 0).toNat) har hv1 (ho := (by first | assumption | rfl | omega | simp)) (hp := (by first | assumption | rfl | omega | simp)) (hnn := (by first | assumption | rfl | omega | simp))) ?_)
     rintro v8 _ _ _ ⟨rfl, rfl, hv5, hn5⟩
     exact ⟨⟨rfl, hv5, hn5⟩, rfl⟩
    refine gD (fun W Fs R lF z9 => ?_) ?_
    ·refine qg (ql (ptr ub 0) rfl ?_)
     exact ⟨rfl, rfl⟩
    refine gD (fun W Fs R lF z9 => ?_) ?_
    ·replace har := har.mono lF
     replace hbc := hbc.mono lF
     replace hv1 := hv1.mono lF
     replace hv2 := hv2.mono lF
     replace hf2 := hf2.mono lF
     replace hbj := hbj.mono lF
     rw [zA 11 (z9 11 rfl)]
     refine qg (qL rfl ?_)
     exact ⟨rfl, rfl⟩
    refine gD (fun W Fs R lF z9 => ?_) ?_
    ·rw [zA 12 (z9 12 rfl)]
     refine qg (qn (0) jH rfl qB (by decide) rfl rfl ?_)
     exact ⟨rfl, rfl⟩
    refine gD (fun W Fs R lF z9 => ?_) ?_
    ·replace har := har.mono lF
     replace hbc := hbc.mono lF
     replace hv1 := hv1.mono lF
     replace hv2 := hv2.mono lF
     replace hf2 := hf2.mono lF
     replace hbj := hbj.mono lF
     rw [zA 13 (z9 13 rfl)]
     refine qg (qv [arv] qU qB rfl rfl (Rd.ownN [] rfl rfl) ?_)
     exact ⟨rfl, rfl⟩
    refine gD (fun W Fs R lF z9 => ?_) ?_
    ·refine qg (ql (v2) rfl ?_)
     exact ⟨rfl, rfl⟩
    refine gD (fun W Fs R lF z9 => ?_) ?_
    ·refine qg (ql (v5) rfl ?_)
     exact ⟨rfl, rfl⟩
    refine gD (fun W Fs R lF z9 => ?_) ?_
    ·refine qg (ql (ii ((j : Int))) rfl ?_)
     exact ⟨rfl, rfl⟩
    refine gD (fun W Fs R lF z9 => ?_) ?_
    ·replace har := har.mono lF
     replace hbc := hbc.mono lF
     replace hv1 := hv1.mono lF
     replace hv2 := hv2.mono lF
     replace hf2 := hf2.mono lF
     replace hbj := hbj.mono lF
     rw [zB 16 17 (z9 16 rfl) (z9 17 rfl)]
     refine qg (qx j ja jC rfl rfl rfl hf2.slv (by omega) (Nat.mul_one _) ?_)
     exact ⟨rfl, rfl⟩
    refine gD (fun W Fs R lF z9 => ?_) ?_
    ·replace har := har.mono lF
     replace hbc := hbc.mono lF
     replace hv1 := hv1.mono lF
     replace hv2 := hv2.mono lF
     replace hf2 := hf2.mono lF
     replace hbj := hbj.mono lF
     rw [zA 18 (z9 18 rfl)]
     refine qg (qj yd rfl (hf2.rd (by omega)) ?_)
     exact ⟨rfl, rfl⟩
    refine gD (fun W Fs R lF z9 => ?_) ?_
    ·replace har := har.mono lF
     replace hbc := hbc.mono lF
     replace hv1 := hv1.mono lF
     replace hv2 := hv2.mono lF
     replace hbj := hbj.mono lF
     rw [eS (l := [(14, _), (15, _), (19, _)]) ⟨z9 14 rfl, z9 15 rfl, z9 19 rfl, ⟨⟩⟩]
     refine qg (qt (args := [.agg #[arv], v2, ii (((((argsL ar u2 0)).getD j 0).toNat : Nat) : Int)]) call71 (by rw [show (((((argsL ar u2 0)).getD j 0).toNat : Nat) : Int) = ((argsL ar u2 0)).getD j 0 from by omega]; rfl) (subAtW_spec (p := (((argsL ar u2 0)).getD j 0).toNat) har hv2 (ho := (by first | assumption | rfl | omega | simp)) (hp := (by first | assumption | rfl | omega | simp)) (hnn := (by first | assumption | rfl | omega | simp))) ?_)
     rintro v9 _ _ _ ⟨rfl, rfl, hv6, hn6⟩
     exact ⟨⟨rfl, hv6, hn6⟩, rfl⟩
    exact stepsG.nil
   intro W F4 le4 hphi
   obtain ⟨e10, f10_6ha, f10_6hn⟩ := hphi 10 (by decide)
   obtain ⟨e20, f20_6ha, f20_6hn⟩ := hphi 20 (by decide)
   generalize hu2 : ((W 10)) = u4 at e10 f10_6ha f10_6hn e20 f20_6ha f20_6hn
   generalize hu3 : ((W 20)) = u5 at e10 f10_6ha f10_6hn e20 f20_6ha f20_6hn
   rw [eS (l := [(0, _), (10, u4), (20, u5)]) ⟨(hphi 0 (by decide)), hu2, hu3, ⟨⟩⟩]
   replace har := har.mono le4
   replace hbc := hbc.mono le4
   replace hv1 := hv1.mono le4
   replace hv2 := hv2.mono le4
   replace hbj := hbj.mono le4
   show XL _ _ _ _ _ _ _ (cellsH ub (arv :: bj) 174 :: L)
   refine XL.callP [ptr ub 0, u4, u5] call108 rfl (ih k1 N1 hless har hbj hb2 f10_6ha f20_6ha hσ1 hpx hpy (by assumption) (by assumption) hk1 hN1) ?_ ?_
   ·rintro _ _ _ _ ⟨b9, l9, rfl, hb9, hne9, rfl⟩
    rw [← parts_get hjx, ← parts_get hjy] at hne9
    exact .inr ⟨_, rfl, b9, l9, rfl, hb9, (EqTo.stop hso hrx hry (by rw [parts_args]; exact hjx) (by omega) hhd hne9), rfl⟩
   rintro _ F5 _ le5 ⟨b1, l1, rfl, hb1, hso1, rfl⟩
   replace har := har.mono le5
   replace hbc := hbc.mono le5
   replace hv1 := hv1.mono le5
   replace hv2 := hv2.mono le5
   replace hbj := hbj.mono le5
   rw [← parts_get hjx, ← parts_get hjy] at hso1
   have hso2 := EqTo.next hso hso1
   refine qb (qa (cX (qM (((j + 1 : Nat) : Int)) rfl rfl (by omega) (by omega) (qd (ii (((j + 1 : Nat) : Int))) rfl (qb ?_)))))
   exact ⟨(j + 1, b1, l1, F5), _, (qi (qi leG1 le4) le5), rF, ⟨rfl, rfl, rfl, rfl, rfl, rfl, rfl, ⟨⟩⟩, (sC sR), ⟨rfl, (qi (qi leG1 le4) le5), (hb1), (by (try dsimp only) <;> omega), (hso2)⟩, (by omega)⟩
  refine jn (qz (qz (qR (id (retEndNP (L' := cellsH ub (arv :: bj) 174 :: L) [] (.tuple #[]) (by exact .nil) rfl (qi (qi le2 le3) leG1) rF (sC sR) ?_)))))
  exact ⟨_, _, rfl, hbj, (EqTo.done hso hrx hry (by rw [parts_args]; omega) (by omega) hhd), rfl⟩
 refine qq (t := 22) rfl (vF h1) (qq (t := 22) rfl (vF h1) (qq (t := 22) rfl (vF h1) (qq (t := 22) rfl (vF h1) (cX (qP (.bool (false)) (vF h1) rfl (qb (jW rfl (qA (qc (qc ?_))))))))))
 by_cases h6 : (u2.getD 0 0 : Int) < 0
 ·by_cases h7 : (u1.getD 0 0 : Int) ≥ 0
  ·refine jL [cellsH ub (arv :: bs) 174] L 16 [] [[], [0], [1], [2], [3], [4], [4, 5], [4, 6], [4, 7], [4, 8], [9], [9, 10], [9, 11], [9], [9, 13], [9, 14]] (phiL [qe v2, qe (.pointer (some (elemA v2 (0)))), qe (ii (u2.getD 0 0)), qe (.bool (decide ((u2.getD 0 0 : Int) < 0)) : Value), qe (.bool (decide ((u2.getD 0 0 : Int) < 0)) : Value), qe v1, qe (.pointer (some (elemA v1 (0)))), qe (ii (u1.getD 0 0)), qe (.bool (decide ((u1.getD 0 0 : Int) ≥ 0)) : Value), qe (.bool (decide ((u1.getD 0 0 : Int) ≥ 0)) : Value), qe undef, qe undef, qe undef, qe undef, qe undef, qe undef]) (ownL []) mixed rfl rfl (by kernel_rfl) ?_ ?_
   ·refine pD (fun W R z9 => ?_) ?_
    ·refine qg (ql (v2) rfl ?_)
     exact ⟨rfl, rfl, rfl⟩
    refine pD (fun W R z9 => ?_) ?_
    ·rw [zA 0 (z9 0 rfl)]
     refine qg (qx 0 qf qC rfl rfl rfl hv2.slv (by omega) (Nat.mul_one _) ?_)
     exact ⟨rfl, rfl, rfl⟩
    refine pD (fun W R z9 => ?_) ?_
    ·rw [zA 1 (z9 1 rfl)]
     refine qg (qj jh rfl (hv2.rd (by omega)) ?_)
     exact ⟨rfl, rfl, rfl⟩
    refine pD (fun W R z9 => ?_) ?_
    ·rw [zA 2 (z9 2 rfl)]
     refine qg (qX rfl rfl ?_)
     exact ⟨rfl, rfl, rfl⟩
    refine pD (fun W R z9 => ?_) ?_
    ·rw [zA 3 (z9 3 rfl)]
     refine qg (ql (.bool (decide ((u2.getD 0 0 : Int) < 0))) rfl ?_)
     exact ⟨rfl, rfl, rfl⟩
    refine pD (fun W R z9 => ?_) ?_
    ·rw [zA 4 (z9 4 rfl)]
     refine jm (t := 32) rfl (vT h6) (ql (v1) rfl ?_)
     exact ⟨rfl, rfl, rfl⟩
    refine pD (fun W R z9 => ?_) ?_
    ·rw [zB 4 5 (z9 4 rfl) (z9 5 rfl)]
     refine jm (t := 32) rfl (vT h6) (qx 0 qf qC rfl rfl rfl hv1.slv (by omega) (Nat.mul_one _) ?_)
     exact ⟨rfl, rfl, rfl⟩
    refine pD (fun W R z9 => ?_) ?_
    ·rw [zB 4 6 (z9 4 rfl) (z9 6 rfl)]
     refine jm (t := 32) rfl (vT h6) (qj jh rfl (hv1.rd (by omega)) ?_)
     exact ⟨rfl, rfl, rfl⟩
    refine pD (fun W R z9 => ?_) ?_
    ·rw [zB 4 7 (z9 4 rfl) (z9 7 rfl)]
     refine jm (t := 32) rfl (vT h6) (jV rfl rfl ?_)
     exact ⟨rfl, rfl, rfl⟩
    refine pD (fun W R z9 => ?_) ?_
    ·rw [zB 4 8 (z9 4 rfl) (z9 8 rfl)]
     refine jm (t := 32) rfl (vT h6) (ql (.bool (decide ((u1.getD 0 0 : Int) ≥ 0))) rfl ?_)
     exact ⟨rfl, rfl, rfl⟩
    refine pD (fun W R z9 => ?_) ?_
    ·rw [zA 9 (z9 9 rfl)]
     exact jt (t := 37) rfl (vT h7) ⟨rfl, rfl, rfl⟩
    refine pD (fun W R z9 => ?_) ?_
    ·rw [eS (l := [(9, _), (10, undef)]) ⟨z9 9 rfl, z9 10 rfl, ⟨⟩⟩]
     exact jt (t := 37) rfl (vT h7) ⟨rfl, rfl, rfl⟩
    refine pD (fun W R z9 => ?_) ?_
    ·rw [eS (l := [(9, _), (11, undef)]) ⟨z9 9 rfl, z9 11 rfl, ⟨⟩⟩]
     exact jt (t := 37) rfl (vT h7) ⟨rfl, rfl, rfl⟩
    refine pD (fun W R z9 => ?_) ?_
    ·rw [zA 9 (z9 9 rfl)]
     exact jt (t := 37) rfl (vT h7) ⟨rfl, rfl, rfl⟩
    refine pD (fun W R z9 => ?_) ?_
    ·rw [eS (l := [(9, _), (13, undef)]) ⟨z9 9 rfl, z9 13 rfl, ⟨⟩⟩]
     exact jt (t := 37) rfl (vT h7) ⟨rfl, rfl, rfl⟩
    refine pD (fun W R z9 => ?_) ?_
    ·rw [eS (l := [(9, _), (14, undef)]) ⟨z9 9 rfl, z9 14 rfl, ⟨⟩⟩]
     exact jt (t := 37) rfl (vT h7) ⟨rfl, rfl, rfl⟩
    exact stepsP.nil
   intro W hphi
   rw [eS (l := [(4, _), (9, _), (12, undef), (15, undef)]) ⟨(hphi 4 (by decide)), (hphi 9 (by decide)), (hphi 12 (by decide)), (hphi 15 (by decide)), ⟨⟩⟩]
   show XL _ _ _ _ _ _ _ (cellsH ub (arv :: bs) 174 :: L)
   refine qq (t := 37) rfl (vT h7) (qs (t := 32) rfl (vT h6) (qT (.bool (true)) (vT h7) rfl (cX (qT (.bool (true)) (vT h6) rfl (qb (jO rfl (qa (qd (v2) rfl (qd (v1) rfl (qh (v2) rfl (qh (v1) rfl ?_)))))))))))
   refine qb (qc (qc (qa ?_)))
   have hrx := hru2
   have hry := hru1
   have hnx := hn2
   have hny := hn1
   have hwx := hrx.w
   have hwy := hry.w
   have hxl := hrx.w.len
   have hyl := hry.w.len
   have hxg := hrx.w.geD (p := 0) (by omega)
   have hyg := hry.w.geD (p := 0) (by omega)
   have hbl := hb.len
   skip
   refine qd (v2) rfl (cX (qx 0 qf qC rfl rfl rfl hv2.slv (by omega) (Nat.mul_one _) (cX (qj jh rfl (hv2.rd (by omega)) (cX (qX rfl rfl (qb (jO (vT h6) (qc (qc (qa (qd (v1) rfl (cX (qx 0 qf qC rfl rfl rfl hv1.slv (by omega) (Nat.mul_one _) (cX (qj jh rfl (hv1.rd (by omega)) ?_))))))))))))))))
   refine cX (jV rfl rfl (qd (.bool (decide ((u1.getD 0 0 : Int) ≥ 0))) rfl (qs (t := 57) rfl (vT h7) (ql (ptr ub 0) rfl (qs (t := 57) rfl (vT h7) (ql (v2) rfl (qs (t := 57) rfl (vT h7) (qx 0 qf qC rfl rfl rfl hv2.slv (by omega) (Nat.mul_one _) (qs (t := 57) rfl (vT h7) (qj jh rfl (hv2.rd (by omega)) (qs (t := 57) rfl (vT h7) (ql (v1) rfl (qs (t := 57) rfl (vT h7) (XOp.build0 (bools (List.replicate 48 false)) runUnderlying184 ⟨_, sizeOf4⟩ zeroValue184 rfl (qs (t := 57) rfl (vT h7) (qY (bools (List.replicate 48 false)) rfl rfl ?_))))))))))))))))
   intro b2
   have hl1 : (List.replicate 48 false).length = 48 := rfl
   have hx0 : u2.getD 0 0 < 0 := by omega
   obtain ⟨ρ9, hρ9⟩ := hb.acyc
   obtain ⟨k9, hk9⟩ := maxRank u1 ρ9
   refine jK (jg (A := [_])) ?_
   show XL _ _ _ _ _ _ _ (cellsH ub (arv :: bs) 174 :: cellsH b2 (bools ((List.replicate 48 false))) 184 :: L)
   refine qs (t := 57) rfl (vT h7) (qt (args := [ptr ub 0, ii (u2.getD 0 0), v1, ptr b2 0]) call110 rfl (occurs_spec k9 har hbc (by assumption) hv1 hσ hρ9 hx0 (hrx.top.resolve_left (by omega)) (fun m hm _ => hk9 m hm) (fun i hi => hry.w.geD hi) hyl.2 hl1 ClearM.nils) ?_)
   rintro _ _ _ _ ⟨s1, rfl, hs4, hm1, rfl, rfl⟩
   refine cX (qT (.bool (decide (u2.getD 0 0 ∈ ap σ u1))) (vT h7) rfl (qb ?_))
   refine qE (p := u2.getD 0 0 ∈ ap σ u1) rfl (fun h8 => ?_) (fun h8 => ?_)
   ·have hoy := h8
    refine qa ?_
    skip
    refine cX (qZ [] [] [] [] yb zeroValue179 rfl PlacesAre.nil rfl CellsAre.nil (cX (XOp.iface yb rfl (jK ((sC (sD sR))) (XL.panicI rfl ?_)))))
    exact .inr ⟨_, rfl, _, _, rfl, hbc, (no_swap (occ_eq hb hσ hrx hry (by omega) (by omega) hoy)), rfl⟩
   have hoy := h8
   refine qA (qc ?_)
   refine jL [cellsH ub (arv :: bs) 174, cellsH b2 (bools s1) 184] L 8 [] [[], [], [1], [2], [3], [], [0], [6]] (phiL [qe (ptr ub 0), qe v2, qe (.pointer (some (elemA v2 (0)))), qe (ii (u2.getD 0 0)), qe (ii ((-1) - (u2.getD 0 0))), qe v1, qe (ptr ub 0), qe (ptr ub 1)]) (ownL []) mixed rfl rfl (by kernel_rfl) ?_ ?_
   ·refine pD (fun W R z9 => ?_) ?_
    ·refine qg (ql (ptr ub 0) rfl ?_)
     exact ⟨rfl, rfl, rfl⟩
    refine pD (fun W R z9 => ?_) ?_
    ·refine qg (ql (v2) rfl ?_)
     exact ⟨rfl, rfl, rfl⟩
    refine pD (fun W R z9 => ?_) ?_
    ·rw [zA 1 (z9 1 rfl)]
     refine qg (qx 0 qf qC rfl rfl rfl hv2.slv (by omega) (Nat.mul_one _) ?_)
     exact ⟨rfl, rfl, rfl⟩
    refine pD (fun W R z9 => ?_) ?_
    ·rw [zA 2 (z9 2 rfl)]
     refine qg (qj jh rfl (hv2.rd (by omega)) ?_)
     exact ⟨rfl, rfl, rfl⟩
    refine pD (fun W R z9 => ?_) ?_
    ·rw [zA 3 (z9 3 rfl)]
     refine qg (jq ((-1) - (u2.getD 0 0)) rfl rfl (by omega) (by omega) ?_)
     exact ⟨rfl, rfl, rfl⟩
    refine pD (fun W R z9 => ?_) ?_
    ·refine qg (ql (v1) rfl ?_)
     exact ⟨rfl, rfl, rfl⟩
    refine pD (fun W R z9 => ?_) ?_
    ·rw [zA 0 (z9 0 rfl)]
     refine qg (qL rfl ?_)
     exact ⟨rfl, rfl, rfl⟩
    refine pD (fun W R z9 => ?_) ?_
    ·rw [zA 6 (z9 6 rfl)]
     refine qg (qn (1) jH rfl sizeOf172 (by decide) rfl rfl ?_)
     exact ⟨rfl, rfl, rfl⟩
    exact stepsP.nil
   intro W hphi
   rw [eS (l := [(4, _), (5, _), (7, _)]) ⟨(hphi 4 (by decide)), (hphi 5 (by decide)), (hphi 7 (by decide)), ⟨⟩⟩]
   show XL _ _ _ _ _ _ _ (cellsH ub (arv :: bs) 174 :: cellsH b2 (bools s1) 184 :: L)
   refine cX (jN (i := (-1) - (u2.getD 0 0)) (((-1) - (u2.getD 0 0)).toNat) (1 + (((-1) - (u2.getD 0 0)).toNat)) ya qr rfl rfl (by omega) (by omega) (by omega) (cX (jz [] _ (arv :: (bs.set (((-1) - (u2.getD 0 0)).toNat) v1)) qr rfl rfl (qy (qp hv1)) rfl (blt_1 (by have := CO.len hbc; (try simp only [List.length_set, List.length_replicate] at this ⊢) <;> omega)) set_1 ?_)))
   have hc1 := hbc.set (((-1) - (u2.getD 0 0)).toNat) hv1 (by rw [hny]; exact (decide_eq_false hry.w.ne).symm)
   refine qb (qw (qo (retEndP (L' := cellsH ub (arv :: ((bs.set (((-1) - (u2.getD 0 0)).toNat) v1))) 174 :: L) [] (.tuple #[]) (by exact .nil) rfl rF rF (sC (sD sR)) ?_)))
   exact ⟨_, _, rfl, hc1, (Solves.swap (bind_eq hb hσ hrx hry (by omega) (by first | exact hoy | exact bind_var hσ hry (by omega) (by omega)))), rfl⟩
  refine jL [cellsH ub (arv :: bs) 174] L 16 [] [[], [0], [1], [2], [3], [4], [4, 5], [4, 6], [4, 7], [4, 8], [9], [9, 10], [9, 11], [9], [9, 13], [9, 14]] (phiL [qe v2, qe (.pointer (some (elemA v2 (0)))), qe (ii (u2.getD 0 0)), qe (.bool (decide ((u2.getD 0 0 : Int) < 0)) : Value), qe (.bool (decide ((u2.getD 0 0 : Int) < 0)) : Value), qe v1, qe (.pointer (some (elemA v1 (0)))), qe (ii (u1.getD 0 0)), qe (.bool (decide ((u1.getD 0 0 : Int) ≥ 0)) : Value), qe (.bool (decide ((u1.getD 0 0 : Int) ≥ 0)) : Value), qe v2, qe (.pointer (some (elemA v2 (0)))), qe (ii (u2.getD 0 0)), qe v1, qe (.pointer (some (elemA v1 (0)))), qe (ii (u1.getD 0 0))]) (ownL []) mixed rfl rfl (by kernel_rfl) ?_ ?_
  ·refine pD (fun W R z9 => ?_) ?_
   ·refine qg (ql (v2) rfl ?_)
    exact ⟨rfl, rfl, rfl⟩
   refine pD (fun W R z9 => ?_) ?_
   ·rw [zA 0 (z9 0 rfl)]
    refine qg (qx 0 qf qC rfl rfl rfl hv2.slv (by omega) (Nat.mul_one _) ?_)
    exact ⟨rfl, rfl, rfl⟩
   refine pD (fun W R z9 => ?_) ?_
   ·rw [zA 1 (z9 1 rfl)]
    refine qg (qj jh rfl (hv2.rd (by omega)) ?_)
    exact ⟨rfl, rfl, rfl⟩
   refine pD (fun W R z9 => ?_) ?_
   ·rw [zA 2 (z9 2 rfl)]
    refine qg (qX rfl rfl ?_)
    exact ⟨rfl, rfl, rfl⟩
   refine pD (fun W R z9 => ?_) ?_
   ·rw [zA 3 (z9 3 rfl)]
    refine qg (ql (.bool (decide ((u2.getD 0 0 : Int) < 0))) rfl ?_)
    exact ⟨rfl, rfl, rfl⟩
   refine pD (fun W R z9 => ?_) ?_
   ·rw [zA 4 (z9 4 rfl)]
    refine jm (t := 32) rfl (vT h6) (ql (v1) rfl ?_)
    exact ⟨rfl, rfl, rfl⟩
   refine pD (fun W R z9 => ?_) ?_
   ·rw [zB 4 5 (z9 4 rfl) (z9 5 rfl)]
    refine jm (t := 32) rfl (vT h6) (qx 0 qf qC rfl rfl rfl hv1.slv (by omega) (Nat.mul_one _) ?_)
    exact ⟨rfl, rfl, rfl⟩
   refine pD (fun W R z9 => ?_) ?_
   ·rw [zB 4 6 (z9 4 rfl) (z9 6 rfl)]
    refine jm (t := 32) rfl (vT h6) (qj jh rfl (hv1.rd (by omega)) ?_)
    exact ⟨rfl, rfl, rfl⟩
   refine pD (fun W R z9 => ?_) ?_
   ·rw [zB 4 7 (z9 4 rfl) (z9 7 rfl)]
    refine jm (t := 32) rfl (vT h6) (jV rfl rfl ?_)
    exact ⟨rfl, rfl, rfl⟩
   refine pD (fun W R z9 => ?_) ?_
   ·rw [zB 4 8 (z9 4 rfl) (z9 8 rfl)]
    refine jm (t := 32) rfl (vT h6) (ql (.bool (decide ((u1.getD 0 0 : Int) ≥ 0))) rfl ?_)
    exact ⟨rfl, rfl, rfl⟩
   refine pD (fun W R z9 => ?_) ?_
   ·rw [zA 9 (z9 9 rfl)]
    refine jm (t := 37) rfl (vF h7) (ql (v2) rfl ?_)
    exact ⟨rfl, rfl, rfl⟩
   refine pD (fun W R z9 => ?_) ?_
   ·rw [zB 9 10 (z9 9 rfl) (z9 10 rfl)]
    refine jm (t := 37) rfl (vF h7) (qx 0 qf qC rfl rfl rfl hv2.slv (by omega) (Nat.mul_one _) ?_)
    exact ⟨rfl, rfl, rfl⟩
   refine pD (fun W R z9 => ?_) ?_
   ·rw [zB 9 11 (z9 9 rfl) (z9 11 rfl)]
    refine jm (t := 37) rfl (vF h7) (qj jh rfl (hv2.rd (by omega)) ?_)
    exact ⟨rfl, rfl, rfl⟩
   refine pD (fun W R z9 => ?_) ?_
   ·rw [zA 9 (z9 9 rfl)]
    refine jm (t := 37) rfl (vF h7) (ql (v1) rfl ?_)
    exact ⟨rfl, rfl, rfl⟩
   refine pD (fun W R z9 => ?_) ?_
   ·rw [zB 9 13 (z9 9 rfl) (z9 13 rfl)]
    refine jm (t := 37) rfl (vF h7) (qx 0 qf qC rfl rfl rfl hv1.slv (by omega) (Nat.mul_one _) ?_)
    exact ⟨rfl, rfl, rfl⟩
   refine pD (fun W R z9 => ?_) ?_
   ·rw [zB 9 14 (z9 9 rfl) (z9 14 rfl)]
    refine jm (t := 37) rfl (vF h7) (qj jh rfl (hv1.rd (by omega)) ?_)
    exact ⟨rfl, rfl, rfl⟩
   exact stepsP.nil
  intro W hphi
  rw [eS (l := [(4, _), (9, _), (12, _), (15, _)]) ⟨(hphi 4 (by decide)), (hphi 9 (by decide)), (hphi 12 (by decide)), (hphi 15 (by decide)), ⟨⟩⟩]
  show XL _ _ _ _ _ _ _ (cellsH ub (arv :: bs) 174 :: L)
  refine qs (t := 37) rfl (vF h7) (qX rfl rfl (qs (t := 32) rfl (vT h6) (qP (.bool (decide ((u2.getD 0 0 : Int) < u1.getD 0 0))) (vF h7) rfl (cX (qT (.bool (decide ((u2.getD 0 0 : Int) < u1.getD 0 0))) (vT h6) rfl (qb ?_))))))
  refine qE (p := (u2.getD 0 0 : Int) < u1.getD 0 0) rfl (fun h9 => ?_) (fun h9 => ?_)
  ·refine qa (qd (v2) rfl (qd (v1) rfl (qh (v2) rfl (qh (v1) rfl (qb (qc (qc (qa ?_))))))))
   have hrx := hru2
   have hry := hru1
   have hnx := hn2
   have hny := hn1
   have hwx := hrx.w
   have hwy := hry.w
   have hxl := hrx.w.len
   have hyl := hry.w.len
   have hxg := hrx.w.geD (p := 0) (by omega)
   have hyg := hry.w.geD (p := 0) (by omega)
   have hbl := hb.len
   skip
   refine qd (v2) rfl (cX (qx 0 qf qC rfl rfl rfl hv2.slv (by omega) (Nat.mul_one _) (cX (qj jh rfl (hv2.rd (by omega)) (cX (qX rfl rfl (qb (jO (vT h6) (qc (qc (qa (qd (v1) rfl (cX (qx 0 qf qC rfl rfl rfl hv1.slv (by omega) (Nat.mul_one _) (cX (qj jh rfl (hv1.rd (by omega)) ?_))))))))))))))))
   refine cX (jV rfl rfl (qd (.bool (decide ((u1.getD 0 0 : Int) ≥ 0))) rfl (qq (t := 57) rfl (vF h7) (qq (t := 57) rfl (vF h7) (qq (t := 57) rfl (vF h7) (qq (t := 57) rfl (vF h7) (qq (t := 57) rfl (vF h7) (qq (t := 57) rfl (vF h7) (qq (t := 57) rfl (vF h7) (qq (t := 57) rfl (vF h7) ?_))))))))))
   refine cX (qP (.bool (false)) (vF h7) rfl (qb (jW rfl (qA (qc ?_)))))
   refine jL [cellsH ub (arv :: bs) 174] L 8 [] [[], [], [1], [2], [3], [], [0], [6]] (phiL [qe (ptr ub 0), qe v2, qe (.pointer (some (elemA v2 (0)))), qe (ii (u2.getD 0 0)), qe (ii ((-1) - (u2.getD 0 0))), qe v1, qe (ptr ub 0), qe (ptr ub 1)]) (ownL []) mixed rfl rfl (by kernel_rfl) ?_ ?_
   ·refine pD (fun W R z9 => ?_) ?_
    ·refine qg (ql (ptr ub 0) rfl ?_)
     exact ⟨rfl, rfl, rfl⟩
    refine pD (fun W R z9 => ?_) ?_
    ·refine qg (ql (v2) rfl ?_)
     exact ⟨rfl, rfl, rfl⟩
    refine pD (fun W R z9 => ?_) ?_
    ·rw [zA 1 (z9 1 rfl)]
     refine qg (qx 0 qf qC rfl rfl rfl hv2.slv (by omega) (Nat.mul_one _) ?_)
     exact ⟨rfl, rfl, rfl⟩
    refine pD (fun W R z9 => ?_) ?_
    ·rw [zA 2 (z9 2 rfl)]
     refine qg (qj jh rfl (hv2.rd (by omega)) ?_)
     exact ⟨rfl, rfl, rfl⟩
    refine pD (fun W R z9 => ?_) ?_
    ·rw [zA 3 (z9 3 rfl)]
     refine qg (jq ((-1) - (u2.getD 0 0)) rfl rfl (by omega) (by omega) ?_)
     exact ⟨rfl, rfl, rfl⟩
    refine pD (fun W R z9 => ?_) ?_
    ·refine qg (ql (v1) rfl ?_)
     exact ⟨rfl, rfl, rfl⟩
    refine pD (fun W R z9 => ?_) ?_
    ·rw [zA 0 (z9 0 rfl)]
     refine qg (qL rfl ?_)
     exact ⟨rfl, rfl, rfl⟩
    refine pD (fun W R z9 => ?_) ?_
    ·rw [zA 6 (z9 6 rfl)]
     refine qg (qn (1) jH rfl sizeOf172 (by decide) rfl rfl ?_)
     exact ⟨rfl, rfl, rfl⟩
    exact stepsP.nil
   intro W hphi
   rw [eS (l := [(4, _), (5, _), (7, _)]) ⟨(hphi 4 (by decide)), (hphi 5 (by decide)), (hphi 7 (by decide)), ⟨⟩⟩]
   show XL _ _ _ _ _ _ _ (cellsH ub (arv :: bs) 174 :: L)
   refine cX (jN (i := (-1) - (u2.getD 0 0)) (((-1) - (u2.getD 0 0)).toNat) (1 + (((-1) - (u2.getD 0 0)).toNat)) ya qr rfl rfl (by omega) (by omega) (by omega) (cX (jz [] _ (arv :: (bs.set (((-1) - (u2.getD 0 0)).toNat) v1)) qr rfl rfl (qy (qp hv1)) rfl (blt_1 (by have := CO.len hbc; (try simp only [List.length_set, List.length_replicate] at this ⊢) <;> omega)) set_1 ?_)))
   have hc2 := hbc.set (((-1) - (u2.getD 0 0)).toNat) hv1 (by rw [hny]; exact (decide_eq_false hry.w.ne).symm)
   refine qb (qw (qo (retEndP (L' := cellsH ub (arv :: ((bs.set (((-1) - (u2.getD 0 0)).toNat) v1))) 174 :: L) [] (.tuple #[]) (by exact .nil) rfl rF rF (sC sR) ?_)))
   exact ⟨_, _, rfl, hc2, (Solves.swap (bind_eq hb hσ hrx hry (by omega) (by first | exact hoy | exact bind_var hσ hry (by omega) (by omega)))), rfl⟩
  refine qA (qc (qc (qa ?_)))
  have hrx := hru1
  have hry := hru2
  have hnx := hn1
  have hny := hn2
  have hwx := hrx.w
  have hwy := hry.w
  have hxl := hrx.w.len
  have hyl := hry.w.len
  have hxg := hrx.w.geD (p := 0) (by omega)
  have hyg := hry.w.geD (p := 0) (by omega)
  have hbl := hb.len
  skip
  refine qd (v1) rfl (cX (qx 0 qf qC rfl rfl rfl hv1.slv (by omega) (Nat.mul_one _) (cX (qj jh rfl (hv1.rd (by omega)) (cX (qX rfl rfl (qb ?_)))))))
  refine qE (p := (u1.getD 0 0 : Int) < 0) rfl (fun h10 => ?_) (fun h10 => ?_)
  ·refine qc (qc (qa (qd (v2) rfl (cX (qx 0 qf qC rfl rfl rfl hv2.slv (by omega) (Nat.mul_one _) (cX (qj jh rfl (hv2.rd (by omega)) (cX (jV rfl rfl (qd (.bool (decide ((u2.getD 0 0 : Int) ≥ 0))) rfl ?_))))))))))
   by_cases h11 : (u2.getD 0 0 : Int) ≥ 0
   ·refine qs (t := 57) rfl (vT h11) (ql (ptr ub 0) rfl (qs (t := 57) rfl (vT h11) (ql (v1) rfl (qs (t := 57) rfl (vT h11) (qx 0 qf qC rfl rfl rfl hv1.slv (by omega) (Nat.mul_one _) (qs (t := 57) rfl (vT h11) (qj jh rfl (hv1.rd (by omega)) (qs (t := 57) rfl (vT h11) (ql (v2) rfl (qs (t := 57) rfl (vT h11) (XOp.build0 (bools (List.replicate 48 false)) runUnderlying184 ⟨_, sizeOf4⟩ zeroValue184 rfl (qs (t := 57) rfl (vT h11) (qY (bools (List.replicate 48 false)) rfl rfl ?_)))))))))))))
    intro b3
    have hl2 : (List.replicate 48 false).length = 48 := rfl
    have hx0 : u1.getD 0 0 < 0 := by omega
    obtain ⟨ρ9, hρ9⟩ := hb.acyc
    obtain ⟨k9, hk9⟩ := maxRank u2 ρ9
    refine jK (jg (A := [_])) ?_
    show XL _ _ _ _ _ _ _ (cellsH ub (arv :: bs) 174 :: cellsH b3 (bools ((List.replicate 48 false))) 184 :: L)
    refine qs (t := 57) rfl (vT h11) (qt (args := [ptr ub 0, ii (u1.getD 0 0), v2, ptr b3 0]) call110 rfl (occurs_spec k9 har hbc (by assumption) hv2 hσ hρ9 hx0 (hrx.top.resolve_left (by omega)) (fun m hm _ => hk9 m hm) (fun i hi => hry.w.geD hi) hyl.2 hl2 ClearM.nils) ?_)
    rintro _ _ _ _ ⟨s2, rfl, hs5, hm2, rfl, rfl⟩
    refine cX (qT (.bool (decide (u1.getD 0 0 ∈ ap σ u2))) (vT h11) rfl (qb ?_))
    refine qE (p := u1.getD 0 0 ∈ ap σ u2) rfl (fun h12 => ?_) (fun h12 => ?_)
    ·have hoy := h12
     refine qa ?_
     skip
     refine cX (qZ [] [] [] [] yb zeroValue179 rfl PlacesAre.nil rfl CellsAre.nil (cX (XOp.iface yb rfl (jK ((sC (sD sR))) (XL.panicI rfl ?_)))))
     exact .inr ⟨_, rfl, _, _, rfl, hbc, (occ_eq hb hσ hrx hry (by omega) (by omega) hoy), rfl⟩
    have hoy := h12
    refine qA (qc ?_)
    refine jL [cellsH ub (arv :: bs) 174, cellsH b3 (bools s2) 184] L 8 [] [[], [], [1], [2], [3], [], [0], [6]] (phiL [qe (ptr ub 0), qe v1, qe (.pointer (some (elemA v1 (0)))), qe (ii (u1.getD 0 0)), qe (ii ((-1) - (u1.getD 0 0))), qe v2, qe (ptr ub 0), qe (ptr ub 1)]) (ownL []) mixed rfl rfl (by kernel_rfl) ?_ ?_
    ·refine pD (fun W R z9 => ?_) ?_
     ·refine qg (ql (ptr ub 0) rfl ?_)
      exact ⟨rfl, rfl, rfl⟩
     refine pD (fun W R z9 => ?_) ?_
     ·refine qg (ql (v1) rfl ?_)
      exact ⟨rfl, rfl, rfl⟩
     refine pD (fun W R z9 => ?_) ?_
     ·rw [zA 1 (z9 1 rfl)]
      refine qg (qx 0 qf qC rfl rfl rfl hv1.slv (by omega) (Nat.mul_one _) ?_)
      exact ⟨rfl, rfl, rfl⟩
     refine pD (fun W R z9 => ?_) ?_
     ·rw [zA 2 (z9 2 rfl)]
      refine qg (qj jh rfl (hv1.rd (by omega)) ?_)
      exact ⟨rfl, rfl, rfl⟩
     refine pD (fun W R z9 => ?_) ?_
     ·rw [zA 3 (z9 3 rfl)]
      refine qg (jq ((-1) - (u1.getD 0 0)) rfl rfl (by omega) (by omega) ?_)
      exact ⟨rfl, rfl, rfl⟩
     refine pD (fun W R z9 => ?_) ?_
     ·refine qg (ql (v2) rfl ?_)
      exact ⟨rfl, rfl, rfl⟩
     refine pD (fun W R z9 => ?_) ?_
     ·rw [zA 0 (z9 0 rfl)]
      refine qg (qL rfl ?_)
      exact ⟨rfl, rfl, rfl⟩
     refine pD (fun W R z9 => ?_) ?_
     ·rw [zA 6 (z9 6 rfl)]
      refine qg (qn (1) jH rfl sizeOf172 (by decide) rfl rfl ?_)
      exact ⟨rfl, rfl, rfl⟩
     exact stepsP.nil
    intro W hphi
    rw [eS (l := [(4, _), (5, _), (7, _)]) ⟨(hphi 4 (by decide)), (hphi 5 (by decide)), (hphi 7 (by decide)), ⟨⟩⟩]
    show XL _ _ _ _ _ _ _ (cellsH ub (arv :: bs) 174 :: cellsH b3 (bools s2) 184 :: L)
    refine cX (jN (i := (-1) - (u1.getD 0 0)) (((-1) - (u1.getD 0 0)).toNat) (1 + (((-1) - (u1.getD 0 0)).toNat)) ya qr rfl rfl (by omega) (by omega) (by omega) (cX (jz [] _ (arv :: (bs.set (((-1) - (u1.getD 0 0)).toNat) v2)) qr rfl rfl (qy (qp hv2)) rfl (blt_1 (by have := CO.len hbc; (try simp only [List.length_set, List.length_replicate] at this ⊢) <;> omega)) set_1 ?_)))
    have hc3 := hbc.set (((-1) - (u1.getD 0 0)).toNat) hv2 (by rw [hny]; exact (decide_eq_false hry.w.ne).symm)
    refine qb (qw (qo (retEndP (L' := cellsH ub (arv :: ((bs.set (((-1) - (u1.getD 0 0)).toNat) v2))) 174 :: L) [] (.tuple #[]) (by exact .nil) rfl rF rF (sC (sD sR)) ?_)))
    exact ⟨_, _, rfl, hc3, (bind_eq hb hσ hrx hry (by omega) (by first | exact hoy | exact bind_var hσ hry (by omega) (by omega))), rfl⟩
   refine qq (t := 57) rfl (vF h11) (qq (t := 57) rfl (vF h11) (qq (t := 57) rfl (vF h11) (qq (t := 57) rfl (vF h11) (qq (t := 57) rfl (vF h11) (qq (t := 57) rfl (vF h11) (qq (t := 57) rfl (vF h11) (qq (t := 57) rfl (vF h11) (cX (qP (.bool (false)) (vF h11) rfl (qb ?_))))))))))
   refine jW rfl (qA (qc ?_))
   refine jL [cellsH ub (arv :: bs) 174] L 8 [] [[], [], [1], [2], [3], [], [0], [6]] (phiL [qe (ptr ub 0), qe v1, qe (.pointer (some (elemA v1 (0)))), qe (ii (u1.getD 0 0)), qe (ii ((-1) - (u1.getD 0 0))), qe v2, qe (ptr ub 0), qe (ptr ub 1)]) (ownL []) mixed rfl rfl (by kernel_rfl) ?_ ?_
   ·refine pD (fun W R z9 => ?_) ?_
    ·refine qg (ql (ptr ub 0) rfl ?_)
     exact ⟨rfl, rfl, rfl⟩
    refine pD (fun W R z9 => ?_) ?_
    ·refine qg (ql (v1) rfl ?_)
     exact ⟨rfl, rfl, rfl⟩
    refine pD (fun W R z9 => ?_) ?_
    ·rw [zA 1 (z9 1 rfl)]
     refine qg (qx 0 qf qC rfl rfl rfl hv1.slv (by omega) (Nat.mul_one _) ?_)
     exact ⟨rfl, rfl, rfl⟩
    refine pD (fun W R z9 => ?_) ?_
    ·rw [zA 2 (z9 2 rfl)]
     refine qg (qj jh rfl (hv1.rd (by omega)) ?_)
     exact ⟨rfl, rfl, rfl⟩
    refine pD (fun W R z9 => ?_) ?_
    ·rw [zA 3 (z9 3 rfl)]
     refine qg (jq ((-1) - (u1.getD 0 0)) rfl rfl (by omega) (by omega) ?_)
     exact ⟨rfl, rfl, rfl⟩
    refine pD (fun W R z9 => ?_) ?_
    ·refine qg (ql (v2) rfl ?_)
     exact ⟨rfl, rfl, rfl⟩
    refine pD (fun W R z9 => ?_) ?_
    ·rw [zA 0 (z9 0 rfl)]
     refine qg (qL rfl ?_)
     exact ⟨rfl, rfl, rfl⟩
    refine pD (fun W R z9 => ?_) ?_
    ·rw [zA 6 (z9 6 rfl)]
     refine qg (qn (1) jH rfl sizeOf172 (by decide) rfl rfl ?_)
     exact ⟨rfl, rfl, rfl⟩
    exact stepsP.nil
   intro W hphi
   rw [eS (l := [(4, _), (5, _), (7, _)]) ⟨(hphi 4 (by decide)), (hphi 5 (by decide)), (hphi 7 (by decide)), ⟨⟩⟩]
   show XL _ _ _ _ _ _ _ (cellsH ub (arv :: bs) 174 :: L)
   refine cX (jN (i := (-1) - (u1.getD 0 0)) (((-1) - (u1.getD 0 0)).toNat) (1 + (((-1) - (u1.getD 0 0)).toNat)) ya qr rfl rfl (by omega) (by omega) (by omega) (cX (jz [] _ (arv :: (bs.set (((-1) - (u1.getD 0 0)).toNat) v2)) qr rfl rfl (qy (qp hv2)) rfl (blt_1 (by have := CO.len hbc; (try simp only [List.length_set, List.length_replicate] at this ⊢) <;> omega)) set_1 ?_)))
   have hc4 := hbc.set (((-1) - (u1.getD 0 0)).toNat) hv2 (by rw [hny]; exact (decide_eq_false hry.w.ne).symm)
   refine qb (qw (qo (retEndP (L' := cellsH ub (arv :: ((bs.set (((-1) - (u1.getD 0 0)).toNat) v2))) 174 :: L) [] (.tuple #[]) (by exact .nil) rfl rF rF (sC sR) ?_)))
   exact ⟨_, _, rfl, hc4, (bind_eq hb hσ hrx hry (by omega) (by first | exact hoy | exact bind_var hσ hry (by omega) (by omega))), rfl⟩
  exfalso
  omega
 refine jL [cellsH ub (arv :: bs) 174] L 16 [] [[], [0], [1], [2], [3], [4], [4, 5], [4, 6], [4, 7], [4, 8], [9], [9, 10], [9, 11], [9], [9, 13], [9, 14]] (phiL [qe v2, qe (.pointer (some (elemA v2 (0)))), qe (ii (u2.getD 0 0)), qe (.bool (decide ((u2.getD 0 0 : Int) < 0)) : Value), qe (.bool (decide ((u2.getD 0 0 : Int) < 0)) : Value), qe undef, qe undef, qe undef, qe undef, qe undef, qe undef, qe undef, qe undef, qe undef, qe undef, qe undef]) (ownL []) mixed rfl rfl (by kernel_rfl) ?_ ?_
 ·refine pD (fun W R z9 => ?_) ?_
  ·refine qg (ql (v2) rfl ?_)
   exact ⟨rfl, rfl, rfl⟩
  refine pD (fun W R z9 => ?_) ?_
  ·rw [zA 0 (z9 0 rfl)]
   refine qg (qx 0 qf qC rfl rfl rfl hv2.slv (by omega) (Nat.mul_one _) ?_)
   exact ⟨rfl, rfl, rfl⟩
  refine pD (fun W R z9 => ?_) ?_
  ·rw [zA 1 (z9 1 rfl)]
   refine qg (qj jh rfl (hv2.rd (by omega)) ?_)
   exact ⟨rfl, rfl, rfl⟩
  refine pD (fun W R z9 => ?_) ?_
  ·rw [zA 2 (z9 2 rfl)]
   refine qg (qX rfl rfl ?_)
   exact ⟨rfl, rfl, rfl⟩
  refine pD (fun W R z9 => ?_) ?_
  ·rw [zA 3 (z9 3 rfl)]
   refine qg (ql (.bool (decide ((u2.getD 0 0 : Int) < 0))) rfl ?_)
   exact ⟨rfl, rfl, rfl⟩
  refine pD (fun W R z9 => ?_) ?_
  ·rw [zA 4 (z9 4 rfl)]
   exact jt (t := 32) rfl (vF h6) ⟨rfl, rfl, rfl⟩
  refine pD (fun W R z9 => ?_) ?_
  ·rw [eS (l := [(4, _), (5, undef)]) ⟨z9 4 rfl, z9 5 rfl, ⟨⟩⟩]
   exact jt (t := 32) rfl (vF h6) ⟨rfl, rfl, rfl⟩
  refine pD (fun W R z9 => ?_) ?_
  ·rw [eS (l := [(4, _), (6, undef)]) ⟨z9 4 rfl, z9 6 rfl, ⟨⟩⟩]
   exact jt (t := 32) rfl (vF h6) ⟨rfl, rfl, rfl⟩
  refine pD (fun W R z9 => ?_) ?_
  ·rw [eS (l := [(4, _), (7, undef)]) ⟨z9 4 rfl, z9 7 rfl, ⟨⟩⟩]
   exact jt (t := 32) rfl (vF h6) ⟨rfl, rfl, rfl⟩
  refine pD (fun W R z9 => ?_) ?_
  ·rw [eS (l := [(4, _), (8, undef)]) ⟨z9 4 rfl, z9 8 rfl, ⟨⟩⟩]
   exact jt (t := 32) rfl (vF h6) ⟨rfl, rfl, rfl⟩
  refine pD (fun W R z9 => ?_) ?_
  ·rw [eS (l := [(9, undef)]) ⟨z9 9 rfl, ⟨⟩⟩]
   exact XG.noU (t := 37) rfl rfl ⟨rfl, rfl, rfl⟩
  refine pD (fun W R z9 => ?_) ?_
  ·rw [eS (l := [(9, undef), (10, undef)]) ⟨z9 9 rfl, z9 10 rfl, ⟨⟩⟩]
   exact XG.noU (t := 37) rfl rfl ⟨rfl, rfl, rfl⟩
  refine pD (fun W R z9 => ?_) ?_
  ·rw [eS (l := [(9, undef), (11, undef)]) ⟨z9 9 rfl, z9 11 rfl, ⟨⟩⟩]
   exact XG.noU (t := 37) rfl rfl ⟨rfl, rfl, rfl⟩
  refine pD (fun W R z9 => ?_) ?_
  ·rw [eS (l := [(9, undef)]) ⟨z9 9 rfl, ⟨⟩⟩]
   exact XG.noU (t := 37) rfl rfl ⟨rfl, rfl, rfl⟩
  refine pD (fun W R z9 => ?_) ?_
  ·rw [eS (l := [(9, undef), (13, undef)]) ⟨z9 9 rfl, z9 13 rfl, ⟨⟩⟩]
   exact XG.noU (t := 37) rfl rfl ⟨rfl, rfl, rfl⟩
  refine pD (fun W R z9 => ?_) ?_
  ·rw [eS (l := [(9, undef), (14, undef)]) ⟨z9 9 rfl, z9 14 rfl, ⟨⟩⟩]
   exact XG.noU (t := 37) rfl rfl ⟨rfl, rfl, rfl⟩
  exact stepsP.nil
 intro W hphi
 rw [eS (l := [(4, _), (9, undef), (12, undef), (15, undef)]) ⟨(hphi 4 (by decide)), (hphi 9 (by decide)), (hphi 12 (by decide)), (hphi 15 (by decide)), ⟨⟩⟩]
 show XL _ _ _ _ _ _ _ (cellsH ub (arv :: bs) 174 :: L)
 refine XL.noU (t := 37) rfl rfl (qq (t := 32) rfl (vF h6) (cX (qP (.bool (false)) (vF h6) rfl (qb (jW rfl (qA (qc (qc (qa ?_)))))))))
 have hrx := hru1
 have hry := hru2
 have hnx := hn1
 have hny := hn2
 have hwx := hrx.w
 have hwy := hry.w
 have hxl := hrx.w.len
 have hyl := hry.w.len
 have hxg := hrx.w.geD (p := 0) (by omega)
 have hyg := hry.w.geD (p := 0) (by omega)
 have hbl := hb.len
 skip
 refine qd (v1) rfl (cX (qx 0 qf qC rfl rfl rfl hv1.slv (by omega) (Nat.mul_one _) (cX (qj jh rfl (hv1.rd (by omega)) (cX (qX rfl rfl (qb ?_)))))))
 refine qE (p := (u1.getD 0 0 : Int) < 0) rfl (fun h13 => ?_) (fun h13 => ?_)
 ·refine qc (qc (qa (qd (v2) rfl (cX (qx 0 qf qC rfl rfl rfl hv2.slv (by omega) (Nat.mul_one _) (cX (qj jh rfl (hv2.rd (by omega)) (cX (jV rfl rfl (qd (.bool (decide ((u2.getD 0 0 : Int) ≥ 0))) rfl ?_))))))))))
  by_cases h14 : (u2.getD 0 0 : Int) ≥ 0
  ·refine qs (t := 57) rfl (vT h14) (ql (ptr ub 0) rfl (qs (t := 57) rfl (vT h14) (ql (v1) rfl (qs (t := 57) rfl (vT h14) (qx 0 qf qC rfl rfl rfl hv1.slv (by omega) (Nat.mul_one _) (qs (t := 57) rfl (vT h14) (qj jh rfl (hv1.rd (by omega)) (qs (t := 57) rfl (vT h14) (ql (v2) rfl (qs (t := 57) rfl (vT h14) (XOp.build0 (bools (List.replicate 48 false)) runUnderlying184 ⟨_, sizeOf4⟩ zeroValue184 rfl (qs (t := 57) rfl (vT h14) (qY (bools (List.replicate 48 false)) rfl rfl ?_)))))))))))))
   intro b4
   have hl3 : (List.replicate 48 false).length = 48 := rfl
   have hx0 : u1.getD 0 0 < 0 := by omega
   obtain ⟨ρ9, hρ9⟩ := hb.acyc
   obtain ⟨k9, hk9⟩ := maxRank u2 ρ9
   refine jK (jg (A := [_])) ?_
   show XL _ _ _ _ _ _ _ (cellsH ub (arv :: bs) 174 :: cellsH b4 (bools ((List.replicate 48 false))) 184 :: L)
   refine qs (t := 57) rfl (vT h14) (qt (args := [ptr ub 0, ii (u1.getD 0 0), v2, ptr b4 0]) call110 rfl (occurs_spec k9 har hbc (by assumption) hv2 hσ hρ9 hx0 (hrx.top.resolve_left (by omega)) (fun m hm _ => hk9 m hm) (fun i hi => hry.w.geD hi) hyl.2 hl3 ClearM.nils) ?_)
   rintro _ _ _ _ ⟨s3, rfl, hs6, hm3, rfl, rfl⟩
   refine cX (qT (.bool (decide (u1.getD 0 0 ∈ ap σ u2))) (vT h14) rfl (qb ?_))
   refine qE (p := u1.getD 0 0 ∈ ap σ u2) rfl (fun h15 => ?_) (fun h15 => ?_)
   ·have hoy := h15
    refine qa ?_
    skip
    refine cX (qZ [] [] [] [] yb zeroValue179 rfl PlacesAre.nil rfl CellsAre.nil (cX (XOp.iface yb rfl (jK ((sC (sD sR))) (XL.panicI rfl ?_)))))
    exact .inr ⟨_, rfl, _, _, rfl, hbc, (occ_eq hb hσ hrx hry (by omega) (by omega) hoy), rfl⟩
   have hoy := h15
   refine qA (qc ?_)
   refine jL [cellsH ub (arv :: bs) 174, cellsH b4 (bools s3) 184] L 8 [] [[], [], [1], [2], [3], [], [0], [6]] (phiL [qe (ptr ub 0), qe v1, qe (.pointer (some (elemA v1 (0)))), qe (ii (u1.getD 0 0)), qe (ii ((-1) - (u1.getD 0 0))), qe v2, qe (ptr ub 0), qe (ptr ub 1)]) (ownL []) mixed rfl rfl (by kernel_rfl) ?_ ?_
   ·refine pD (fun W R z9 => ?_) ?_
    ·refine qg (ql (ptr ub 0) rfl ?_)
     exact ⟨rfl, rfl, rfl⟩
    refine pD (fun W R z9 => ?_) ?_
    ·refine qg (ql (v1) rfl ?_)
     exact ⟨rfl, rfl, rfl⟩
    refine pD (fun W R z9 => ?_) ?_
    ·rw [zA 1 (z9 1 rfl)]
     refine qg (qx 0 qf qC rfl rfl rfl hv1.slv (by omega) (Nat.mul_one _) ?_)
     exact ⟨rfl, rfl, rfl⟩
    refine pD (fun W R z9 => ?_) ?_
    ·rw [zA 2 (z9 2 rfl)]
     refine qg (qj jh rfl (hv1.rd (by omega)) ?_)
     exact ⟨rfl, rfl, rfl⟩
    refine pD (fun W R z9 => ?_) ?_
    ·rw [zA 3 (z9 3 rfl)]
     refine qg (jq ((-1) - (u1.getD 0 0)) rfl rfl (by omega) (by omega) ?_)
     exact ⟨rfl, rfl, rfl⟩
    refine pD (fun W R z9 => ?_) ?_
    ·refine qg (ql (v2) rfl ?_)
     exact ⟨rfl, rfl, rfl⟩
    refine pD (fun W R z9 => ?_) ?_
    ·rw [zA 0 (z9 0 rfl)]
     refine qg (qL rfl ?_)
     exact ⟨rfl, rfl, rfl⟩
    refine pD (fun W R z9 => ?_) ?_
    ·rw [zA 6 (z9 6 rfl)]
     refine qg (qn (1) jH rfl sizeOf172 (by decide) rfl rfl ?_)
     exact ⟨rfl, rfl, rfl⟩
    exact stepsP.nil
   intro W hphi
   rw [eS (l := [(4, _), (5, _), (7, _)]) ⟨(hphi 4 (by decide)), (hphi 5 (by decide)), (hphi 7 (by decide)), ⟨⟩⟩]
   show XL _ _ _ _ _ _ _ (cellsH ub (arv :: bs) 174 :: cellsH b4 (bools s3) 184 :: L)
   refine cX (jN (i := (-1) - (u1.getD 0 0)) (((-1) - (u1.getD 0 0)).toNat) (1 + (((-1) - (u1.getD 0 0)).toNat)) ya qr rfl rfl (by omega) (by omega) (by omega) (cX (jz [] _ (arv :: (bs.set (((-1) - (u1.getD 0 0)).toNat) v2)) qr rfl rfl (qy (qp hv2)) rfl (blt_1 (by have := CO.len hbc; (try simp only [List.length_set, List.length_replicate] at this ⊢) <;> omega)) set_1 ?_)))
   have hc5 := hbc.set (((-1) - (u1.getD 0 0)).toNat) hv2 (by rw [hny]; exact (decide_eq_false hry.w.ne).symm)
   refine qb (qw (qo (retEndP (L' := cellsH ub (arv :: ((bs.set (((-1) - (u1.getD 0 0)).toNat) v2))) 174 :: L) [] (.tuple #[]) (by exact .nil) rfl rF rF (sC (sD sR)) ?_)))
   exact ⟨_, _, rfl, hc5, (bind_eq hb hσ hrx hry (by omega) (by first | exact hoy | exact bind_var hσ hry (by omega) (by omega))), rfl⟩
  refine qq (t := 57) rfl (vF h14) (qq (t := 57) rfl (vF h14) (qq (t := 57) rfl (vF h14) (qq (t := 57) rfl (vF h14) (qq (t := 57) rfl (vF h14) (qq (t := 57) rfl (vF h14) (qq (t := 57) rfl (vF h14) (qq (t := 57) rfl (vF h14) (cX (qP (.bool (false)) (vF h14) rfl (qb ?_))))))))))
  refine jW rfl (qA (qc ?_))
  refine jL [cellsH ub (arv :: bs) 174] L 8 [] [[], [], [1], [2], [3], [], [0], [6]] (phiL [qe (ptr ub 0), qe v1, qe (.pointer (some (elemA v1 (0)))), qe (ii (u1.getD 0 0)), qe (ii ((-1) - (u1.getD 0 0))), qe v2, qe (ptr ub 0), qe (ptr ub 1)]) (ownL []) mixed rfl rfl (by kernel_rfl) ?_ ?_
  ·refine pD (fun W R z9 => ?_) ?_
   ·refine qg (ql (ptr ub 0) rfl ?_)
    exact ⟨rfl, rfl, rfl⟩
   refine pD (fun W R z9 => ?_) ?_
   ·refine qg (ql (v1) rfl ?_)
    exact ⟨rfl, rfl, rfl⟩
   refine pD (fun W R z9 => ?_) ?_
   ·rw [zA 1 (z9 1 rfl)]
    refine qg (qx 0 qf qC rfl rfl rfl hv1.slv (by omega) (Nat.mul_one _) ?_)
    exact ⟨rfl, rfl, rfl⟩
   refine pD (fun W R z9 => ?_) ?_
   ·rw [zA 2 (z9 2 rfl)]
    refine qg (qj jh rfl (hv1.rd (by omega)) ?_)
    exact ⟨rfl, rfl, rfl⟩
   refine pD (fun W R z9 => ?_) ?_
   ·rw [zA 3 (z9 3 rfl)]
    refine qg (jq ((-1) - (u1.getD 0 0)) rfl rfl (by omega) (by omega) ?_)
    exact ⟨rfl, rfl, rfl⟩
   refine pD (fun W R z9 => ?_) ?_
   ·refine qg (ql (v2) rfl ?_)
    exact ⟨rfl, rfl, rfl⟩
   refine pD (fun W R z9 => ?_) ?_
   ·rw [zA 0 (z9 0 rfl)]
    refine qg (qL rfl ?_)
    exact ⟨rfl, rfl, rfl⟩
   refine pD (fun W R z9 => ?_) ?_
   ·rw [zA 6 (z9 6 rfl)]
    refine qg (qn (1) jH rfl sizeOf172 (by decide) rfl rfl ?_)
    exact ⟨rfl, rfl, rfl⟩
   exact stepsP.nil
  intro W hphi
  rw [eS (l := [(4, _), (5, _), (7, _)]) ⟨(hphi 4 (by decide)), (hphi 5 (by decide)), (hphi 7 (by decide)), ⟨⟩⟩]
  show XL _ _ _ _ _ _ _ (cellsH ub (arv :: bs) 174 :: L)
  refine cX (jN (i := (-1) - (u1.getD 0 0)) (((-1) - (u1.getD 0 0)).toNat) (1 + (((-1) - (u1.getD 0 0)).toNat)) ya qr rfl rfl (by omega) (by omega) (by omega) (cX (jz [] _ (arv :: (bs.set (((-1) - (u1.getD 0 0)).toNat) v2)) qr rfl rfl (qy (qp hv2)) rfl (blt_1 (by have := CO.len hbc; (try simp only [List.length_set, List.length_replicate] at this ⊢) <;> omega)) set_1 ?_)))
  have hc6 := hbc.set (((-1) - (u1.getD 0 0)).toNat) hv2 (by rw [hny]; exact (decide_eq_false hry.w.ne).symm)
  refine qb (qw (qo (retEndP (L' := cellsH ub (arv :: ((bs.set (((-1) - (u1.getD 0 0)).toNat) v2))) 174 :: L) [] (.tuple #[]) (by exact .nil) rfl rF rF (sC sR) ?_)))
  exact ⟨_, _, rfl, hc6, (bind_eq hb hσ hrx hry (by omega) (by first | exact hoy | exact bind_var hσ hry (by omega) (by omega))), rfl⟩
 refine qA (qc (qc ?_))
 refine jL [cellsH ub (arv :: bs) 174] L 6 [] [[], [0], [1], [], [3], [4]] (phiL [qe v1, qe (.pointer (some (elemA v1 (0)))), qe (ii (u1.getD 0 0)), qe v2, qe (.pointer (some (elemA v2 (0)))), qe (ii (u2.getD 0 0))]) (ownL []) mixed rfl rfl (by kernel_rfl) ?_ ?_
 ·refine pD (fun W R z9 => ?_) ?_
  ·refine qg (ql (v1) rfl ?_)
   exact ⟨rfl, rfl, rfl⟩
  refine pD (fun W R z9 => ?_) ?_
  ·rw [zA 0 (z9 0 rfl)]
   refine qg (qx 0 qf qC rfl rfl rfl hv1.slv (by omega) (Nat.mul_one _) ?_)
   exact ⟨rfl, rfl, rfl⟩
  refine pD (fun W R z9 => ?_) ?_
  ·rw [zA 1 (z9 1 rfl)]
   refine qg (qj jh rfl (hv1.rd (by omega)) ?_)
   exact ⟨rfl, rfl, rfl⟩
  refine pD (fun W R z9 => ?_) ?_
  ·refine qg (ql (v2) rfl ?_)
   exact ⟨rfl, rfl, rfl⟩
  refine pD (fun W R z9 => ?_) ?_
  ·rw [zA 3 (z9 3 rfl)]
   refine qg (qx 0 qf qC rfl rfl rfl hv2.slv (by omega) (Nat.mul_one _) ?_)
   exact ⟨rfl, rfl, rfl⟩
  refine pD (fun W R z9 => ?_) ?_
  ·rw [zA 4 (z9 4 rfl)]
   refine qg (qj jh rfl (hv2.rd (by omega)) ?_)
   exact ⟨rfl, rfl, rfl⟩
  exact stepsP.nil
 intro W hphi
 rw [zB 2 5 (hphi 2 (by decide)) (hphi 5 (by decide))]
 show XL _ _ _ _ _ _ _ (cellsH ub (arv :: bs) 174 :: L)
 refine cX (XOp.neq rfl rfl (qb ?_))
 refine qE (p := (u1.getD 0 0 : Int) ≠ u2.getD 0 0) rfl (fun h16 => ?_) (fun h16 => ?_)
 ·refine qa ?_
  skip
  refine cX (qZ [] [] [] [] yb zeroValue179 rfl PlacesAre.nil rfl CellsAre.nil (cX (XOp.iface yb rfl (jK ((sC sR)) (XL.panicI rfl ?_)))))
  exact .inr ⟨_, rfl, _, _, rfl, hbc, (heads_ne hrx hry (by omega) (by omega) (by omega)), rfl⟩
 exfalso
 omega

theorem equate_spec (k N : Nat) : ∀ {F : FH} {L : List HP} {ub : Nat} {arv : Value} {ar : List Int} {bs : List Value} {bl : RowL} (har : IntsF F arv ar) (hbc : BindC F bs bl) (hb : BOk ar bl) {σ : Sbs} {av : Value} {a : List Int} (ha : IntsF F av a) {cv : Value} {c : List Int} (hc : IntsF F cv c) (hσ : Sol bl σ) (hoa : TermW ar a) (hoc : TermW ar c) (hna : isNil av = false) (hnc : isNil cv = false) (hk : unb bl ≤ k) (hN : (ap σ a).length ≤ N), DoesP prog 108 [ptr ub 0, av, cv] F (cellsH ub (arv :: bs) 174 :: L) (fun v F' L' => ∃ (b9 : List Value) (l9 : RowL), (.tuple #[] : Value) = v ∧ BindC F' b9 l9 ∧ Solves ar bl l9 (fun θ => ap θ a = ap θ c) ∧ cellsH ub (arv :: b9) 174 :: L = L') (fun ch F' L' => ∃ (b9 : List Value) (l9 : RowL), ch = [{ v := .iface 179 (.agg #[]), recovered := false }] ∧ BindC F' b9 l9 ∧ (∀ θ, GoodS ar θ → SatB bl θ → ap θ a ≠ ap θ c) ∧ cellsH ub (arv :: b9) 174 :: L = L') := by
  induction k using Nat.strongRecOn generalizing N with
  | _ k ihk =>
    induction N using Nat.strongRecOn with
    | _ N ihN =>
      intros
      refine equate_step (fun k1 N1 h => ?_) (by assumption) (by assumption) (by assumption) (by assumption) (by assumption) (by assumption) (by assumption) (by assumption) (by assumption) (by assumption) (by assumption) (by assumption)
      rcases h with h | ⟨rfl, h⟩
      · exact ihk k1 h N1
      · exact ihN N1 h


set_option maxRecDepth 20000 in
theorem solve_catch {F : FH} {L : List HP} {b : Nat} {x : Bool} {w : World} (H : Holds F (cellsH b [.bool x] 4 :: L) w) :
    CallsD prog 107 #[.pointer (some ⟨b, 0, none⟩)] (.panicking [{ v := .iface 179 (.agg #[]), recovered := false }]) w fun e u' w' =>
      e = .returned (.tuple #[]) ∧ u' = .panicking [{ v := .iface 179 (.agg #[]), recovered := true }] ∧ Holds F (cellsH b [.bool false] 4 :: L) w' := by
  refine callsD_of_wpS func107 rfl fun c₀ cs hu => ?_
  apply wpS_seq
  apply wpS_region
  simp [wpOpsS, go_sem, recoverD, hu, ntmps107, Exit.thenS]
  apply wpS_seq
  apply wpS_region
  simp [wpOpsS, go_sem, recoverD, hu, ntmps107, Exit.thenS]
  refine wpS_cond (t := true) (by simp [Act.eval, Array.replicate]) ?_
  simp only [if_true]
  refine wpS_of_wp (Code.wp_mono ?_ (wp_of_X (n := 15) (Q := fun e ρ F' L' => e = .normal ∧ Sub L' (cellsH b [.bool false] 4 :: L)) [(0, ptr b 0), (1, .iface 179 (.agg #[]))] (by simp) rfl ⟨by simp, by simp [Array.replicate], ⟨⟩⟩ rfl (fun rE => ?_) H))
  · rintro e a' w' ⟨ρ, F', L', r, le, H', rfl, s⟩
    exact ⟨r.defers, _, rfl, _, results_none rfl _ _ _, rfl, rfl, s.holds (H'.forget le)⟩
  · skip
    refine qc (qc (qa (qd ((.iface 179 (.agg #[]))) rfl (cX (XOp.assertOk yb rfl (qd (.tuple #[.agg #[], .bool (true)]) rfl (cX (qK (.agg #[]) rfl rfl (cX (qK (.bool (true)) rfl rfl (cX (je [] zeroValue179 rfl ?_))))))))))))
    intro b1
    refine cX (qI [] _ [] sizeOf179 rfl rfl rfl qO rfl rfl rfl (qh (.bool (true)) rfl (qb (qc (qa (qd (.bool (true)) rfl (cX (ju rfl (qb (jW rfl (qA (qa (cX (jz [_] _ [.bool (false)] sizeOf4 rfl rfl rfl rfl rfl rfl (qb ?_)))))))))))))))
    exact ⟨rfl, (sD (sC sR))⟩


theorem solve_idle {p : Value} {w : World} :
    CallsD prog 107 #[p] .returning w fun e u' w' => e = .returned (.tuple #[]) ∧ u' = .returning ∧ w' = w := by
  refine callsD_of_wpS func107 rfl fun c₀ cs hu => ?_
  apply wpS_seq
  apply wpS_region
  simp [wpOpsS, go_sem, recoverD, hu, ntmps107, Exit.thenS]
  apply wpS_seq
  apply wpS_region
  simp [wpOpsS, go_sem, recoverD, hu, ntmps107, Exit.thenS]
  refine wpS_cond (t := false) (by simp [Act.eval, Array.replicate]) ?_
  simp only [Bool.false_eq_true, if_false]
  refine wpS_of_wp (wp_skip ?_)
  cases c₀
  simp_all [bodyPostS, results, results107]


set_option maxRecDepth 20000 in
theorem solve_spec {F : FH} {L : List HP} {ub : Nat} {arv : Value} {ar : List Int} {bs : List Value} {bl : RowL} (har : IntsF F arv ar) (hbc : BindC F bs bl) (hb : BOk ar bl) {av : Value} {a : List Int} (ha : IntsF F av a) {cv : Value} {c : List Int} (hc : IntsF F cv c) (hoa : TermW ar a) (hoc : TermW ar c) (hna : isNil av = false) (hnc : isNil cv = false) :
    Does prog 100 [ptr ub 0, av, cv] F (cellsH ub (arv :: bs) 174 :: L) (fun v F' L' => ∃ (ok : Bool) (b9 : List Value) (l9 : RowL), (.bool ok : Value) = v ∧ BindC F' b9 l9 ∧ (ok = true → Solves ar bl l9 (fun θ => ap θ a = ap θ c)) ∧ (ok = false → ∀ θ, GoodS ar θ → SatB bl θ → ap θ a ≠ ap θ c) ∧ cellsH ub (arv :: b9) 174 :: L = L') := by
  obtain ⟨σ, hσ⟩ := hb.sol
  intro w H
  have hmf : ∀ (fn : Go.Fn) (first cap : Array Value) (w : World), (Instr.makeFunc fn first cap).run prog w = .ok (.func fn first cap) w := fun _ _ _ _ => rfl
  refine (?_ : ∀ R : Ending → World → Prop, (∀ v F' L' w', F ≤ F' → Holds F' L' w' → (∃ (ok : Bool) (b9 : List Value) (l9 : RowL), (.bool ok : Value) = v ∧ BindC F' b9 l9 ∧ (ok = true → Solves ar bl l9 (fun θ => ap θ a = ap θ c)) ∧ (ok = false → ∀ θ, GoodS ar θ → SatB bl θ → ap θ a ≠ ap θ c) ∧ cellsH ub (arv :: b9) 174 :: L = L') → R (.returned v) w') → Calls prog 100 #[ptr ub 0, av, cv] w R) _ fun v F' L' w' le H' q => ⟨v, F', L', rfl, le, H', q⟩
  intro R hR
  go_enter_defers func100, ntmps100
  refine wp_seq (wp_region_lit (wpList_one rfl ?_))
  simp only [Oper.wp, execOp]
  simp [wpList, go_sem, Exit.then]
  refine wp_seq (wp_region_lit (wpList_one rfl ?_))
  simp [go_sem, hmf]
  refine wpList_one rfl ?_
  simp [go_sem, hmf]
  show Code.wp _ _ _ _ _
  refine wp_seq (wp_region_lit (wpList_one rfl ?_))
  simp [go_sem]
  refine wpList_one rfl ?_
  simp [go_sem]
  refine wpList_one rfl ?_
  simp [go_sem]
  refine wpList_one rfl ?_
  simp [go_sem, Oper.upon]
  have H1 : Holds F (cellsH w.heap.size [.bool false] 4 :: cellsH ub (arv :: bs) 174 :: L) (w.alloc (.cells #[.bool false] 4)) := H.new _
  have H2 : Holds F (cellsH ub (arv :: bs) 174 :: cellsH w.heap.size [.bool false] 4 :: L) (w.alloc (.cells #[.bool false] 4)) := (Sub.perm (List.Perm.swap ..)).holds H1
  refine (equate_spec _ _ har hbc hb ha hc hσ hoa hoc hna hnc (Nat.le_refl _) (Nat.le_refl _) _ H2).mono ?_
  rintro e w2 (⟨v, F2, L2, rfl, le, H3, b9, l9, rfl, hb9, hso, rfl⟩ | ⟨ch, F2, L2, rfl, le, H3, b9, l9, rfl, hb9, hne, rfl⟩)
  · show Code.wp _ _ _ _ _
    refine wp_seq (wp_region_lit (wpList_one rfl (wp_XOp_raw (F := F2) (K := fun v F' L' => F' = F2 ∧ L' = [cellsH ub (arv :: b9) 174] ++ cellsH w.heap.size [.bool true] 4 :: L) (jz (b := w.heap.size) (o := 0) (v := .bool true) [_] _ [.bool true] sizeOf4 rfl rfl rfl rfl rfl rfl ⟨rfl, rfl⟩) H3 ?_)))
    rintro v F' L' w3 _ H4 ⟨rfl, rfl⟩
    show Code.wp _ _ _ _ _
    refine wp_ret ?_
    show Leaves _ _ _ _ _ _ _
    refine leaves_cons (f := 107) (args := #[.pointer (some ⟨w.heap.size, 0, none⟩)]) (by simp) (by simp [go_sem]) (solve_idle.mono ?_)
    rintro e u' w'' ⟨rfl, rfl, rfl⟩
    have hcell : w''.cell? ⟨w.heap.size, 0, none⟩ = some (.bool true) := cell_of_heap H4.getCells rfl
    exact ⟨.bool true, by simp [results, results100, go_sem, hcell], hR (.bool true) F' _ _ le ((sC (sD sR)).holds H4) ⟨true, b9, l9, rfl, hb9, fun _ => hso, fun h => (by cases h), rfl⟩⟩
  · show Leaves _ _ _ _ _ _ _
    refine leaves_cons (f := 107) (args := #[.pointer (some ⟨w.heap.size, 0, none⟩)]) (by simp) (by simp [go_sem]) ?_
    have H3' := (Sub.perm (List.Perm.swap ..)).holds H3
    refine (solve_catch H3').mono ?_
    rintro e u' w3 ⟨rfl, rfl, H4⟩
    have hcell : w3.cell? ⟨w.heap.size, 0, none⟩ = some (.bool false) := cell_of_heap (H4.getCells (A := [])) rfl
    exact ⟨.bool false, by simp [results, results100, go_sem, hcell], hR (.bool false) F2 _ _ le ((sD sR).holds H4) ⟨false, b9, l9, rfl, hb9, fun h => (by cases h), fun _ => hne, rfl⟩⟩


/- (*impl.unifier).resolve -/
set_option maxHeartbeats 1000000 in
theorem resolve_step {k : Nat} (ih : ∀ k9 : Nat, k9 < k → ∀ {F : FH} {L : List HP} {ub : Nat} {arv : Value} {ar : List Int} {bs : List Value} {bl : RowL} (har : IntsF F arv ar) (hbc : BindC F bs bl) (hb : BOk ar bl) {σ : Sbs} {ρ : Int → Nat} {ov : Value} {os : List Int} {tv : Value} {t : List Int} (ht : IntsF F tv t) (hov : IsSl ov) (hol : os.length ≤ 60) (hσ : Sol bl σ) (hρ : Acyc bl ρ) (htk : ∀ m ∈ t, m < 0 → ρ m < k9) (htg : ∀ i, i < t.length → -48 ≤ t.getD i 0) (htl : t.length ≤ 60), Does prog 86 [ptr ub 0, ov, tv] F (intsH 2 ov os :: cellsH ub (arv :: bs) 174 :: L) (fun v F' L' => ∃ a9 : Value, (.tuple #[a9, .bool (resOk σ os t)] : Value) = v ∧ IsSl a9 ∧ F = F' ∧ intsH 2 a9 ((resX σ os t)) :: cellsH ub (arv :: bs) 174 :: L = L')) {F : FH} {L : List HP} {ub : Nat} {arv : Value} {ar : List Int} {bs : List Value} {bl : RowL} (har : IntsF F arv ar) (hbc : BindC F bs bl) (hb : BOk ar bl) {σ : Sbs} {ρ : Int → Nat} {ov : Value} {os : List Int} {tv : Value} {t : List Int} (ht : IntsF F tv t) (hov : IsSl ov) (hol : os.length ≤ 60) (hσ : Sol bl σ) (hρ : Acyc bl ρ) (htk : ∀ m ∈ t, m < 0 → ρ m < k) (htg : ∀ i, i < t.length → -48 ≤ t.getD i 0) (htl : t.length ≤ 60) :
    Does prog 86 [ptr ub 0, ov, tv] F (intsH 2 ov os :: cellsH ub (arv :: bs) 174 :: L) (fun v F' L' => ∃ a9 : Value, (.tuple #[a9, .bool (resOk σ os t)] : Value) = v ∧ IsSl a9 ∧ F = F' ∧ intsH 2 a9 ((resX σ os t)) :: cellsH ub (arv :: bs) 174 :: L = L') := by
 refine qH func86 rfl rfl rfl ?_
 have hbl := hb.len
 refine qc (qa (qh (sN) rfl (qh (.bool (false)) rfl (qb (qc (qc (qa (qd (tv) rfl (cX (qG qf rfl ht.slv (qd (ii (0)) rfl (qb (qJ (jv (α := Nat × Value × List Int) (fun xQ => [(0, ptr ub 0), (1, xQ.2.1), (11, tv), (12, ii ((t.length : Int))), (13, ii (((xQ.1 : Nat) : Int)))]) (fun xQ => intsH 2 xQ.2.1 xQ.2.2 :: cellsH ub (arv :: bs) 174 :: L) (fun xQ F' => F = F' ∧ (IsSl xQ.2.1) ∧ (xQ.1 ≤ t.length) ∧ (xQ.2.2 = os ++ ap σ (t.take xQ.1)) ∧ (xQ.2.2.length ≤ 60)) (fun xQ => t.length - xQ.1) (0, ov, os) ⟨rfl, rfl, rfl, rfl, rfl, ⟨⟩⟩ (sC (sC sR)) ⟨rfl, (hov), (by (try dsimp only) <;> omega), (by simp [ap]), (hol)⟩ ?_))))))))))))))
 rintro ⟨j, wv, ws⟩ rE _ _ ⟨rfl, hwv, hj, hws, hwl⟩
 show X _ _ _ _ (envs [(0, ptr ub 0), (1, wv), (11, tv), (12, ii ((t.length : Int))), (13, ii ((j : Int)))] rE) _ (intsH 2 wv ws :: cellsH ub (arv :: bs) 174 :: L)
 dsimp only at hwv hj hws hwl
 have hgj := fun h : j < t.length => htg j h
 have hwl2 : ws.length = os.length + (ap σ (t.take j)).length := by rw [hws, List.length_append]
 refine qc (qa (cX (qX rfl rfl (qb (qc ?_)))))
 refine qE (p := (j : Int) < (t.length : Int)) rfl (fun h1 => ?_) (fun h1 => ?_)
 ·refine qA (qc (qJ (qc (qa (cX (qx j qf qC rfl rfl rfl ht.slv (by omega) (Nat.mul_one _) (cX (qj jh rfl (ht.rd (by omega)) (qh (ii (t.getD j 0)) rfl (qb (qc (qc (qa (qd (ii (t.getD j 0)) rfl (cX (qX rfl rfl (qd (.bool (decide ((t.getD j 0 : Int) < 0))) rfl ?_)))))))))))))))))
  by_cases h2 : (t.getD j 0 : Int) < 0
  ·have hj0 : t.getD j 0 < 0 := h2
   have hgj2 := hgj (by omega)
   have hrj := htk _ (mem_of_getD (k := j) (by omega) rfl) hj0
   refine qs (t := 19) rfl (vT h2) (ql (ptr ub 0) rfl (qs (t := 19) rfl (vT h2) (ql (ii (t.getD j 0)) rfl (qs (t := 19) rfl (vT h2) (jq ((-1) - (t.getD j 0)) rfl rfl (by omega) (by omega) (qs (t := 19) rfl (vT h2) (qL rfl (qs (t := 19) rfl (vT h2) (qn (1) jH rfl sizeOf172 (by decide) rfl rfl (qs (t := 19) rfl (vT h2) (jN (i := (-1) - (t.getD j 0)) (((-1) - (t.getD j 0)).toNat) (1 + (((-1) - (t.getD j 0)).toNat)) ya qr rfl rfl (by omega) (by omega) (by omega) ?_)))))))))))
   obtain ⟨a1, ha1, hn1, he1⟩ := hbc.get (i := ((-1) - (t.getD j 0)).toNat) (by omega)
   refine qs (t := 19) rfl (vT h2) (qj qN rfl (Rd.own [_] rfl (get_1 he1)) (qs (t := 19) rfl (vT h2) (XOp.neNil qf rfl rfl (qp ha1) (cX (qT (.bool (!isNil a1)) (vT h2) rfl (qb ?_))))))
   refine jG (t := !isNil a1) rfl (fun h3 => ?_) (fun h3 => ?_)
   ·have hbn := ne_of_notNil hn1 h3
    have hnb : isNil a1 = false := by rw [hn1]; exact decide_eq_false hbn
    have hlj : lkN bl (t.getD j 0) ≠ [] := by rw [lkN_get hj0]; exact hbn
    have hwj := hb.wt _ hj0 hlj
    rw [lkN_get hj0] at hwj
    have hsj : σ (t.getD j 0) = ap σ (bl.getD (varIx (t.getD j 0)) []) := by rw [hσ.bound hlj, lkN_get hj0]
    refine qc (qa (qh (.bool (false)) rfl (qb (qc (qc (qa (qd (ptr ub 0) rfl (qd (wv) rfl (qd (ptr ub 0) rfl (qd (ii (t.getD j 0)) rfl (cX (jq ((-1) - (t.getD j 0)) rfl rfl (by omega) (by omega) (cX (qL rfl (cX (qn (1) jH rfl sizeOf172 (by decide) rfl rfl ?_))))))))))))))))
    refine cX (jN (i := (-1) - (t.getD j 0)) (((-1) - (t.getD j 0)).toNat) (1 + (((-1) - (t.getD j 0)).toNat)) ya qr rfl rfl (by omega) (by omega) (by omega) (cX (qj qN rfl (Rd.own [_] rfl (get_1 he1)) (jK (jg (A := [_])) ?_))))
    show XL _ _ _ _ _ _ _ (cellsH ub (arv :: bs) 174 :: intsH 2 wv ws :: L)
    refine jK (jg (A := [_])) ?_
    show XL _ _ _ _ _ _ _ (intsH 2 wv ws :: cellsH ub (arv :: bs) 174 :: L)
    refine cX (qt (args := [ptr ub 0, wv, a1]) call86 rfl (ih _ hrj har hbc (by assumption) (os := ws) ha1 hwv hwl hσ hρ (fun m hm h0 => hρ _ hj0 m (by rw [lkN_get hj0]; exact hm) h0) (fun i hi => hwj.geD hi) hwj.len.2) ?_)
    rintro _ _ _ _ ⟨v1, rfl, hs1, rfl, rfl⟩
    refine qd (.tuple #[v1, .bool (resOk σ ws ((bl.getD (((-1) - (t.getD j 0)).toNat) [])))]) rfl (cX (qK (v1) rfl rfl (cX (qK (.bool (resOk σ ws ((bl.getD (((-1) - (t.getD j 0)).toNat) [])))) rfl rfl (qh (v1) rfl (qh (.bool (resOk σ ws ((bl.getD (((-1) - (t.getD j 0)).toNat) [])))) rfl (qb (qc (qa (qd (.bool (resOk σ ws ((bl.getD (((-1) - (t.getD j 0)).toNat) [])))) rfl (cX (ju rfl (qb ?_)))))))))))))
    refine jG (t := !(resOk σ ws ((bl.getD (((-1) - (t.getD j 0)).toNat) [])))) rfl (fun h4 => ?_) (fun h4 => ?_)
    ·have hro : resOk σ ws (bl.getD (varIx (t.getD j 0)) []) = false := Bool.not_inj (y := false) h4
     have hrn := of_decide_eq_false hro
     refine qc (qa (qh (sN) rfl (qh (.bool (false)) rfl (qb (qw (qo (qo (qF (qo (qo (qF (qo (qu (L' := intsH 2 (sN) ([]) :: cellsH ub (arv :: bs) 174 :: L) [sN, .bool (false)] (.tuple #[sN, .bool (false)]) (.tmp rfl (.tmp rfl .nil)) rfl rF rF (qW (intsH.addNil 2 none _) (sC (sD (sC sR)))) ?_)))))))))))))
     have e9 : resOk σ os t = false := res_no (j := j) (by omega) (by rw [hsj]; first | omega | (rw [List.length_singleton]; omega))
     have e8 : resX σ os t = [] := by unfold resX; rw [if_neg (by rw [e9]; simp)]
     rw [e9, e8]
     exact ⟨_, rfl, ⟨_, _, _, rfl⟩, rfl, rfl⟩
    have hro : resOk σ ws (bl.getD (varIx (t.getD j 0)) []) = true := Bool.not_inj (y := true) h4
    have hrn := of_decide_eq_true hro
    have hnext : resX σ ws (bl.getD (varIx (t.getD j 0)) []) = ws ++ σ (t.getD j 0) := by unfold resX; rw [if_pos hro, hsj]
    have hnlen : (resX σ ws (bl.getD (varIx (t.getD j 0)) [])).length ≤ 60 := by rw [hnext, List.length_append, hsj]; exact hrn
    refine qA (jn (qz (qR (qa (cX (qM (((j + 1 : Nat) : Int)) rfl rfl (by omega) (by omega) (qd (ii (((j + 1 : Nat) : Int))) rfl (qb ?_))))))))
    exact ⟨(j + 1, v1, (resX σ ws ((bl.getD (((-1) - (t.getD j 0)).toNat) [])))), _, FLe.refl _, rF, ⟨rfl, rfl, rfl, rfl, rfl, ⟨⟩⟩, (sC (sC sR)), ⟨rfl, (hs1), (by (try dsimp only) <;> omega), (by (try dsimp only); rw [ap_take (by omega), ← List.append_assoc, ← hws]; exact hnext), (by (try dsimp only); exact hnlen)⟩, (by omega)⟩
   have hbe := eq_of_isNil hn1 h3
   have hsj : σ (t.getD j 0) = [(t.getD j 0)] := hσ.free (by rw [lkN_get hj0]; exact hbe)
   refine qA (qc (qc (qa (qd (wv) rfl (cX (qG qf rfl (intsH.slv [] rfl) (cX (jo rfl rfl (qb ?_)))))))))
   refine qE (p := ((ws.length : Int) : Int) = 60) rfl (fun h5 => ?_) (fun h5 => ?_)
   ·refine qc (qa (qh (sN) rfl (qh (.bool (false)) rfl (qb (qw (qo (qF (qo (qo (qF (qo (qu (L' := intsH 2 (sN) ([]) :: cellsH ub (arv :: bs) 174 :: L) [sN, .bool (false)] (.tuple #[sN, .bool (false)]) (.tmp rfl (.tmp rfl .nil)) rfl rF rF (qW (intsH.addNil 2 none _) (sC (sD (sC sR)))) ?_))))))))))))
    have e9 : resOk σ os t = false := res_no (j := j) (by omega) (by rw [hsj]; first | omega | (rw [List.length_singleton]; omega))
    have e8 : resX σ os t = [] := by unfold resX; rw [if_neg (by rw [e9]; simp)]
    rw [e9, e8]
    exact ⟨_, rfl, ⟨_, _, _, rfl⟩, rfl, rfl⟩
   have hnext : ws ++ [(t.getD j 0)] = ws ++ σ (t.getD j 0) := by rw [hsj]
   have hnlen : (ws ++ [(t.getD j 0)]).length ≤ 60 := by rw [List.length_append, List.length_singleton]; omega
   refine qA (qa (qd (wv) rfl (qd (ii (t.getD j 0)) rfl (cX (qD (s := 1) [ii (t.getD j 0)] [ii (0)] [(0, [ii (t.getD j 0)])] qf qC jj rfl (by decide) rfl (.cons rfl CellsAre.nil) rfl ?_)))))
   intro v2 hv1
   refine cX (XOp.append1 (u := t.getD j 0) [_] _ qf typeInfo2 rfl rfl rfl rfl rfl rfl (SlV.own [] rfl) (Rd.sl [] rfl rfl) (by (try simp only [List.length_append, List.length_nil, List.length_cons, List.length_singleton, List.length_take, List.length_drop]); omega) ?_)
   intro v3 hs2 hn2
   refine qh (v3) rfl (qb (qa (cX (qM (((j + 1 : Nat) : Int)) rfl rfl (by omega) (by omega) (qd (ii (((j + 1 : Nat) : Int))) rfl (qb ?_))))))
   exact ⟨(j + 1, v3, ws ++ [t.getD j 0]), _, FLe.refl _, rF, ⟨rfl, rfl, rfl, rfl, rfl, ⟨⟩⟩, (sD (sC (sC sR))), ⟨rfl, (hs2), (by (try dsimp only) <;> omega), (by (try dsimp only); rw [ap_take (by omega), ← List.append_assoc, ← hws]; exact hnext), (by (try dsimp only); exact hnlen)⟩, (by omega)⟩
  have hsj : σ (t.getD j 0) = [(t.getD j 0)] := hσ.sym (by omega)
  refine qq (t := 19) rfl (vF h2) (qq (t := 19) rfl (vF h2) (qq (t := 19) rfl (vF h2) (qq (t := 19) rfl (vF h2) (qq (t := 19) rfl (vF h2) (qq (t := 19) rfl (vF h2) (qq (t := 19) rfl (vF h2) (qq (t := 19) rfl (vF h2) (cX (qP (.bool (false)) (vF h2) rfl (qb ?_))))))))))
  refine jW rfl (qA (qc (qc (qa (qd (wv) rfl (cX (qG qf rfl (intsH.slv [] rfl) (cX (jo rfl rfl (qb ?_))))))))))
  refine qE (p := ((ws.length : Int) : Int) = 60) rfl (fun h6 => ?_) (fun h6 => ?_)
  ·refine qc (qa (qh (sN) rfl (qh (.bool (false)) rfl (qb (qw (qo (qF (qo (qo (qF (qo (qu (L' := intsH 2 (sN) ([]) :: cellsH ub (arv :: bs) 174 :: L) [sN, .bool (false)] (.tuple #[sN, .bool (false)]) (.tmp rfl (.tmp rfl .nil)) rfl rF rF (qW (intsH.addNil 2 none _) (sC (sD (sC sR)))) ?_))))))))))))
   have e9 : resOk σ os t = false := res_no (j := j) (by omega) (by rw [hsj]; first | omega | (rw [List.length_singleton]; omega))
   have e8 : resX σ os t = [] := by unfold resX; rw [if_neg (by rw [e9]; simp)]
   rw [e9, e8]
   exact ⟨_, rfl, ⟨_, _, _, rfl⟩, rfl, rfl⟩
  have hnext : ws ++ [(t.getD j 0)] = ws ++ σ (t.getD j 0) := by rw [hsj]
  have hnlen : (ws ++ [(t.getD j 0)]).length ≤ 60 := by rw [List.length_append, List.length_singleton]; omega
  refine qA (qa (qd (wv) rfl (qd (ii (t.getD j 0)) rfl (cX (qD (s := 1) [ii (t.getD j 0)] [ii (0)] [(0, [ii (t.getD j 0)])] qf qC jj rfl (by decide) rfl (.cons rfl CellsAre.nil) rfl ?_)))))
  intro v4 hv2
  refine cX (XOp.append1 (u := t.getD j 0) [_] _ qf typeInfo2 rfl rfl rfl rfl rfl rfl (SlV.own [] rfl) (Rd.sl [] rfl rfl) (by (try simp only [List.length_append, List.length_nil, List.length_cons, List.length_singleton, List.length_take, List.length_drop]); omega) ?_)
  intro v5 hs3 hn3
  refine qh (v5) rfl (qb (qa (cX (qM (((j + 1 : Nat) : Int)) rfl rfl (by omega) (by omega) (qd (ii (((j + 1 : Nat) : Int))) rfl (qb ?_))))))
  exact ⟨(j + 1, v5, ws ++ [t.getD j 0]), _, FLe.refl _, rF, ⟨rfl, rfl, rfl, rfl, rfl, ⟨⟩⟩, (sD (sC (sC sR))), ⟨rfl, (hs3), (by (try dsimp only) <;> omega), (by (try dsimp only); rw [ap_take (by omega), ← List.append_assoc, ← hws]; exact hnext), (by (try dsimp only); exact hnlen)⟩, (by omega)⟩
 refine jn (qz (qz (qR (qc (qa (qd (wv) rfl (qh (wv) rfl (qh (.bool (true)) rfl (qb (qw (qu (L' := intsH 2 wv ws :: cellsH ub (arv :: bs) 174 :: L) [wv, .bool (true)] (.tuple #[wv, .bool (true)]) (.tmp rfl (.tmp rfl .nil)) rfl rF rF (sC (sC sR)) ?_)))))))))))
 obtain ⟨e9, e8⟩ := res_end (σ := σ) (os := os) (t := t) (j := j) (by omega) (by omega)
 rw [e9, e8, ← hws]
 exact ⟨_, rfl, hwv, rfl, rfl⟩

theorem resolve_spec (k : Nat) : ∀ {F : FH} {L : List HP} {ub : Nat} {arv : Value} {ar : List Int} {bs : List Value} {bl : RowL} (har : IntsF F arv ar) (hbc : BindC F bs bl) (hb : BOk ar bl) {σ : Sbs} {ρ : Int → Nat} {ov : Value} {os : List Int} {tv : Value} {t : List Int} (ht : IntsF F tv t) (hov : IsSl ov) (hol : os.length ≤ 60) (hσ : Sol bl σ) (hρ : Acyc bl ρ) (htk : ∀ m ∈ t, m < 0 → ρ m < k) (htg : ∀ i, i < t.length → -48 ≤ t.getD i 0) (htl : t.length ≤ 60), Does prog 86 [ptr ub 0, ov, tv] F (intsH 2 ov os :: cellsH ub (arv :: bs) 174 :: L) (fun v F' L' => ∃ a9 : Value, (.tuple #[a9, .bool (resOk σ os t)] : Value) = v ∧ IsSl a9 ∧ F = F' ∧ intsH 2 a9 ((resX σ os t)) :: cellsH ub (arv :: bs) 174 :: L = L') := by
  induction k using Nat.strongRecOn with
  | _ k ih =>
    intros
    exact resolve_step ih (by assumption) (by assumption) (by assumption) (by assumption) (by assumption) (by assumption) (by assumption) (by assumption) (by assumption) (by assumption) (by assumption)


/- impl.away -/
theorem away_spec {F : FH} {L : List HP} {tv : Value} {t : List Int} (ht : IntsF F tv t) (hlt : t.length ≤ 4000000) (htg : ∀ i, i < t.length → -4000000 ≤ t.getD i 0) :
    Does prog 87 [tv] F (L) (fun v F' L' => F = F' ∧ IsSl v ∧ intsH 2 v (awayL t) :: L = L') := by
 refine qH func87 rfl rfl rfl (qc (qa (qh (sN) rfl (qb (qc (qa (qd (tv) rfl (cX (qt (args := [tv]) call35 rfl (Clone_spec ht (hlt := (by first | assumption | rfl | omega | simp))) ?_)))))))))
 rintro v1 _ _ _ ⟨rfl, hs1, rfl⟩
 refine qh (v1) rfl (qb (qc (qc (qa (qd (v1) rfl (cX (qG qf rfl (intsH.slv [] rfl) (qd (ii (0)) rfl (qb (qJ (jv (α := Nat × List Int) (fun xQ => [(3, v1), (8, v1), (9, ii (((((t)).length : Nat) : Int))), (10, ii (((xQ.1 : Nat) : Int)))]) (fun xQ => intsH 2 v1 xQ.2 :: L) (fun xQ F' => F = F' ∧ (xQ.1 ≤ t.length) ∧ (xQ.2 = awayL (t.take xQ.1) ++ t.drop xQ.1)) (fun xQ => t.length - xQ.1) (0, t) ⟨rfl, rfl, rfl, rfl, ⟨⟩⟩ (sC sR) ⟨rfl, (by (try dsimp only) <;> omega), (by simp [awayL])⟩ ?_)))))))))))
 rintro ⟨k, ws⟩ rE _ _ ⟨rfl, hk, hws⟩
 show X _ _ _ _ (envs [(3, v1), (8, v1), (9, ii (((((t)).length : Nat) : Int))), (10, ii ((k : Int)))] rE) _ (intsH 2 v1 ws :: L)
 dsimp only at hk hws
 have hwl : ws.length = t.length := by rw [hws]; simp [awayL]; omega
 have hgk := htg k
 have hwk : k < t.length → ws.getD k 0 = t.getD k 0 := fun h => by rw [hws]; exact away_at h
 refine qc (qa (cX (qX rfl rfl (qb (qc ?_)))))
 refine qE (p := (k : Int) < ((((t)).length : Nat) : Int)) rfl (fun h1 => ?_) (fun h1 => ?_)
 ·refine qA (qc (qJ (qc (qa (qd (ii ((k : Int))) rfl (cX (qx k qf qC rfl rfl rfl (intsH.slv [] rfl) (by omega) (Nat.mul_one _) (cX (qj jh rfl (intsH.rd [] rfl (by omega)) (qh (ii ((k : Int))) rfl (qh (ii (ws.getD k 0)) rfl (qb (qc (qa (qd (ii (ws.getD k 0)) rfl (cX (qX rfl rfl (qb ?_))))))))))))))))))
  refine qE (p := (ws.getD k 0 : Int) < 0) rfl (fun h2 => ?_) (fun h2 => ?_)
  ·refine qa (qd (v1) rfl (qd (ii ((k : Int))) rfl (qd (ii (ws.getD k 0)) rfl (cX (jq ((ws.getD k 0) - 24) rfl rfl (by omega) (by omega) (cX (qx k qf qC rfl rfl rfl (intsH.slv [] rfl) (by omega) (Nat.mul_one _) (cX (intsH.storeX (i := k) (v := v1) [] _ (ws.set k ((ws.getD k 0) - 24)) qC rfl rfl rfl (by omega) rfl (qb (qa (cX (qM (((k + 1 : Nat) : Int)) rfl rfl (by omega) (by omega) (qd (ii (((k + 1 : Nat) : Int))) rfl ?_))))))))))))))
   refine qb ?_
   exact ⟨(k + 1, (ws.set k ((ws.getD k 0) - 24))), _, FLe.refl _, rF, ⟨rfl, rfl, rfl, rfl, ⟨⟩⟩, (sC sR), ⟨rfl, (by (try dsimp only) <;> omega), (away_next (by omega) hws (by first | (right; exact ⟨rfl, by omega⟩) | (left; exact ⟨by rw [hwk (by omega)], by omega⟩)))⟩, (by omega)⟩
  refine qA (qa (cX (qM (((k + 1 : Nat) : Int)) rfl rfl (by omega) (by omega) (qd (ii (((k + 1 : Nat) : Int))) rfl (qb ?_)))))
  exact ⟨(k + 1, ws), _, FLe.refl _, rF, ⟨rfl, rfl, rfl, rfl, ⟨⟩⟩, (sC sR), ⟨rfl, (by (try dsimp only) <;> omega), (away_next (by omega) hws (by first | (right; exact ⟨rfl, by omega⟩) | (left; exact ⟨by rw [hwk (by omega)], by omega⟩)))⟩, (by omega)⟩
 refine jn (qz (qz (qR (qc (qa (qd (v1) rfl (qh (v1) rfl (qb (qw (qu (L' := intsH 2 v1 ws :: L) [v1] (v1) (.tmp rfl .nil) rfl rF rF (sC sR) ?_))))))))))
 refine ⟨rfl, hs1, ?_⟩
 have hxs : (awayL t : List Int) = ws := by rw [hws, show k = t.length from by omega]; simp
 exact congrArg (fun z => intsH 2 _ z :: L) hxs

/- impl.overlap -/
set_option maxHeartbeats 1000000 in
set_option maxRecDepth 20000 in
theorem overlap_spec {F : FH} {L : List HP} {arv : Value} {ar : List Int} (har : IntsF F arv ar) {rsv : Value} {rs : List (List Int × List Int)} (hrs : PairsF F rsv rs) {o : Nat} {p : Nat} {u : Nat} (hsys : sysOk ar rs = true) (ho : o < rs.length) (hu : u < rs.length) (hp : p < (rs.getD o ([], [])).1.length) :
    Does prog 85 [.agg #[arv, rsv], ii ((o : Int)), ii ((p : Int)), ii ((u : Int))] F (L) (fun v F' L' => ((.tuple #[.pointer none, .bool false] : Value) = v ∧ meetB ar rs o p u = false ∧ L = L') ∨ (∃ b7 : Nat, (.tuple #[ptr b7 0, .bool false] : Value) = v ∧ meetB ar rs o p u = false ∧ L = L') ∨ (∃ (b7 : Nat) (b9 : List Value) (l9 : RowL), (.tuple #[ptr b7 0, .bool true] : Value) = v ∧ meetB ar rs o p u = true ∧ BindC F' b9 l9 ∧ MguP ar rs o p u l9 ∧ cellsH b7 (arv :: b9) 174 :: L = L')) := by
 refine qH func85 rfl rfl rfl ?_
 have hlo : termOk ar (rs.getD o ([], [])).1 = true := rule_L hsys ho
 have hllo : 1 ≤ (rs.getD o ([], [])).1.length ∧ (rs.getD o ([], [])).1.length ≤ 60 := termOk_len hlo
 have hglo : ∀ k, k < (rs.getD o ([], [])).1.length → -24 ≤ (rs.getD o ([], [])).1.getD k 0 := fun k h => termOk_ge hlo h
 have hlu : termOk ar (rs.getD u ([], [])).1 = true := rule_L hsys hu
 have hllu : 1 ≤ (rs.getD u ([], [])).1.length ∧ (rs.getD u ([], [])).1.length ≤ 60 := termOk_len hlu
 have hglu : ∀ k, k < (rs.getD u ([], [])).1.length → -24 ≤ (rs.getD u ([], [])).1.getD k 0 := fun k h => termOk_ge hlu h
 have hro : termOk ar (rs.getD o ([], [])).2 = true := rule_R hsys ho
 have hlro : 1 ≤ (rs.getD o ([], [])).2.length ∧ (rs.getD o ([], [])).2.length ≤ 60 := termOk_len hro
 have hgro : ∀ k, k < (rs.getD o ([], [])).2.length → -24 ≤ (rs.getD o ([], [])).2.getD k 0 := fun k h => termOk_ge hro h
 have hru : termOk ar (rs.getD u ([], [])).2 = true := rule_R hsys hu
 have hlru : 1 ≤ (rs.getD u ([], [])).2.length ∧ (rs.getD u ([], [])).2.length ≤ 60 := termOk_len hru
 have hgru : ∀ k, k < (rs.getD u ([], [])).2.length → -24 ≤ (rs.getD u ([], [])).2.getD k 0 := fun k h => termOk_ge hru h
 have hrl := (sysOk_iff.1 hsys).2.1
 have hsig := (sysOk_iff.1 hsys).1
 have hsl := sigOk_spec hsig
 refine qc (qa (cX (qY [arv, rsv] rfl rfl ?_)))
 intro b1
 refine qh ((.pointer none)) rfl (qh (.bool (false)) rfl (qb (qc (qc (qa (qd (ii ((o : Int))) rfl (qd (ii ((u : Int))) rfl (cX (jo rfl rfl (qd (.bool (decide ((o : Int) = (u : Int)))) rfl ?_))))))))))
 by_cases h1 : (o : Int) = (u : Int)
 ·refine qs (t := 14) rfl (vT h1) (ql (ii ((p : Int))) rfl (qs (t := 14) rfl (vT h1) (jo rfl rfl (cX (qT (.bool (decide ((p : Int) = 0))) (vT h1) rfl (qb ?_))))))
  refine qE (p := (p : Int) = 0) rfl (fun h2 => ?_) (fun h2 => ?_)
  ·refine qc (qa (qh ((.pointer none)) rfl (qh (.bool (false)) rfl (qb (qw (qo (qu (L' := L) [(.pointer none), .bool (false)] (.tuple #[(.pointer none), .bool (false)]) (.tmp rfl (.tmp rfl .nil)) rfl rF rF (sD sR) ?_)))))))
   exact .inl ⟨rfl, meet_self (by omega), rfl⟩
  refine qA (qc (qa (cX (qn (0) jc rfl qB (by decide) rfl rfl (cX (qv [arv] qU qB rfl rfl (Rd.ownN [] rfl rfl) (cX (qZ [arv, sN, sN, sN, sN, sN, sN, sN, sN, sN, sN, sN, sN, sN, sN, sN, sN, sN, sN, sN, sN, sN, sN, sN, sN, sN, sN, sN, sN, sN, sN, sN, sN, sN, sN, sN, sN, sN, sN, sN, sN, sN, sN, sN, sN, sN, sN, sN, sN] [sN, sN, sN, sN, sN, sN, sN, sN, sN, sN, sN, sN, sN, sN, sN, sN, sN, sN, sN, sN, sN, sN, sN, sN, sN, sN, sN, sN, sN, sN, sN, sN, sN, sN, sN, sN, sN, sN, sN, sN, sN, sN, sN, sN, sN, sN, sN, sN, sN] [(0, 1), (1, 48)] [(0, [arv])] jH zeroValue174 rfl (.cons rfl qB (.cons rfl sizeOf172 PlacesAre.nil)) rfl (.cons rfl CellsAre.nil) (cX (qY [arv, sN, sN, sN, sN, sN, sN, sN, sN, sN, sN, sN, sN, sN, sN, sN, sN, sN, sN, sN, sN, sN, sN, sN, sN, sN, sN, sN, sN, sN, sN, sN, sN, sN, sN, sN, sN, sN, sN, sN, sN, sN, sN, sN, sN, sN, sN, sN, sN] rfl rfl ?_))))))))))
  intro b2
  refine qh (ptr b2 0) rfl ?_
  have hc1 : BindC F _ _ := BindC.nils 48
  show XL _ _ _ _ _ _ _ (cellsH b2 (arv :: ((List.replicate 48 (sN)))) 174 :: cellsH b1 [arv, rsv] 77 :: L)
  skip
  refine qb (qc (X.free0 mixed (by kernel_rfl) (by kernel_rfl) (fun _ _ _ _ _ h => by obtain ⟨h1 | h1, _⟩ := h <;> cases h1) (fun _ _ _ h => by obtain ⟨h1 | h1, _⟩ := h <;> cases h1) ?_))
  obtain ⟨a1, a2, ha1, ha2, hr1, hr2⟩ := hrs.rd (i := o) (by omega)
  obtain ⟨a3, a4, ha3, ha4, hr3, hr4⟩ := hrs.rd (i := u) (by omega)
  refine XA.drawG [cellsH b2 (arv :: ((List.replicate 48 (sN)))) 174, cellsH b1 [arv, rsv] 77] L 19 [[], [], [], [], [], [], [], [], [], [], [], [], [], [], [], [], [], [], []] [[], [], [], [2], [], [4], [], [5, 6], [7], [8], [], [3, 9, 10], [], [12], [], [13, 14], [15], [16], [17]] [[], [], [], [], [], [], [], [], [], [], [], [], [], [], [], [], [], [], []] (phiG [fun FF us v => v = ptr b2 0, fun FF us v => v = ptr b2 0, fun FF us v => v = ptr b1 0, fun FF us v => v = (.agg #[arv] : Value), fun FF us v => v = ptr b1 1, fun FF us v => v = rsv, fun FF us v => v = (ii ((o : Int)) : Value), fun FF us v => v = (.pointer (some (elemA rsv (o * 2))) : Value), fun FF us v => v = (.pointer (some (elemA rsv (o * 2))) : Value), fun FF us v => v = a1, fun FF us v => v = (ii ((p : Int)) : Value), fun FF us v => ((v) : Value) = v ∧ (IntsF FF (v) (sub ar ((rs.getD o ([], [])).1) p)) ∧ (isNil (v) = false), fun FF us v => v = ptr b1 1, fun FF us v => v = rsv, fun FF us v => v = (ii ((u : Int)) : Value), fun FF us v => v = (.pointer (some (elemA rsv (u * 2))) : Value), fun FF us v => v = (.pointer (some (elemA rsv (u * 2))) : Value), fun FF us v => v = a3, fun FF us v => ((v) : Value) = v ∧ (IntsF FF (v) (awayL ((rs.getD u ([], [])).1)))]) (ownL [fun us v => [], fun us v => [], fun us v => [], fun us v => [], fun us v => [], fun us v => [], fun us v => [], fun us v => [], fun us v => [], fun us v => [], fun us v => [], fun us v => [], fun us v => [], fun us v => [], fun us v => [], fun us v => [], fun us v => [], fun us v => [], fun us v => []]) rfl rfl (by kernel_rfl) (by kernel_rfl) (MonoG.get (mC (fun le h => h) (mC (fun le h => h) (mC (fun le h => h) (mC (fun le h => h) (mC (fun le h => h) (mC (fun le h => h) (mC (fun le h => h) (mC (fun le h => h) (mC (fun le h => h) (mC (fun le h => h) (mC (fun le h => h) (mC (fun le h => ⟨h.1, h.2.1.mono le, h.2.2⟩) (mC (fun le h => h) (mC (fun le h => h) (mC (fun le h => h) (mC (fun le h => h) (mC (fun le h => h) (mC (fun le h => h) (mC (fun le h => ⟨h.1, h.2.mono le⟩) MonoG.nil)))))))))))))))))))) ?_ ?_
  ·refine gD (fun W Fs R lF z9 => ?_) ?_
   ·refine qg (ql (ptr b2 0) rfl ?_)
    exact ⟨rfl, rfl⟩
   refine gD (fun W Fs R lF z9 => ?_) ?_
   ·refine qg (ql (ptr b2 0) rfl ?_)
    exact ⟨rfl, rfl⟩
   refine gD (fun W Fs R lF z9 => ?_) ?_
   ·refine qg (qn (0) jc rfl qB (by decide) rfl rfl ?_)
    exact ⟨rfl, rfl⟩
   refine gD (fun W Fs R lF z9 => ?_) ?_
   ·replace har := har.mono lF
    replace hrs := hrs.mono lF
    replace hc1 := hc1.mono lF
    replace ha1 := ha1.mono lF
    replace ha3 := ha3.mono lF
    replace hr1 := Rd.monoA hr1 lF
    replace hr3 := Rd.monoA hr3 lF
    rw [zA 2 (z9 2 rfl)]
    refine qg (qv [arv] qU qB rfl rfl (Rd.ownN [_] rfl rfl) ?_)
    exact ⟨rfl, rfl⟩
   refine gD (fun W Fs R lF z9 => ?_) ?_
   ·refine qg (qn (1) jc rfl jB (by decide) rfl rfl ?_)
    exact ⟨rfl, rfl⟩
   refine gD (fun W Fs R lF z9 => ?_) ?_
   ·replace har := har.mono lF
    replace hrs := hrs.mono lF
    replace hc1 := hc1.mono lF
    replace ha1 := ha1.mono lF
    replace ha3 := ha3.mono lF
    replace hr1 := Rd.monoA hr1 lF
    replace hr3 := Rd.monoA hr3 lF
    rw [zA 4 (z9 4 rfl)]
    refine qg (qj jS rfl (Rd.own [_] rfl rfl) ?_)
    exact ⟨rfl, rfl⟩
   refine gD (fun W Fs R lF z9 => ?_) ?_
   ·refine qg (ql (ii ((o : Int))) rfl ?_)
    exact ⟨rfl, rfl⟩
   refine gD (fun W Fs R lF z9 => ?_) ?_
   ·replace har := har.mono lF
    replace hrs := hrs.mono lF
    replace hc1 := hc1.mono lF
    replace ha1 := ha1.mono lF
    replace ha3 := ha3.mono lF
    replace hr1 := Rd.monoA hr1 lF
    replace hr3 := Rd.monoA hr3 lF
    rw [zB 5 6 (z9 5 rfl) (z9 6 rfl)]
    refine qg (qx o qV jp rfl rfl rfl hrs.slv (by omega) rfl ?_)
    exact ⟨rfl, rfl⟩
   refine gD (fun W Fs R lF z9 => ?_) ?_
   ·rw [zA 7 (z9 7 rfl)]
    refine qg (XOp.fieldE (o * 2) jf rfl qr (by decide) rfl rfl ?_)
    exact ⟨rfl, rfl⟩
   refine gD (fun W Fs R lF z9 => ?_) ?_
   ·replace har := har.mono lF
    replace hrs := hrs.mono lF
    replace hc1 := hc1.mono lF
    replace ha1 := ha1.mono lF
    replace ha3 := ha3.mono lF
    replace hr1 := Rd.monoA hr1 lF
    replace hr3 := Rd.monoA hr3 lF
    rw [zA 8 (z9 8 rfl)]
    refine qg (qj qN rfl (hr1 _) ?_)
    exact ⟨rfl, rfl⟩
   refine gD (fun W Fs R lF z9 => ?_) ?_
   ·refine qg (ql (ii ((p : Int))) rfl ?_)
    exact ⟨rfl, rfl⟩
   refine gD (fun W Fs R lF z9 => ?_) ?_
   ·replace har := har.mono lF
    replace hrs := hrs.mono lF
    replace hc1 := hc1.mono lF
    replace ha1 := ha1.mono lF
    replace ha3 := ha3.mono lF
    replace hr3 := Rd.monoA hr3 lF
    rw [eS (l := [(3, _), (9, _), (10, _)]) ⟨z9 3 rfl, z9 9 rfl, z9 10 rfl, ⟨⟩⟩]
    refine qg (qt (args := [.agg #[arv], a1, ii (p : Int)]) call71 rfl (subAtW_spec (p := p) har ha1 (ho := (termW_of hlo)) (hp := (hp)) (hnn := (by first | assumption | exact jx (by assumption) (by omega)))) ?_)
    rintro v3 _ _ _ ⟨rfl, rfl, hv2, hn2⟩
    exact ⟨⟨rfl, hv2, hn2⟩, rfl⟩
   refine gD (fun W Fs R lF z9 => ?_) ?_
   ·refine qg (qn (1) jc rfl jB (by decide) rfl rfl ?_)
    exact ⟨rfl, rfl⟩
   refine gD (fun W Fs R lF z9 => ?_) ?_
   ·replace har := har.mono lF
    replace hrs := hrs.mono lF
    replace hc1 := hc1.mono lF
    replace ha3 := ha3.mono lF
    replace hr3 := Rd.monoA hr3 lF
    rw [zA 12 (z9 12 rfl)]
    refine qg (qj jS rfl (Rd.own [_] rfl rfl) ?_)
    exact ⟨rfl, rfl⟩
   refine gD (fun W Fs R lF z9 => ?_) ?_
   ·refine qg (ql (ii ((u : Int))) rfl ?_)
    exact ⟨rfl, rfl⟩
   refine gD (fun W Fs R lF z9 => ?_) ?_
   ·replace har := har.mono lF
    replace hrs := hrs.mono lF
    replace hc1 := hc1.mono lF
    replace ha3 := ha3.mono lF
    replace hr3 := Rd.monoA hr3 lF
    rw [zB 13 14 (z9 13 rfl) (z9 14 rfl)]
    refine qg (qx u qV jp rfl rfl rfl hrs.slv (by omega) rfl ?_)
    exact ⟨rfl, rfl⟩
   refine gD (fun W Fs R lF z9 => ?_) ?_
   ·rw [zA 15 (z9 15 rfl)]
    refine qg (XOp.fieldE (u * 2) jf rfl qr (by decide) rfl rfl ?_)
    exact ⟨rfl, rfl⟩
   refine gD (fun W Fs R lF z9 => ?_) ?_
   ·replace har := har.mono lF
    replace hrs := hrs.mono lF
    replace hc1 := hc1.mono lF
    replace ha3 := ha3.mono lF
    replace hr3 := Rd.monoA hr3 lF
    rw [zA 16 (z9 16 rfl)]
    refine qg (qj qN rfl (hr3 _) ?_)
    exact ⟨rfl, rfl⟩
   refine gD (fun W Fs R lF z9 => ?_) ?_
   ·replace har := har.mono lF
    replace hrs := hrs.mono lF
    replace hc1 := hc1.mono lF
    replace ha3 := ha3.mono lF
    rw [zA 17 (z9 17 rfl)]
    refine qg (jT <| qt (args := [a3]) call87 rfl (away_spec ha3 (hlt := (by omega)) (htg := (fun i hi => by have := hglu i hi; omega))) ?_)
    rintro v4 _ _ _ ⟨rfl, hs2, rfl⟩
    refine ⟨_, _, rfl, fun F1 le1 hz1 => ?_⟩
    replace har := har.mono le1
    replace hrs := hrs.mono le1
    replace hc1 := hc1.mono le1
    have hf1 : IntsF F1 v4 ((awayL ((rs.getD u ([], [])).1))) := intsH.fz (xs := (awayL ((rs.getD u ([], [])).1))) hz1.fz
    exact ⟨⟨rfl, hf1⟩, rfl⟩
   exact stepsG.nil
  intro W F2 le2 hphi
  obtain ⟨e11, f11_1ha, f11_1hn⟩ := hphi 11 (by decide)
  obtain ⟨e18, f18_1ha⟩ := hphi 18 (by decide)
  generalize hu1 : ((W 11)) = u1 at e11 f11_1ha f11_1hn e18 f18_1ha
  generalize hu2 : ((W 18)) = u2 at e11 f11_1ha f11_1hn e18 f18_1ha
  rw [eS (l := [(0, _), (1, _), (11, u1), (18, u2)]) ⟨(hphi 0 (by decide)), (hphi 1 (by decide)), hu1, hu2, ⟨⟩⟩]
  replace har := har.mono le2
  replace hrs := hrs.mono le2
  replace hc1 := hc1.mono le2
  show XL _ _ _ _ _ _ _ (cellsH b2 (arv :: ((List.replicate 48 (sN)))) 174 :: cellsH b1 [arv, rsv] 77 :: L)
  refine cX (qt (args := [ptr b2 0, u1, u2]) call100 rfl (solve_spec har hc1 BOk.nils f11_1ha f18_1ha (termW_of (sub_ok hlo hp)) (away_W hlu) (by first | assumption | exact jx f11_1ha (by have := termOk_len (sub_ok hlo hp); omega)) (jx f18_1ha (by rw [away_len]; omega))) ?_)
  rintro _ F3 _ le3 ⟨ok9, b3, l1, rfl, hb1, hy1, hn3, rfl⟩
  cases ok9
  ·replace har := har.mono le3
   replace hrs := hrs.mono le3
   refine qh (ptr b2 0) rfl (qh (.bool (false)) rfl (qb (qw (qu (L' := L) [ptr b2 0, .bool (false)] (.tuple #[ptr b2 0, .bool (false)]) (.tmp rfl (.tmp rfl .nil)) rfl (qi le2 le3) rF (sD (sD sR)) ?_))))
   exact .inr (.inl ⟨_, rfl, meet_no (nils_no (hn3 rfl)), rfl⟩)
  replace har := har.mono le3
  replace hrs := hrs.mono le3
  refine qh (ptr b2 0) rfl (qh (.bool (true)) rfl (qb (qw (qu (L' := cellsH b2 (arv :: b3) 174 :: L) [ptr b2 0, .bool (true)] (.tuple #[ptr b2 0, .bool (true)]) (.tmp rfl (.tmp rfl .nil)) rfl (qi le2 le3) rF (sC (sD sR)) ?_))))
  have hm9 := Mgu.of (hy1 rfl)
  exact .inr (.inr ⟨_, _, _, rfl, meet_yes (by omega) hm9, hb1, hm9, rfl⟩)
 refine qq (t := 14) rfl (vF h1) (qq (t := 14) rfl (vF h1) (cX (qP (.bool (false)) (vF h1) rfl (qb (jW rfl (qA (qc (qa (cX (qn (0) jc rfl qB (by decide) rfl rfl (cX (qv [arv] qU qB rfl rfl (Rd.ownN [] rfl rfl) (cX (qZ [arv, sN, sN, sN, sN, sN, sN, sN, sN, sN, sN, sN, sN, sN, sN, sN, sN, sN, sN, sN, sN, sN, sN, sN, sN, sN, sN, sN, sN, sN, sN, sN, sN, sN, sN, sN, sN, sN, sN, sN, sN, sN, sN, sN, sN, sN, sN, sN, sN] [sN, sN, sN, sN, sN, sN, sN, sN, sN, sN, sN, sN, sN, sN, sN, sN, sN, sN, sN, sN, sN, sN, sN, sN, sN, sN, sN, sN, sN, sN, sN, sN, sN, sN, sN, sN, sN, sN, sN, sN, sN, sN, sN, sN, sN, sN, sN, sN, sN] [(0, 1), (1, 48)] [(0, [arv])] jH zeroValue174 rfl (.cons rfl qB (.cons rfl sizeOf172 PlacesAre.nil)) rfl (.cons rfl CellsAre.nil) (cX (qY [arv, sN, sN, sN, sN, sN, sN, sN, sN, sN, sN, sN, sN, sN, sN, sN, sN, sN, sN, sN, sN, sN, sN, sN, sN, sN, sN, sN, sN, sN, sN, sN, sN, sN, sN, sN, sN, sN, sN, sN, sN, sN, sN, sN, sN, sN, sN, sN, sN] rfl rfl ?_))))))))))))))))
 intro b4
 refine qh (ptr b4 0) rfl ?_
 have hc2 : BindC F _ _ := BindC.nils 48
 show XL _ _ _ _ _ _ _ (cellsH b4 (arv :: ((List.replicate 48 (sN)))) 174 :: cellsH b1 [arv, rsv] 77 :: L)
 skip
 refine qb (qc (X.free0 mixed (by kernel_rfl) (by kernel_rfl) (fun _ _ _ _ _ h => by obtain ⟨h1 | h1, _⟩ := h <;> cases h1) (fun _ _ _ h => by obtain ⟨h1 | h1, _⟩ := h <;> cases h1) ?_))
 obtain ⟨a5, a6, ha5, ha6, hr5, hr6⟩ := hrs.rd (i := o) (by omega)
 obtain ⟨a7, a8, ha7, ha8, hr7, hr8⟩ := hrs.rd (i := u) (by omega)
 refine XA.drawG [cellsH b4 (arv :: ((List.replicate 48 (sN)))) 174, cellsH b1 [arv, rsv] 77] L 19 [[], [], [], [], [], [], [], [], [], [], [], [], [], [], [], [], [], [], []] [[], [], [], [2], [], [4], [], [5, 6], [7], [8], [], [3, 9, 10], [], [12], [], [13, 14], [15], [16], [17]] [[], [], [], [], [], [], [], [], [], [], [], [], [], [], [], [], [], [], []] (phiG [fun FF us v => v = ptr b4 0, fun FF us v => v = ptr b4 0, fun FF us v => v = ptr b1 0, fun FF us v => v = (.agg #[arv] : Value), fun FF us v => v = ptr b1 1, fun FF us v => v = rsv, fun FF us v => v = (ii ((o : Int)) : Value), fun FF us v => v = (.pointer (some (elemA rsv (o * 2))) : Value), fun FF us v => v = (.pointer (some (elemA rsv (o * 2))) : Value), fun FF us v => v = a5, fun FF us v => v = (ii ((p : Int)) : Value), fun FF us v => ((v) : Value) = v ∧ (IntsF FF (v) (sub ar ((rs.getD o ([], [])).1) p)) ∧ (isNil (v) = false), fun FF us v => v = ptr b1 1, fun FF us v => v = rsv, fun FF us v => v = (ii ((u : Int)) : Value), fun FF us v => v = (.pointer (some (elemA rsv (u * 2))) : Value), fun FF us v => v = (.pointer (some (elemA rsv (u * 2))) : Value), fun FF us v => v = a7, fun FF us v => ((v) : Value) = v ∧ (IntsF FF (v) (awayL ((rs.getD u ([], [])).1)))]) (ownL [fun us v => [], fun us v => [], fun us v => [], fun us v => [], fun us v => [], fun us v => [], fun us v => [], fun us v => [], fun us v => [], fun us v => [], fun us v => [], fun us v => [], fun us v => [], fun us v => [], fun us v => [], fun us v => [], fun us v => [], fun us v => [], fun us v => []]) rfl rfl (by kernel_rfl) (by kernel_rfl) (MonoG.get (mC (fun le h => h) (mC (fun le h => h) (mC (fun le h => h) (mC (fun le h => h) (mC (fun le h => h) (mC (fun le h => h) (mC (fun le h => h) (mC (fun le h => h) (mC (fun le h => h) (mC (fun le h => h) (mC (fun le h => h) (mC (fun le h => ⟨h.1, h.2.1.mono le, h.2.2⟩) (mC (fun le h => h) (mC (fun le h => h) (mC (fun le h => h) (mC (fun le h => h) (mC (fun le h => h) (mC (fun le h => h) (mC (fun le h => ⟨h.1, h.2.mono le⟩) MonoG.nil)))))))))))))))))))) ?_ ?_
 ·refine gD (fun W Fs R lF z9 => ?_) ?_
  ·refine qg (ql (ptr b4 0) rfl ?_)
   exact ⟨rfl, rfl⟩
  refine gD (fun W Fs R lF z9 => ?_) ?_
  ·refine qg (ql (ptr b4 0) rfl ?_)
   exact ⟨rfl, rfl⟩
  refine gD (fun W Fs R lF z9 => ?_) ?_
  ·refine qg (qn (0) jc rfl qB (by decide) rfl rfl ?_)
   exact ⟨rfl, rfl⟩
  refine gD (fun W Fs R lF z9 => ?_) ?_
  ·replace har := har.mono lF
   replace hrs := hrs.mono lF
   replace hc2 := hc2.mono lF
   replace ha5 := ha5.mono lF
   replace ha7 := ha7.mono lF
   replace hr5 := Rd.monoA hr5 lF
   replace hr7 := Rd.monoA hr7 lF
   rw [zA 2 (z9 2 rfl)]
   refine qg (qv [arv] qU qB rfl rfl (Rd.ownN [_] rfl rfl) ?_)
   exact ⟨rfl, rfl⟩
  refine gD (fun W Fs R lF z9 => ?_) ?_
  ·refine qg (qn (1) jc rfl jB (by decide) rfl rfl ?_)
   exact ⟨rfl, rfl⟩
  refine gD (fun W Fs R lF z9 => ?_) ?_
  ·replace har := har.mono lF
   replace hrs := hrs.mono lF
   replace hc2 := hc2.mono lF
   replace ha5 := ha5.mono lF
   replace ha7 := ha7.mono lF
   replace hr5 := Rd.monoA hr5 lF
   replace hr7 := Rd.monoA hr7 lF
   rw [zA 4 (z9 4 rfl)]
   refine qg (qj jS rfl (Rd.own [_] rfl rfl) ?_)
   exact ⟨rfl, rfl⟩
  refine gD (fun W Fs R lF z9 => ?_) ?_
  ·refine qg (ql (ii ((o : Int))) rfl ?_)
   exact ⟨rfl, rfl⟩
  refine gD (fun W Fs R lF z9 => ?_) ?_
  ·replace har := har.mono lF
   replace hrs := hrs.mono lF
   replace hc2 := hc2.mono lF
   replace ha5 := ha5.mono lF
   replace ha7 := ha7.mono lF
   replace hr5 := Rd.monoA hr5 lF
   replace hr7 := Rd.monoA hr7 lF
   rw [zB 5 6 (z9 5 rfl) (z9 6 rfl)]
   refine qg (qx o qV jp rfl rfl rfl hrs.slv (by omega) rfl ?_)
   exact ⟨rfl, rfl⟩
  refine gD (fun W Fs R lF z9 => ?_) ?_
  ·rw [zA 7 (z9 7 rfl)]
   refine qg (XOp.fieldE (o * 2) jf rfl qr (by decide) rfl rfl ?_)
   exact ⟨rfl, rfl⟩
  refine gD (fun W Fs R lF z9 => ?_) ?_
  ·replace har := har.mono lF
   replace hrs := hrs.mono lF
   replace hc2 := hc2.mono lF
   replace ha5 := ha5.mono lF
   replace ha7 := ha7.mono lF
   replace hr5 := Rd.monoA hr5 lF
   replace hr7 := Rd.monoA hr7 lF
   rw [zA 8 (z9 8 rfl)]
   refine qg (qj qN rfl (hr5 _) ?_)
   exact ⟨rfl, rfl⟩
  refine gD (fun W Fs R lF z9 => ?_) ?_
  ·refine qg (ql (ii ((p : Int))) rfl ?_)
   exact ⟨rfl, rfl⟩
  refine gD (fun W Fs R lF z9 => ?_) ?_
  ·replace har := har.mono lF
   replace hrs := hrs.mono lF
   replace hc2 := hc2.mono lF
   replace ha5 := ha5.mono lF
   replace ha7 := ha7.mono lF
   replace hr7 := Rd.monoA hr7 lF
   rw [eS (l := [(3, _), (9, _), (10, _)]) ⟨z9 3 rfl, z9 9 rfl, z9 10 rfl, ⟨⟩⟩]
   refine qg (qt (args := [.agg #[arv], a5, ii (p : Int)]) call71 rfl (subAtW_spec (p := p) har ha5 (ho := (termW_of hlo)) (hp := (hp)) (hnn := (by first | assumption | exact jx (by assumption) (by omega)))) ?_)
   rintro v7 _ _ _ ⟨rfl, rfl, hv4, hn5⟩
   exact ⟨⟨rfl, hv4, hn5⟩, rfl⟩
  refine gD (fun W Fs R lF z9 => ?_) ?_
  ·refine qg (qn (1) jc rfl jB (by decide) rfl rfl ?_)
   exact ⟨rfl, rfl⟩
  refine gD (fun W Fs R lF z9 => ?_) ?_
  ·replace har := har.mono lF
   replace hrs := hrs.mono lF
   replace hc2 := hc2.mono lF
   replace ha7 := ha7.mono lF
   replace hr7 := Rd.monoA hr7 lF
   rw [zA 12 (z9 12 rfl)]
   refine qg (qj jS rfl (Rd.own [_] rfl rfl) ?_)
   exact ⟨rfl, rfl⟩
  refine gD (fun W Fs R lF z9 => ?_) ?_
  ·refine qg (ql (ii ((u : Int))) rfl ?_)
   exact ⟨rfl, rfl⟩
  refine gD (fun W Fs R lF z9 => ?_) ?_
  ·replace har := har.mono lF
   replace hrs := hrs.mono lF
   replace hc2 := hc2.mono lF
   replace ha7 := ha7.mono lF
   replace hr7 := Rd.monoA hr7 lF
   rw [zB 13 14 (z9 13 rfl) (z9 14 rfl)]
   refine qg (qx u qV jp rfl rfl rfl hrs.slv (by omega) rfl ?_)
   exact ⟨rfl, rfl⟩
  refine gD (fun W Fs R lF z9 => ?_) ?_
  ·rw [zA 15 (z9 15 rfl)]
   refine qg (XOp.fieldE (u * 2) jf rfl qr (by decide) rfl rfl ?_)
   exact ⟨rfl, rfl⟩
  refine gD (fun W Fs R lF z9 => ?_) ?_
  ·replace har := har.mono lF
   replace hc2 := hc2.mono lF
   replace ha7 := ha7.mono lF
   replace hr7 := Rd.monoA hr7 lF
   rw [zA 16 (z9 16 rfl)]
   refine qg (qj qN rfl (hr7 _) ?_)
   exact ⟨rfl, rfl⟩
  refine gD (fun W Fs R lF z9 => ?_) ?_
  ·replace har := har.mono lF
   replace hc2 := hc2.mono lF
   replace ha7 := ha7.mono lF
   rw [zA 17 (z9 17 rfl)]
   refine qg (jT <| qt (args := [a7]) call87 rfl (away_spec ha7 (hlt := (by omega)) (htg := (fun i hi => by have := hglu i hi; omega))) ?_)
   rintro v8 _ _ _ ⟨rfl, hs4, rfl⟩
   refine ⟨_, _, rfl, fun F4 le4 hz2 => ?_⟩
   replace har := har.mono le4
   replace hc2 := hc2.mono le4
   have hf2 : IntsF F4 v8 ((awayL ((rs.getD u ([], [])).1))) := intsH.fz (xs := (awayL ((rs.getD u ([], [])).1))) hz2.fz
   exact ⟨⟨rfl, hf2⟩, rfl⟩
  exact stepsG.nil
 intro W F5 le5 hphi
 obtain ⟨e11, f11_2ha, f11_2hn⟩ := hphi 11 (by decide)
 obtain ⟨e18, f18_2ha⟩ := hphi 18 (by decide)
 generalize hu3 : ((W 11)) = u3 at e11 f11_2ha f11_2hn e18 f18_2ha
 generalize hu4 : ((W 18)) = u4 at e11 f11_2ha f11_2hn e18 f18_2ha
 rw [eS (l := [(0, _), (1, _), (11, u3), (18, u4)]) ⟨(hphi 0 (by decide)), (hphi 1 (by decide)), hu3, hu4, ⟨⟩⟩]
 replace har := har.mono le5
 replace hc2 := hc2.mono le5
 show XL _ _ _ _ _ _ _ (cellsH b4 (arv :: ((List.replicate 48 (sN)))) 174 :: cellsH b1 [arv, rsv] 77 :: L)
 refine cX (qt (args := [ptr b4 0, u3, u4]) call100 rfl (solve_spec har hc2 BOk.nils f11_2ha f18_2ha (termW_of (sub_ok hlo hp)) (away_W hlu) (by first | assumption | exact jx f11_2ha (by have := termOk_len (sub_ok hlo hp); omega)) (jx f18_2ha (by rw [away_len]; omega))) ?_)
 rintro _ F6 _ le6 ⟨ok9, b5, l2, rfl, hb2, hy2, hn6, rfl⟩
 cases ok9
 ·replace har := har.mono le6
  refine qh (ptr b4 0) rfl (qh (.bool (false)) rfl (qb (qw (qu (L' := L) [ptr b4 0, .bool (false)] (.tuple #[ptr b4 0, .bool (false)]) (.tmp rfl (.tmp rfl .nil)) rfl (qi le5 le6) rF (sD (sD sR)) ?_))))
  exact .inr (.inl ⟨_, rfl, meet_no (nils_no (hn6 rfl)), rfl⟩)
 replace har := har.mono le6
 refine qh (ptr b4 0) rfl (qh (.bool (true)) rfl (qb (qw (qu (L' := cellsH b4 (arv :: b5) 174 :: L) [ptr b4 0, .bool (true)] (.tuple #[ptr b4 0, .bool (true)]) (.tmp rfl (.tmp rfl .nil)) rfl (qi le5 le6) rF (sC (sD sR)) ?_))))
 have hm9 := Mgu.of (hy2 rfl)
 exact .inr (.inr ⟨_, _, _, rfl, meet_yes (by omega) hm9, hb2, hm9, rfl⟩)

/- impl.renumber -/
set_option maxHeartbeats 1000000 in
set_option maxRecDepth 20000 in
theorem renumber_spec {F : FH} {L : List HP} {tsv : Value} {ts : List (List Int)} (hts : RowsF F tsv ts) (htl : ts.length ≤ 100) (hrb : ∀ i, i < ts.length → (ts.getD i []).length ≤ 60) :
    Does prog 69 [tsv] F (L) (fun v F' L' => ∃ (cs : List Value) (Us : List HP), ArrF F' 1 v (rnL [] ts).length cs ∧ RowsC F' cs (rnL [] ts) ∧ DeepL 1 (RowO 2) cs (rnL [] ts) Us ∧ Fresh F F' (star Us) ∧ L = L') := by
 refine qH func69 rfl rfl rfl (qc (qa (qh (sN) rfl (qb (qc (qa (qh (sN) rfl (qb (qc (qa (qh (sN) rfl (qb (qc (qc (qa (qd (tsv) rfl (cX (qG jl rfl hts.slv ?_))))))))))))))))))
 refine qd (ii (0)) rfl (qb (qJ (jv (α := Nat × Value × RowL × List Value × List HP × Nat × Value × List Int × FH) (fun xQ => [(3, xQ.2.2.2.2.2.2.1), (4, xQ.2.1), (11, tsv), (12, ii ((ts.length : Int))), (13, ii (((xQ.1 : Nat) : Int)))]) (fun xQ => slH 24 1 xQ.2.1 xQ.2.2.2.2.2.1 xQ.2.2.2.1 :: intsH 2 xQ.2.2.2.2.2.2.1 xQ.2.2.2.2.2.2.2.1 :: L) (fun xQ F' => xQ.2.2.2.2.2.2.2.2 = F' ∧ F ≤ xQ.2.2.2.2.2.2.2.2 ∧ (IsSl xQ.2.1) ∧ (xQ.1 ≤ ts.length) ∧ (RowsC xQ.2.2.2.2.2.2.2.2 xQ.2.2.2.1 xQ.2.2.1) ∧ (xQ.2.2.2.2.2.1 = xQ.2.2.1.length) ∧ (DeepL 1 (RowO 2) xQ.2.2.2.1 xQ.2.2.1 xQ.2.2.2.2.1) ∧ (Fresh F xQ.2.2.2.2.2.2.2.2 (star xQ.2.2.2.2.1)) ∧ (IsSl xQ.2.2.2.2.2.2.1) ∧ (rnL [] ts = xQ.2.2.1 ++ rnL xQ.2.2.2.2.2.2.2.1 (ts.drop xQ.1)) ∧ (xQ.2.2.2.2.2.2.2.1.length ≤ xQ.1 * 60)) (fun xQ => ts.length - xQ.1) (0, sN, [], [], [], 0, sN, [], F) ⟨rfl, rfl, rfl, rfl, rfl, ⟨⟩⟩ (qW (Sub.addNil 24 1 _ _) (sC (qW (intsH.addNil 2 none _) (sC sR)))) ⟨rfl, FLe.refl _, (⟨_, _, _, rfl⟩), (by (try dsimp only) <;> omega), (CO.nil), (rfl), (DeepL.nil), (Fresh.nilL), (⟨_, _, _, rfl⟩), (rfl), (Nat.zero_le _)⟩ ?_)))
 rintro ⟨k, ov, os, ocs, Us, m, zv, zs, G1⟩ rE _ _ ⟨rfl, leG, hov, hk, hC, hm, hD, hZ, hzv, hrn, hzl⟩
 show X _ _ _ _ (envs [(3, zv), (4, ov), (11, tsv), (12, ii ((ts.length : Int))), (13, ii ((k : Int)))] rE) _ (slH 24 1 ov m ocs :: intsH 2 zv zs :: L)
 replace leG : F ≤ G1 := leG
 dsimp only at hov hk hC hm hD hZ hzv hrn hzl
 have hrbk := hrb k
 have hol : os.length ≤ ts.length := by have h9 := congrArg List.length hrn; rw [List.length_append, rnL_len] at h9; omega
 have leG1 := leG
 replace hts := hts.mono leG1
 refine qc (qa (cX (qX rfl rfl (qb (qc ?_)))))
 refine qE (p := (k : Int) < (ts.length : Int)) rfl (fun h1 => ?_) (fun h1 => ?_)
 ·refine qA (qc (qJ (qc (qa (cX (qx k jl qr rfl rfl rfl hts.slv (by omega) (Nat.mul_one _) ?_))))))
  obtain ⟨a1, ha1, hr1⟩ := hts.rd (i := k) (by omega)
  refine cX (qj qN rfl (hr1 _) (qh (a1) rfl (qb (qc (qa (qd (a1) rfl (cX (qt (args := [a1]) call35 rfl (Clone_spec ha1 (hlt := (by have := hrbk (by omega); omega))) ?_))))))))
  rintro v1 _ _ _ ⟨rfl, hs1, rfl⟩
  refine qh (v1) rfl (qb (qc (qc (qa (qd (v1) rfl (cX (qG qf rfl (intsH.slv [] rfl) (qd (ii (0)) rfl (qb (qJ (jv (α := Nat × List Int × Value × List Int) (fun xQ => [(3, xQ.2.2.1), (4, ov), (7, v1), (11, tsv), (12, ii ((ts.length : Int))), (13, ii ((k : Int))), (19, v1), (20, ii (((((((ts.getD k [])))).length : Nat) : Int))), (21, ii (((xQ.1 : Nat) : Int)))]) (fun xQ => intsH 2 v1 xQ.2.1 :: slH 24 1 ov m ocs :: intsH 2 xQ.2.2.1 xQ.2.2.2 :: L) (fun xQ F' => G1 = F' ∧ (xQ.1 ≤ (ts.getD k []).length) ∧ (IsSl xQ.2.2.1) ∧ (RnAt zs (ts.getD k []) xQ.2.2.2 xQ.2.1 xQ.1) ∧ (xQ.2.2.2.length ≤ k * 60 + xQ.1)) (fun xQ => (ts.getD k []).length - xQ.1) (0, (ts.getD k []), zv, zs) ⟨rfl, rfl, rfl, rfl, rfl, rfl, rfl, rfl, rfl, ⟨⟩⟩ (sC (sC (sC sR))) ⟨rfl, (by (try dsimp only) <;> omega), (hzv), (RnAt.start), (by (try dsimp only); omega)⟩ ?_)))))))))))
  rintro ⟨j, ws, zv2, zs2⟩ rE _ _ ⟨rfl, hj, hzv2, hR, hzl2⟩
  show X _ _ _ _ (envs [(3, zv2), (4, ov), (7, v1), (11, tsv), (12, ii ((ts.length : Int))), (13, ii ((k : Int))), (19, v1), (20, ii (((((((ts.getD k [])))).length : Nat) : Int))), (21, ii ((j : Int)))] rE) _ (intsH 2 v1 ws :: slH 24 1 ov m ocs :: intsH 2 zv2 zs2 :: L)
  dsimp only at hj hzv2 hR hzl2
  have hwl := hR.len
  have hwj := fun h : j < (ts.getD k []).length => hR.at h
  refine qc (qa (cX (qX rfl rfl (qb (qc ?_)))))
  refine qE (p := (j : Int) < ((((((ts.getD k [])))).length : Nat) : Int)) rfl (fun h2 => ?_) (fun h2 => ?_)
  ·refine qA (qc (qJ (qc (qa (qd (ii ((j : Int))) rfl (cX (qx j qf qC rfl rfl rfl (intsH.slv [] rfl) (by omega) (Nat.mul_one _) (cX (qj jh rfl (intsH.rd [] rfl (by omega)) (qh (ii ((j : Int))) rfl (qh (ii (ws.getD j 0)) rfl (qb (qc (qc (qa (qd (ii (ws.getD j 0)) rfl (cX (jV rfl rfl (qb ?_)))))))))))))))))))
   refine qE (p := (ws.getD j 0 : Int) ≥ 0) rfl (fun h3 => ?_) (fun h3 => ?_)
   ·refine jn (qz (qR (qa (cX (qM (((j + 1 : Nat) : Int)) rfl rfl (by omega) (by omega) (qd (ii (((j + 1 : Nat) : Int))) rfl (qb ?_)))))))
    exact ⟨(j + 1, ws, zv2, zs2), _, FLe.refl _, rF, ⟨rfl, rfl, rfl, rfl, rfl, rfl, rfl, rfl, rfl, ⟨⟩⟩, (sC (sC (sC sR))), ⟨rfl, (by (try dsimp only) <;> omega), (hzv2), (hR.sym (by omega) (by have := hwj (by omega); omega)), (by (try dsimp only); (try rw [List.length_append, List.length_singleton]); omega)⟩, (by omega)⟩
   have hwj1 := hwj (by omega)
   have hj0 : (ts.getD k []).getD j 0 < 0 := by omega
   refine qA (qc (qa (qd (zv2) rfl (qd (ii (ws.getD j 0)) rfl (cX (XOp.lend [_, _] _ _ rfl (fun F1 le1 hz1 => ?_)))))))
   have hf1 : IntsF _ zv2 zs2 := intsH.fz (xs := zs2) hz1
   refine id (qt (args := [zv2, ii (ws.getD j 0)]) call52 rfl (Index_spec (n := ws.getD j 0) hf1 (hbd := (by first | assumption | rfl | omega | simp))) ?_)
   rintro _ _ _ _ ⟨rfl, rfl, rfl⟩
   show XL _ _ _ _ _ _ _ (intsH 2 zv2 zs2 :: intsH 2 v1 ws :: slH 24 1 ov m ocs :: L)
   refine qh (ii (indexZ zs2 (ws.getD j 0))) rfl (qb (qc (qc (qa (qd (ii (indexZ zs2 (ws.getD j 0))) rfl (cX (qX rfl rfl (qb ?_))))))))
   refine qE (p := (indexZ zs2 (ws.getD j 0) : Int) < 0) rfl (fun h4 => ?_) (fun h4 => ?_)
   ·have hil := indexZ_le zs2 (ws.getD j 0)
    refine qc (qa (qd (zv2) rfl (cX (qG qf rfl (intsH.slv [] rfl) (qh (ii ((zs2.length : Int))) rfl (qb (qa (qd (zv2) rfl (qd (ii (ws.getD j 0)) rfl (cX (qD (s := 1) [ii (ws.getD j 0)] [ii (0)] [(0, [ii (ws.getD j 0)])] qf qC jj rfl (by decide) rfl (.cons rfl CellsAre.nil) rfl ?_)))))))))))
    intro v2 hv1
    refine cX (XOp.append1 (u := ws.getD j 0) [_] _ qf typeInfo2 rfl rfl rfl rfl rfl rfl (SlV.own [] rfl) (Rd.sl [] rfl rfl) (by (try simp only [List.length_append, List.length_nil, List.length_cons, List.length_singleton, List.length_take, List.length_drop]); omega) ?_)
    intro v3 hs2 hn1
    refine qh (v3) rfl (qb (qa (qd (v1) rfl (qd (ii ((j : Int))) rfl (qd (ii ((zs2.length : Int))) rfl (cX (jq ((-1) - ((zs2.length : Int))) rfl rfl (by omega) (by omega) (cX (qx j qf qC rfl rfl rfl (intsH.slv [_, _] rfl) (by omega) (Nat.mul_one _) (cX (intsH.storeX (i := j) (v := v1) [_, _] _ (ws.set j ((-1) - ((zs2.length : Int)))) qC rfl rfl rfl (by omega) rfl (qb (qa (cX (qM (((j + 1 : Nat) : Int)) rfl rfl (by omega) (by omega) ?_)))))))))))))))
    refine qd (ii (((j + 1 : Nat) : Int))) rfl (qb ?_)
    exact ⟨(j + 1, (ws.set j ((-1) - ((zs2.length : Int)))), v3, zs2 ++ [ws.getD j 0]), _, FLe.refl _, rF, ⟨rfl, rfl, rfl, rfl, rfl, rfl, rfl, rfl, rfl, ⟨⟩⟩, (qW (jg (A := [_])) (qW (jg (A := [_, _, _])) (qW (jg (A := [_, _, _])) (sC (sC (sC (sD sR))))))), ⟨rfl, (by (try dsimp only) <;> omega), (hs2), ((by (try dsimp only); rw [hwj1]; exact hR.new (by omega) hj0 (fun hc => by have := indexZ_mem.2 hc; rw [← hwj1] at this; omega))), (by (try dsimp only); (try rw [List.length_append, List.length_singleton]); omega)⟩, (by omega)⟩
   have hil := indexZ_le zs2 (ws.getD j 0)
   refine qA (qa (qd (v1) rfl (qd (ii ((j : Int))) rfl (qd (ii (indexZ zs2 (ws.getD j 0))) rfl (cX (jq ((-1) - (indexZ zs2 (ws.getD j 0))) rfl rfl (by omega) (by omega) (cX (qx j qf qC rfl rfl rfl (intsH.slv [_] rfl) (by omega) (Nat.mul_one _) (cX (intsH.storeX (i := j) (v := v1) [_] _ (ws.set j ((-1) - (indexZ zs2 (ws.getD j 0)))) qC rfl rfl rfl (by omega) rfl (qb (qa (cX (qM (((j + 1 : Nat) : Int)) rfl rfl (by omega) (by omega) (qd (ii (((j + 1 : Nat) : Int))) rfl ?_)))))))))))))))
   refine qb ?_
   exact ⟨(j + 1, (ws.set j ((-1) - (indexZ zs2 (ws.getD j 0)))), zv2, zs2), _, FLe.refl _, rF, ⟨rfl, rfl, rfl, rfl, rfl, rfl, rfl, rfl, rfl, ⟨⟩⟩, (qW (jg (A := [_, _])) (qW (jg (A := [_, _])) (sC (sC (sC sR))))), ⟨rfl, (by (try dsimp only) <;> omega), (hzv2), ((by (try dsimp only); rw [hwj1]; exact hR.old (by omega) hj0 (indexZ_mem.1 (by rw [← hwj1]; omega)))), (by (try dsimp only); (try rw [List.length_append, List.length_singleton]); omega)⟩, (by omega)⟩
  refine jn (qz (qz (qR (qa (qd (ov) rfl (qd (v1) rfl (cX (qD (s := 1) [v1] [sN] [(0, [v1])] jl qr zeroValue24 rfl (by decide) rfl (.cons (cells_one hs1) CellsAre.nil) rfl ?_))))))))
  intro v4 hv2
  refine XL.freezeF [_] _ _ rfl (fun F2 le2 hz2 => ?_)
  replace hC := hC.mono le2
  have hf2 : IntsF F2 v1 ws := intsH.fz (xs := ws) hz2.fz
  refine cX (yi (m := 1) (bytes := 24) (cs := ocs) [_] _ [v1] jl typeInfo24 rfl rfl rfl rfl rfl rfl rfl (SlV.own [] rfl) rfl (Rd.lit [] rfl) (qm (qy (qp hf2)) qO) (by (try simp only [List.length_append, List.length_nil, List.length_cons, List.length_singleton]); omega) (by (try simp only [List.length_append, List.length_nil, List.length_cons, List.length_singleton]); omega) ?_)
  intro v5 hs3 hn2 hm1
  have hc1 := RowsC.snoc hC hf2
  skip
  refine qh (v5) rfl (qb (qa (cX (qM (((k + 1 : Nat) : Int)) rfl rfl (by omega) (by omega) (qd (ii (((k + 1 : Nat) : Int))) rfl (qb ?_))))))
  exact ⟨(k + 1, v5, os ++ [ws], ocs ++ [v1], Us ++ [intsH 2 v1 ws], (m) + 1, zv2, zs2, F2), _, (qi leG1 le2), rF, ⟨rfl, rfl, rfl, rfl, rfl, ⟨⟩⟩, (sD (sC (sC sR))), ⟨rfl, (qi leG1 le2), (hs3), (by (try dsimp only) <;> omega), (hc1), (by (try dsimp only); rw [List.length_append, List.length_singleton]; omega), (DeepL.snoc hD rfl ⟨_, rfl, rfl⟩), ((Fresh.app hZ leG1 (Fresh.one hz2) le2)), (hzv2), (rn_next (by omega) hrn (hR.done (by omega))), (by (try dsimp only); have := orderGo_len (ts.getD k []) zs; rw [(hR.done (by omega)).1]; have := hrbk (by omega); omega)⟩, (by omega)⟩
 refine jn (qz (qz (qR (qc (qa (qd (ov) rfl (qh (ov) rfl (qb (ji [] _ _ rfl (fun F3 le3 hz3 => ?_))))))))))
 replace hC := hC.mono le3
 have hf3 : RowsF F3 ov os := CO.fz hC (by first | rfl | omega | (rw [List.length_set]; omega) | (simp; done) | (rw [List.length_append]; simp only [List.length_singleton]; omega)) hz3.fz
 refine qw (qu (L' := L) [ov] (ov) (.tmp rfl .nil) rfl (qi leG1 le3) rF (sD sR) ?_)
 have e9 := rn_done (by omega) hrn
 rw [e9]
 subst hm
 exact ⟨ocs, Us, hz3.fz.sl, hC, hD, (hZ.mono le3), rfl⟩

/- (*impl.unifier).placeIn -/
theorem placeIn_spec {F : FH} {L : List HP} {ub : Nat} {arv : Value} {ar : List Int} {bs : List Value} {bl : RowL} (har : IntsF F arv ar) (hbc : BindC F bs bl) (hb : BOk ar bl) {σ : Sbs} {p : Nat} {tv : Value} {t : List Int} (ht : IntsF F tv t) (hσ : Sol bl σ) (ho : TermW ar t) (hp : p < t.length) (hlen : (ap σ t).length ≤ 60) :
    Does prog 88 [ptr ub 0, tv, ii ((p : Int))] F (cellsH ub (arv :: bs) 174 :: L) (fun v F' L' => (F = F' ∧ (ii (((ap σ (t.take p)).length : Nat) : Int) : Value) = v) ∧ cellsH ub (arv :: bs) 174 :: L = L') := by
 refine qH func88 rfl rfl rfl ?_
 have htl := ho.len
 have hrk := res_take hlen hp (σ := σ)
 refine qc (qa (qh (ii (0)) rfl (qb (qc (qa (qd (ptr ub 0) rfl (qd (tv) rfl (qd (ii ((p : Int))) rfl (cX (XOp.sliceI 0 p qf qC rfl ht rfl ⟨_, rfl⟩ (by omega) (by omega) ?_))))))))))
 intro v1 hv1 hn1
 obtain ⟨ρ9, hρ9⟩ := hb.acyc
 obtain ⟨k9, hk9⟩ := maxRank (((t.drop 0).take (p - 0))) ρ9
 have hw9 := take_ge ho (p := p)
 refine jK (intsH.addNil 2 none _) (jK (jg (A := [_])) ?_)
 show XL _ _ _ _ _ _ _ (cellsH ub (arv :: bs) 174 :: intsH 2 (sN) ([]) :: L)
 refine jK (jg (A := [_])) ?_
 show XL _ _ _ _ _ _ _ (intsH 2 (sN) ([]) :: cellsH ub (arv :: bs) 174 :: L)
 refine cX (qt (args := [ptr ub 0, sN, v1]) call86 rfl (resolve_spec k9 har hbc (by assumption) (os := []) hv1 ⟨_, _, _, rfl⟩ (Nat.zero_le _) hσ hρ9 (fun m hm _ => hk9 m hm) hw9.1 hw9.2) ?_)
 rintro _ _ _ _ ⟨v2, rfl, hs1, rfl, rfl⟩
 refine qd (.tuple #[v2, .bool (resOk σ ([] : List Int) (((t.drop 0).take (p - 0))))]) rfl (cX (qK (v2) rfl rfl (cX (qK (.bool (resOk σ ([] : List Int) (((t.drop 0).take (p - 0))))) rfl rfl (qh (v2) rfl (qh (.bool (resOk σ ([] : List Int) (((t.drop 0).take (p - 0))))) rfl (qb (qc (qa (qd (v2) rfl (cX (qG qf rfl (intsH.slv [] rfl) (qh (ii (((((resX σ ([] : List Int) (((t.drop 0).take (p - 0))))).length : Nat) : Int))) rfl (qb ?_))))))))))))))
 refine qw (qu (L' := cellsH ub (arv :: bs) 174 :: L) [ii (((((resX σ ([] : List Int) (((t.drop 0).take (p - 0))))).length : Nat) : Int))] (ii (((((resX σ ([] : List Int) (((t.drop 0).take (p - 0))))).length : Nat) : Int))) (.tmp rfl .nil) rfl rF rF (sD (sC sR)) ?_)
 have hr9 := of_decide_eq_true (show resOk σ [] (t.take p) = true from hrk)
 exact ⟨⟨rfl, congrArg (fun l : List Int => Value.int .i64 (l.length : Int)) (show ap σ (t.take p) = resX σ [] (t.take p) from by unfold resX; rw [if_pos hrk]; rfl)⟩, rfl⟩

/- impl.put -/
theorem putW_spec {F : FH} {L : List HP} {arv : Value} {ar : List Int} (har : IntsF F arv ar) {tv : Value} {t : List Int} (ht : IntsF F tv t) {p : Nat} {uv : Value} {u : List Int} (hu : IntsF F uv u) (ho : TermW ar t) (hp : p < t.length) (hul : 1 ≤ u.length ∧ u.length ≤ 4000000) :
    Does prog 83 [.agg #[arv], tv, ii ((p : Int)), uv] F (L) (fun v F' L' => ∃ (a : Value), (.tuple #[a, .bool ((putL ar t p u).isSome)] : Value) = v ∧ (IntsF F' a ((putL ar t p u).getD [])) ∧ ((putL ar t p u).isSome = true → isNil a = false) ∧ (Fresh F F' (intsH 2 a ((putL ar t p u).getD []))) ∧ L = L') := by
 refine qH func83 rfl rfl rfl ?_
 have hsl := sigOk_spec ho.sig
 have htl := ho.len
 have hsig := ho.sig
 have hee := ho.endN hp
 refine qc (qa (cX (qY [arv] rfl rfl ?_)))
 intro b1
 refine qh (sN) rfl (qh (.bool (false)) rfl (qb (qc ?_)))
 refine yc [cellsH b1 [arv] 26] L 10 [] [[], [], [0, 1], [], [], [], [], [], [5, 6, 7], [4, 8]] [] (phiG [pe tv, pe (ii ((p : Int)) : Value), fun FF us v => (v : Value) = v ∧ (IntsF FF v ((t.drop 0).take (p - 0))) ∧ (isNil v = isNil tv), pe uv, pe tv, pe (.agg #[arv]), pe tv, pe (ii ((p : Int)) : Value), pe (ii (((endN ar t p : Nat) : Int)) : Value), fun FF us v => (v : Value) = v ∧ (IntsF FF v ((t.drop (endN ar t p)).take (((t).length) - (endN ar t p)))) ∧ (isNil v = isNil tv)]) (ownL []) mixed rfl rfl (by kernel_rfl) (by kernel_rfl) (MonoG.get (m1 (m1 (mC (fun le h => ⟨h.1, h.2.1.mono le, h.2.2⟩) (m1 (m1 (m1 (m1 (m1 (m1 (mC (fun le h => ⟨h.1, h.2.1.mono le, h.2.2⟩) MonoG.nil))))))))))) ?_ ?_
 ·refine gD (fun W Fs R lF z9 => ?_) ?_
  ·refine qg (ql (tv) rfl ?_)
   exact ⟨rfl, rfl⟩
  refine gD (fun W Fs R lF z9 => ?_) ?_
  ·refine qg (ql (ii ((p : Int))) rfl ?_)
   exact ⟨rfl, rfl⟩
  refine gD (fun W Fs R lF z9 => ?_) ?_
  ·replace har := har.mono lF
   replace ht := ht.mono lF
   replace hu := hu.mono lF
   rw [zB 0 1 (z9 0 rfl) (z9 1 rfl)]
   refine qg (XOp.sliceI 0 p qf qC rfl ht rfl ⟨_, rfl⟩ (by omega) (by omega) ?_)
   intro v3 hv3 hn3
   exact ⟨⟨rfl, hv3, hn3⟩, rfl⟩
  refine gD (fun W Fs R lF z9 => ?_) ?_
  ·refine qg (ql (uv) rfl ?_)
   exact ⟨rfl, rfl⟩
  refine gD (fun W Fs R lF z9 => ?_) ?_
  ·refine qg (ql (tv) rfl ?_)
   exact ⟨rfl, rfl⟩
  refine gD (fun W Fs R lF z9 => ?_) ?_
  ·replace har := har.mono lF
   replace ht := ht.mono lF
   replace hu := hu.mono lF
   refine qg (qv [arv] qU qB rfl rfl (Rd.ownN [] rfl rfl) ?_)
   exact ⟨rfl, rfl⟩
  refine gD (fun W Fs R lF z9 => ?_) ?_
  ·refine qg (ql (tv) rfl ?_)
   exact ⟨rfl, rfl⟩
  refine gD (fun W Fs R lF z9 => ?_) ?_
  ·refine qg (ql (ii ((p : Int))) rfl ?_)
   exact ⟨rfl, rfl⟩
  refine gD (fun W Fs R lF z9 => ?_) ?_
  ·replace har := har.mono lF
   replace ht := ht.mono lF
   replace hu := hu.mono lF
   rw [eS (l := [(5, _), (6, _), (7, _)]) ⟨z9 5 rfl, z9 6 rfl, z9 7 rfl, ⟨⟩⟩]
   refine qg (qt (args := [.agg #[arv], tv, ii (p : Int)]) call63 rfl (endAtW_ok (p := p) har ht (ho := (by first | assumption | rfl | omega | (left; simp; done) | (right; simp; done))) (hp := (by first | assumption | rfl | omega | (left; simp; done) | (right; simp; done)))) ?_)
   rintro _ _ _ _ ⟨rfl, rfl, rfl⟩
   exact ⟨rfl, rfl⟩
  refine gD (fun W Fs R lF z9 => ?_) ?_
  ·replace har := har.mono lF
   replace ht := ht.mono lF
   replace hu := hu.mono lF
   rw [zB 4 8 (z9 4 rfl) (z9 8 rfl)]
   refine qg (XOp.sliceI (endN ar t p) ((t).length) qf qC rfl ht ⟨_, rfl⟩ rfl (by omega) (by omega) ?_)
   intro v4 hv4 hn4
   exact ⟨⟨rfl, hv4, hn4⟩, rfl⟩
  exact stepsG.nil
 intro W F1 le1 hphi
 obtain ⟨e2, f2_1hv, f2_1hn⟩ := hphi 2 (by decide)
 obtain ⟨e9, f9_1hv, f9_1hn⟩ := hphi 9 (by decide)
 generalize hu1 : (W 2) = u1 at e2 f2_1hv f2_1hn e9 f9_1hv f9_1hn
 generalize hu2 : (W 9) = u2 at e2 f2_1hv f2_1hn e9 f9_1hv f9_1hn
 rw [eS (l := [(2, u1), (3, _), (9, u2)]) ⟨hu1, (hphi 3 (by decide)), hu2, ⟨⟩⟩]
 replace hu := hu.mono le1
 show XL _ _ _ _ _ _ _ (cellsH b1 [arv] 26 :: L)
 refine cX (qD (s := 1) [u1, uv, u2] [sN] [(0, [u1]), (1, [uv]), (2, [u2])] jl qr zeroValue24 rfl (by decide) rfl (.cons (cells_one (qp f2_1hv)) (.cons (cells_one (qp hu)) (.cons (cells_one (qp f9_1hv)) CellsAre.nil))) rfl ?_)
 intro v5 hv5
 have hc1 : RowsC F1 [u1, uv, u2] ([((t.drop 0).take (p - 0)), u, ((t.drop (endN ar t p)).take (((t).length) - (endN ar t p)))] : List (List Int)) := (RowsC.snoc (RowsC.snoc (RowsC.snoc (CO.nil : RowsC F1 [] []) f2_1hv) hu) f9_1hv)
 refine XL.freezeF [] _ _ rfl (fun F2 le2 hz1 => ?_)
 replace hc1 := hc1.mono le2
 have hf1 : RowsF F2 v5 (([((t.drop 0).take (p - 0)), u, ((t.drop (endN ar t p)).take (((t).length) - (endN ar t p)))] : List (List Int))) := CO.fz hc1 (by first | rfl | omega | (rw [List.length_set]; omega) | (simp; done) | (rw [List.length_append]; simp only [List.length_singleton]; omega)) hz1.fz
 refine cX (jT <| qt (args := [v5]) call99 rfl (Concat_spec hf1 (hg1 := (by simp; omega)) (hn := (by first | assumption | rfl | omega | simp)) (hb := (fun i hi => by match i, hi with | 0, _ => simp; omega | 1, _ => simp; omega | 2, _ => simp; omega))) ?_)
 rintro v6 _ _ _ ⟨rfl, hs1, rfl⟩
 refine ⟨_, _, rfl, fun F3 le3 hz2 => ?_⟩
 have hf2 : IntsF F3 v6 (((([((t.drop 0).take (p - 0)), u, ((t.drop (endN ar t p)).take (((t).length) - (endN ar t p)))] : List (List Int))).flatten)) := intsH.fz (xs := ((([((t.drop 0).take (p - 0)), u, ((t.drop (endN ar t p)).take (((t).length) - (endN ar t p)))] : List (List Int))).flatten)) hz2.fz
 refine qh (v6) rfl (qb (qc (qc (qa (qd (v6) rfl (cX (qG qf rfl hf2.slv (cX (jU rfl rfl (qb ?_))))))))))
 refine qE (p := ((((((([((t.drop 0).take (p - 0)), u, ((t.drop (endN ar t p)).take (((t).length) - (endN ar t p)))] : List (List Int))).flatten)).length : Nat) : Int) : Int) > 60) rfl (fun h1 => ?_) (fun h1 => ?_)
 ·refine qc (qa (qh (sN) rfl (qh (.bool (false)) rfl (qb (qw (qo (qu (L' := L) [sN, .bool (false)] (.tuple #[sN, .bool (false)]) (.tmp rfl (.tmp rfl .nil)) rfl (qi (qi le1 le2) le3) rF (sD sR) ?_)))))))
  have hz : putL ar t p u = none := putL_none put_flat (by omega)
  exact ⟨_, by rw [hz]; rfl, by rw [hz]; exact IntsF.nilV, fun h => (by rw [hz] at h; cases h), by rw [hz]; exact Fresh.ofNil _, rfl⟩
 refine qA (qc (qa (qd (v6) rfl (qh (v6) rfl (qh (.bool (true)) rfl (qb (qw (qu (L' := L) [v6, .bool (true)] (.tuple #[v6, .bool (true)]) (.tmp rfl (.tmp rfl .nil)) rfl (qi (qi le1 le2) le3) rF (sD sR) ?_))))))))
 have hz := putL_some (ar := ar) (t := t) (p := p) (u := u) put_flat (by omega)
 exact ⟨_, by rw [hz]; rfl, by rw [hz]; exact hf2, fun _ => jx hf2 (by rw [put_flat]; simp; omega), by rw [hz]; exact (hz2.base (qi le1 le2)), rfl⟩

/- impl.peakAt -/
set_option maxHeartbeats 2000000 in
set_option maxRecDepth 20000 in
theorem peakAt_spec {F : FH} {L : List HP} {arv : Value} {ar : List Int} (har : IntsF F arv ar) {rsv : Value} {rs : List (List Int × List Int)} (hrs : PairsF F rsv rs) {o : Nat} {p : Nat} {u : Nat} (hsys : sysOk ar rs = true) (ho : o < rs.length) (hu : u < rs.length) (hp : p < (rs.getD o ([], [])).1.length) :
    Does prog 73 [.agg #[arv, rsv], ii ((o : Int)), ii ((p : Int)), ii ((u : Int))] F (L) (fun v F' L' => ∃ (a : Value), ∃ (b : Value), ∃ (c : Value), (.tuple #[.agg #[a, b, c, ii (((pkF ar rs o p u).getD P0).2.2.2.1), ii (((pkF ar rs o p u).getD P0).2.2.2.2.1), ii (((pkF ar rs o p u).getD P0).2.2.2.2.2)], .bool ((pkF ar rs o p u).isSome)] : Value) = v ∧ (IntsF F' a ((pkF ar rs o p u).getD P0).1) ∧ (IntsF F' b ((pkF ar rs o p u).getD P0).2.1) ∧ (IntsF F' c ((pkF ar rs o p u).getD P0).2.2.1) ∧ (Fresh F F' (star [intsH 2 a ((pkF ar rs o p u).getD P0).1, intsH 2 b ((pkF ar rs o p u).getD P0).2.1, intsH 2 c ((pkF ar rs o p u).getD P0).2.2.1])) ∧ L = L') := by
 refine qH func73 rfl rfl rfl ?_
 have hlo : termOk ar (rs.getD o ([], [])).1 = true := rule_L hsys ho
 have hllo : 1 ≤ (rs.getD o ([], [])).1.length ∧ (rs.getD o ([], [])).1.length ≤ 60 := termOk_len hlo
 have hglo : ∀ k, k < (rs.getD o ([], [])).1.length → -24 ≤ (rs.getD o ([], [])).1.getD k 0 := fun k h => termOk_ge hlo h
 have hlu : termOk ar (rs.getD u ([], [])).1 = true := rule_L hsys hu
 have hllu : 1 ≤ (rs.getD u ([], [])).1.length ∧ (rs.getD u ([], [])).1.length ≤ 60 := termOk_len hlu
 have hglu : ∀ k, k < (rs.getD u ([], [])).1.length → -24 ≤ (rs.getD u ([], [])).1.getD k 0 := fun k h => termOk_ge hlu h
 have hro : termOk ar (rs.getD o ([], [])).2 = true := rule_R hsys ho
 have hlro : 1 ≤ (rs.getD o ([], [])).2.length ∧ (rs.getD o ([], [])).2.length ≤ 60 := termOk_len hro
 have hgro : ∀ k, k < (rs.getD o ([], [])).2.length → -24 ≤ (rs.getD o ([], [])).2.getD k 0 := fun k h => termOk_ge hro h
 have hru : termOk ar (rs.getD u ([], [])).2 = true := rule_R hsys hu
 have hlru : 1 ≤ (rs.getD u ([], [])).2.length ∧ (rs.getD u ([], [])).2.length ≤ 60 := termOk_len hru
 have hgru : ∀ k, k < (rs.getD u ([], [])).2.length → -24 ≤ (rs.getD u ([], [])).2.getD k 0 := fun k h => termOk_ge hru h
 have hrl := (sysOk_iff.1 hsys).2.1
 have hsig := (sysOk_iff.1 hsys).1
 have hsl := sigOk_spec hsig
 refine qc (qa (cX (qY [arv, rsv] rfl rfl ?_)))
 intro b1
 refine cX (je [sN, sN, sN, ii (0), ii (0), ii (0)] yk rfl ?_)
 intro b2
 refine qh (.bool (false)) rfl (qb (qc (qa (cX (qv [arv, rsv] yj jQ rfl rfl (Rd.ownN [_] rfl rfl) (qd (ii ((o : Int))) rfl (qd (ii ((p : Int))) rfl (qd (ii ((u : Int))) rfl (cX (qt (args := [.agg #[arv, rsv], ii (o : Int), ii (p : Int), ii (u : Int)]) call85 rfl (overlap_spec (o := o) (p := p) (u := u) har hrs (hsys := (by first | assumption | rfl | omega | simp)) (ho := (by first | assumption | rfl | omega | simp)) (hu := (by first | assumption | rfl | omega | simp)) (hp := (by first | assumption | rfl | omega | simp))) ?_))))))))))
 rintro _ F1 _ le1 (⟨rfl, hmt1, rfl⟩ | ⟨b3, rfl, hmt1, rfl⟩ | ⟨b3, b4, l1, rfl, hmt1, hb1, hmg1, rfl⟩)
 ·replace har := har.mono le1
  replace hrs := hrs.mono le1
  refine qd (.tuple #[(.pointer none), .bool (false)]) rfl (cX (qK ((.pointer none)) rfl rfl (cX (qK (.bool (false)) rfl rfl (qh ((.pointer none)) rfl (qh (.bool (false)) rfl (qb (qc (qc (qa (qd (.bool (false)) rfl (cX (ju rfl (qb (jO rfl ?_)))))))))))))))
  refine qc (qa (cX (qZ [sN, sN, sN, ii (0), ii (0), ii (0)] [sN, sN, sN, ii (0), ii (0), ii (0)] [(0, 1), (1, 1), (2, 1), (3, 1), (4, 1), (5, 1)] [] jI yk rfl (.cons rfl qr (.cons rfl qr (.cons rfl qr (.cons rfl qC (.cons rfl qC (.cons rfl qC PlacesAre.nil)))))) rfl CellsAre.nil (cX (qI [] _ [sN, sN, sN, ii (0), ii (0), ii (0)] jR rfl rfl rfl (qm rfl (qm rfl (qm rfl (qm rfl (qm rfl (qm rfl qO)))))) rfl rfl rfl (qh (.bool (false)) rfl (qb (qw (qo (qu (L' := L) [.agg #[sN, sN, sN, ii (0), ii (0), ii (0)], .bool (false)] (.tuple #[.agg #[sN, sN, sN, ii (0), ii (0), ii (0)], .bool (false)]) (.cell rfl (jA [sN, sN, sN, ii (0), ii (0), ii (0)] isAgg109 jR rfl (Rd.ownN [] rfl rfl)) (.tmp rfl .nil)) rfl le1 rF (sD (sD sR)) ?_))))))))))
  have e : pkF ar rs o p u = none := pk_nomeet hmt1
  exact ⟨_, _, _, by rw [e]; rfl, by rw [e]; exact IntsF.nilV, by rw [e]; exact IntsF.nilV, by rw [e]; exact IntsF.nilV, by rw [e]; exact Fresh.empty nil3, rfl⟩
 ·replace har := har.mono le1
  replace hrs := hrs.mono le1
  refine qd (.tuple #[ptr b3 0, .bool (false)]) rfl (cX (qK (ptr b3 0) rfl rfl (cX (qK (.bool (false)) rfl rfl (qh (ptr b3 0) rfl (qh (.bool (false)) rfl (qb (qc (qc (qa (qd (.bool (false)) rfl (cX (ju rfl (qb (jO rfl ?_)))))))))))))))
  refine qc (qa (cX (qZ [sN, sN, sN, ii (0), ii (0), ii (0)] [sN, sN, sN, ii (0), ii (0), ii (0)] [(0, 1), (1, 1), (2, 1), (3, 1), (4, 1), (5, 1)] [] jI yk rfl (.cons rfl qr (.cons rfl qr (.cons rfl qr (.cons rfl qC (.cons rfl qC (.cons rfl qC PlacesAre.nil)))))) rfl CellsAre.nil (cX (qI [] _ [sN, sN, sN, ii (0), ii (0), ii (0)] jR rfl rfl rfl (qm rfl (qm rfl (qm rfl (qm rfl (qm rfl (qm rfl qO)))))) rfl rfl rfl (qh (.bool (false)) rfl (qb (qw (qo (qu (L' := L) [.agg #[sN, sN, sN, ii (0), ii (0), ii (0)], .bool (false)] (.tuple #[.agg #[sN, sN, sN, ii (0), ii (0), ii (0)], .bool (false)]) (.cell rfl (jA [sN, sN, sN, ii (0), ii (0), ii (0)] isAgg109 jR rfl (Rd.ownN [] rfl rfl)) (.tmp rfl .nil)) rfl le1 rF (sD (sD sR)) ?_))))))))))
  have e : pkF ar rs o p u = none := pk_nomeet hmt1
  exact ⟨_, _, _, by rw [e]; rfl, by rw [e]; exact IntsF.nilV, by rw [e]; exact IntsF.nilV, by rw [e]; exact IntsF.nilV, by rw [e]; exact Fresh.empty nil3, rfl⟩
 replace har := har.mono le1
 replace hrs := hrs.mono le1
 refine qd (.tuple #[ptr b3 0, .bool (true)]) rfl (cX (qK (ptr b3 0) rfl rfl (cX (qK (.bool (true)) rfl rfl (qh (ptr b3 0) rfl (qh (.bool (true)) rfl (qb (qc (qc (qa (qd (.bool (true)) rfl (cX (ju rfl (qb (jW rfl ?_)))))))))))))))
 refine qA (qc (qa ?_))
 have hmt : meetB ar rs o p u = true := hmt1
 have hmg := hmg1
 have hbo := hmg.ok
 obtain ⟨σ, hσ⟩ := hbo.sol
 have hgs := hσ.good hbo
 refine cX (qn (1) jc rfl jB (by decide) rfl rfl (cX (qj jS rfl (Rd.own [_, _] rfl rfl) (qd (ii ((o : Int))) rfl (cX (qx o qV jp rfl rfl rfl hrs.slv (by omega) rfl ?_))))))
 obtain ⟨a1, a2, ha1, ha2, hr1, hr2⟩ := hrs.rd (i := o) (by omega)
 refine cX (qv [a1, a2] isAgg79 jp rfl rfl (Rd.two (hr1 _) (hr2 _)) (cX (je [sN, sN] jM rfl ?_)))
 intro b5
 refine cX (qI [] _ [a1, a2] jp rfl rfl rfl (qm (qy (qp ha1)) (qm (qy (qp ha2)) qO)) rfl rfl rfl (qb (qc (qa (qd (ptr b3 0) rfl (cX (qn (0) jf rfl qr (by decide) rfl rfl (cX (qj qN rfl (Rd.own [] rfl rfl) ?_)))))))))
 obtain ⟨ρ9, hρ9⟩ := hbo.acyc
 obtain ⟨k9, hk9⟩ := maxRank ((rs.getD o ([], [])).1) ρ9
 have hw9 := W_ge (termW_of hlo)
 refine jK (intsH.addNil 2 none _) (jK (jg (A := [_, _])) ?_)
 show XL _ _ _ _ _ _ _ (cellsH b3 (arv :: b4) 174 :: intsH 2 (sN) ([]) :: cellsH b5 [a1, a2] 79 :: cellsH b2 [sN, sN, sN, ii (0), ii (0), ii (0)] 109 :: cellsH b1 [arv, rsv] 77 :: L)
 refine jK (jg (A := [_])) ?_
 show XL _ _ _ _ _ _ _ (intsH 2 (sN) ([]) :: cellsH b3 (arv :: b4) 174 :: cellsH b5 [a1, a2] 79 :: cellsH b2 [sN, sN, sN, ii (0), ii (0), ii (0)] 109 :: cellsH b1 [arv, rsv] 77 :: L)
 refine cX (qt (args := [ptr b3 0, sN, a1]) call86 rfl (resolve_spec k9 har hb1 (by assumption) (os := []) ha1 ⟨_, _, _, rfl⟩ (Nat.zero_le _) hσ hρ9 (fun m hm _ => hk9 m hm) hw9.1 hw9.2) ?_)
 rintro _ _ _ _ ⟨v1, rfl, hs1, rfl, rfl⟩
 refine qd (.tuple #[v1, .bool (resOk σ ([] : List Int) ((rs.getD o ([], [])).1))]) rfl (cX (qK (v1) rfl rfl (cX (qK (.bool (resOk σ ([] : List Int) ((rs.getD o ([], [])).1))) rfl rfl (qh (v1) rfl (qh (.bool (resOk σ ([] : List Int) ((rs.getD o ([], [])).1))) rfl (qb (qc (qa (qd (ptr b3 0) rfl (cX (qn (1) jf rfl qr (by decide) rfl rfl (cX (qj qN rfl (Rd.own [_, _] rfl rfl) ?_))))))))))))))
 obtain ⟨ρ9, hρ9⟩ := hbo.acyc
 obtain ⟨k9, hk9⟩ := maxRank ((rs.getD o ([], [])).2) ρ9
 have hw9 := W_ge (termW_of hro)
 refine jK (intsH.addNil 2 none _) (jK (jg (A := [_, _])) ?_)
 show XL _ _ _ _ _ _ _ (cellsH b3 (arv :: b4) 174 :: intsH 2 (sN) ([]) :: intsH 2 v1 ((resX σ ([] : List Int) ((rs.getD o ([], [])).1))) :: cellsH b5 [a1, a2] 79 :: cellsH b2 [sN, sN, sN, ii (0), ii (0), ii (0)] 109 :: cellsH b1 [arv, rsv] 77 :: L)
 refine jK (jg (A := [_])) ?_
 show XL _ _ _ _ _ _ _ (intsH 2 (sN) ([]) :: cellsH b3 (arv :: b4) 174 :: intsH 2 v1 ((resX σ ([] : List Int) ((rs.getD o ([], [])).1))) :: cellsH b5 [a1, a2] 79 :: cellsH b2 [sN, sN, sN, ii (0), ii (0), ii (0)] 109 :: cellsH b1 [arv, rsv] 77 :: L)
 refine cX (qt (args := [ptr b3 0, sN, a2]) call86 rfl (resolve_spec k9 har hb1 (by assumption) (os := []) ha2 ⟨_, _, _, rfl⟩ (Nat.zero_le _) hσ hρ9 (fun m hm _ => hk9 m hm) hw9.1 hw9.2) ?_)
 rintro _ _ _ _ ⟨v2, rfl, hs2, rfl, rfl⟩
 refine qd (.tuple #[v2, .bool (resOk σ ([] : List Int) ((rs.getD o ([], [])).2))]) rfl (cX (qK (v2) rfl rfl (cX (qK (.bool (resOk σ ([] : List Int) ((rs.getD o ([], [])).2))) rfl rfl (qh (v2) rfl (qh (.bool (resOk σ ([] : List Int) ((rs.getD o ([], [])).2))) rfl (qb (qc (qa (qd (ptr b3 0) rfl (cX (qn (1) jc rfl jB (by decide) rfl rfl (cX (qj jS rfl (Rd.own [_, _, _, _, _] rfl rfl) (qd (ii ((u : Int))) rfl ?_)))))))))))))))
 refine cX (qx u qV jp rfl rfl rfl hrs.slv (by omega) rfl (cX (XOp.fieldE (u * 2 + 1) jf rfl qr (by decide) rfl rfl ?_)))
 obtain ⟨a3, a4, ha3, ha4, hr3, hr4⟩ := hrs.rd (i := u) (by omega)
 refine cX (qj qN rfl (hr4 _) (cX (jT <| qt (args := [a4]) call87 rfl (away_spec ha4 (hlt := (by omega)) (htg := (fun i hi => by have := hgru i hi; omega))) ?_)))
 rintro v3 _ _ _ ⟨rfl, hs3, rfl⟩
 refine ⟨_, _, rfl, fun F2 le2 hz1 => ?_⟩
 replace har := har.mono le2
 replace hb1 := hb1.mono le2
 replace ha1 := ha1.mono le2
 have hf1 : IntsF F2 v3 ((awayL ((rs.getD u ([], [])).2))) := intsH.fz (xs := (awayL ((rs.getD u ([], [])).2))) hz1.fz
 obtain ⟨ρ9, hρ9⟩ := hbo.acyc
 obtain ⟨k9, hk9⟩ := maxRank ((awayL ((rs.getD u ([], [])).2))) ρ9
 have hw9 := W_ge (away_W hru)
 refine jK (intsH.addNil 2 none _) (jK (jg (A := [_, _])) ?_)
 show XL _ _ _ _ _ _ _ (cellsH b3 (arv :: b4) 174 :: intsH 2 (sN) ([]) :: intsH 2 v2 ((resX σ ([] : List Int) ((rs.getD o ([], [])).2))) :: intsH 2 v1 ((resX σ ([] : List Int) ((rs.getD o ([], [])).1))) :: cellsH b5 [a1, a2] 79 :: cellsH b2 [sN, sN, sN, ii (0), ii (0), ii (0)] 109 :: cellsH b1 [arv, rsv] 77 :: L)
 refine jK (jg (A := [_])) ?_
 show XL _ _ _ _ _ _ _ (intsH 2 (sN) ([]) :: cellsH b3 (arv :: b4) 174 :: intsH 2 v2 ((resX σ ([] : List Int) ((rs.getD o ([], [])).2))) :: intsH 2 v1 ((resX σ ([] : List Int) ((rs.getD o ([], [])).1))) :: cellsH b5 [a1, a2] 79 :: cellsH b2 [sN, sN, sN, ii (0), ii (0), ii (0)] 109 :: cellsH b1 [arv, rsv] 77 :: L)
 refine cX (qt (args := [ptr b3 0, sN, v3]) call86 rfl (resolve_spec k9 har hb1 (by assumption) (os := []) hf1 ⟨_, _, _, rfl⟩ (Nat.zero_le _) hσ hρ9 (fun m hm _ => hk9 m hm) hw9.1 hw9.2) ?_)
 rintro _ _ _ _ ⟨v4, rfl, hs4, rfl, rfl⟩
 refine qd (.tuple #[v4, .bool (resOk σ ([] : List Int) ((awayL ((rs.getD u ([], [])).2))))]) rfl (cX (qK (v4) rfl rfl (cX (qK (.bool (resOk σ ([] : List Int) ((awayL ((rs.getD u ([], [])).2))))) rfl rfl (qh (v4) rfl (qh (.bool (resOk σ ([] : List Int) ((awayL ((rs.getD u ([], [])).2))))) rfl (qb (qc (qc (qa (qd (.bool (resOk σ ([] : List Int) ((rs.getD o ([], [])).1))) rfl (cX (ju rfl (qd (.bool (!(resOk σ ([] : List Int) ((rs.getD o ([], [])).1)))) rfl ?_))))))))))))))
 by_cases h1 : (!(resOk σ ([] : List Int) ((rs.getD o ([], [])).1))) = true
 ·have hf9 : resOk σ [] (Lr rs o) = false ∨ resOk σ [] (Rr rs o) = false ∨ resOk σ [] (awayL (Rr rs u)) = false := .inl (Bool.not_inj (y := false) h1)
  refine qq (t := 65) rfl (vB h1) (qq (t := 65) rfl (vB h1) (cX (qT (.bool (true)) (vB h1) rfl (qd (.bool (true)) rfl (qq (t := 69) rfl rfl (qq (t := 69) rfl rfl (cX (qT (.bool (true)) rfl rfl (qb (jO rfl (qc (qa ?_))))))))))))
  refine cX (qZ [sN, sN, sN, ii (0), ii (0), ii (0)] [sN, sN, sN, ii (0), ii (0), ii (0)] [(0, 1), (1, 1), (2, 1), (3, 1), (4, 1), (5, 1)] [] jI yk rfl (.cons rfl qr (.cons rfl qr (.cons rfl qr (.cons rfl qC (.cons rfl qC (.cons rfl qC PlacesAre.nil)))))) rfl CellsAre.nil (cX (qI [_, _, _, _, _] _ [sN, sN, sN, ii (0), ii (0), ii (0)] jR rfl rfl rfl (qm rfl (qm rfl (qm rfl (qm rfl (qm rfl (qm rfl qO)))))) rfl rfl rfl (qh (.bool (false)) rfl (qb (qw (qo (qu (L' := L) [.agg #[sN, sN, sN, ii (0), ii (0), ii (0)], .bool (false)] (.tuple #[.agg #[sN, sN, sN, ii (0), ii (0), ii (0)], .bool (false)]) (.cell rfl (jA [sN, sN, sN, ii (0), ii (0), ii (0)] isAgg109 jR rfl (Rd.ownN [_, _, _, _, _] rfl rfl)) (.tmp rfl .nil)) rfl (qi le1 le2) rF (sD (sD (sD (sD (sD (sD (sD sR))))))) ?_))))))))
  have e : pkF ar rs o p u = none := pk_long hsys ho hu hmt hmg hσ hf9
  exact ⟨_, _, _, by rw [e]; rfl, by rw [e]; exact IntsF.nilV, by rw [e]; exact IntsF.nilV, by rw [e]; exact IntsF.nilV, by rw [e]; exact Fresh.empty nil3, rfl⟩
 rw [Bool.not_eq_true] at h1
 have hkL : resOk σ [] (rs.getD o ([], [])).1 = true := Bool.not_inj (y := true) h1
 obtain ⟨eL, lL⟩ := resX_eq hkL
 refine qs (t := 65) rfl (vB h1) (ql (.bool (resOk σ ([] : List Int) ((rs.getD o ([], [])).2))) rfl (qs (t := 65) rfl (vB h1) (ju rfl (cX (qP (.bool (!(resOk σ ([] : List Int) ((rs.getD o ([], [])).2)))) (vB h1) rfl (qd (.bool (!(resOk σ ([] : List Int) ((rs.getD o ([], [])).2)))) rfl ?_))))))
 by_cases h2 : (!(resOk σ ([] : List Int) ((rs.getD o ([], [])).2))) = true
 ·have hf9 : resOk σ [] (Lr rs o) = false ∨ resOk σ [] (Rr rs o) = false ∨ resOk σ [] (awayL (Rr rs u)) = false := .inr <| .inl (Bool.not_inj (y := false) h2)
  refine qq (t := 69) rfl (vB h2) (qq (t := 69) rfl (vB h2) (cX (qT (.bool (true)) (vB h2) rfl (qb (jO rfl (qc (qa (cX (qZ [sN, sN, sN, ii (0), ii (0), ii (0)] [sN, sN, sN, ii (0), ii (0), ii (0)] [(0, 1), (1, 1), (2, 1), (3, 1), (4, 1), (5, 1)] [] jI yk rfl (.cons rfl qr (.cons rfl qr (.cons rfl qr (.cons rfl qC (.cons rfl qC (.cons rfl qC PlacesAre.nil)))))) rfl CellsAre.nil (cX (qI [_, _, _, _, _] _ [sN, sN, sN, ii (0), ii (0), ii (0)] jR rfl rfl rfl (qm rfl (qm rfl (qm rfl (qm rfl (qm rfl (qm rfl qO)))))) rfl rfl rfl (qh (.bool (false)) rfl (qb ?_)))))))))))))
  refine qw (qo (qu (L' := L) [.agg #[sN, sN, sN, ii (0), ii (0), ii (0)], .bool (false)] (.tuple #[.agg #[sN, sN, sN, ii (0), ii (0), ii (0)], .bool (false)]) (.cell rfl (jA [sN, sN, sN, ii (0), ii (0), ii (0)] isAgg109 jR rfl (Rd.ownN [_, _, _, _, _] rfl rfl)) (.tmp rfl .nil)) rfl (qi le1 le2) rF (sD (sD (sD (sD (sD (sD (sD sR))))))) ?_))
  have e : pkF ar rs o p u = none := pk_long hsys ho hu hmt hmg hσ hf9
  exact ⟨_, _, _, by rw [e]; rfl, by rw [e]; exact IntsF.nilV, by rw [e]; exact IntsF.nilV, by rw [e]; exact IntsF.nilV, by rw [e]; exact Fresh.empty nil3, rfl⟩
 rw [Bool.not_eq_true] at h2
 have hkR : resOk σ [] (rs.getD o ([], [])).2 = true := Bool.not_inj (y := true) h2
 obtain ⟨eR, lR⟩ := resX_eq hkR
 refine qs (t := 69) rfl (vB h2) (ql (.bool (resOk σ ([] : List Int) ((awayL ((rs.getD u ([], [])).2))))) rfl (qs (t := 69) rfl (vB h2) (ju rfl (cX (qP (.bool (!(resOk σ ([] : List Int) ((awayL ((rs.getD u ([], [])).2)))))) (vB h2) rfl (qb ?_))))))
 refine jG (t := !(resOk σ ([] : List Int) ((awayL ((rs.getD u ([], [])).2))))) rfl (fun h3 => ?_) (fun h3 => ?_)
 ·have hf9 : resOk σ [] (Lr rs o) = false ∨ resOk σ [] (Rr rs o) = false ∨ resOk σ [] (awayL (Rr rs u)) = false := .inr <| .inr (Bool.not_inj (y := false) h3)
  refine qc (qa (cX (qZ [sN, sN, sN, ii (0), ii (0), ii (0)] [sN, sN, sN, ii (0), ii (0), ii (0)] [(0, 1), (1, 1), (2, 1), (3, 1), (4, 1), (5, 1)] [] jI yk rfl (.cons rfl qr (.cons rfl qr (.cons rfl qr (.cons rfl qC (.cons rfl qC (.cons rfl qC PlacesAre.nil)))))) rfl CellsAre.nil (cX (qI [_, _, _, _, _] _ [sN, sN, sN, ii (0), ii (0), ii (0)] jR rfl rfl rfl (qm rfl (qm rfl (qm rfl (qm rfl (qm rfl (qm rfl qO)))))) rfl rfl rfl (qh (.bool (false)) rfl (qb (qw (qo (qu (L' := L) [.agg #[sN, sN, sN, ii (0), ii (0), ii (0)], .bool (false)] (.tuple #[.agg #[sN, sN, sN, ii (0), ii (0), ii (0)], .bool (false)]) (.cell rfl (jA [sN, sN, sN, ii (0), ii (0), ii (0)] isAgg109 jR rfl (Rd.ownN [_, _, _, _, _] rfl rfl)) (.tmp rfl .nil)) rfl (qi le1 le2) rF (sD (sD (sD (sD (sD (sD (sD sR))))))) ?_))))))))))
  have e : pkF ar rs o p u = none := pk_long hsys ho hu hmt hmg hσ hf9
  exact ⟨_, _, _, by rw [e]; rfl, by rw [e]; exact IntsF.nilV, by rw [e]; exact IntsF.nilV, by rw [e]; exact IntsF.nilV, by rw [e]; exact Fresh.empty nil3, rfl⟩
 have hkA : resOk σ [] (awayL (rs.getD u ([], [])).2) = true := Bool.not_inj (y := true) h3
 obtain ⟨eA, lA⟩ := resX_eq hkA
 have hTW : TermW ar (resX σ [] (rs.getD o ([], [])).1) := by rw [eL]; exact ap_W hbo hσ (termW_of hlo) lL
 have hpT : (ap σ ((rs.getD o ([], [])).1.take p)).length < (resX σ [] (rs.getD o ([], [])).1).length := by rw [eL]; exact take_lt hgs hp
 have hBl : 1 ≤ (resX σ [] (awayL (rs.getD u ([], [])).2)).length ∧ (resX σ [] (awayL (rs.getD u ([], [])).2)).length ≤ 4000000 := by rw [eA]; have := (ap_W hbo hσ (away_W hru) lA).len; omega
 refine qA (qc (ji [_, _, _] _ _ rfl (fun F3 le3 hz2 => ?_)))
 replace har := har.mono le3
 replace hb1 := hb1.mono le3
 replace ha1 := ha1.mono le3
 have hf2 : IntsF F3 v1 ((resX σ ([] : List Int) ((rs.getD o ([], [])).1))) := intsH.fz (xs := (resX σ ([] : List Int) ((rs.getD o ([], [])).1))) hz2.fz
 refine ji [_, _] _ _ rfl (fun F4 le4 hz3 => ?_)
 replace har := har.mono le4
 replace hb1 := hb1.mono le4
 replace ha1 := ha1.mono le4
 replace hf2 := hf2.mono le4
 have hf3 : IntsF F4 v2 ((resX σ ([] : List Int) ((rs.getD o ([], [])).2))) := intsH.fz (xs := (resX σ ([] : List Int) ((rs.getD o ([], [])).2))) hz3.fz
 refine ji [] _ _ rfl (fun F5 le5 hz4 => ?_)
 replace har := har.mono le5
 replace hb1 := hb1.mono le5
 replace ha1 := ha1.mono le5
 replace hf2 := hf2.mono le5
 replace hf3 := hf3.mono le5
 have hf4 : IntsF F5 v4 ((resX σ ([] : List Int) ((awayL ((rs.getD u ([], [])).2))))) := intsH.fz (xs := (resX σ ([] : List Int) ((awayL ((rs.getD u ([], [])).2))))) hz4.fz
 refine yc [cellsH b3 (arv :: b4) 174, cellsH b5 [a1, a2] 79, cellsH b2 [sN, sN, sN, ii (0), ii (0), ii (0)] 109, cellsH b1 [arv, rsv] 77] L 14 [[], [], [], [], [], [], [], [], [], [], [9], [9], [], [9]] [[], [0], [], [], [], [4], [], [3, 5, 6], [], [1, 2, 7, 8], [9], [9, 10], [9, 10], [9, 11]] [] (phiG [pe (ptr b1 0), pe (.agg #[arv]), pe v1, pe (ptr b3 0), pe (ptr b5 0), pe a1, pe (ii ((p : Int)) : Value), pe (ii ((((ap σ (((rs.getD o ([], [])).1).take p)).length : Nat) : Int)) : Value), pe v4, fun FF us v => (.tuple #[((tupAt v 0)), .bool ((putL ar ((resX σ ([] : List Int) ((rs.getD o ([], [])).1))) ((ap σ (((rs.getD o ([], [])).1).take p)).length) ((resX σ ([] : List Int) ((awayL ((rs.getD u ([], [])).2)))))).isSome)] : Value) = v ∧ (IntsF FF ((tupAt v 0)) ((putL ar ((resX σ ([] : List Int) ((rs.getD o ([], [])).1))) ((ap σ (((rs.getD o ([], [])).1).take p)).length) ((resX σ ([] : List Int) ((awayL ((rs.getD u ([], [])).2)))))).getD [])) ∧ ((putL ar ((resX σ ([] : List Int) ((rs.getD o ([], [])).1))) ((ap σ (((rs.getD o ([], [])).1).take p)).length) ((resX σ ([] : List Int) ((awayL ((rs.getD u ([], [])).2)))))).isSome = true → isNil ((tupAt v 0)) = false), fun FF us v => v = (.tuple #[((tupAt (us.getD 0 undef) 0)), .bool ((putL ar ((resX σ ([] : List Int) ((rs.getD o ([], [])).1))) ((ap σ (((rs.getD o ([], [])).1).take p)).length) ((resX σ ([] : List Int) ((awayL ((rs.getD u ([], [])).2)))))).isSome)] : Value), fun FF us v => v = ((tupAt (us.getD 0 undef) 0)), pe (.bool ((putL ar ((resX σ ([] : List Int) ((rs.getD o ([], [])).1))) ((ap σ (((rs.getD o ([], [])).1).take p)).length) ((resX σ ([] : List Int) ((awayL ((rs.getD u ([], [])).2)))))).isSome) : Value), fun FF us v => v = ((tupAt (us.getD 0 undef) 0))]) (ownL []) mixed rfl rfl (by kernel_rfl) (by kernel_rfl) (MonoG.get (m1 (m1 (m1 (m1 (m1 (m1 (m1 (m1 (m1 (mC (fun le h => ⟨h.1, h.2.1.mono le, h.2.2⟩) (mC (fun le h => h) (mC (fun le h => h) (m1 (mC (fun le h => h) MonoG.nil))))))))))))))) ?_ ?_
 ·refine gD (fun W Fs R lF z9 => ?_) ?_
  ·refine qg (qn (0) jc rfl qB (by decide) rfl rfl ?_)
   exact ⟨rfl, rfl⟩
  refine gD (fun W Fs R lF z9 => ?_) ?_
  ·replace har := har.mono lF
   replace hb1 := hb1.mono lF
   replace ha1 := ha1.mono lF
   replace hf2 := hf2.mono lF
   replace hf3 := hf3.mono lF
   replace hf4 := hf4.mono lF
   rw [zA 0 (z9 0 rfl)]
   refine qg (qv [arv] qU qB rfl rfl (Rd.ownN [_, _, _] rfl rfl) ?_)
   exact ⟨rfl, rfl⟩
  refine gD (fun W Fs R lF z9 => ?_) ?_
  ·refine qg (ql (v1) rfl ?_)
   exact ⟨rfl, rfl⟩
  refine gD (fun W Fs R lF z9 => ?_) ?_
  ·refine qg (ql (ptr b3 0) rfl ?_)
   exact ⟨rfl, rfl⟩
  refine gD (fun W Fs R lF z9 => ?_) ?_
  ·refine qg (qn (0) jf rfl qr (by decide) rfl rfl ?_)
   exact ⟨rfl, rfl⟩
  refine gD (fun W Fs R lF z9 => ?_) ?_
  ·replace har := har.mono lF
   replace hb1 := hb1.mono lF
   replace ha1 := ha1.mono lF
   replace hf2 := hf2.mono lF
   replace hf3 := hf3.mono lF
   replace hf4 := hf4.mono lF
   rw [zA 4 (z9 4 rfl)]
   refine qg (qj qN rfl (Rd.own [_] rfl rfl) ?_)
   exact ⟨rfl, rfl⟩
  refine gD (fun W Fs R lF z9 => ?_) ?_
  ·refine qg (ql (ii ((p : Int))) rfl ?_)
   exact ⟨rfl, rfl⟩
  refine gD (fun W Fs R lF z9 => ?_) ?_
  ·replace har := har.mono lF
   replace hb1 := hb1.mono lF
   replace ha1 := ha1.mono lF
   replace hf2 := hf2.mono lF
   replace hf3 := hf3.mono lF
   replace hf4 := hf4.mono lF
   rw [eS (l := [(3, _), (5, _), (6, _)]) ⟨z9 3 rfl, z9 5 rfl, z9 6 rfl, ⟨⟩⟩]
   refine qg (qt (args := [ptr b3 0, a1, ii ((p : Int))]) call88 rfl (jD [] (placeIn_spec (p := p) har hb1 hbo ha1 hσ (termW_of hlo) (by first | assumption | omega) lL)) ?_)
   rintro _ _ _ _ ⟨⟨rfl, rfl⟩, rfl⟩
   exact ⟨rfl, rfl⟩
  refine gD (fun W Fs R lF z9 => ?_) ?_
  ·refine qg (ql (v4) rfl ?_)
   exact ⟨rfl, rfl⟩
  refine gD (fun W Fs R lF z9 => ?_) ?_
  ·replace har := har.mono lF
   replace hf2 := hf2.mono lF
   replace hf3 := hf3.mono lF
   replace hf4 := hf4.mono lF
   rw [eS (l := [(1, _), (2, _), (7, _), (8, _)]) ⟨z9 1 rfl, z9 2 rfl, z9 7 rfl, z9 8 rfl, ⟨⟩⟩]
   refine qg (qt (args := [.agg #[arv], v1, ii (((ap σ (((rs.getD o ([], [])).1).take p)).length : Nat) : Int), v4]) call83 rfl (putW_spec (p := (ap σ (((rs.getD o ([], [])).1).take p)).length) har hf2 hf4 (ho := (hTW)) (hp := (hpT)) (hul := (hBl))) ?_)
   rintro _ F7 _ le7 ⟨x2, rfl, hr8, hr9, hr10, rfl⟩
   replace hf2 := hf2.mono le7
   replace hf3 := hf3.mono le7
   exact ⟨⟨rfl, hr8, hr9⟩, rfl⟩
  refine gD (fun W Fs R lF z9 => ?_) ?_
  ·obtain ⟨e9, f9_1hr, f9_1hnz⟩ := z9 9 rfl
   rw [eS (l := [(9, (.tuple #[((tupAt (W 9) 0)), .bool ((putL ar ((resX σ ([] : List Int) ((rs.getD o ([], [])).1))) ((ap σ (((rs.getD o ([], [])).1).take p)).length) ((resX σ ([] : List Int) ((awayL ((rs.getD u ([], [])).2)))))).isSome)]))]) ⟨(e9).symm, ⟨⟩⟩]
   refine qg (ql (.tuple #[((tupAt (W 9) 0)), .bool ((putL ar ((resX σ ([] : List Int) ((rs.getD o ([], [])).1))) ((ap σ (((rs.getD o ([], [])).1).take p)).length) ((resX σ ([] : List Int) ((awayL ((rs.getD u ([], [])).2)))))).isSome)]) rfl ?_)
   exact ⟨rfl, rfl⟩
  refine gD (fun W Fs R lF z9 => ?_) ?_
  ·obtain ⟨e9, f9_1hr, f9_1hnz⟩ := z9 9 rfl
   have e10 : W 10 = (.tuple #[((tupAt (W 9) 0)), .bool ((putL ar ((resX σ ([] : List Int) ((rs.getD o ([], [])).1))) ((ap σ (((rs.getD o ([], [])).1).take p)).length) ((resX σ ([] : List Int) ((awayL ((rs.getD u ([], [])).2)))))).isSome)] : Value) := z9 10 rfl
   rw [eS (l := [(9, (.tuple #[((tupAt (W 9) 0)), .bool ((putL ar ((resX σ ([] : List Int) ((rs.getD o ([], [])).1))) ((ap σ (((rs.getD o ([], [])).1).take p)).length) ((resX σ ([] : List Int) ((awayL ((rs.getD u ([], [])).2)))))).isSome)])), (10, (.tuple #[((tupAt (W 9) 0)), .bool ((putL ar ((resX σ ([] : List Int) ((rs.getD o ([], [])).1))) ((ap σ (((rs.getD o ([], [])).1).take p)).length) ((resX σ ([] : List Int) ((awayL ((rs.getD u ([], [])).2)))))).isSome)]))]) ⟨(e9).symm, e10, ⟨⟩⟩]
   refine qg (qK (((tupAt (W 9) 0))) rfl rfl ?_)
   exact ⟨rfl, rfl⟩
  refine gD (fun W Fs R lF z9 => ?_) ?_
  ·obtain ⟨e9, f9_1hr, f9_1hnz⟩ := z9 9 rfl
   have e10 : W 10 = (.tuple #[((tupAt (W 9) 0)), .bool ((putL ar ((resX σ ([] : List Int) ((rs.getD o ([], [])).1))) ((ap σ (((rs.getD o ([], [])).1).take p)).length) ((resX σ ([] : List Int) ((awayL ((rs.getD u ([], [])).2)))))).isSome)] : Value) := z9 10 rfl
   rw [eS (l := [(9, (.tuple #[((tupAt (W 9) 0)), .bool ((putL ar ((resX σ ([] : List Int) ((rs.getD o ([], [])).1))) ((ap σ (((rs.getD o ([], [])).1).take p)).length) ((resX σ ([] : List Int) ((awayL ((rs.getD u ([], [])).2)))))).isSome)])), (10, (.tuple #[((tupAt (W 9) 0)), .bool ((putL ar ((resX σ ([] : List Int) ((rs.getD o ([], [])).1))) ((ap σ (((rs.getD o ([], [])).1).take p)).length) ((resX σ ([] : List Int) ((awayL ((rs.getD u ([], [])).2)))))).isSome)]))]) ⟨(e9).symm, e10, ⟨⟩⟩]
   refine qg (qK (.bool ((putL ar ((resX σ ([] : List Int) ((rs.getD o ([], [])).1))) ((ap σ (((rs.getD o ([], [])).1).take p)).length) ((resX σ ([] : List Int) ((awayL ((rs.getD u ([], [])).2)))))).isSome)) rfl rfl ?_)
   exact ⟨rfl, rfl⟩
  refine gD (fun W Fs R lF z9 => ?_) ?_
  ·obtain ⟨e9, f9_1hr, f9_1hnz⟩ := z9 9 rfl
   have e11 : W 11 = ((tupAt (W 9) 0)) := z9 11 rfl
   rw [eS (l := [(9, (.tuple #[((tupAt (W 9) 0)), .bool ((putL ar ((resX σ ([] : List Int) ((rs.getD o ([], [])).1))) ((ap σ (((rs.getD o ([], [])).1).take p)).length) ((resX σ ([] : List Int) ((awayL ((rs.getD u ([], [])).2)))))).isSome)])), (11, ((tupAt (W 9) 0)))]) ⟨(e9).symm, e11, ⟨⟩⟩]
   refine qg (XOp.assign (((tupAt (W 9) 0))) rfl ?_)
   exact ⟨rfl, rfl⟩
  exact stepsG.nil
 intro W F8 le8 hphi
 obtain ⟨e9, f9_1hr, f9_1hnz⟩ := hphi 9 (by decide)
 have e10 : W 10 = (.tuple #[((tupAt (W 9) 0)), .bool ((putL ar ((resX σ ([] : List Int) ((rs.getD o ([], [])).1))) ((ap σ (((rs.getD o ([], [])).1).take p)).length) ((resX σ ([] : List Int) ((awayL ((rs.getD u ([], [])).2)))))).isSome)] : Value) := hphi 10 (by decide)
 have e11 : W 11 = ((tupAt (W 9) 0)) := hphi 11 (by decide)
 have e13 : W 13 = ((tupAt (W 9) 0)) := hphi 13 (by decide)
 generalize hu1 : ((tupAt (W 9) 0)) = u1 at e9 f9_1hr f9_1hnz e10 e11 e13
 rw [eS (l := [(9, (.tuple #[u1, .bool ((putL ar ((resX σ ([] : List Int) ((rs.getD o ([], [])).1))) ((ap σ (((rs.getD o ([], [])).1).take p)).length) ((resX σ ([] : List Int) ((awayL ((rs.getD u ([], [])).2)))))).isSome)])), (12, _), (13, u1)]) ⟨(e9).symm, (hphi 12 (by decide)), e13, ⟨⟩⟩]
 replace hf2 := hf2.mono le8
 replace hf3 := hf3.mono le8
 show XL _ _ _ _ _ _ _ (cellsH b3 (arv :: b4) 174 :: cellsH b5 [a1, a2] 79 :: cellsH b2 [sN, sN, sN, ii (0), ii (0), ii (0)] 109 :: cellsH b1 [arv, rsv] 77 :: L)
 refine qh (.bool ((putL ar ((resX σ ([] : List Int) ((rs.getD o ([], [])).1))) ((ap σ (((rs.getD o ([], [])).1).take p)).length) ((resX σ ([] : List Int) ((awayL ((rs.getD u ([], [])).2)))))).isSome)) rfl (qb (qc (qc (qa (qd (.bool ((putL ar ((resX σ ([] : List Int) ((rs.getD o ([], [])).1))) ((ap σ (((rs.getD o ([], [])).1).take p)).length) ((resX σ ([] : List Int) ((awayL ((rs.getD u ([], [])).2)))))).isSome)) rfl (cX (ju rfl (qb ?_))))))))
 refine jG (t := !((putL ar ((resX σ ([] : List Int) ((rs.getD o ([], [])).1))) ((ap σ (((rs.getD o ([], [])).1).take p)).length) ((resX σ ([] : List Int) ((awayL ((rs.getD u ([], [])).2)))))).isSome)) rfl (fun h4 => ?_) (fun h4 => ?_)
 ·have hfP := Bool.not_inj (y := false) h4
  refine qc (qa (cX (qZ [sN, sN, sN, ii (0), ii (0), ii (0)] [sN, sN, sN, ii (0), ii (0), ii (0)] [(0, 1), (1, 1), (2, 1), (3, 1), (4, 1), (5, 1)] [] jI yk rfl (.cons rfl qr (.cons rfl qr (.cons rfl qr (.cons rfl qC (.cons rfl qC (.cons rfl qC PlacesAre.nil)))))) rfl CellsAre.nil (cX (qI [_, _] _ [sN, sN, sN, ii (0), ii (0), ii (0)] jR rfl rfl rfl (qm rfl (qm rfl (qm rfl (qm rfl (qm rfl (qm rfl qO)))))) rfl rfl rfl (qh (.bool (false)) rfl (qb (qw (qo (qu (L' := L) [.agg #[sN, sN, sN, ii (0), ii (0), ii (0)], .bool (false)] (.tuple #[.agg #[sN, sN, sN, ii (0), ii (0), ii (0)], .bool (false)]) (.cell rfl (jA [sN, sN, sN, ii (0), ii (0), ii (0)] isAgg109 jR rfl (Rd.ownN [_, _] rfl rfl)) (.tmp rfl .nil)) rfl (qi (qi (qi (qi (qi le1 le2) le3) le4) le5) le8) rF (sD (sD (sD (sD sR)))) ?_))))))))))
  have e : pkF ar rs o p u = none := pk_left hsys ho hu hp hmt hmg hσ hkL hkA hfP
  exact ⟨_, _, _, by rw [e]; rfl, by rw [e]; exact IntsF.nilV, by rw [e]; exact IntsF.nilV, by rw [e]; exact IntsF.nilV, by rw [e]; exact Fresh.empty nil3, rfl⟩
 have hkP := Bool.not_inj (y := true) h4
 obtain ⟨eP, lP⟩ := put_some hsys ho hp hbo hσ hkL hkA hkP
 refine qA (qc (qa (qd (v1) rfl (qd (u1) rfl (qd (v2) rfl (cX (qD (s := 1) [v1, u1, v2] [sN] [(0, [v1]), (1, [u1]), (2, [v2])] jl qr zeroValue24 rfl (by decide) rfl (.cons (cells_one (qp hf2)) (.cons (cells_one (qp f9_1hr)) (.cons (cells_one (qp hf3)) CellsAre.nil))) rfl ?_)))))))
 intro v5 hv1
 have hc1 : RowsC F8 [v1, u1, v2] ([(resX σ ([] : List Int) ((rs.getD o ([], [])).1)), (putL ar ((resX σ ([] : List Int) ((rs.getD o ([], [])).1))) ((ap σ (((rs.getD o ([], [])).1).take p)).length) ((resX σ ([] : List Int) ((awayL ((rs.getD u ([], [])).2)))))).getD [], (resX σ ([] : List Int) ((rs.getD o ([], [])).2))] : List (List Int)) := (RowsC.snoc (RowsC.snoc (RowsC.snoc (CO.nil : RowsC F8 [] []) hf2) f9_1hr) hf3)
 refine XL.freezeF [] _ _ rfl (fun F9 le9 hz5 => ?_)
 replace hc1 := hc1.mono le9
 have hf5 : RowsF F9 v5 (([(resX σ ([] : List Int) ((rs.getD o ([], [])).1)), (putL ar ((resX σ ([] : List Int) ((rs.getD o ([], [])).1))) ((ap σ (((rs.getD o ([], [])).1).take p)).length) ((resX σ ([] : List Int) ((awayL ((rs.getD u ([], [])).2)))))).getD [], (resX σ ([] : List Int) ((rs.getD o ([], [])).2))] : List (List Int))) := CO.fz hc1 (by first | rfl | omega | (rw [List.length_set]; omega) | (simp; done) | (rw [List.length_append]; simp only [List.length_singleton]; omega)) hz5.fz
 refine cX (qt (args := [v5]) call69 rfl (renumber_spec hf5 (by simp) (fun i hi => by match i, hi with | 0, _ => (show (resX σ [] (rs.getD o ([], [])).1).length ≤ 60; rw [eL]; exact lL) | 1, _ => (show ((putL ar (resX σ [] (rs.getD o ([], [])).1) (ap σ ((rs.getD o ([], [])).1.take p)).length (resX σ [] (awayL (rs.getD u ([], [])).2))).getD []).length ≤ 60; rw [eP]; exact lP) | 2, _ => (show (resX σ [] (rs.getD o ([], [])).2).length ≤ 60; rw [eR]; exact lR))) ?_)
 rintro v6 F10 _ le10 ⟨cs1, Us1, hA1, hC1, hD1, hZ1, rfl⟩
 have he9 : rnL [] (([(resX σ ([] : List Int) ((rs.getD o ([], [])).1)), (putL ar ((resX σ ([] : List Int) ((rs.getD o ([], [])).1))) ((ap σ (((rs.getD o ([], [])).1).take p)).length) ((resX σ ([] : List Int) ((awayL ((rs.getD u ([], [])).2)))))).getD [], (resX σ ([] : List Int) ((rs.getD o ([], [])).2))] : List (List Int))) = [(byL (orderL (ap σ (rs.getD o ([], [])).1)) (ap σ (rs.getD o ([], [])).1)), (byL (orderL (ap σ (rs.getD o ([], [])).1)) (ap σ (leftT ar rs o p u))), (byL (orderL (ap σ (rs.getD o ([], [])).1)) (ap σ (rs.getD o ([], [])).2))] := by rw [eP, eL, eR]; exact pk_rn hsys ho hu hmg hσ
 rw [he9] at hA1 hC1 hD1
 obtain ⟨a5, a6, a7, rfl, rfl⟩ := hD1.three
 obtain ⟨ha5, ha6, ha7⟩ := RowsC.three hC1
 have hR1 : RowsF F10 v6 ([(byL (orderL (ap σ (rs.getD o ([], [])).1)) (ap σ (rs.getD o ([], [])).1)), (byL (orderL (ap σ (rs.getD o ([], [])).1)) (ap σ (leftT ar rs o p u))), (byL (orderL (ap σ (rs.getD o ([], [])).1)) (ap σ (rs.getD o ([], [])).2))] : RowL) := ⟨_, hA1, hC1.2⟩
 have hr11 : ∀ L, Rd F10 L (elemA v6 0) a5 := fun L => Rd.arr hA1 rfl
 have hr12 : ∀ L, Rd F10 L (elemA v6 1) a6 := fun L => Rd.arr hA1 rfl
 have hr13 : ∀ L, Rd F10 L (elemA v6 2) a7 := fun L => Rd.arr hA1 rfl
 refine qh (v6) rfl (qb (qc (qc (qa (qd (v6) rfl (cX (qx 0 jl qr rfl rfl rfl hR1.slv (by (try simp only [List.length_cons, List.length_nil]); omega) (Nat.mul_one _) (cX (qj qN rfl (hr11 _) (cX (qt (args := [a5]) call62 rfl (Min_spec ha5 (h1 := (by show 1 ≤ (byL (orderL (ap σ (rs.getD o ([], [])).1)) (ap σ (rs.getD o ([], [])).1)).length; rw [byL_len]; have := (ap_W hbo hσ (termW_of hlo) lL).len; omega)) (hbd := (by show (byL (orderL (ap σ (rs.getD o ([], [])).1)) (ap σ (rs.getD o ([], [])).1)).length ≤ _; rw [byL_len]; omega))) ?_)))))))))))
 rintro _ _ _ _ ⟨rfl, rfl, rfl⟩
 refine cX (qX rfl rfl (qb ?_))
 refine qE (p := (minL (((([(byL (orderL (ap σ (rs.getD o ([], [])).1)) (ap σ (rs.getD o ([], [])).1)), (byL (orderL (ap σ (rs.getD o ([], [])).1)) (ap σ (leftT ar rs o p u))), (byL (orderL (ap σ (rs.getD o ([], [])).1)) (ap σ (rs.getD o ([], [])).2))] : RowL)).getD 0 [])) : Int) < -24) rfl (fun h5 => ?_) (fun h5 => ?_)
 ·have h24 := (order_len (ap σ (rs.getD o ([], [])).1) (by have := (ap_W hbo hσ (termW_of hlo) lL).len; omega)).1 (show minL (byL (orderL (ap σ (rs.getD o ([], [])).1)) (ap σ (rs.getD o ([], [])).1)) < -24 from h5)
  refine qc (qa (cX (qZ [sN, sN, sN, ii (0), ii (0), ii (0)] [sN, sN, sN, ii (0), ii (0), ii (0)] [(0, 1), (1, 1), (2, 1), (3, 1), (4, 1), (5, 1)] [] jI yk rfl (.cons rfl qr (.cons rfl qr (.cons rfl qr (.cons rfl qC (.cons rfl qC (.cons rfl qC PlacesAre.nil)))))) rfl CellsAre.nil (cX (qI [_, _] _ [sN, sN, sN, ii (0), ii (0), ii (0)] jR rfl rfl rfl (qm rfl (qm rfl (qm rfl (qm rfl (qm rfl (qm rfl qO)))))) rfl rfl rfl (qh (.bool (false)) rfl (qb (qw (qo (qu (L' := L) [.agg #[sN, sN, sN, ii (0), ii (0), ii (0)], .bool (false)] (.tuple #[.agg #[sN, sN, sN, ii (0), ii (0), ii (0)], .bool (false)]) (.cell rfl (jA [sN, sN, sN, ii (0), ii (0), ii (0)] isAgg109 jR rfl (Rd.ownN [_, _] rfl rfl)) (.tmp rfl .nil)) rfl (qi (qi (qi (qi (qi (qi (qi le1 le2) le3) le4) le5) le8) le9) le10) rF (sD (sD (sD (sD sR)))) ?_))))))))))
  have e : pkF ar rs o p u = none := pk_order hsys ho hu hmt hmg hσ h24
  exact ⟨_, _, _, by rw [e]; rfl, by rw [e]; exact IntsF.nilV, by rw [e]; exact IntsF.nilV, by rw [e]; exact IntsF.nilV, by rw [e]; exact Fresh.empty nil3, rfl⟩
 have h24 := Nat.le_of_not_lt (mt (order_len (ap σ (rs.getD o ([], [])).1) (by have := (ap_W hbo hσ (termW_of hlo) lL).len; omega)).2 (show ¬ minL (byL (orderL (ap σ (rs.getD o ([], [])).1)) (ap σ (rs.getD o ([], [])).1)) < -24 from h5))
 refine qA (qc ?_)
 refine jL [cellsH b3 (arv :: b4) 174, cellsH b5 [a1, a2] 79, cellsH b2 [sN, sN, sN, ii (0), ii (0), ii (0)] 109, cellsH b1 [arv, rsv] 77] L 12 [] [[], [0], [1], [], [3], [4], [], [6], [7]] (phiL [qe v6, qe (.pointer (some (elemA v6 (0)))), qe a5, qe v6, qe (.pointer (some (elemA v6 (1)))), qe a6, qe v6, qe (.pointer (some (elemA v6 (2)))), qe a7, qe (ii ((p : Int)) : Value), qe (ii ((u : Int)) : Value), qe (ii ((o : Int)) : Value)]) (ownL []) mixed rfl rfl (by kernel_rfl) ?_ ?_
 ·refine pD (fun W R z9 => ?_) ?_
  ·refine qg (ql (v6) rfl ?_)
   exact ⟨rfl, rfl, rfl⟩
  refine pD (fun W R z9 => ?_) ?_
  ·rw [zA 0 (z9 0 rfl)]
   refine qg (qx 0 jl qr rfl rfl rfl hR1.slv (by (try simp only [List.length_cons, List.length_nil]); omega) (Nat.mul_one _) ?_)
   exact ⟨rfl, rfl, rfl⟩
  refine pD (fun W R z9 => ?_) ?_
  ·rw [zA 1 (z9 1 rfl)]
   refine qg (qj qN rfl (hr11 _) ?_)
   exact ⟨rfl, rfl, rfl⟩
  refine pD (fun W R z9 => ?_) ?_
  ·refine qg (ql (v6) rfl ?_)
   exact ⟨rfl, rfl, rfl⟩
  refine pD (fun W R z9 => ?_) ?_
  ·rw [zA 3 (z9 3 rfl)]
   refine qg (qx 1 jl qr rfl rfl rfl hR1.slv (by (try simp only [List.length_cons, List.length_nil]); omega) (Nat.mul_one _) ?_)
   exact ⟨rfl, rfl, rfl⟩
  refine pD (fun W R z9 => ?_) ?_
  ·rw [zA 4 (z9 4 rfl)]
   refine qg (qj qN rfl (hr12 _) ?_)
   exact ⟨rfl, rfl, rfl⟩
  refine pD (fun W R z9 => ?_) ?_
  ·refine qg (ql (v6) rfl ?_)
   exact ⟨rfl, rfl, rfl⟩
  refine pD (fun W R z9 => ?_) ?_
  ·rw [zA 6 (z9 6 rfl)]
   refine qg (qx 2 jl qr rfl rfl rfl hR1.slv (by (try simp only [List.length_cons, List.length_nil]); omega) (Nat.mul_one _) ?_)
   exact ⟨rfl, rfl, rfl⟩
  refine pD (fun W R z9 => ?_) ?_
  ·rw [zA 7 (z9 7 rfl)]
   refine qg (qj qN rfl (hr13 _) ?_)
   exact ⟨rfl, rfl, rfl⟩
  refine pD (fun W R z9 => ?_) ?_
  ·refine qg (ql (ii ((p : Int))) rfl ?_)
   exact ⟨rfl, rfl, rfl⟩
  refine pD (fun W R z9 => ?_) ?_
  ·refine qg (ql (ii ((u : Int))) rfl ?_)
   exact ⟨rfl, rfl, rfl⟩
  refine pD (fun W R z9 => ?_) ?_
  ·refine qg (ql (ii ((o : Int))) rfl ?_)
   exact ⟨rfl, rfl, rfl⟩
  exact stepsP.nil
 intro W hphi
 rw [eS (l := [(2, _), (5, _), (8, _), (9, _), (10, _), (11, _)]) ⟨(hphi 2 (by decide)), (hphi 5 (by decide)), (hphi 8 (by decide)), (hphi 9 (by decide)), (hphi 10 (by decide)), (hphi 11 (by decide)), ⟨⟩⟩]
 show XL _ _ _ _ _ _ _ (cellsH b3 (arv :: b4) 174 :: cellsH b5 [a1, a2] 79 :: cellsH b2 [sN, sN, sN, ii (0), ii (0), ii (0)] 109 :: cellsH b1 [arv, rsv] 77 :: L)
 refine cX (qZ [a5, a6, a7, ii ((p : Int)), ii ((u : Int)), ii ((o : Int))] [sN, sN, sN, ii (0), ii (0), ii (0)] [(0, 1), (1, 1), (2, 1), (3, 1), (4, 1), (5, 1)] [(0, [a5]), (1, [a6]), (2, [a7]), (3, [ii ((p : Int))]), (4, [ii ((u : Int))]), (5, [ii ((o : Int))])] jI yk rfl (.cons rfl qr (.cons rfl qr (.cons rfl qr (.cons rfl qC (.cons rfl qC (.cons rfl qC PlacesAre.nil)))))) rfl (.cons (cells_one (qp ha5)) (.cons (cells_one (qp ha6)) (.cons (cells_one (qp ha7)) (.cons rfl (.cons rfl (.cons rfl CellsAre.nil)))))) (cX (qI [_, _] _ [a5, a6, a7, ii ((p : Int)), ii ((u : Int)), ii ((o : Int))] jR rfl rfl rfl (qm (qy (qp ha5)) (qm (qy (qp ha6)) (qm (qy (qp ha7)) (qm rfl (qm rfl (qm rfl qO)))))) rfl rfl rfl (qh (.bool (true)) rfl (qb (qw (qu (L' := L) [.agg #[a5, a6, a7, ii ((p : Int)), ii ((u : Int)), ii ((o : Int))], .bool (true)] (.tuple #[.agg #[a5, a6, a7, ii ((p : Int)), ii ((u : Int)), ii ((o : Int))], .bool (true)]) (.cell rfl (jA [a5, a6, a7, ii ((p : Int)), ii ((u : Int)), ii ((o : Int))] isAgg109 jR rfl (Rd.ownN [_, _] rfl rfl)) (.tmp rfl .nil)) rfl (qi (qi (qi (qi (qi (qi (qi le1 le2) le3) le4) le5) le8) le9) le10) rF (sD (sD (sD (sD sR)))) ?_)))))))
 have e := pk_yes hsys ho hu hmt hmg hσ lL lP lR h24
 exact ⟨_, _, _, by rw [e]; rfl, by rw [e]; exact ha5, by rw [e]; exact ha6, by rw [e]; exact ha7, by rw [e]; exact (hZ1.base (qi (qi (qi (qi (qi (qi le1 le2) le3) le4) le5) le8) le9)), rfl⟩

/- impl.meetings -/
theorem meetings_spec {F : FH} {L : List HP} {arv : Value} {ar : List Int} (har : IntsF F arv ar) {rsv : Value} {rs : List (List Int × List Int)} (hrs : PairsF F rsv rs) :
    Does prog 72 [.agg #[arv, rsv]] F (L) (fun v F' L' => ∃ (bs : Nat), (.func (.func 84) #[] #[ptr bs 0] : Value) = v ∧ FzC F' bs [arv, rsv] ∧ L = L') := by
 refine qH func72 rfl rfl rfl (qc (qa (cX (qY [arv, rsv] rfl rfl ?_))))
 intro b1
 refine qh (.nilFunc) rfl (qb (qc (qa (cX (yg [] [ptr b1 0] rfl rfl (qh (.func (.func 84) #[] #[ptr b1 0]) rfl (qb (X.freeze [] _ _ rfl (fun F1 le1 hz1 => ?_)))))))))
 have hf1 : FzC F1 b1 [arv, rsv] := Fz.cells hz1
 refine qw (qu (L' := L) [.func (.func 84) #[] #[ptr b1 0]] (.func (.func 84) #[] #[ptr b1 0]) (.tmp rfl .nil) rfl le1 rF sR ?_)
 exact ⟨_, rfl, hf1, rfl⟩

/- impl.meetings$1 -/
set_option maxHeartbeats 2000000 in
set_option maxRecDepth 20000 in
theorem meetIt_spec {F : FH} {L : List HP} {l bs : Nat} {R R2 : Loop} {arv : Value} {ar : List Int} (har : IntsF F arv ar) {rsv : Value} {rs : List (List Int × List Int)} (hrs : PairsF F rsv rs) (hcb : FzC F bs [arv, rsv]) (hsys : sysOk ar rs = true) {J : List Tr → FH → List HP → Prop} {Jx : FH → List HP → Prop} (hJ0 : J [] F L) (hJm : ∀ {ms : List Tr} {F F' : FH} {L : List HP}, J ms F L → F ≤ F' → J ms F' L) (hyes : ∀ (ms : List Tr) (o p u : Nat) (Fy : FH) (Ly : List HP), o < rs.length → p < (rs.getD o ([], [])).1.length → u < rs.length → meetB ar rs o p u = true → ms ++ [(o, p, u)] <+: meetsL ar rs → F ≤ Fy → J ms Fy Ly → Yld prog l [.agg #[ii (o : Int), ii (p : Int), ii (u : Int)]] Fy (objH l (.loop R) :: Ly) (fun v F' L' => (.bool true = v ∧ ∃ L2, J (ms ++ [(o, p, u)]) F' L2 ∧ objH l (.loop R) :: L2 = L') ∨ (.bool false = v ∧ ∃ L2, Jx F' L2 ∧ objH l (.loop R2) :: L2 = L'))) :
    Does prog 84 [(.func (.yield l) #[] #[]), ptr bs 0] F (objH l (.loop R) :: L) (fun v F' L' => (∃ L2, J (meetsL ar rs) F' L2 ∧ objH l (.loop R) :: L2 = L') ∨ (∃ L2, Jx F' L2 ∧ objH l (.loop R2) :: L2 = L')) := by
 refine qH func84 rfl rfl rfl ?_
 have hrl := (sysOk_iff.1 hsys).2.1
 have hsig := (sysOk_iff.1 hsys).1
 have hsl := sigOk_spec hsig
 have hll : ∀ i, i < rs.length → (rs.getD i ([], [])).1.length ≤ 60 := fun i hi => (termOk_len (rule_L hsys hi)).2
 refine qc (qa (cX (qn (1) jc rfl jB (by decide) rfl rfl (cX (qj jS rfl (FzC.rd1 hcb rfl) (cX (qG qV rfl hrs.slv (qd (ii (0)) rfl (qb (qJ (jv (α := Nat × List HP × FH) (fun xQ => [(0, (.func (.yield l) #[] #[])), (1, ptr bs 0), (11, rsv), (12, ii ((rs.length : Int))), (13, ii (((xQ.1 : Nat) : Int)))]) (fun xQ => objH l (.loop R) :: xQ.2.1) (fun xQ F' => xQ.2.2 = F' ∧ F ≤ xQ.2.2 ∧ (xQ.1 ≤ rs.length) ∧ (J (mO ar rs xQ.1) xQ.2.2 xQ.2.1)) (fun xQ => rs.length - xQ.1) (0, L, F) ⟨rfl, rfl, rfl, rfl, rfl, ⟨⟩⟩ (sC sR) ⟨rfl, FLe.refl _, (Nat.zero_le _), (by (try dsimp only); simpa [mO] using hJ0)⟩ ?_)))))))))))
 rintro ⟨o, L1, G1⟩ rE _ _ ⟨rfl, leG, hk1, hJ1⟩
 show X _ _ _ _ (envs [(0, (.func (.yield l) #[] #[])), (1, ptr bs 0), (11, rsv), (12, ii ((rs.length : Int))), (13, ii ((o : Int)))] rE) _ (objH l (.loop R) :: L1)
 replace leG : F ≤ G1 := leG
 dsimp only at hk1 hJ1
 skip
 have hllo := hll o
 have leG1 := leG
 replace har := har.mono leG1
 replace hrs := hrs.mono leG1
 replace hcb := hcb.mono leG1
 refine qc (qa (cX (qX rfl rfl (qb (qc ?_)))))
 refine qE (p := (o : Int) < (rs.length : Int)) rfl (fun h1 => ?_) (fun h1 => ?_)
 ·have hol : o < rs.length := by omega
  refine qA (qc (qJ (qc (qa (qd (ii ((o : Int))) rfl (cX (qx o qV jp rfl rfl rfl hrs.slv (by omega) rfl ?_)))))))
  obtain ⟨a1, a2, ha1, ha2, hr1, hr2⟩ := hrs.rd (i := o) (by omega)
  refine cX (qv [a1, a2] isAgg79 jp rfl rfl (Rd.two (hr1 _) (hr2 _)) (cX (je [sN, sN] jM rfl ?_)))
  intro b1
  refine qh (ii ((o : Int))) rfl (cX (qI [] _ [a1, a2] jp rfl rfl rfl (qm (qy (qp ha1)) (qm (qy (qp ha2)) qO)) rfl rfl rfl (qb (qc (qa (cX (qn (0) jf rfl qr (by decide) rfl rfl (cX (qj qN rfl (Rd.own [] rfl rfl) (cX (qG qf rfl ha1.slv (qd (ii (0)) rfl (qb (qJ (jv (α := Nat × List HP × FH) (fun xQ => [(0, (.func (.yield l) #[] #[])), (1, ptr bs 0), (3, ii ((o : Int))), (11, rsv), (12, ii ((rs.length : Int))), (13, ii ((o : Int))), (19, a1), (20, ii (((((rs.getD o ([], [])).1).length : Nat) : Int))), (21, ii (((xQ.1 : Nat) : Int)))]) (fun xQ => objH l (.loop R) :: xQ.2.1) (fun xQ F' => xQ.2.2 = F' ∧ G1 ≤ xQ.2.2 ∧ (xQ.1 ≤ (rs.getD o ([], [])).1.length) ∧ (J (mO ar rs o ++ mP ar rs o xQ.1) xQ.2.2 xQ.2.1)) (fun xQ => (rs.getD o ([], [])).1.length - xQ.1) (0, L1, G1) ⟨rfl, rfl, rfl, rfl, rfl, rfl, rfl, rfl, rfl, ⟨⟩⟩ (sD (sC sR)) ⟨rfl, FLe.refl _, (Nat.zero_le _), (by (try dsimp only); simp only [mP, List.append_nil]; exact hJm hJ1 rF)⟩ ?_)))))))))))))))
  rintro ⟨p, L2, G2⟩ rE _ _ ⟨rfl, leG, hk2, hJ2⟩
  show X _ _ _ _ (envs [(0, (.func (.yield l) #[] #[])), (1, ptr bs 0), (3, ii ((o : Int))), (11, rsv), (12, ii ((rs.length : Int))), (13, ii ((o : Int))), (19, a1), (20, ii (((((rs.getD o ([], [])).1).length : Nat) : Int))), (21, ii ((p : Int)))] rE) _ (objH l (.loop R) :: L2)
  replace leG : G1 ≤ G2 := leG
  dsimp only at hk2 hJ2
  skip
  have leG2 := leG
  replace har := har.mono leG2
  replace hrs := hrs.mono leG2
  replace hcb := hcb.mono leG2
  replace ha1 := ha1.mono leG2
  refine qc (qa (cX (qX rfl rfl (qb (qc ?_)))))
  refine qE (p := (p : Int) < ((((rs.getD o ([], [])).1).length : Nat) : Int)) rfl (fun h2 => ?_) (fun h2 => ?_)
  ·have hpl : p < (rs.getD o ([], [])).1.length := by omega
   refine qA (qc (qJ (qc (qa (qd (ii ((p : Int))) rfl (cX (qx p qf qC rfl rfl rfl ha1.slv (by omega) (Nat.mul_one _) (cX (qj jh rfl (ha1.rd (by omega)) (qh (ii ((p : Int))) rfl (qh (ii (((rs.getD o ([], [])).1).getD p 0)) rfl (qb (qc (qa (cX (qn (1) jc rfl jB (by decide) rfl rfl (cX (qj jS rfl (FzC.rd1 hcb rfl) (cX (qG qV rfl hrs.slv ?_))))))))))))))))))))
   refine qd (ii (0)) rfl (qb (qJ (jv (α := Nat × List HP × FH) (fun xQ => [(0, (.func (.yield l) #[] #[])), (1, ptr bs 0), (3, ii ((o : Int))), (5, ii ((p : Int))), (6, ii (((rs.getD o ([], [])).1).getD p 0)), (11, rsv), (12, ii ((rs.length : Int))), (13, ii ((o : Int))), (19, a1), (20, ii (((((rs.getD o ([], [])).1).length : Nat) : Int))), (21, ii ((p : Int))), (28, ii ((rs.length : Int))), (29, ii (((xQ.1 : Nat) : Int)))]) (fun xQ => objH l (.loop R) :: xQ.2.1) (fun xQ F' => xQ.2.2 = F' ∧ G2 ≤ xQ.2.2 ∧ (xQ.1 ≤ rs.length) ∧ (J (mO ar rs o ++ mP ar rs o p ++ mU ar rs o p xQ.1) xQ.2.2 xQ.2.1)) (fun xQ => rs.length - xQ.1) (0, L2, G2) ⟨rfl, rfl, rfl, rfl, rfl, rfl, rfl, rfl, rfl, rfl, rfl, rfl, rfl, ⟨⟩⟩ (sC sR) ⟨rfl, FLe.refl _, (Nat.zero_le _), (by (try dsimp only); simp only [mU, List.append_nil]; exact hJm hJ2 rF)⟩ ?_)))
   rintro ⟨u, L3, G3⟩ rE _ _ ⟨rfl, leG, hk3, hJ3⟩
   show X _ _ _ _ (envs [(0, (.func (.yield l) #[] #[])), (1, ptr bs 0), (3, ii ((o : Int))), (5, ii ((p : Int))), (6, ii (((rs.getD o ([], [])).1).getD p 0)), (11, rsv), (12, ii ((rs.length : Int))), (13, ii ((o : Int))), (19, a1), (20, ii (((((rs.getD o ([], [])).1).length : Nat) : Int))), (21, ii ((p : Int))), (28, ii ((rs.length : Int))), (29, ii ((u : Int)))] rE) _ (objH l (.loop R) :: L3)
   replace leG : G2 ≤ G3 := leG
   dsimp only at hk3 hJ3
   skip
   have leG3 := leG
   replace har := har.mono leG3
   replace hrs := hrs.mono leG3
   replace hcb := hcb.mono leG3
   refine qc (qa (cX (qX rfl rfl (qb (qc ?_)))))
   refine qE (p := (u : Int) < (rs.length : Int)) rfl (fun h3 => ?_) (fun h3 => ?_)
   ·refine qA (qc (qJ (qc (qa (qd (ii ((u : Int))) rfl (qh (ii ((u : Int))) rfl (qb (qc (qc (qa (qd (ii (((rs.getD o ([], [])).1).getD p 0)) rfl (cX (qX rfl rfl (qb ?_))))))))))))))
    refine qE (p := (((rs.getD o ([], [])).1).getD p 0 : Int) < 0) rfl (fun h4 => ?_) (fun h4 => ?_)
    ·have hno9 : ¬ (0 ≤ (Lr rs o).getD p 0 ∧ meetB ar rs o p u = true) := fun h9 => absurd h9.1 (Int.not_le.2 h4)
     refine jn (qz (qR (qa (cX (qM (((u + 1 : Nat) : Int)) rfl rfl (by omega) (by omega) (qd (ii (((u + 1 : Nat) : Int))) rfl (qb ?_)))))))
     exact ⟨(u + 1, L3, G3), _, leG3, rF, ⟨rfl, rfl, rfl, rfl, rfl, rfl, rfl, rfl, rfl, rfl, rfl, rfl, rfl, ⟨⟩⟩, (sC sR), ⟨rfl, leG3, (by (try dsimp only) <;> omega), (by (try dsimp only); rw [mU_no hno9]; exact hJm hJ3 rF)⟩, (by omega)⟩
    have hn0 : 0 ≤ (Lr rs o).getD p 0 := Int.not_lt.1 h4
    refine qA (qc (qa (cX (qv [arv, rsv] yj jQ rfl rfl (FzC.rd hcb rfl) (qd (ii ((o : Int))) rfl (qd (ii ((p : Int))) rfl (qd (ii ((u : Int))) rfl (cX (qt (args := [.agg #[arv, rsv], ii (o : Int), ii (p : Int), ii (u : Int)]) call85 rfl (overlap_spec (o := o) (p := p) (u := u) har hrs (hsys := (by first | assumption | rfl | omega | simp)) (ho := (by omega)) (hu := (by omega)) (hp := (hpl))) ?_)))))))))
    rintro _ F1 _ le1 (⟨rfl, hmt1, rfl⟩ | ⟨b2, rfl, hmt1, rfl⟩ | ⟨b2, b3, l1, rfl, hmt1, hb1, hmg1, rfl⟩)
    ·replace har := har.mono le1
     have hno9 : ¬ (0 ≤ (Lr rs o).getD p 0 ∧ meetB ar rs o p u = true) := fun h9 => by rw [hmt1] at h9; exact absurd h9.2 (by simp)
     refine qd (.tuple #[(.pointer none), .bool (false)]) rfl (cX (qK ((.pointer none)) rfl rfl (cX (qK (.bool (false)) rfl rfl (qh ((.pointer none)) rfl (qh (.bool (false)) rfl (qb (qc (X.ofI (by kernel_rfl) (XI.region (jy (ql (.bool (false)) rfl (jy (ql (.bool (false)) rfl ?_))))))))))))))
     refine XIL.no (t := 43) rfl rfl (XIL.no (t := 43) rfl rfl (XIL.no (t := 43) rfl rfl (XIL.no (t := 43) rfl rfl (XIL.no (t := 43) rfl rfl (XIL.no (t := 43) rfl rfl (XIL.no (t := 43) rfl rfl (jy (qP (.bool (false)) rfl rfl (XIL.nil (jW rfl ?_))))))))))
     refine qA (qa (cX (qM (((u + 1 : Nat) : Int)) rfl rfl (by omega) (by omega) (qd (ii (((u + 1 : Nat) : Int))) rfl (qb ?_)))))
     exact ⟨(u + 1, L3, F1), _, (qi leG3 le1), rF, ⟨rfl, rfl, rfl, rfl, rfl, rfl, rfl, rfl, rfl, rfl, rfl, rfl, rfl, ⟨⟩⟩, (sC sR), ⟨rfl, (qi leG3 le1), (by (try dsimp only) <;> omega), (by (try dsimp only); rw [mU_no hno9]; exact hJm hJ3 le1)⟩, (by omega)⟩
    ·replace har := har.mono le1
     have hno9 : ¬ (0 ≤ (Lr rs o).getD p 0 ∧ meetB ar rs o p u = true) := fun h9 => by rw [hmt1] at h9; exact absurd h9.2 (by simp)
     refine qd (.tuple #[ptr b2 0, .bool (false)]) rfl (cX (qK (ptr b2 0) rfl rfl (cX (qK (.bool (false)) rfl rfl (qh (ptr b2 0) rfl (qh (.bool (false)) rfl (qb (qc (X.ofI (by kernel_rfl) (XI.region (jy (ql (.bool (false)) rfl (jy (ql (.bool (false)) rfl ?_))))))))))))))
     refine XIL.no (t := 43) rfl rfl (XIL.no (t := 43) rfl rfl (XIL.no (t := 43) rfl rfl (XIL.no (t := 43) rfl rfl (XIL.no (t := 43) rfl rfl (XIL.no (t := 43) rfl rfl (XIL.no (t := 43) rfl rfl (jy (qP (.bool (false)) rfl rfl (XIL.nil (jW rfl ?_))))))))))
     refine qA (qa (cX (qM (((u + 1 : Nat) : Int)) rfl rfl (by omega) (by omega) (qd (ii (((u + 1 : Nat) : Int))) rfl (qb ?_)))))
     exact ⟨(u + 1, L3, F1), _, (qi leG3 le1), rF, ⟨rfl, rfl, rfl, rfl, rfl, rfl, rfl, rfl, rfl, rfl, rfl, rfl, rfl, ⟨⟩⟩, (sC sR), ⟨rfl, (qi leG3 le1), (by (try dsimp only) <;> omega), (by (try dsimp only); rw [mU_no hno9]; exact hJm hJ3 le1)⟩, (by omega)⟩
    replace har := har.mono le1
    refine qd (.tuple #[ptr b2 0, .bool (true)]) rfl (cX (qK (ptr b2 0) rfl rfl (cX (qK (.bool (true)) rfl rfl (qh (ptr b2 0) rfl (qh (.bool (true)) rfl (qb (qc (X.ofI (by kernel_rfl) (XI.region (jy (ql (.bool (true)) rfl (jy (ql (.bool (true)) rfl ?_))))))))))))))
    refine XIL.yes (t := 43) rfl rfl (ql ((.func (.yield l) #[] #[])) rfl (XIL.yes (t := 43) rfl rfl (ql (ii ((o : Int))) rfl (XIL.yes (t := 43) rfl rfl (ql (ii ((p : Int))) rfl (XIL.yes (t := 43) rfl rfl (ql (ii ((u : Int))) rfl (XIL.yes (t := 43) rfl rfl (qZ [ii ((o : Int)), ii ((p : Int)), ii ((u : Int))] [ii (0), ii (0), ii (0)] [(0, 1), (1, 1), (2, 1)] [(0, [ii ((o : Int))]), (1, [ii ((p : Int))]), (2, [ii ((u : Int))])] runUnderlying135 zeroValue135 rfl (.cons rfl jC (.cons rfl jC (.cons rfl jC PlacesAre.nil))) rfl (.cons rfl (.cons rfl (.cons rfl CellsAre.nil))) (XIL.yieldY (t := 43) (k := l) (args := [.agg #[ii ((o : Int)), ii ((p : Int)), ii ((u : Int))]]) rfl rfl rfl (by rfl) (Yld.weaken (sD (sC sR)) ((hyes (mO ar rs o ++ mP ar rs o p ++ mU ar rs o p u) o p u _ _ (by omega) hpl (by omega) hmt1 (by rw [List.append_assoc, ← mU_yes hn0 hmt1]; exact meets_pre (by omega) hpl (by omega)) (qi (qi (qi leG1 leG2) leG3) le1) (hJm hJ3 le1)).mono ?_))))))))))))
    rintro _ F2 _ le2 (⟨rfl, Lj1, hJ1, rfl⟩ | ⟨rfl, Lj1, hJ1, rfl⟩)
    ·replace har := har.mono le2
     show XIL _ _ _ _ _ _ _ _ _ (objH l (.loop R) :: Lj1)
     refine XIL.yes (t := 43) rfl rfl (ju rfl (jy (qT (.bool (false)) rfl rfl (XIL.nil (jW rfl (qA (qa (cX (qM (((u + 1 : Nat) : Int)) rfl rfl (by omega) (by omega) (qd (ii (((u + 1 : Nat) : Int))) rfl (qb ?_)))))))))))
     exact ⟨(u + 1, Lj1, F2), _, (qi (qi leG3 le1) le2), rF, ⟨rfl, rfl, rfl, rfl, rfl, rfl, rfl, rfl, rfl, rfl, rfl, rfl, rfl, ⟨⟩⟩, (sC sR), ⟨rfl, (qi (qi leG3 le1) le2), (by (try dsimp only) <;> omega), (by (try dsimp only); rw [mU_yes hn0 hmt1, ← List.append_assoc]; exact hJm hJ1 rF)⟩, (by omega)⟩
    replace har := har.mono le2
    show XIL _ _ _ _ _ _ _ _ _ (objH l (.loop R2) :: Lj1)
    refine XIL.yes (t := 43) rfl rfl (ju rfl (jy (qT (.bool (true)) rfl rfl (XIL.nil (jO rfl (qw (qF (qo (qo (qF (qF (qo (qo (qF (qF (qo (qo (qF (qu (L' := objH l (.loop R2) :: Lj1) [] (.tuple #[]) (by exact .nil) rfl (qi (qi (qi (qi leG1 leG2) leG3) le1) le2) rF (sC sR) ?_)))))))))))))))))))
    exact .inr ⟨_, hJ1, rfl⟩
   have hue : u = rs.length := by omega
   refine jn (qz (qz (qR (qa (cX (qM (((p + 1 : Nat) : Int)) rfl rfl (by omega) (by omega) (qd (ii (((p + 1 : Nat) : Int))) rfl (qb ?_))))))))
   exact ⟨(p + 1, L3, G3), _, (qi leG2 leG3), rF, ⟨rfl, rfl, rfl, rfl, rfl, rfl, rfl, rfl, rfl, ⟨⟩⟩, (sC sR), ⟨rfl, (qi leG2 leG3), (by (try dsimp only) <;> omega), (by (try dsimp only); rw [mP, ← List.append_assoc, ← hue]; exact hJm hJ3 rF)⟩, (by omega)⟩
  have hpe : p = (rs.getD o ([], [])).1.length := by omega
  refine jn (qz (qz (qR (qa (cX (qM (((o + 1 : Nat) : Int)) rfl rfl (by omega) (by omega) (qd (ii (((o + 1 : Nat) : Int))) rfl (qb ?_))))))))
  exact ⟨(o + 1, L2, G2), _, (qi leG1 leG2), rF, ⟨rfl, rfl, rfl, rfl, rfl, ⟨⟩⟩, (sC sR), ⟨rfl, (qi leG1 leG2), (by (try dsimp only) <;> omega), (by (try dsimp only); rw [mO, ← hpe]; exact hJm hJ2 rF)⟩, (by omega)⟩
 refine jn (qz (qz (qR (id (retEndN (L' := objH l (.loop R) :: L1) [] (.tuple #[]) (by exact .nil) rfl leG1 rF (sC sR) ?_)))))
 have hoe : o = rs.length := by omega
 exact .inl ⟨_, by rw [meetsL, ← hoe]; exact hJ1, rfl⟩

/- impl.peaks -/
set_option maxHeartbeats 2000000 in
set_option maxRecDepth 20000 in
theorem peaks_spec {F : FH} {L : List HP} {arv : Value} {ar : List Int} (har : IntsF F arv ar) {rsv : Value} {rs : List (List Int × List Int)} (hrs : PairsF F rsv rs) (hsys : sysOk ar rs = true) :
    Does prog 60 [.agg #[arv, rsv]] F (L) (fun v F' L' => ∃ (a : Value), (.tuple #[a, .bool ((peaksF ar rs).isSome)] : Value) = v ∧ (PeaksF F' a ((peaksF ar rs).getD [])) ∧ (Fresh F F' (star [peaksD 2 109 a ((peaksF ar rs).getD [])])) ∧ L = L') := by
 refine Does.of_XF func60 rfl (by kernel_rfl) rfl (XF.seqR (qa (cX (qY [arv, rsv] rfl rfl ?_))))
 intro b1
 refine cX (je [sN] zeroValue105 rfl ?_)
 intro b2
 refine cX (je [.bool (false)] zeroValue4 rfl ?_)
 intro b3
 refine qb (XF.seqR (qa (cX (je [sN] zeroValue105 rfl ?_))))
 intro b4
 refine qb (XF.ofR (XR.seq (qa (cX (qv [arv, rsv] yj jQ rfl rfl (Rd.ownN [_, _, _] rfl rfl) (cX (qt (args := [.agg #[arv, rsv]]) call72 rfl (meetings_spec har hrs) ?_)))))))
 rintro _ F1 _ le1 ⟨x1, rfl, hcb1, rfl⟩
 replace har := har.mono le1
 replace hrs := hrs.mono le1
 refine qb (XR.rangeB2 (gf := 84) (lb := [ptr x1 0]) rfl call84 (fun l D R hRs hRp hRps hRa hRb hRz hRg => ?_))
 have hR0 : ({ R with state := .ready, pending := none } : Loop) = R := by
  cases R
  simp only at hRs hRp
  subst hRs hRp
  rfl
 have hyes : ∀ (ms : List Tr) (o p u : Nat) (Fy : FH) (Ly : List HP), o < rs.length → p < (rs.getD o ([], [])).1.length → u < rs.length → meetB ar rs o p u = true → ms ++ [(o, p, u)] <+: meetsL ar rs → F1 ≤ Fy → (PKJ F1 2 109 105 b4 (objH D (.deferred (some [])) :: cellsH b3 [.bool (false)] 4 :: cellsH b2 [sN] 105 :: cellsH b1 [arv, rsv] 77 :: L) (PkI ar rs)) ms Fy Ly → Yld prog l [.agg #[ii (o : Int), ii (p : Int), ii (u : Int)]] Fy (objH l (.loop R) :: Ly) (fun v F' L' => (.bool true = v ∧ ∃ L2, (PKJ F1 2 109 105 b4 (objH D (.deferred (some [])) :: cellsH b3 [.bool (false)] 4 :: cellsH b2 [sN] 105 :: cellsH b1 [arv, rsv] 77 :: L) (PkI ar rs)) (ms ++ [(o, p, u)]) F' L2 ∧ objH l (.loop R) :: L2 = L') ∨ (.bool false = v ∧ ∃ L2, (fun (_ : FH) (L2 : List HP) => peaksF ar rs = none ∧ cellsH b2 [sN] 105 :: cellsH b3 [.bool (false)] 4 :: objH D (.deferred (some [])) :: L = L2) F' L2 ∧ objH l (.loop { R with state := .done, pending := some .ret }) :: L2 = L')) := by
  intro ms o p u Fy Ly ho9 hp9 hu9 hmt9 hpre leF hJ
  obtain ⟨sv8, os8, cs8, Ls8, m8, hsv8, hC8, hm8, hDp, hZ, hI8, rfl⟩ := hJ
  have hol8 := hI8.len
  refine Yld.of_round2 hRs hRp hRps hRa hRb hRz hRg rfl (by kernel_rfl) (by kernel_rfl) (by kernel_rfl) ?_
  have hq1 := har.mono leF
  have hq2 := hrs.mono leF
  refine XI.slots [(10, .agg #[ii ((o : Int)), ii ((p : Int)), ii ((u : Int))]), (4, ptr b4 0), (2, ptr b2 0), (3, ptr b3 0), (1, ptr b1 0)] ⟨rfl, rfl, rfl, rfl, rfl, ⟨⟩⟩ (fun rE => (XI.region (jy (je [ii (0), ii (0), ii (0)] zeroValue135 rfl ?_))))
  intro b5
  refine jy (qI [] _ [ii ((o : Int)), ii ((p : Int)), ii ((u : Int))] sizeOf135 rfl rfl rfl (qm rfl (qm rfl (qm rfl qO))) rfl rfl rfl (XIL.nil ?_))
  refine ⟨cellsH b5 [ii ((o : Int)), ii ((p : Int)), ii ((u : Int))] 135 :: cellsH b4 [sv8] 105 :: slH 109 6 sv8 m8 cs8 :: objH D (.deferred (some [])) :: cellsH b3 [.bool (false)] 4 :: cellsH b2 [sN] 105 :: cellsH b1 [arv, rsv] 77 :: L, (qW (jg (A := [_, _, _, _, _, _, _])) (qW (jg (A := [_, _, _, _, _, _, _])) (qW (jg (A := [_, _, _, _, _, _, _])) (qW (jg (A := [_, _, _, _, _, _, _])) (qW (jg (A := [_, _, _, _, _, _, _])) (qW (jg (A := [_, _, _, _, _, _, _])) (qW (jg (A := [_, _, _, _, _, _])) (qW (jg (A := [_, _, _, _, _, _, _])) (sC (sC (sC (sC (sC (sC (sC (sC sR)))))))))))))))), ?_⟩
  refine XI.block (XI.seq (XI.region (jy (qv [arv, rsv] yj jQ rfl rfl (Rd.ownN [_, _, _, _, _, _, _] rfl rfl) (jy (qn (0) runUnderlying135 rfl jC (by decide) rfl rfl (jy (qj yd rfl (Rd.own [_] rfl rfl) (jy (qn (1) runUnderlying135 rfl jC (by decide) rfl rfl (jy (qj yd rfl (Rd.own [_] rfl rfl) (jy (qn (2) runUnderlying135 rfl jC (by decide) rfl rfl (jy (qj yd rfl (Rd.own [_] rfl rfl) ?_))))))))))))))))
  refine jy (qt (args := [.agg #[arv, rsv], ii (o : Int), ii (p : Int), ii (u : Int)]) call73 rfl (peakAt_spec (o := o) (p := p) (u := u) hq1 hq2 (hsys := (by first | assumption | rfl | omega | simp)) (ho := (ho9)) (hu := (hu9)) (hp := (hp9))) ?_)
  rintro _ F2 _ le2 ⟨x2, x3, x4, rfl, hr1, hr2, hr3, hr4, rfl⟩
  replace hC8 := hC8.mono le2
  refine jy (ql (.tuple #[.agg #[x2, x3, x4, ii (((pkF ar rs o p u).getD P0).2.2.2.1), ii (((pkF ar rs o p u).getD P0).2.2.2.2.1), ii (((pkF ar rs o p u).getD P0).2.2.2.2.2)], .bool ((pkF ar rs o p u).isSome)]) rfl (jy (qK (.agg #[x2, x3, x4, ii (((pkF ar rs o p u).getD P0).2.2.2.1), ii (((pkF ar rs o p u).getD P0).2.2.2.2.1), ii (((pkF ar rs o p u).getD P0).2.2.2.2.2)]) rfl rfl (jy (qK (.bool ((pkF ar rs o p u).isSome)) rfl rfl (jy (je [sN, sN, sN, ii (0), ii (0), ii (0)] yk rfl ?_)))))))
  intro b6
  refine jy (qI [] _ [x2, x3, x4, ii (((pkF ar rs o p u).getD P0).2.2.2.1), ii (((pkF ar rs o p u).getD P0).2.2.2.2.1), ii (((pkF ar rs o p u).getD P0).2.2.2.2.2)] jR rfl rfl rfl (qm (qy (qp hr1)) (qm (qy (qp hr2)) (qm (qy (qp hr3)) (qm rfl (qm rfl (qm rfl qO)))))) rfl rfl rfl (jy (XOp.assign (.bool ((pkF ar rs o p u).isSome)) rfl (XIL.nil (XI.seq (XI.seq (XI.region (jy (ql (.bool ((pkF ar rs o p u).isSome)) rfl (jy (ju rfl (jy (ql (.bool (!((pkF ar rs o p u).isSome))) rfl ?_)))))))))))))
  by_cases h1 : (!((pkF ar rs o p u).isSome)) = true
  ·have hf9 : (pkF ar rs o p u).isSome = false ∨ os8.length = 64 := .inl (Bool.not_inj (y := false) h1)
   refine XIL.no (t := 24) rfl (vB h1) (XIL.no (t := 24) rfl (vB h1) (XIL.no (t := 24) rfl (vB h1) (jy (qT (.bool (true)) (vB h1) rfl (XIL.nil (XI.condT rfl (XI.seq (XI.region (jy (jz [_, _, _, _, _, _, _] _ [sN] sizeOf105 rfl rfl rfl rfl rfl rfl (jy (jz [_, _, _, _, _, _] _ [.bool (false)] sizeOf4 rfl rfl rfl rfl rfl rfl ?_))))))))))))
   refine XIL.nil ?_
   refine XI.ret (qo (qF (roundR ⟨cellsH b2 [sN] 105 :: cellsH b3 [.bool (false)] 4 :: objH D (.deferred (some [])) :: L, (qW (jg (A := [_, _, _, _, _])) (qW (jg (A := [_, _, _, _, _, _])) (qW (jg (A := [_, _, _, _, _, _, _])) (qW (jg (A := [_, _, _, _])) (sC (sC (sC (sC (sD (sD (sD (sD (sD sR))))))))))))), ?_⟩)))
   exact .inr ⟨rfl, _, ⟨peaks_no hpre hI8 hf9, rfl⟩, rfl⟩
  rw [Bool.not_eq_true] at h1
  have hsm9 : (pkF ar rs o p u).isSome = true := Bool.not_inj (y := true) h1
  refine XIL.yes (t := 24) rfl (vB h1) (qj isAgg105 rfl (Rd.own [_, _, _] rfl rfl) (XIL.yes (t := 24) rfl (vB h1) (qG runUnderlying105 rfl (SlV.own [_, _, _, _] rfl) (XIL.yes (t := 24) rfl (vB h1) (jo rfl rfl (jy (qP (.bool (decide ((m8 : Int) = 64))) (vB h1) rfl (XIL.nil ?_))))))))
  refine XI.condD (p := (m8 : Int) = 64) rfl (fun h2 => ?_) (fun h2 => ?_)
  ·have hf9 : (pkF ar rs o p u).isSome = false ∨ os8.length = 64 := .inr (by omega)
   refine XI.seq (XI.region (jy (jz [_, _, _, _, _, _, _] _ [sN] sizeOf105 rfl rfl rfl rfl rfl rfl (jy (jz [_, _, _, _, _, _] _ [.bool (false)] sizeOf4 rfl rfl rfl rfl rfl rfl (XIL.nil ?_))))))
   refine XI.ret (qo (qF (roundR ⟨cellsH b2 [sN] 105 :: cellsH b3 [.bool (false)] 4 :: objH D (.deferred (some [])) :: L, (qW (jg (A := [_, _, _, _, _])) (qW (jg (A := [_, _, _, _, _, _])) (qW (jg (A := [_, _, _, _, _, _, _])) (qW (jg (A := [_, _, _, _])) (sC (sC (sC (sC (sD (sD (sD (sD (sD sR))))))))))))), ?_⟩)))
   exact .inr ⟨rfl, _, ⟨peaks_no hpre hI8 hf9, rfl⟩, rfl⟩
  have hne9 : os8.length ≠ 64 := by omega
  refine XI.skip (XI.region (jy (qj isAgg105 rfl (Rd.own [_, _, _] rfl rfl) (jy (qv [x2, x3, x4, ii (((pkF ar rs o p u).getD P0).2.2.2.1), ii (((pkF ar rs o p u).getD P0).2.2.2.2.1), ii (((pkF ar rs o p u).getD P0).2.2.2.2.2)] isAgg109 jR rfl rfl (Rd.ownN [] rfl rfl) (jy (qD (s := 6) [x2, x3, x4, ii (((pkF ar rs o p u).getD P0).2.2.2.1), ii (((pkF ar rs o p u).getD P0).2.2.2.2.1), ii (((pkF ar rs o p u).getD P0).2.2.2.2.2)] [sN, sN, sN, ii (0), ii (0), ii (0)] [(0, [x2, x3, x4, ii (((pkF ar rs o p u).getD P0).2.2.2.1), ii (((pkF ar rs o p u).getD P0).2.2.2.2.1), ii (((pkF ar rs o p u).getD P0).2.2.2.2.2)])] runUnderlying105 jR yk rfl (by decide) rfl (.cons rfl CellsAre.nil) rfl ?_)))))))
  intro v1 hv1
  refine jy (yi (m := 1) (bytes := 96) (cs := cs8) [_, _, _, _, _] _ [x2, x3, x4, ii (((pkF ar rs o p u).getD P0).2.2.2.1), ii (((pkF ar rs o p u).getD P0).2.2.2.2.1), ii (((pkF ar rs o p u).getD P0).2.2.2.2.2)] runUnderlying105 typeInfo109 rfl rfl rfl rfl rfl rfl rfl (SlV.own [] rfl) rfl (Rd.lit [] rfl) (qm (qy (qp hr1)) (qm (qy (qp hr2)) (qm (qy (qp hr3)) (qm rfl (qm rfl (qm rfl qO)))))) (by (try simp only [List.length_append, List.length_nil, List.length_cons, List.length_singleton]); omega) (by (try simp only [List.length_append, List.length_nil, List.length_cons, List.length_singleton]); omega) ?_)
  intro v2 hs1 hn1 hm1
  have hc1 := PeaksC.snoc hC8 (y0 := ((pkF ar rs o p u).getD P0).1) (y1 := ((pkF ar rs o p u).getD P0).2.1) (y2 := ((pkF ar rs o p u).getD P0).2.2.1) (y3 := ((pkF ar rs o p u).getD P0).2.2.2.1) (y4 := ((pkF ar rs o p u).getD P0).2.2.2.2.1) (y5 := ((pkF ar rs o p u).getD P0).2.2.2.2.2) hr1 hr2 hr3
  refine jy (jz [_, _, _, _] _ [v2] sizeOf105 rfl rfl (qy hs1) rfl rfl rfl (XIL.nil ?_))
  refine roundNB ⟨cellsH b4 [v2] 105 :: slH 109 6 v2 ((m8) + 1) (cs8 ++ [x2, x3, x4, ii (((pkF ar rs o p u).getD P0).2.2.2.1), ii (((pkF ar rs o p u).getD P0).2.2.2.2.1), ii (((pkF ar rs o p u).getD P0).2.2.2.2.2)]) :: objH D (.deferred (some [])) :: cellsH b3 [.bool (false)] 4 :: cellsH b2 [sN] 105 :: cellsH b1 [arv, rsv] 77 :: L, (sD (sD (sC (sD (sC (sC (sC (sC (sC (sC sR)))))))))), ?_⟩
  rw [hR0]
  exact .inl ⟨rfl, _, ⟨_, _, _, _, _, hs1, hc1, by rw [List.length_append, List.length_singleton]; omega, DeepL.snoc hDp rfl ⟨_, _, _, rfl, rfl⟩, (Fresh.app hZ leF hr4 le2), hI8.next hsm9 hne9, rfl⟩, rfl⟩
 refine (Does.weaken (qW (Sub.addNil 109 6 none _) (qW (jg (A := [_, _, _, _, _, _])) (qW (jg (A := [_, _, _, _, _, _])) (qW (jg (A := [_, _, _, _, _, _])) (qW (jg (A := [_, _, _, _, _])) (qW (jg (A := [_, _, _, _])) (qW (jg (A := [_, _, _, _, _, _])) (qW (jg (A := [_, _, _, _, _, _])) (sC (sC (sC (sC (sC (sC (sC sR))))))))))))))) (meetIt_spec (R2 := { R with state := .done, pending := some .ret }) (J := (PKJ F1 2 109 105 b4 (objH D (.deferred (some [])) :: cellsH b3 [.bool (false)] 4 :: cellsH b2 [sN] 105 :: cellsH b1 [arv, rsv] 77 :: L) (PkI ar rs))) (Jx := (fun (_ : FH) (L2 : List HP) => peaksF ar rs = none ∧ cellsH b2 [sN] 105 :: cellsH b3 [.bool (false)] 4 :: objH D (.deferred (some [])) :: L = L2)) har hrs hcb1 hsys (PKJ.start PkI.start) PKJ.mono hyes)).mono ?_
 rintro _ F9 _ le9 (⟨L9, ⟨sv9, os9, cs9, Ls9, m9, hsv9, hC9, hm9, hD9, hZ9, hI9, rfl⟩, rfl⟩ | ⟨L9, ⟨hI9, rfl⟩, rfl⟩)
 ·have hl9 := hI9.len
  refine ⟨R, cellsH b4 [sv9] 105 :: slH 109 6 sv9 m9 cs9 :: cellsH b3 [.bool (false)] 4 :: cellsH b2 [sN] 105 :: cellsH b1 [arv, rsv] 77 :: L, by rw [hRs]; simp, (qW (jg (A := [_, _, _, _, _, _])) (qW (jg (A := [_, _, _, _, _, _])) (qW (jg (A := [_, _, _, _, _, _])) (qW (jg (A := [_, _, _, _, _])) (qW (jg (A := [_, _, _, _, _])) (qW (jg (A := [_, _, _, _, _, _])) (qW (jg (A := [_, _, _, _, _, _])) (sC (sC (sC (sC (sC (sC (sC sR)))))))))))))), .inl ⟨hRp, ?_⟩⟩
  refine XI.seq (XI.region (jy (qj isAgg105 rfl (Rd.own [_] rfl rfl) (jy (jz [_, _, _, _] _ [sv9] sizeOf105 rfl rfl (qy hsv9) rfl rfl rfl (jy (jz [_, _, _] _ [.bool (true)] sizeOf4 rfl rfl rfl rfl rfl rfl (XIL.nil (XI.freezeF [_, _] _ _ rfl (fun F3 le3 hz1 => ?_))))))))))
  replace hC9 := hC9.mono le3
  have hf1 : PeaksF F3 sv9 os9 := CO.fz hC9 (by first | rfl | omega | (rw [List.length_set]; omega) | (simp; done) | (rw [List.length_append]; simp only [List.length_singleton]; omega)) hz1.fz
  refine XI.ret (retEndC (L' := L) (cellsH b4 [sv9] 105 :: cellsH b3 [.bool (true)] 4 :: cellsH b2 [sv9] 105 :: cellsH b1 [arv, rsv] 77 :: L) [sv9, .bool (true)] (.tuple #[sv9, .bool (true)]) (.cell rfl (load1V (v := sv9) isAgg105 (Rd.own [_, _, _] rfl rfl)) (.cell rfl (load1V (v := .bool (true)) isAgg4 (Rd.own [_, _] rfl rfl)) .nil)) rfl (qi (qi le1 le9) le3) rF (sC (sC (sC (sC (sC sR))))) (sD (sD (sD (sD sR)))) ?_)
  have e := peaks_yes hI9
  exact ⟨_, by rw [e]; rfl, by rw [e]; exact hf1, by rw [e]; exact ((Fresh.one (Fresh.deep hD9 hZ9 le9 hz1 (by omega) le3)).base le1), rfl⟩
 refine ⟨_, cellsH b2 [sN] 105 :: cellsH b3 [.bool (false)] 4 :: L, by simp, (qW (jg (A := [_, _])) (qW (jg (A := [_, _])) (qW (jg (A := [_, _, _])) (qW (jg (A := [_, _, _])) (sC (sC (sC (sC sR)))))))), .inr ⟨rfl, ?_⟩⟩
 refine (retEndC (L' := L) (cellsH b2 [sN] 105 :: cellsH b3 [.bool (false)] 4 :: L) [sN, .bool (false)] (.tuple #[sN, .bool (false)]) (.cell rfl (load1V (v := sN) isAgg105 (Rd.own [_] rfl rfl)) (.cell rfl (load1V (v := .bool (false)) isAgg4 (Rd.own [_, _] rfl rfl)) .nil)) rfl (qi le1 le9) rF (sC (sC (sC sR))) (sD (sD sR)) ?_)
 have e := hI9
 exact ⟨_, by rw [e]; rfl, by rw [e]; exact SlOf.nilV, by rw [e]; exact Fresh.empty ⟨[], [], nilPeaksD, rfl, rfl⟩, rfl⟩
end Go.Proofs.YthkebalahfalhaaGreat
