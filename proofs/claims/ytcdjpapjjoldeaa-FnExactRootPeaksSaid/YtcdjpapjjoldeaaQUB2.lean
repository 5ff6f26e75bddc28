/-
  Walks, one after the other (part 3).
-/
import Derived.Test.YtcdjpapjjoldeaaQUL1
import Derived.Test.YtcdjpapjjoldeaaQUB1
import Derived.Test.YtcdjpapjjoldeaaQUB0
set_option linter.unusedSimpArgs false
set_option linter.unusedVariables false
namespace Go.Proofs.Ytcdjpapjjoldeaa
open Go X M Try

/- spec.l13End -/
theorem l13End_spec {F : FH} {L : List HP} {arv : Value} {ar : List Int} (har : IntsF F arv ar) {tv : Value} {t : List Int} (ht : IntsF F tv t) {q : Nat} (ho : TermW ar t) (hp : q < t.length) :
    Does prog 215 [.agg #[arv], tv, ii ((q : Int))] F (L) (fun v F' L' => (ii (((endN ar t q : Nat) : Int)) : Value) = v ∧ F = F' ∧ L = L') := by
 refine qI func215 rfl rfl rfl ?_
 have hsl := sigOk_spec ho.sig
 have htl := ho.len
 have hsig := ho.sig
 have hee := ho.endN hp
 refine qc (qa (cX (jc [arv] rfl rfl ?_)))
 intro b1
 refine qg (ii (0)) rfl (qb (qc (qa (qg (ii (1)) rfl (qb (qc (qJ (jh (α := Nat × Nat) (fun xQ => [(1, tv), (2, ii (((xQ.2 : Nat) : Int))), (3, ptr b1 0), (7, ii (((xQ.1 : Nat) : Int)))]) (fun xQ => cellsH b1 [arv] 29 :: L) (fun xQ F' => F = F' ∧ (endGo ar (t.drop xQ.2) xQ.1 = some (endN ar t q - xQ.2)) ∧ (q ≤ xQ.2 ∧ xQ.2 ≤ endN ar t q) ∧ (xQ.1 ≤ 1 + 3 * xQ.2)) (fun xQ => t.length - xQ.2) (1, q) ⟨rfl, rfl, rfl, rfl, ⟨⟩⟩ (sC sR) ⟨rfl, (endW_start ho hp), (by (try dsimp only) <;> omega), (by (try dsimp only) <;> omega)⟩ ?_))))))))
 rintro ⟨k, p⟩ rE _ _ ⟨rfl, hi, hpp, hk⟩
 show X _ _ _ _ (envs [(1, tv), (2, ii ((p : Int))), (3, ptr b1 0), (7, ii ((k : Int)))] rE) _ (cellsH b1 [arv] 29 :: L)
 dsimp only at hi hpp hk
 refine qc (qc (qa (qf (ii ((k : Int))) rfl (cX (XOp.gtr rfl rfl (qb ?_))))))
 refine qv (p := (k : Int) > 0) rfl (fun h1 => ?_) (fun h1 => ?_)
 ·obtain ⟨hpe, hnx⟩ := endW_step ho hi hpp.2 hee.2 (by omega)
  have hpt : p < t.length := by omega
  have hA := arity_le hsig (ho.lt hpt)
  have hlt := ho.lt hpt
  refine qx (qJ (qc (qc (qa (qf (tv) rfl (qf (ii ((p : Int))) rfl (cX (ql p qd qn rfl rfl rfl ht.slv (by omega) (Nat.mul_one _) (cX (qh qD rfl (ht.rd (by omega)) (cX (XOp.geq rfl rfl (qb ?_)))))))))))))
  refine qv (p := (t.getD p 0 : Int) ≥ 0) rfl (fun h2 => ?_) (fun h2 => ?_)
  ·have hare : arity ar (t.getD p 0) = ar.getD (t.getD p 0).toNat 0 := by unfold arity; rw [if_neg (by omega)]
   refine jl [cellsH b1 [arv] 29] L 9 [] [[], [], [1], [], [], [3, 4], [5], [2, 6], [7]] (phiL [qe (ii ((k : Int)) : Value), qe (ptr b1 0), qe arv, qe tv, qe (ii ((p : Int)) : Value), qe (.pointer (some (elemA tv (p)))), qe (ii (t.getD p 0)), qe (.pointer (some (elemA arv ((t.getD p 0).toNat)))), qe (ii (ar.getD ((t.getD p 0).toNat) 0))]) (ownL []) mixed rfl rfl (by kernel_rfl) ?_ ?_
   ·refine pD (fun W R z9 => ?_) ?_
    ·refine qi (qj (ii ((k : Int))) rfl ?_)
     exact ⟨rfl, rfl, rfl⟩
    refine pD (fun W R z9 => ?_) ?_
    ·refine qi (qm (0) jq rfl qo (by decide) rfl rfl ?_)
     exact ⟨rfl, rfl, rfl⟩
    refine pD (fun W R z9 => ?_) ?_
    ·rw [eS (l := [(1, _)]) ⟨z9 1 rfl, ⟨⟩⟩]
     refine qi (qh qM rfl (Rd.own [] rfl rfl) ?_)
     exact ⟨rfl, rfl, rfl⟩
    refine pD (fun W R z9 => ?_) ?_
    ·refine qi (qj (tv) rfl ?_)
     exact ⟨rfl, rfl, rfl⟩
    refine pD (fun W R z9 => ?_) ?_
    ·refine qi (qj (ii ((p : Int))) rfl ?_)
     exact ⟨rfl, rfl, rfl⟩
    refine pD (fun W R z9 => ?_) ?_
    ·rw [eS (l := [(3, _), (4, _)]) ⟨z9 3 rfl, z9 4 rfl, ⟨⟩⟩]
     refine qi (ql p qd qn rfl rfl rfl ht.slv (by omega) (Nat.mul_one _) ?_)
     exact ⟨rfl, rfl, rfl⟩
    refine pD (fun W R z9 => ?_) ?_
    ·rw [eS (l := [(5, _)]) ⟨z9 5 rfl, ⟨⟩⟩]
     refine qi (qh qD rfl (ht.rd (by omega)) ?_)
     exact ⟨rfl, rfl, rfl⟩
    refine pD (fun W R z9 => ?_) ?_
    ·rw [eS (l := [(2, _), (6, _)]) ⟨z9 2 rfl, z9 6 rfl, ⟨⟩⟩]
     refine qi (ql ((t.getD p 0).toNat) qd qn rfl rfl (by omega) har.slv (by omega) (Nat.mul_one _) ?_)
     exact ⟨rfl, rfl, rfl⟩
    refine pD (fun W R z9 => ?_) ?_
    ·rw [eS (l := [(7, _)]) ⟨z9 7 rfl, ⟨⟩⟩]
     refine qi (qh qD rfl (har.rd (by omega)) ?_)
     exact ⟨rfl, rfl, rfl⟩
    exact stepsP.nil
   intro W hphi
   rw [eS (l := [(0, _), (8, _)]) ⟨(hphi 0 (by decide)), (hphi 8 (by decide)), ⟨⟩⟩]
   show XL _ _ _ _ _ _ _ (cellsH b1 [arv] 29 :: L)
   refine cX (qL (((k : Int)) + (ar.getD ((t.getD p 0).toNat) 0)) rfl rfl (by omega) (by omega) (qg (ii (((k : Int)) + (ar.getD ((t.getD p 0).toNat) 0))) rfl (qb (qc (qa (qf (ii (((k : Int)) + (ar.getD ((t.getD p 0).toNat) 0))) rfl (cX (jd ((((k : Int)) + (ar.getD ((t.getD p 0).toNat) 0)) - 1) rfl rfl (by omega) (by omega) (qg (ii ((((k : Int)) + (ar.getD ((t.getD p 0).toNat) 0)) - 1)) rfl (qb (qa (qf (ii ((p : Int))) rfl (cX (qL (((p + 1 : Nat) : Int)) rfl rfl (by omega) (by omega) (qg (ii (((p + 1 : Nat) : Int))) rfl ?_)))))))))))))))
   refine qb ?_
   exact ⟨(k - 1 + (arity ar (t.getD p 0)).toNat, p + 1), _, FLe.refl _, rF, ⟨rfl, rfl, rfl, (vI (by omega)), ⟨⟩⟩, (sC sR), ⟨rfl, (hnx), (by (try dsimp only) <;> omega), (by (try dsimp only) <;> omega)⟩, (by omega)⟩
  have hare : arity ar (t.getD p 0) = 0 := by unfold arity; rw [if_pos (by omega)]
  refine qx (qc (qa (qf (ii ((k : Int))) rfl (cX (jd (((k : Int)) - 1) rfl rfl (by omega) (by omega) (qg (ii (((k : Int)) - 1)) rfl (qb (qa (qf (ii ((p : Int))) rfl (cX (qL (((p + 1 : Nat) : Int)) rfl rfl (by omega) (by omega) (qg (ii (((p + 1 : Nat) : Int))) rfl (qb ?_)))))))))))))
  exact ⟨(k - 1 + (arity ar (t.getD p 0)).toNat, p + 1), _, FLe.refl _, rF, ⟨rfl, rfl, rfl, (vI (by omega)), ⟨⟩⟩, (sC sR), ⟨rfl, (hnx), (by (try dsimp only) <;> omega), (by (try dsimp only) <;> omega)⟩, (by omega)⟩
 refine jf (qu (qu (qN (qc (qa (qf (ii ((p : Int))) rfl (qg (ii ((p : Int))) rfl (qb (qz (qs (L' := L) [ii ((p : Int))] (ii ((p : Int))) (.tmp rfl .nil) rfl rF rF (sD sR) ?_))))))))))
 exact ⟨(congrArg (fun n : Nat => Value.int .i64 (n : Int)) (endW_stop hi hpp.2 (by omega)).symm), rfl, rfl⟩

/- spec.l13Parts -/
theorem l13Parts_spec {F : FH} {L : List HP} {arv : Value} {ar : List Int} (har : IntsF F arv ar) {tv : Value} {t : List Int} (ht : IntsF F tv t) (ho : TermW ar t) :
    Does prog 252 [.agg #[arv], tv] F (L) (fun v F' L' => ∃ (a : Value), (a : Value) = v ∧ (RowsF F' a (partsL ar t)) ∧ L = L') := by
 refine qI func252 rfl rfl rfl ?_
 have hsl := sigOk_spec ho.sig
 have htl := ho.len
 have hsig := ho.sig
 have hlt0 := ho.lt (p := 0) (by omega)
 refine qc (qa (cX (jc [arv] rfl rfl ?_)))
 intro b1
 refine qg (sN) rfl (qb (qc (qa (cX (qS (s := 1) [] [sN] [] qG qo zeroValue27 rfl (by decide) rfl CellsAre.nil rfl ?_)))))
 intro v1 hv1
 refine qg (v1) rfl (qb (qc (qc (qa (qf (tv) rfl (cX (ql 0 qd qn rfl rfl rfl ht.slv (by omega) (Nat.mul_one _) (cX (qh qD rfl (ht.rd (by omega)) (cX (qK rfl rfl (qb ?_))))))))))))
 refine qv (p := (t.getD 0 0 : Int) < 0) rfl (fun h1 => ?_) (fun h1 => ?_)
 ·refine qc (qa (qf (v1) rfl (qg (v1) rfl (qb ?_))))
  have hc1 : RowsC F [] ([] : List (List Int)) := (CO.nil : RowsC F [] [])
  refine X.freezeF [] _ _ rfl (fun F1 le1 hz1 => ?_)
  replace har := har.mono le1
  replace ht := ht.mono le1
  replace hc1 := hc1.mono le1
  have hf1 : RowsF F1 v1 (([] : List (List Int))) := CO.fz hc1 (by first | rfl | omega | (rw [List.length_set]; omega) | (simp; done)) hz1.fz
  refine qz (qk (qs (L' := L) [v1] (v1) (.tmp rfl .nil) rfl le1 rF (sD sR) ?_))
  have e9 : partsL ar t = [] := List.eq_nil_of_length_eq_zero (by rw [parts_len]; unfold arity; rw [if_pos (by omega)]; rfl)
  rw [e9]
  exact ⟨_, rfl, hf1, rfl⟩
 obtain ⟨hpa, hp3, hpl⟩ := sArity_parts ho (by omega)
 refine qx (qc (qa (qg (ii (1)) rfl (qb (qc (qc (qa (qg (ii (0)) rfl (qb (qJ (jh (α := Nat × Nat × Value × RowL × List Value × Nat × FH) (fun xQ => [(1, tv), (2, ptr b1 0), (5, xQ.2.2.1), (6, ii (((xQ.2.1 : Nat) : Int))), (7, ii (((xQ.1 : Nat) : Int)))]) (fun xQ => slH 27 1 xQ.2.2.1 xQ.2.2.2.2.2.1 xQ.2.2.2.2.1 :: cellsH b1 [arv] 29 :: L) (fun xQ F' => xQ.2.2.2.2.2.2 = F' ∧ F ≤ xQ.2.2.2.2.2.2 ∧ (IsSl xQ.2.2.1) ∧ (RowsC xQ.2.2.2.2.2.2 xQ.2.2.2.2.1 xQ.2.2.2.1) ∧ (xQ.2.2.2.2.2.1 = xQ.2.2.2.1.length) ∧ (xQ.2.2.2.1.length = xQ.1) ∧ (PartI ar t xQ.2.2.2.1 ((partsL ar t).length - xQ.1) xQ.2.1) ∧ (xQ.1 ≤ (partsL ar t).length)) (fun xQ => (partsL ar t).length - xQ.1) (0, 1, v1, [], [], 0, F) ⟨rfl, rfl, rfl, rfl, rfl, ⟨⟩⟩ (sC (sC sR)) ⟨rfl, FLe.refl _, ((jJ hv1)), (CO.nil), (rfl), (rfl), (PartI.start ho), (by (try dsimp only) <;> omega)⟩ ?_)))))))))))
 rintro ⟨k, q, ov, os, ocs, m9, G1⟩ rE _ _ ⟨rfl, leG, hov, hC, hm, hk, hPI, hk2⟩
 show X _ _ _ _ (envs [(1, tv), (2, ptr b1 0), (5, ov), (6, ii ((q : Int))), (7, ii ((k : Int)))] rE) _ (slH 27 1 ov m9 ocs :: cellsH b1 [arv] 29 :: L)
 replace leG : F ≤ G1 := leG
 dsimp only at hov hC hm hk hPI hk2
 have hPn := fun h : 1 ≤ (partsL ar t).length - k => hPI.next ho h
 have leG1 := leG
 replace har := har.mono leG1
 replace ht := ht.mono leG1
 refine qc (qc ?_)
 refine jl [slH 27 1 ov m9 ocs, cellsH b1 [arv] 29] L 8 [] [[], [], [1], [], [3], [4], [2, 5], [6]] (phiL [qe (ii ((k : Int)) : Value), qe (ptr b1 0), qe arv, qe tv, qe (.pointer (some (elemA tv (0)))), qe (ii (t.getD 0 0)), qe (.pointer (some (elemA arv ((t.getD 0 0).toNat)))), qe (ii (ar.getD ((t.getD 0 0).toNat) 0))]) (ownL []) mixed rfl rfl (by kernel_rfl) ?_ ?_
 ·refine pD (fun W R z9 => ?_) ?_
  ·refine qi (qj (ii ((k : Int))) rfl ?_)
   exact ⟨rfl, rfl, rfl⟩
  refine pD (fun W R z9 => ?_) ?_
  ·refine qi (qm (0) jq rfl qo (by decide) rfl rfl ?_)
   exact ⟨rfl, rfl, rfl⟩
  refine pD (fun W R z9 => ?_) ?_
  ·rw [eS (l := [(1, _)]) ⟨z9 1 rfl, ⟨⟩⟩]
   refine qi (qh qM rfl (Rd.own [_] rfl rfl) ?_)
   exact ⟨rfl, rfl, rfl⟩
  refine pD (fun W R z9 => ?_) ?_
  ·refine qi (qj (tv) rfl ?_)
   exact ⟨rfl, rfl, rfl⟩
  refine pD (fun W R z9 => ?_) ?_
  ·rw [eS (l := [(3, _)]) ⟨z9 3 rfl, ⟨⟩⟩]
   refine qi (ql 0 qd qn rfl rfl rfl ht.slv (by omega) (Nat.mul_one _) ?_)
   exact ⟨rfl, rfl, rfl⟩
  refine pD (fun W R z9 => ?_) ?_
  ·rw [eS (l := [(4, _)]) ⟨z9 4 rfl, ⟨⟩⟩]
   refine qi (qh qD rfl (ht.rd (by omega)) ?_)
   exact ⟨rfl, rfl, rfl⟩
  refine pD (fun W R z9 => ?_) ?_
  ·rw [eS (l := [(2, _), (5, _)]) ⟨z9 2 rfl, z9 5 rfl, ⟨⟩⟩]
   refine qi (ql ((t.getD 0 0).toNat) qd qn rfl rfl (by omega) har.slv (by omega) (Nat.mul_one _) ?_)
   exact ⟨rfl, rfl, rfl⟩
  refine pD (fun W R z9 => ?_) ?_
  ·rw [eS (l := [(6, _)]) ⟨z9 6 rfl, ⟨⟩⟩]
   refine qi (qh qD rfl (har.rd (by omega)) ?_)
   exact ⟨rfl, rfl, rfl⟩
  exact stepsP.nil
 intro W hphi
 rw [eS (l := [(0, _), (7, _)]) ⟨(hphi 0 (by decide)), (hphi 7 (by decide)), ⟨⟩⟩]
 show XL _ _ _ _ _ _ _ (slH 27 1 ov m9 ocs :: cellsH b1 [arv] 29 :: L)
 refine cX (qK rfl rfl (qb ?_))
 refine qv (p := (k : Int) < ar.getD ((t.getD 0 0).toNat) 0) rfl (fun h2 => ?_) (fun h2 => ?_)
 ·obtain ⟨hq1, hq2, hq3, hq4⟩ := hPn (by omega)
  refine qx (qc (qJ (qc (qa (cX (qE [arv] ji qR rfl rfl (Rd.ownN [_] rfl rfl) (qf (tv) rfl (qf (ii ((q : Int))) rfl (cX (qr (args := [.agg #[arv], tv, ii (q : Int)]) call215 rfl (l13End_spec (q := q) har ht (ho := (ho)) (hp := (hq1))) ?_))))))))))
  rintro _ _ _ _ ⟨rfl, rfl, rfl⟩
  refine qg (ii (((endN ar t q : Nat) : Int))) rfl (qb (qc (qa (qf (ov) rfl (qf (tv) rfl (qf (ii ((q : Int))) rfl (qf (ii (((endN ar t q : Nat) : Int))) rfl (cX (XOp.sliceI q (endN ar t q) qd qn rfl ht ⟨_, rfl⟩ ⟨_, rfl⟩ (by omega) (by omega) ?_)))))))))
  intro v2 hv2 hn1
  refine cX (qS (s := 1) [v2] [sN] [(0, [v2])] qG qo zeroValue27 rfl (by decide) rfl (.cons (cells_one (qB hv2)) CellsAre.nil) rfl ?_)
  intro v3 hv3
  refine cX (XOp.append (m := 1) (bytes := 24) (cs := ocs) [_] _ [v2] qG typeInfo27 rfl rfl rfl rfl rfl rfl rfl (SlV.own [] rfl) rfl (Rd.lit [] rfl) (qq (je (qB hv2)) jm) (by (try simp only [List.length_append, List.length_nil, List.length_cons, List.length_singleton]); omega) (by (try simp only [List.length_append, List.length_nil, List.length_cons, List.length_singleton]); omega) ?_)
  intro v4 hs1 hn2 hm1
  have hc2 := RowsC.snoc hC hv2
  refine qg (v4) rfl (qb (qa (qf (ii (((endN ar t q : Nat) : Int))) rfl (qg (ii (((endN ar t q : Nat) : Int))) rfl (qb (qa (qf (ii ((k : Int))) rfl (cX (qL (((k + 1 : Nat) : Int)) rfl rfl (by omega) (by omega) (qg (ii (((k + 1 : Nat) : Int))) rfl (qb ?_)))))))))))
  exact ⟨(k + 1, endN ar t q, v4, os ++ [((t.drop q).take ((endN ar t q) - q))], ocs ++ [v2], (m9) + 1, G1), _, leG1, rF, ⟨rfl, rfl, rfl, rfl, rfl, ⟨⟩⟩, (sD (sC (sC sR))), ⟨rfl, leG1, (hs1), (hc2), (by (try dsimp only); rw [List.length_append, List.length_singleton]; omega), (by (try dsimp only); rw [List.length_append, List.length_singleton]; omega), (by have h9 := (hPn (by omega)).2.1; rwa [show (partsL ar t).length - k - 1 = (partsL ar t).length - (k + 1) from by omega] at h9), (by (try dsimp only) <;> omega)⟩, (by omega)⟩
 refine jf (qu (qu (qN (qc (qa (qf (ov) rfl (qg (ov) rfl (qb (X.freezeF [] _ _ rfl (fun F2 le2 hz2 => ?_))))))))))
 replace hC := hC.mono le2
 have hf2 : RowsF F2 ov os := CO.fz hC (by first | rfl | omega | (rw [List.length_set]; omega) | (simp; done)) hz2.fz
 refine qz (qs (L' := L) [ov] (ov) (.tmp rfl .nil) rfl (qp leG1 le2) rF (sD sR) ?_)
 have e9 := hPI.done (by omega)
 rw [e9]
 exact ⟨_, rfl, hf2, rfl⟩

/- spec.l11Head -/
theorem head_spec {F : FH} {L : List HP} {ub : Nat} {ov : Value} {ocs : List Value} {ar : List Int} {bl : RowL} (hov : IsSl ov) (hC : RowsC F ocs bl) (hb : BOk ar bl) {tv : Value} {t : List Int} (ht : IntsF F tv t) (ho : TermW ar t) :
    Does prog 250 [ptr ub 0, tv] F (cellsH ub [ov] 234 :: slH 27 1 ov 48 ocs :: L) (fun v F' L' => ∃ u : List Int, IntsF F' v u ∧ Root ar bl t u ∧ WtLe bl t u ∧ F = F' ∧ cellsH ub [ov] 234 :: slH 27 1 ov 48 ocs :: L = L') := by
 refine qI func250 rfl rfl rfl ?_
 obtain ⟨ρ, hρ⟩ := hb.acyc
 have hbl := hb.len
 refine qc (qa (qg (sN) rfl (qb (qc (qJ (jh (α := Value × List Int) (fun xQ => [(0, ptr ub 0), (1, xQ.1)]) (fun xQ => cellsH ub [ov] 234 :: slH 27 1 ov 48 ocs :: L) (fun xQ F' => F = F' ∧ (IntsF F xQ.1 xQ.2) ∧ (RootTo ar bl t xQ.2) ∧ (WtLe bl t xQ.2)) (fun xQ => rootMu ρ xQ.2) (tv, t) ⟨rfl, rfl, ⟨⟩⟩ (sC (sC sR)) ⟨rfl, (ht), (RootTo.refl ho), (WtLe.refl)⟩ ?_))))))
 rintro ⟨uv, u⟩ rE _ _ ⟨rfl, huv, hrt, hwt⟩
 show X _ _ _ _ (envs [(0, ptr ub 0), (1, uv)] rE) _ (cellsH ub [ov] 234 :: slH 27 1 ov 48 ocs :: L)
 dsimp only at huv hrt hwt
 have hul := hrt.1.len
 have hug := hrt.1.geD (p := 0) (by omega)
 refine qc (qc ?_)
 by_cases h1 : (u.getD 0 0 : Int) < 0
 ·have hx0 : u.getD 0 0 < 0 := h1
  refine jl [cellsH ub [ov] 234, slH 27 1 ov 48 ocs] L 13 [] [[], [0], [1], [2], [3], [4], [4, 5], [4, 6], [4, 7], [4], [4, 9], [4, 10], [4, 11]] (phiL [qe uv, qe (.pointer (some (elemA uv (0)))), qe (ii (u.getD 0 0)), qe (.bool (decide ((u.getD 0 0 : Int) < 0)) : Value), qe (.bool (decide ((u.getD 0 0 : Int) < 0)) : Value), qe (ptr ub 0), qe (ptr ub 0), qe (ptr ub 0), qe ov, qe uv, qe (.pointer (some (elemA uv (0)))), qe (ii (u.getD 0 0)), qe (ii ((-1) - (u.getD 0 0)))]) (ownL []) mixed rfl rfl (by kernel_rfl) ?_ ?_
  ·refine pD (fun W R z9 => ?_) ?_
   ·refine qi (qj (uv) rfl ?_)
    exact ⟨rfl, rfl, rfl⟩
   refine pD (fun W R z9 => ?_) ?_
   ·rw [eS (l := [(0, _)]) ⟨z9 0 rfl, ⟨⟩⟩]
    refine qi (ql 0 qd qn rfl rfl rfl huv.slv (by omega) (Nat.mul_one _) ?_)
    exact ⟨rfl, rfl, rfl⟩
   refine pD (fun W R z9 => ?_) ?_
   ·rw [eS (l := [(1, _)]) ⟨z9 1 rfl, ⟨⟩⟩]
    refine qi (qh qD rfl (huv.rd (by omega)) ?_)
    exact ⟨rfl, rfl, rfl⟩
   refine pD (fun W R z9 => ?_) ?_
   ·rw [eS (l := [(2, _)]) ⟨z9 2 rfl, ⟨⟩⟩]
    refine qi (qK rfl rfl ?_)
    exact ⟨rfl, rfl, rfl⟩
   refine pD (fun W R z9 => ?_) ?_
   ·rw [eS (l := [(3, _)]) ⟨z9 3 rfl, ⟨⟩⟩]
    refine qi (qj (.bool (decide ((u.getD 0 0 : Int) < 0))) rfl ?_)
    exact ⟨rfl, rfl, rfl⟩
   refine pD (fun W R z9 => ?_) ?_
   ·rw [eS (l := [(4, _)]) ⟨z9 4 rfl, ⟨⟩⟩]
    refine qU (t := 9) rfl (vT h1) (qj (ptr ub 0) rfl ?_)
    exact ⟨rfl, rfl, rfl⟩
   refine pD (fun W R z9 => ?_) ?_
   ·rw [eS (l := [(4, _), (5, _)]) ⟨z9 4 rfl, z9 5 rfl, ⟨⟩⟩]
    refine qU (t := 9) rfl (vT h1) (ja rfl ?_)
    exact ⟨rfl, rfl, rfl⟩
   refine pD (fun W R z9 => ?_) ?_
   ·rw [eS (l := [(4, _), (6, _)]) ⟨z9 4 rfl, z9 6 rfl, ⟨⟩⟩]
    refine qU (t := 9) rfl (vT h1) (qm (0) jE rfl sizeOf34 (by decide) rfl rfl ?_)
    exact ⟨rfl, rfl, rfl⟩
   refine pD (fun W R z9 => ?_) ?_
   ·rw [eS (l := [(4, _), (7, _)]) ⟨z9 4 rfl, z9 7 rfl, ⟨⟩⟩]
    refine qU (t := 9) rfl (vT h1) (qh isAgg34 rfl (Rd.own [] rfl rfl) ?_)
    exact ⟨rfl, rfl, rfl⟩
   refine pD (fun W R z9 => ?_) ?_
   ·rw [eS (l := [(4, _)]) ⟨z9 4 rfl, ⟨⟩⟩]
    refine qU (t := 9) rfl (vT h1) (qj (uv) rfl ?_)
    exact ⟨rfl, rfl, rfl⟩
   refine pD (fun W R z9 => ?_) ?_
   ·rw [eS (l := [(4, _), (9, _)]) ⟨z9 4 rfl, z9 9 rfl, ⟨⟩⟩]
    refine qU (t := 9) rfl (vT h1) (ql 0 qd qn rfl rfl rfl huv.slv (by omega) (Nat.mul_one _) ?_)
    exact ⟨rfl, rfl, rfl⟩
   refine pD (fun W R z9 => ?_) ?_
   ·rw [eS (l := [(4, _), (10, _)]) ⟨z9 4 rfl, z9 10 rfl, ⟨⟩⟩]
    refine qU (t := 9) rfl (vT h1) (qh qD rfl (huv.rd (by omega)) ?_)
    exact ⟨rfl, rfl, rfl⟩
   refine pD (fun W R z9 => ?_) ?_
   ·rw [eS (l := [(4, _), (11, _)]) ⟨z9 4 rfl, z9 11 rfl, ⟨⟩⟩]
    refine qU (t := 9) rfl (vT h1) (jd ((-1) - (u.getD 0 0)) rfl rfl (by omega) (by omega) ?_)
    exact ⟨rfl, rfl, rfl⟩
   exact stepsP.nil
  intro W hphi
  rw [eS (l := [(4, _), (8, _), (12, _)]) ⟨(hphi 4 (by decide)), (hphi 8 (by decide)), (hphi 12 (by decide)), ⟨⟩⟩]
  show XL _ _ _ _ _ _ _ (cellsH ub [ov] 234 :: slH 27 1 ov 48 ocs :: L)
  refine qy (t := 9) rfl (vT h1) (ql (((-1) - (u.getD 0 0)).toNat) qG qo rfl rfl (by omega) (SlV.own [_] rfl) (by omega) (Nat.mul_one _) ?_)
  obtain ⟨a1, ha1, he1⟩ := hC.get (i := ((-1) - (u.getD 0 0)).toNat) (by omega)
  refine qy (t := 9) rfl (vT h1) (qh qM rfl (Rd.sl [_] rfl he1) (qy (t := 9) rfl (vT h1) (qF qd rfl ha1.slv (qy (t := 9) rfl (vT h1) (XOp.gtr rfl rfl (cX (qX (.bool (decide ((((((bl.getD (((-1) - (u.getD 0 0)).toNat) [])).length : Nat) : Int) : Int) > 0))) (vT h1) rfl (qb ?_))))))))
  refine qv (p := (((((bl.getD (((-1) - (u.getD 0 0)).toNat) [])).length : Nat) : Int) : Int) > 0) rfl (fun h2 => ?_) (fun h2 => ?_)
  ·have hbn : bl.getD (varIx (u.getD 0 0)) [] ≠ [] := fun e => by (have e9 : (bl.getD (varIx (u.getD 0 0)) []).length = 0 := by rw [e]; rfl); unfold varIx at e9; omega
   refine qx (qJ ?_)
   refine jl [cellsH ub [ov] 234, slH 27 1 ov 48 ocs] L 8 [] [[], [0], [1], [2], [], [4], [5], [6]] (phiL [qe (ptr ub 0), qe (ptr ub 0), qe (ptr ub 0), qe ov, qe uv, qe (.pointer (some (elemA uv (0)))), qe (ii (u.getD 0 0)), qe (ii ((-1) - (u.getD 0 0)))]) (ownL []) mixed rfl rfl (by kernel_rfl) ?_ ?_
   ·refine pD (fun W R z9 => ?_) ?_
    ·refine qi (qj (ptr ub 0) rfl ?_)
     exact ⟨rfl, rfl, rfl⟩
    refine pD (fun W R z9 => ?_) ?_
    ·rw [eS (l := [(0, _)]) ⟨z9 0 rfl, ⟨⟩⟩]
     refine qi (ja rfl ?_)
     exact ⟨rfl, rfl, rfl⟩
    refine pD (fun W R z9 => ?_) ?_
    ·rw [eS (l := [(1, _)]) ⟨z9 1 rfl, ⟨⟩⟩]
     refine qi (qm (0) jE rfl sizeOf34 (by decide) rfl rfl ?_)
     exact ⟨rfl, rfl, rfl⟩
    refine pD (fun W R z9 => ?_) ?_
    ·rw [eS (l := [(2, _)]) ⟨z9 2 rfl, ⟨⟩⟩]
     refine qi (qh isAgg34 rfl (Rd.own [] rfl rfl) ?_)
     exact ⟨rfl, rfl, rfl⟩
    refine pD (fun W R z9 => ?_) ?_
    ·refine qi (qj (uv) rfl ?_)
     exact ⟨rfl, rfl, rfl⟩
    refine pD (fun W R z9 => ?_) ?_
    ·rw [eS (l := [(4, _)]) ⟨z9 4 rfl, ⟨⟩⟩]
     refine qi (ql 0 qd qn rfl rfl rfl huv.slv (by omega) (Nat.mul_one _) ?_)
     exact ⟨rfl, rfl, rfl⟩
    refine pD (fun W R z9 => ?_) ?_
    ·rw [eS (l := [(5, _)]) ⟨z9 5 rfl, ⟨⟩⟩]
     refine qi (qh qD rfl (huv.rd (by omega)) ?_)
     exact ⟨rfl, rfl, rfl⟩
    refine pD (fun W R z9 => ?_) ?_
    ·rw [eS (l := [(6, _)]) ⟨z9 6 rfl, ⟨⟩⟩]
     refine qi (jd ((-1) - (u.getD 0 0)) rfl rfl (by omega) (by omega) ?_)
     exact ⟨rfl, rfl, rfl⟩
    exact stepsP.nil
   intro W hphi
   rw [eS (l := [(3, _), (7, _)]) ⟨(hphi 3 (by decide)), (hphi 7 (by decide)), ⟨⟩⟩]
   show XL _ _ _ _ _ _ _ (cellsH ub [ov] 234 :: slH 27 1 ov 48 ocs :: L)
   refine cX (ql (((-1) - (u.getD 0 0)).toNat) qG qo rfl rfl (by omega) (SlV.own [_] rfl) (by omega) (Nat.mul_one _) (cX (qh qM rfl (Rd.sl [_] rfl he1) (qg (a1) rfl (qb ?_)))))
   exact ⟨(a1, (bl.getD (((-1) - (u.getD 0 0)).toNat) [])), _, FLe.refl _, rF, ⟨rfl, rfl, ⟨⟩⟩, (sC (sC sR)), ⟨rfl, (ha1), (hrt.next hb hx0 hbn), (hwt.next hb hrt.1 hx0 hbn)⟩, (rootMu_lt hρ hb hx0 hbn)⟩
  have htop : 0 ≤ u.getD 0 0 ∨ bl.getD (varIx (u.getD 0 0)) [] = [] := .inr (List.eq_nil_of_length_eq_zero (by unfold varIx; omega))
  refine jf (qu (qu (qN (qc (qa (qf (uv) rfl (qg (uv) rfl (qb (qz (qs (L' := cellsH ub [ov] 234 :: slH 27 1 ov 48 ocs :: L) [uv] (uv) (.tmp rfl .nil) rfl rF rF (sC (sC sR)) ?_))))))))))
  exact ⟨_, huv, hrt.done htop, hwt, rfl, rfl⟩
 have htop : 0 ≤ u.getD 0 0 ∨ bl.getD (varIx (u.getD 0 0)) [] = [] := .inl (by omega)
 refine jl [cellsH ub [ov] 234, slH 27 1 ov 48 ocs] L 13 [] [[], [0], [1], [2], [3], [4], [4, 5], [4, 6], [4, 7], [4], [4, 9], [4, 10], [4, 11]] (phiL [qe uv, qe (.pointer (some (elemA uv (0)))), qe (ii (u.getD 0 0)), qe (.bool (decide ((u.getD 0 0 : Int) < 0)) : Value), qe (.bool (decide ((u.getD 0 0 : Int) < 0)) : Value), qe undef, qe undef, qe undef, qe undef, qe undef, qe undef, qe undef, qe undef]) (ownL []) mixed rfl rfl (by kernel_rfl) ?_ ?_
 ·refine pD (fun W R z9 => ?_) ?_
  ·refine qi (qj (uv) rfl ?_)
   exact ⟨rfl, rfl, rfl⟩
  refine pD (fun W R z9 => ?_) ?_
  ·rw [eS (l := [(0, _)]) ⟨z9 0 rfl, ⟨⟩⟩]
   refine qi (ql 0 qd qn rfl rfl rfl huv.slv (by omega) (Nat.mul_one _) ?_)
   exact ⟨rfl, rfl, rfl⟩
  refine pD (fun W R z9 => ?_) ?_
  ·rw [eS (l := [(1, _)]) ⟨z9 1 rfl, ⟨⟩⟩]
   refine qi (qh qD rfl (huv.rd (by omega)) ?_)
   exact ⟨rfl, rfl, rfl⟩
  refine pD (fun W R z9 => ?_) ?_
  ·rw [eS (l := [(2, _)]) ⟨z9 2 rfl, ⟨⟩⟩]
   refine qi (qK rfl rfl ?_)
   exact ⟨rfl, rfl, rfl⟩
  refine pD (fun W R z9 => ?_) ?_
  ·rw [eS (l := [(3, _)]) ⟨z9 3 rfl, ⟨⟩⟩]
   refine qi (qj (.bool (decide ((u.getD 0 0 : Int) < 0))) rfl ?_)
   exact ⟨rfl, rfl, rfl⟩
  refine pD (fun W R z9 => ?_) ?_
  ·rw [eS (l := [(4, _)]) ⟨z9 4 rfl, ⟨⟩⟩]
   exact jb (t := 9) rfl (vF h1) ⟨rfl, rfl, rfl⟩
  refine pD (fun W R z9 => ?_) ?_
  ·rw [eS (l := [(4, _), (5, undef)]) ⟨z9 4 rfl, z9 5 rfl, ⟨⟩⟩]
   exact jb (t := 9) rfl (vF h1) ⟨rfl, rfl, rfl⟩
  refine pD (fun W R z9 => ?_) ?_
  ·rw [eS (l := [(4, _), (6, undef)]) ⟨z9 4 rfl, z9 6 rfl, ⟨⟩⟩]
   exact jb (t := 9) rfl (vF h1) ⟨rfl, rfl, rfl⟩
  refine pD (fun W R z9 => ?_) ?_
  ·rw [eS (l := [(4, _), (7, undef)]) ⟨z9 4 rfl, z9 7 rfl, ⟨⟩⟩]
   exact jb (t := 9) rfl (vF h1) ⟨rfl, rfl, rfl⟩
  refine pD (fun W R z9 => ?_) ?_
  ·rw [eS (l := [(4, _)]) ⟨z9 4 rfl, ⟨⟩⟩]
   exact jb (t := 9) rfl (vF h1) ⟨rfl, rfl, rfl⟩
  refine pD (fun W R z9 => ?_) ?_
  ·rw [eS (l := [(4, _), (9, undef)]) ⟨z9 4 rfl, z9 9 rfl, ⟨⟩⟩]
   exact jb (t := 9) rfl (vF h1) ⟨rfl, rfl, rfl⟩
  refine pD (fun W R z9 => ?_) ?_
  ·rw [eS (l := [(4, _), (10, undef)]) ⟨z9 4 rfl, z9 10 rfl, ⟨⟩⟩]
   exact jb (t := 9) rfl (vF h1) ⟨rfl, rfl, rfl⟩
  refine pD (fun W R z9 => ?_) ?_
  ·rw [eS (l := [(4, _), (11, undef)]) ⟨z9 4 rfl, z9 11 rfl, ⟨⟩⟩]
   exact jb (t := 9) rfl (vF h1) ⟨rfl, rfl, rfl⟩
  exact stepsP.nil
 intro W hphi
 rw [eS (l := [(4, _), (8, undef), (12, undef)]) ⟨(hphi 4 (by decide)), (hphi 8 (by decide)), (hphi 12 (by decide)), ⟨⟩⟩]
 show XL _ _ _ _ _ _ _ (cellsH ub [ov] 234 :: slH 27 1 ov 48 ocs :: L)
 refine qt (t := 9) rfl (vF h1) (qt (t := 9) rfl (vF h1) (qt (t := 9) rfl (vF h1) (qt (t := 9) rfl (vF h1) (cX (qV (.bool (false)) (vF h1) rfl (qb (jv rfl (jf (qu (qu (qN (qc (qa (qf (uv) rfl ?_))))))))))))))
 refine qg (uv) rfl (qb (qz (qs (L' := cellsH ub [ov] 234 :: slH 27 1 ov 48 ocs :: L) [uv] (uv) (.tmp rfl .nil) rfl rF rF (sC (sC sR)) ?_)))
 exact ⟨_, huv, hrt.done htop, hwt, rfl, rfl⟩

/- spec.l11Occurs -/
set_option maxHeartbeats 1000000 in
set_option maxRecDepth 20000 in
theorem occurs2_spec {F : FH} {L : List HP} {ub : Nat} {ov : Value} {ocs : List Value} {ar : List Int} {bl : RowL} (hov : IsSl ov) (hC : RowsC F ocs bl) (hb : BOk ar bl) {σ : Sbs} {n : Int} {tv : Value} {t : List Int} (ht : IntsF F tv t) (ho : TermW ar t) (hσ : Sol bl σ) (hn : n < 0) (hnf : lkN bl n = []) :
    Does prog 251 [ptr ub 0, ii (n), tv] F (cellsH ub [ov] 234 :: slH 27 1 ov 48 ocs :: L) (fun v F' L' => (.bool (decide (n ∈ ap σ t)) : Value) = v ∧ F = F' ∧ cellsH ub [ov] 234 :: slH 27 1 ov 48 ocs :: L = L') := by
 refine qI func251 rfl rfl rfl ?_
 have hbl := hb.len
 refine qc (qa (qg (.bool (false)) rfl (qb (qc (qa (qf (ptr ub 0) rfl (cX (ja rfl (cX (qm (0) jE rfl sizeOf34 (by decide) rfl rfl (cX (qh isAgg34 rfl (Rd.own [] rfl rfl) (cX (qF qG rfl (SlV.own [_] rfl) (cX (XOp.makeSlice (n := 48) (bytes := 1) [.bool (false)] runUnderlying244 sizeOf4 typeInfo4 rfl zeroValue4 rfl rfl rfl rfl (by omega) (by omega) ?_))))))))))))))))
 intro v1 hv1
 rw [boolsH_zeros]
 refine qg (v1) rfl (qb (qc (qa (qf (tv) rfl (cX (qS (s := 1) [tv] [sN] [(0, [tv])] qG qo zeroValue27 rfl (by decide) rfl (.cons (cells_one (qB ht)) CellsAre.nil) rfl ?_))))))
 intro v2 hv2
 refine qg (v2) rfl (qb (qc (qJ ?_)))
 have hc1 : RowsC F [tv] ([t] : List (List Int)) := (RowsC.snoc (CO.nil : RowsC F [] []) ht)
 refine jh (α := List Bool × Value × RowL × List Value × Nat) (fun xQ => [(0, ptr ub 0), (1, ii (n)), (7, v1), (8, xQ.2.1)]) (fun xQ => slH 27 1 xQ.2.1 xQ.2.2.2.2 xQ.2.2.2.1 :: boolsH 4 v1 xQ.1 :: cellsH ub [ov] 234 :: slH 27 1 ov 48 ocs :: L) (fun xQ F' => F = F' ∧ (IsSl xQ.2.1) ∧ (RowsC F xQ.2.2.2.1 xQ.2.2.1) ∧ (xQ.2.2.2.2 = xQ.2.2.1.length) ∧ (OccI bl σ n t xQ.1 xQ.2.2.1) ∧ (∀ x ∈ xQ.2.2.1, TermW ar x) ∧ (unm xQ.1 + xQ.2.2.1.length ≤ 49)) (fun xQ => unm xQ.1 + xQ.2.2.1.length) ((List.replicate 48 false), v2, [t], [tv], 1) ⟨rfl, rfl, rfl, rfl, ⟨⟩⟩ (sC (sC (sC (sC sR)))) ⟨rfl, ((jJ hv2)), (hc1), (rfl), (OccI.start), (fun x hx => by rw [List.mem_singleton.1 hx]; exact ho), (by rw [unm_start]; exact Nat.le_refl _)⟩ ?_
 rintro ⟨sn, dv, td, dcs, m⟩ rE _ _ ⟨rfl, hdv, hD, hm, hOI, htw, hmu⟩
 show X _ _ _ _ (envs [(0, ptr ub 0), (1, ii (n)), (7, v1), (8, dv)] rE) _ (slH 27 1 dv m dcs :: boolsH 4 v1 sn :: cellsH ub [ov] 234 :: slH 27 1 ov 48 ocs :: L)
 dsimp only at hdv hD hm hOI htw hmu
 have hsl := hOI.len
 refine qc (qc (qa (qf (dv) rfl (cX (qF qG rfl (SlV.own [] rfl) (cX (XOp.gtr rfl rfl (qb ?_))))))))
 refine qv (p := (m : Int) > 0) rfl (fun h1 => ?_) (fun h1 => ?_)
 ·refine qx (qJ (qc (qa (qf (dv) rfl (qf (dv) rfl (cX (qF qG rfl (SlV.own [] rfl) (cX (jd (((m : Int)) - 1) rfl rfl (by omega) (by omega) (cX (ql ((((m : Int)) - 1).toNat) qG qo rfl rfl (by omega) (SlV.own [] rfl) (by omega) (Nat.mul_one _) ?_)))))))))))
  obtain ⟨a1, ha1, he1⟩ := hD.get (i := (((m : Int)) - 1).toNat) (by omega)
  refine cX (qh qM rfl (Rd.sl [] rfl he1) (qg (a1) rfl (qb (qc (qa (qf (dv) rfl (qf (dv) rfl (cX (qF qG rfl (SlV.own [] rfl) (cX (jd (((m : Int)) - 1) rfl rfl (by omega) (by omega) (cX (XOp.sliceOwn (cs := dcs) [] _ ((m - 1)) qG qo rfl rfl ⟨.i64, congrArg (Value.int .i64) (show ((m : Int)) - 1 = (((m - 1) : Nat) : Int) from by omega)⟩ (by omega) ?_)))))))))))))
  intro v3 hs1
  have hc2 : RowsC F _ _ := CO.take hD (k := (m - 1)) (by omega)
  refine qg (v3) rfl (qb (qc (qa (qg (ii (0)) rfl (qb (qJ ?_))))))
  have hwu : TermW ar ((td.getD ((((m : Int)) - 1).toNat) [])) := htw _ (mem_rows (by omega))
  have hul := hwu.len
  refine jh (α := Nat × List Bool × Value × RowL × List Value × Nat) (fun xQ => [(0, ptr ub 0), (1, ii (n)), (7, v1), (8, xQ.2.2.1), (9, a1), (10, ii (((xQ.1 : Nat) : Int)))]) (fun xQ => slH 27 1 xQ.2.2.1 xQ.2.2.2.2.2 xQ.2.2.2.2.1 :: boolsH 4 v1 xQ.2.1 :: cellsH ub [ov] 234 :: slH 27 1 ov 48 ocs :: L) (fun xQ F' => F = F' ∧ (IsSl xQ.2.2.1) ∧ (RowsC F xQ.2.2.2.2.1 xQ.2.2.2.1) ∧ (xQ.2.2.2.2.2 = xQ.2.2.2.1.length) ∧ (OccJ bl σ n t ((td.getD ((((m : Int)) - 1).toNat) [])) xQ.1 xQ.2.1 xQ.2.2.2.1) ∧ (∀ x ∈ xQ.2.2.2.1, TermW ar x) ∧ (unm xQ.2.1 + xQ.2.2.2.1.length + 1 = unm sn + td.length) ∧ (xQ.1 ≤ ((td.getD ((((m : Int)) - 1).toNat) [])).length)) (fun xQ => ((td.getD ((((m : Int)) - 1).toNat) [])).length - xQ.1) (0, sn, v3, (td.take ((m - 1))), (dcs.take (((m - 1)) * 1)), (m - 1)) ⟨rfl, rfl, rfl, rfl, rfl, rfl, ⟨⟩⟩ (sC (sC (sC (sC sR)))) ⟨rfl, (hs1), (hc2), (by (try dsimp only); rw [List.length_take]; omega), (by have h9 := hOI.pop (by omega); rw [← hm] at h9; have e9 : ((m : Int) - 1).toNat = m - 1 := (by omega); rw [e9]; exact h9), (fun x hx => htw x (List.mem_of_mem_take hx)), (by (try dsimp only); rw [List.length_take]; omega), (by (try dsimp only) <;> omega)⟩ ?_
  rintro ⟨i, sm, ev, te, ecs, m2⟩ rE _ _ ⟨rfl, hev, hE, hm2, hOJ, htw2, hmu2, hi⟩
  show X _ _ _ _ (envs [(0, ptr ub 0), (1, ii (n)), (7, v1), (8, ev), (9, a1), (10, ii ((i : Int)))] rE) _ (slH 27 1 ev m2 ecs :: boolsH 4 v1 sm :: cellsH ub [ov] 234 :: slH 27 1 ov 48 ocs :: L)
  dsimp only at hev hE hm2 hOJ htw2 hmu2 hi
  have hsm := hOJ.len
  refine qc (qc (qa (qf (ii ((i : Int))) rfl (qf (a1) rfl (cX (qF qd rfl ha1.slv (cX (qK rfl rfl (qb ?_)))))))))
  refine qv (p := (i : Int) < ((((td.getD ((((m : Int)) - 1).toNat) [])).length : Nat) : Int)) rfl (fun h2 => ?_) (fun h2 => ?_)
  ·refine qx (qc (qJ (qc (qc (qa (qf (a1) rfl (qf (ii ((i : Int))) rfl (cX (ql i qd qn rfl rfl rfl ha1.slv (by omega) (Nat.mul_one _) (cX (qh qD rfl (ha1.rd (by omega)) (qf (ii (n)) rfl (cX (jF rfl rfl (qb ?_)))))))))))))))
   refine qv (p := (((td.getD ((((m : Int)) - 1).toNat) [])).getD i 0 : Int) = n) rfl (fun h3 => ?_) (fun h3 => ?_)
   ·have heq : (((td.getD ((((m : Int)) - 1).toNat) [])).getD i 0) = n := h3
    refine qc (qa (qg (.bool (true)) rfl (qb (qz (qk (qA (qk (qk (qA (qA (qk (qA (qk (qs (L' := cellsH ub [ov] 234 :: slH 27 1 ov 48 ocs :: L) [.bool (true)] (.bool (true)) (.tmp rfl .nil) rfl rF rF (sD (sD (sC (sC sR)))) ?_))))))))))))))
    have e9 : decide (n ∈ ap σ t) = true := decide_eq_true (hOJ.found hσ hnf (by omega) heq)
    exact ⟨congrArg Value.bool e9, rfl, rfl⟩
   have hne : (((td.getD ((((m : Int)) - 1).toNat) [])).getD i 0) ≠ n := h3
   refine qx (qc ?_)
   by_cases h4 : (((td.getD ((((m : Int)) - 1).toNat) [])).getD i 0 : Int) < 0
   ·have hj0 : (((td.getD ((((m : Int)) - 1).toNat) [])).getD i 0) < 0 := h4
    have hgj := hwu.geD (p := i) (by omega)
    by_cases h5 : (!(sm.getD (((-1) - (((td.getD ((((m : Int)) - 1).toNat) [])).getD i 0)).toNat) false)) = true
    ·have hun : sm.getD (varIx (((td.getD ((((m : Int)) - 1).toNat) [])).getD i 0)) false = false := by simpa [varIx] using h5
     refine jl [slH 27 1 ev m2 ecs, boolsH 4 v1 sm, cellsH ub [ov] 234, slH 27 1 ov 48 ocs] L 26 [] [[], [], [0, 1], [2], [3], [4], [5], [5], [5], [5, 7, 8], [5, 9], [5, 10], [5, 6, 11], [5, 12], [5, 13], [5, 14], [15], [16], [16, 17], [16, 18], [16, 19], [16], [16], [16, 21, 22], [16, 23], [16, 24]] (phiL [qe a1, qe (ii ((i : Int)) : Value), qe (.pointer (some (elemA a1 (i)))), qe (ii (((td.getD ((((m : Int)) - 1).toNat) [])).getD i 0) : Value), qe (.bool (decide ((((td.getD ((((m : Int)) - 1).toNat) [])).getD i 0 : Int) < 0)) : Value), qe (.bool (decide ((((td.getD ((((m : Int)) - 1).toNat) [])).getD i 0 : Int) < 0)) : Value), qe v1, qe a1, qe (ii ((i : Int)) : Value), qe (.pointer (some (elemA a1 (i)))), qe (ii (((td.getD ((((m : Int)) - 1).toNat) [])).getD i 0) : Value), qe (ii ((-1) - (((td.getD ((((m : Int)) - 1).toNat) [])).getD i 0)) : Value), qe (.pointer (some (elemA v1 (((-1) - (((td.getD ((((m : Int)) - 1).toNat) [])).getD i 0)).toNat))) : Value), qe (.bool (sm.getD (((-1) - (((td.getD ((((m : Int)) - 1).toNat) [])).getD i 0)).toNat) false) : Value), qe (.bool (!(sm.getD (((-1) - (((td.getD ((((m : Int)) - 1).toNat) [])).getD i 0)).toNat) false)) : Value), qe (.bool (!(sm.getD (((-1) - (((td.getD ((((m : Int)) - 1).toNat) [])).getD i 0)).toNat) false)) : Value), qe (.bool (!(sm.getD (((-1) - (((td.getD ((((m : Int)) - 1).toNat) [])).getD i 0)).toNat) false)) : Value), qe (ptr ub 0), qe (ptr ub 0), qe (ptr ub 0), qe ov, qe a1, qe (ii ((i : Int)) : Value), qe (.pointer (some (elemA a1 (i)))), qe (ii (((td.getD ((((m : Int)) - 1).toNat) [])).getD i 0) : Value), qe (ii ((-1) - (((td.getD ((((m : Int)) - 1).toNat) [])).getD i 0)) : Value)]) (ownL []) mixed rfl rfl (by kernel_rfl) ?_ ?_
     ·refine pD (fun W R z9 => ?_) ?_
      ·refine qi (qj (a1) rfl ?_)
       exact ⟨rfl, rfl, rfl⟩
      refine pD (fun W R z9 => ?_) ?_
      ·refine qi (qj (ii ((i : Int))) rfl ?_)
       exact ⟨rfl, rfl, rfl⟩
      refine pD (fun W R z9 => ?_) ?_
      ·rw [eS (l := [(0, _), (1, _)]) ⟨z9 0 rfl, z9 1 rfl, ⟨⟩⟩]
       refine qi (ql i qd qn rfl rfl rfl ha1.slv (by omega) (Nat.mul_one _) ?_)
       exact ⟨rfl, rfl, rfl⟩
      refine pD (fun W R z9 => ?_) ?_
      ·rw [eS (l := [(2, _)]) ⟨z9 2 rfl, ⟨⟩⟩]
       refine qi (qh qD rfl (ha1.rd (by omega)) ?_)
       exact ⟨rfl, rfl, rfl⟩
      refine pD (fun W R z9 => ?_) ?_
      ·rw [eS (l := [(3, _)]) ⟨z9 3 rfl, ⟨⟩⟩]
       refine qi (qK rfl rfl ?_)
       exact ⟨rfl, rfl, rfl⟩
      refine pD (fun W R z9 => ?_) ?_
      ·rw [eS (l := [(4, _)]) ⟨z9 4 rfl, ⟨⟩⟩]
       refine qi (qj (.bool (decide ((((td.getD ((((m : Int)) - 1).toNat) [])).getD i 0 : Int) < 0))) rfl ?_)
       exact ⟨rfl, rfl, rfl⟩
      refine pD (fun W R z9 => ?_) ?_
      ·rw [eS (l := [(5, _)]) ⟨z9 5 rfl, ⟨⟩⟩]
       refine qU (t := 50) rfl (vT h4) (qj (v1) rfl ?_)
       exact ⟨rfl, rfl, rfl⟩
      refine pD (fun W R z9 => ?_) ?_
      ·rw [eS (l := [(5, _)]) ⟨z9 5 rfl, ⟨⟩⟩]
       refine qU (t := 50) rfl (vT h4) (qj (a1) rfl ?_)
       exact ⟨rfl, rfl, rfl⟩
      refine pD (fun W R z9 => ?_) ?_
      ·rw [eS (l := [(5, _)]) ⟨z9 5 rfl, ⟨⟩⟩]
       refine qU (t := 50) rfl (vT h4) (qj (ii ((i : Int))) rfl ?_)
       exact ⟨rfl, rfl, rfl⟩
      refine pD (fun W R z9 => ?_) ?_
      ·rw [eS (l := [(5, _), (7, _), (8, _)]) ⟨z9 5 rfl, z9 7 rfl, z9 8 rfl, ⟨⟩⟩]
       refine qU (t := 50) rfl (vT h4) (ql i qd qn rfl rfl rfl ha1.slv (by omega) (Nat.mul_one _) ?_)
       exact ⟨rfl, rfl, rfl⟩
      refine pD (fun W R z9 => ?_) ?_
      ·rw [eS (l := [(5, _), (9, _)]) ⟨z9 5 rfl, z9 9 rfl, ⟨⟩⟩]
       refine qU (t := 50) rfl (vT h4) (qh qD rfl (ha1.rd (by omega)) ?_)
       exact ⟨rfl, rfl, rfl⟩
      refine pD (fun W R z9 => ?_) ?_
      ·rw [eS (l := [(5, _), (10, _)]) ⟨z9 5 rfl, z9 10 rfl, ⟨⟩⟩]
       refine qU (t := 50) rfl (vT h4) (jd ((-1) - (((td.getD ((((m : Int)) - 1).toNat) [])).getD i 0)) rfl rfl (by omega) (by omega) ?_)
       exact ⟨rfl, rfl, rfl⟩
      refine pD (fun W R z9 => ?_) ?_
      ·rw [eS (l := [(5, _), (6, _), (11, _)]) ⟨z9 5 rfl, z9 6 rfl, z9 11 rfl, ⟨⟩⟩]
       refine qU (t := 50) rfl (vT h4) (ql (((-1) - (((td.getD ((((m : Int)) - 1).toNat) [])).getD i 0)).toNat) runUnderlying244 sizeOf4 rfl rfl (by omega) (boolsH.slv [_] rfl) (by omega) (Nat.mul_one _) ?_)
       exact ⟨rfl, rfl, rfl⟩
      refine pD (fun W R z9 => ?_) ?_
      ·rw [eS (l := [(5, _), (12, _)]) ⟨z9 5 rfl, z9 12 rfl, ⟨⟩⟩]
       refine qU (t := 50) rfl (vT h4) (qh isAgg4 rfl (boolsH.rd [_] rfl (by omega)) ?_)
       exact ⟨rfl, rfl, rfl⟩
      refine pD (fun W R z9 => ?_) ?_
      ·rw [eS (l := [(5, _), (13, _)]) ⟨z9 5 rfl, z9 13 rfl, ⟨⟩⟩]
       refine qU (t := 50) rfl (vT h4) (js rfl ?_)
       exact ⟨rfl, rfl, rfl⟩
      refine pD (fun W R z9 => ?_) ?_
      ·rw [eS (l := [(5, _), (14, _)]) ⟨z9 5 rfl, z9 14 rfl, ⟨⟩⟩]
       refine qi (qX (.bool (!(sm.getD (((-1) - (((td.getD ((((m : Int)) - 1).toNat) [])).getD i 0)).toNat) false))) (vT h4) rfl ?_)
       exact ⟨rfl, rfl, rfl⟩
      refine pD (fun W R z9 => ?_) ?_
      ·rw [eS (l := [(15, _)]) ⟨z9 15 rfl, ⟨⟩⟩]
       refine qi (qj (.bool (!(sm.getD (((-1) - (((td.getD ((((m : Int)) - 1).toNat) [])).getD i 0)).toNat) false))) rfl ?_)
       exact ⟨rfl, rfl, rfl⟩
      refine pD (fun W R z9 => ?_) ?_
      ·rw [eS (l := [(16, _)]) ⟨z9 16 rfl, ⟨⟩⟩]
       refine qU (t := 61) rfl (vB h5) (qj (ptr ub 0) rfl ?_)
       exact ⟨rfl, rfl, rfl⟩
      refine pD (fun W R z9 => ?_) ?_
      ·rw [eS (l := [(16, _), (17, _)]) ⟨z9 16 rfl, z9 17 rfl, ⟨⟩⟩]
       refine qU (t := 61) rfl (vB h5) (ja rfl ?_)
       exact ⟨rfl, rfl, rfl⟩
      refine pD (fun W R z9 => ?_) ?_
      ·rw [eS (l := [(16, _), (18, _)]) ⟨z9 16 rfl, z9 18 rfl, ⟨⟩⟩]
       refine qU (t := 61) rfl (vB h5) (qm (0) jE rfl sizeOf34 (by decide) rfl rfl ?_)
       exact ⟨rfl, rfl, rfl⟩
      refine pD (fun W R z9 => ?_) ?_
      ·rw [eS (l := [(16, _), (19, _)]) ⟨z9 16 rfl, z9 19 rfl, ⟨⟩⟩]
       refine qU (t := 61) rfl (vB h5) (qh isAgg34 rfl (Rd.own [_, _] rfl rfl) ?_)
       exact ⟨rfl, rfl, rfl⟩
      refine pD (fun W R z9 => ?_) ?_
      ·rw [eS (l := [(16, _)]) ⟨z9 16 rfl, ⟨⟩⟩]
       refine qU (t := 61) rfl (vB h5) (qj (a1) rfl ?_)
       exact ⟨rfl, rfl, rfl⟩
      refine pD (fun W R z9 => ?_) ?_
      ·rw [eS (l := [(16, _)]) ⟨z9 16 rfl, ⟨⟩⟩]
       refine qU (t := 61) rfl (vB h5) (qj (ii ((i : Int))) rfl ?_)
       exact ⟨rfl, rfl, rfl⟩
      refine pD (fun W R z9 => ?_) ?_
      ·rw [eS (l := [(16, _), (21, _), (22, _)]) ⟨z9 16 rfl, z9 21 rfl, z9 22 rfl, ⟨⟩⟩]
       refine qU (t := 61) rfl (vB h5) (ql i qd qn rfl rfl rfl ha1.slv (by omega) (Nat.mul_one _) ?_)
       exact ⟨rfl, rfl, rfl⟩
      refine pD (fun W R z9 => ?_) ?_
      ·rw [eS (l := [(16, _), (23, _)]) ⟨z9 16 rfl, z9 23 rfl, ⟨⟩⟩]
       refine qU (t := 61) rfl (vB h5) (qh qD rfl (ha1.rd (by omega)) ?_)
       exact ⟨rfl, rfl, rfl⟩
      refine pD (fun W R z9 => ?_) ?_
      ·rw [eS (l := [(16, _), (24, _)]) ⟨z9 16 rfl, z9 24 rfl, ⟨⟩⟩]
       refine qU (t := 61) rfl (vB h5) (jd ((-1) - (((td.getD ((((m : Int)) - 1).toNat) [])).getD i 0)) rfl rfl (by omega) (by omega) ?_)
       exact ⟨rfl, rfl, rfl⟩
      exact stepsP.nil
     intro W hphi
     rw [eS (l := [(16, _), (20, _), (25, _)]) ⟨(hphi 16 (by decide)), (hphi 20 (by decide)), (hphi 25 (by decide)), ⟨⟩⟩]
     show XL _ _ _ _ _ _ _ (slH 27 1 ev m2 ecs :: boolsH 4 v1 sm :: cellsH ub [ov] 234 :: slH 27 1 ov 48 ocs :: L)
     refine qy (t := 61) rfl (vB h5) (ql (((-1) - (((td.getD ((((m : Int)) - 1).toNat) [])).getD i 0)).toNat) qG qo rfl rfl (by omega) (SlV.own [_, _, _] rfl) (by omega) (Nat.mul_one _) ?_)
     obtain ⟨a2, ha2, he2⟩ := hC.get (i := ((-1) - (((td.getD ((((m : Int)) - 1).toNat) [])).getD i 0)).toNat) (by omega)
     refine qy (t := 61) rfl (vB h5) (qh qM rfl (Rd.sl [_, _, _] rfl he2) (qy (t := 61) rfl (vB h5) (qF qd rfl ha2.slv (qy (t := 61) rfl (vB h5) (XOp.gtr rfl rfl (cX (qX (.bool (decide ((((((bl.getD (((-1) - (((td.getD ((((m : Int)) - 1).toNat) [])).getD i 0)).toNat) [])).length : Nat) : Int) : Int) > 0))) (vB h5) rfl (qb ?_))))))))
     refine qv (p := (((((bl.getD (((-1) - (((td.getD ((((m : Int)) - 1).toNat) [])).getD i 0)).toNat) [])).length : Nat) : Int) : Int) > 0) rfl (fun h6 => ?_) (fun h6 => ?_)
     ·have hlj : lkN bl (((td.getD ((((m : Int)) - 1).toNat) [])).getD i 0) ≠ [] := fun e => by (have e9 : (bl.getD (varIx (((td.getD ((((m : Int)) - 1).toNat) [])).getD i 0)) []).length = 0 := by rw [← lkN_get hj0, e]; rfl); unfold varIx at e9; omega
      refine qc (qa (qf (v1) rfl (qf (a1) rfl (qf (ii ((i : Int))) rfl (cX (ql i qd qn rfl rfl rfl ha1.slv (by omega) (Nat.mul_one _) (cX (qh qD rfl (ha1.rd (by omega)) (cX (jd ((-1) - (((td.getD ((((m : Int)) - 1).toNat) [])).getD i 0)) rfl rfl (by omega) (by omega) (cX (ql (((-1) - (((td.getD ((((m : Int)) - 1).toNat) [])).getD i 0)).toNat) runUnderlying244 sizeOf4 rfl rfl (by omega) (boolsH.slv [_] rfl) (by omega) (Nat.mul_one _) (cX (boolsH.storeX (i := ((-1) - (((td.getD ((((m : Int)) - 1).toNat) [])).getD i 0)).toNat) (v := v1) [_] _ (sm.set (((-1) - (((td.getD ((((m : Int)) - 1).toNat) [])).getD i 0)).toNat) true) sizeOf4 rfl rfl rfl (by rw [hsm]; omega) rfl (qb ?_)))))))))))))))
      refine jl [slH 27 1 ev m2 ecs, boolsH 4 v1 ((sm.set (((-1) - (((td.getD ((((m : Int)) - 1).toNat) [])).getD i 0)).toNat) true)), cellsH ub [ov] 234, slH 27 1 ov 48 ocs] L 13 [] [[], [], [1], [2], [3], [], [], [5, 6], [7], [8], [4, 9], [10], [11]] (phiL [qe ev, qe (ptr ub 0), qe (ptr ub 0), qe (ptr ub 0), qe ov, qe a1, qe (ii ((i : Int)) : Value), qe (.pointer (some (elemA a1 (i)))), qe (ii (((td.getD ((((m : Int)) - 1).toNat) [])).getD i 0) : Value), qe (ii ((-1) - (((td.getD ((((m : Int)) - 1).toNat) [])).getD i 0)) : Value), qe (.pointer (some (elemA ov (((-1) - (((td.getD ((((m : Int)) - 1).toNat) [])).getD i 0)).toNat))) : Value), qe a2, fun us v => ∃ b, v = .slice (some ⟨b, 0, none⟩) 1 1]) (ownL [o0, o0, o0, o0, o0, o0, o0, o0, o0, o0, o0, o0, fun us v => [slH 27 1 v 1 [a2]]]) mixed rfl rfl (by kernel_rfl) ?_ ?_
      ·refine pD (fun W R z9 => ?_) ?_
       ·refine qi (qj (ev) rfl ?_)
        exact ⟨rfl, rfl, rfl⟩
       refine pD (fun W R z9 => ?_) ?_
       ·refine qi (qj (ptr ub 0) rfl ?_)
        exact ⟨rfl, rfl, rfl⟩
       refine pD (fun W R z9 => ?_) ?_
       ·rw [eS (l := [(1, _)]) ⟨z9 1 rfl, ⟨⟩⟩]
        refine qi (ja rfl ?_)
        exact ⟨rfl, rfl, rfl⟩
       refine pD (fun W R z9 => ?_) ?_
       ·rw [eS (l := [(2, _)]) ⟨z9 2 rfl, ⟨⟩⟩]
        refine qi (qm (0) jE rfl sizeOf34 (by decide) rfl rfl ?_)
        exact ⟨rfl, rfl, rfl⟩
       refine pD (fun W R z9 => ?_) ?_
       ·rw [eS (l := [(3, _)]) ⟨z9 3 rfl, ⟨⟩⟩]
        refine qi (qh isAgg34 rfl (Rd.own [_, _] rfl rfl) ?_)
        exact ⟨rfl, rfl, rfl⟩
       refine pD (fun W R z9 => ?_) ?_
       ·refine qi (qj (a1) rfl ?_)
        exact ⟨rfl, rfl, rfl⟩
       refine pD (fun W R z9 => ?_) ?_
       ·refine qi (qj (ii ((i : Int))) rfl ?_)
        exact ⟨rfl, rfl, rfl⟩
       refine pD (fun W R z9 => ?_) ?_
       ·rw [eS (l := [(5, _), (6, _)]) ⟨z9 5 rfl, z9 6 rfl, ⟨⟩⟩]
        refine qi (ql i qd qn rfl rfl rfl ha1.slv (by omega) (Nat.mul_one _) ?_)
        exact ⟨rfl, rfl, rfl⟩
       refine pD (fun W R z9 => ?_) ?_
       ·rw [eS (l := [(7, _)]) ⟨z9 7 rfl, ⟨⟩⟩]
        refine qi (qh qD rfl (ha1.rd (by omega)) ?_)
        exact ⟨rfl, rfl, rfl⟩
       refine pD (fun W R z9 => ?_) ?_
       ·rw [eS (l := [(8, _)]) ⟨z9 8 rfl, ⟨⟩⟩]
        refine qi (jd ((-1) - (((td.getD ((((m : Int)) - 1).toNat) [])).getD i 0)) rfl rfl (by omega) (by omega) ?_)
        exact ⟨rfl, rfl, rfl⟩
       refine pD (fun W R z9 => ?_) ?_
       ·rw [eS (l := [(4, _), (9, _)]) ⟨z9 4 rfl, z9 9 rfl, ⟨⟩⟩]
        refine qi (ql (((-1) - (((td.getD ((((m : Int)) - 1).toNat) [])).getD i 0)).toNat) qG qo rfl rfl (by omega) (SlV.own [_, _, _] rfl) (by omega) (Nat.mul_one _) ?_)
        exact ⟨rfl, rfl, rfl⟩
       refine pD (fun W R z9 => ?_) ?_
       ·rw [eS (l := [(10, _)]) ⟨z9 10 rfl, ⟨⟩⟩]
        refine qi (qh qM rfl (Rd.sl [_, _, _] rfl he2) ?_)
        exact ⟨rfl, rfl, rfl⟩
       refine pD (fun W R z9 => ?_) ?_
       ·rw [eS (l := [(11, _)]) ⟨z9 11 rfl, ⟨⟩⟩]
        refine qi (qS (s := 1) [a2] [sN] [(0, [a2])] qG qo zeroValue27 rfl (by decide) rfl (.cons (cells_one (qB ha2)) CellsAre.nil) rfl ?_)
        intro v5 hv4
        exact ⟨rfl, hv4, rfl⟩
       exact stepsP.nil
      intro W hphi
      have f12 : ∃ b, (W 12) = .slice (some ⟨b, 0, none⟩) 1 1 := hphi 12 (by decide)
      generalize hu12 : W 12 = u1 at f12
      rw [eS (l := [(0, _), (12, u1)]) ⟨(hphi 0 (by decide)), hu12, ⟨⟩⟩]
      show XL _ _ _ _ _ _ _ (slH 27 1 u1 1 [a2] :: slH 27 1 ev m2 ecs :: boolsH 4 v1 ((sm.set (((-1) - (((td.getD ((((m : Int)) - 1).toNat) [])).getD i 0)).toNat) true)) :: cellsH ub [ov] 234 :: slH 27 1 ov 48 ocs :: L)
      refine cX (XOp.append (m := 1) (bytes := 24) (cs := ecs) [_] _ [a2] qG typeInfo27 rfl rfl rfl rfl rfl rfl rfl (SlV.own [] rfl) rfl (Rd.lit [] rfl) (qq (je (qB ha2)) jm) (by (try simp only [List.length_append, List.length_nil, List.length_cons, List.length_singleton]); omega) (by (try simp only [List.length_append, List.length_nil, List.length_cons, List.length_singleton]); omega) ?_)
      intro v6 hs2 hn1 hm1
      have hc3 := RowsC.snoc hE ha2
      refine qg (v6) rfl (qb (qa (qf (ii ((i : Int))) rfl (cX (qL (((i + 1 : Nat) : Int)) rfl rfl (by omega) (by omega) (qg (ii (((i + 1 : Nat) : Int))) rfl (qb ?_)))))))
      exact ⟨(i + 1, (sm.set (((-1) - (((td.getD ((((m : Int)) - 1).toNat) [])).getD i 0)).toNat) true), v6, te ++ [(bl.getD (((-1) - (((td.getD ((((m : Int)) - 1).toNat) [])).getD i 0)).toNat) [])], ecs ++ [a2], (m2) + 1), _, FLe.refl _, rF, ⟨rfl, rfl, rfl, rfl, rfl, rfl, ⟨⟩⟩, (sD (sC (sC (sC (sC sR))))), ⟨rfl, (hs2), (hc3), (by (try dsimp only); rw [List.length_append, List.length_singleton]; omega), (by have h9 := hOJ.push hσ (by omega) hne hj0 hgj hlj; rw [lkN_get hj0] at h9; exact h9), (fun x hx => (List.mem_append.1 hx).elim (htw2 x) (fun h => by rw [List.mem_singleton.1 h]; have := hb.wt _ hj0 hlj; rwa [lkN_get hj0] at this)), (by (try dsimp only); have h9 := unm_set (sn := sm) (i := varIx (((td.getD ((((m : Int)) - 1).toNat) [])).getD i 0)) (by rw [hsm]; unfold varIx; omega) hun; unfold varIx at h9; rw [List.length_append, List.length_singleton]; omega), (by (try dsimp only) <;> omega)⟩, (by omega)⟩
     have hjs : 0 ≤ (((td.getD ((((m : Int)) - 1).toNat) [])).getD i 0) ∨ Mk sm (((td.getD ((((m : Int)) - 1).toNat) [])).getD i 0) ∨ lkN bl (((td.getD ((((m : Int)) - 1).toNat) [])).getD i 0) = [] := .inr (.inr (by rw [lkN_get hj0]; exact List.eq_nil_of_length_eq_zero (by unfold varIx; omega)))
     refine qx (qa (qf (ii ((i : Int))) rfl (cX (qL (((i + 1 : Nat) : Int)) rfl rfl (by omega) (by omega) (qg (ii (((i + 1 : Nat) : Int))) rfl (qb ?_))))))
     exact ⟨(i + 1, sm, ev, te, ecs, m2), _, FLe.refl _, rF, ⟨rfl, rfl, rfl, rfl, rfl, rfl, ⟨⟩⟩, (sC (sC (sC (sC sR)))), ⟨rfl, (hev), (hE), (hm2), (hOJ.skip hne hjs), (htw2), (hmu2), (by (try dsimp only) <;> omega)⟩, (by omega)⟩
    rw [Bool.not_eq_true] at h5
    have hjs : 0 ≤ (((td.getD ((((m : Int)) - 1).toNat) [])).getD i 0) ∨ Mk sm (((td.getD ((((m : Int)) - 1).toNat) [])).getD i 0) ∨ lkN bl (((td.getD ((((m : Int)) - 1).toNat) [])).getD i 0) = [] := .inr (.inl (by unfold Mk varIx; simpa using h5))
    refine jl [slH 27 1 ev m2 ecs, boolsH 4 v1 sm, cellsH ub [ov] 234, slH 27 1 ov 48 ocs] L 26 [] [[], [], [0, 1], [2], [3], [4], [5], [5], [5], [5, 7, 8], [5, 9], [5, 10], [5, 6, 11], [5, 12], [5, 13], [5, 14], [15], [16], [16, 17], [16, 18], [16, 19], [16], [16], [16, 21, 22], [16, 23], [16, 24]] (phiL [qe a1, qe (ii ((i : Int)) : Value), qe (.pointer (some (elemA a1 (i)))), qe (ii (((td.getD ((((m : Int)) - 1).toNat) [])).getD i 0) : Value), qe (.bool (decide ((((td.getD ((((m : Int)) - 1).toNat) [])).getD i 0 : Int) < 0)) : Value), qe (.bool (decide ((((td.getD ((((m : Int)) - 1).toNat) [])).getD i 0 : Int) < 0)) : Value), qe v1, qe a1, qe (ii ((i : Int)) : Value), qe (.pointer (some (elemA a1 (i)))), qe (ii (((td.getD ((((m : Int)) - 1).toNat) [])).getD i 0) : Value), qe (ii ((-1) - (((td.getD ((((m : Int)) - 1).toNat) [])).getD i 0)) : Value), qe (.pointer (some (elemA v1 (((-1) - (((td.getD ((((m : Int)) - 1).toNat) [])).getD i 0)).toNat))) : Value), qe (.bool (sm.getD (((-1) - (((td.getD ((((m : Int)) - 1).toNat) [])).getD i 0)).toNat) false) : Value), qe (.bool (!(sm.getD (((-1) - (((td.getD ((((m : Int)) - 1).toNat) [])).getD i 0)).toNat) false)) : Value), qe (.bool (!(sm.getD (((-1) - (((td.getD ((((m : Int)) - 1).toNat) [])).getD i 0)).toNat) false)) : Value), qe (.bool (!(sm.getD (((-1) - (((td.getD ((((m : Int)) - 1).toNat) [])).getD i 0)).toNat) false)) : Value), qe undef, qe undef, qe undef, qe undef, qe undef, qe undef, qe undef, qe undef, qe undef]) (ownL []) mixed rfl rfl (by kernel_rfl) ?_ ?_
    ·refine pD (fun W R z9 => ?_) ?_
     ·refine qi (qj (a1) rfl ?_)
      exact ⟨rfl, rfl, rfl⟩
     refine pD (fun W R z9 => ?_) ?_
     ·refine qi (qj (ii ((i : Int))) rfl ?_)
      exact ⟨rfl, rfl, rfl⟩
     refine pD (fun W R z9 => ?_) ?_
     ·rw [eS (l := [(0, _), (1, _)]) ⟨z9 0 rfl, z9 1 rfl, ⟨⟩⟩]
      refine qi (ql i qd qn rfl rfl rfl ha1.slv (by omega) (Nat.mul_one _) ?_)
      exact ⟨rfl, rfl, rfl⟩
     refine pD (fun W R z9 => ?_) ?_
     ·rw [eS (l := [(2, _)]) ⟨z9 2 rfl, ⟨⟩⟩]
      refine qi (qh qD rfl (ha1.rd (by omega)) ?_)
      exact ⟨rfl, rfl, rfl⟩
     refine pD (fun W R z9 => ?_) ?_
     ·rw [eS (l := [(3, _)]) ⟨z9 3 rfl, ⟨⟩⟩]
      refine qi (qK rfl rfl ?_)
      exact ⟨rfl, rfl, rfl⟩
     refine pD (fun W R z9 => ?_) ?_
     ·rw [eS (l := [(4, _)]) ⟨z9 4 rfl, ⟨⟩⟩]
      refine qi (qj (.bool (decide ((((td.getD ((((m : Int)) - 1).toNat) [])).getD i 0 : Int) < 0))) rfl ?_)
      exact ⟨rfl, rfl, rfl⟩
     refine pD (fun W R z9 => ?_) ?_
     ·rw [eS (l := [(5, _)]) ⟨z9 5 rfl, ⟨⟩⟩]
      refine qU (t := 50) rfl (vT h4) (qj (v1) rfl ?_)
      exact ⟨rfl, rfl, rfl⟩
     refine pD (fun W R z9 => ?_) ?_
     ·rw [eS (l := [(5, _)]) ⟨z9 5 rfl, ⟨⟩⟩]
      refine qU (t := 50) rfl (vT h4) (qj (a1) rfl ?_)
      exact ⟨rfl, rfl, rfl⟩
     refine pD (fun W R z9 => ?_) ?_
     ·rw [eS (l := [(5, _)]) ⟨z9 5 rfl, ⟨⟩⟩]
      refine qU (t := 50) rfl (vT h4) (qj (ii ((i : Int))) rfl ?_)
      exact ⟨rfl, rfl, rfl⟩
     refine pD (fun W R z9 => ?_) ?_
     ·rw [eS (l := [(5, _), (7, _), (8, _)]) ⟨z9 5 rfl, z9 7 rfl, z9 8 rfl, ⟨⟩⟩]
      refine qU (t := 50) rfl (vT h4) (ql i qd qn rfl rfl rfl ha1.slv (by omega) (Nat.mul_one _) ?_)
      exact ⟨rfl, rfl, rfl⟩
     refine pD (fun W R z9 => ?_) ?_
     ·rw [eS (l := [(5, _), (9, _)]) ⟨z9 5 rfl, z9 9 rfl, ⟨⟩⟩]
      refine qU (t := 50) rfl (vT h4) (qh qD rfl (ha1.rd (by omega)) ?_)
      exact ⟨rfl, rfl, rfl⟩
     refine pD (fun W R z9 => ?_) ?_
     ·rw [eS (l := [(5, _), (10, _)]) ⟨z9 5 rfl, z9 10 rfl, ⟨⟩⟩]
      refine qU (t := 50) rfl (vT h4) (jd ((-1) - (((td.getD ((((m : Int)) - 1).toNat) [])).getD i 0)) rfl rfl (by omega) (by omega) ?_)
      exact ⟨rfl, rfl, rfl⟩
     refine pD (fun W R z9 => ?_) ?_
     ·rw [eS (l := [(5, _), (6, _), (11, _)]) ⟨z9 5 rfl, z9 6 rfl, z9 11 rfl, ⟨⟩⟩]
      refine qU (t := 50) rfl (vT h4) (ql (((-1) - (((td.getD ((((m : Int)) - 1).toNat) [])).getD i 0)).toNat) runUnderlying244 sizeOf4 rfl rfl (by omega) (boolsH.slv [_] rfl) (by omega) (Nat.mul_one _) ?_)
      exact ⟨rfl, rfl, rfl⟩
     refine pD (fun W R z9 => ?_) ?_
     ·rw [eS (l := [(5, _), (12, _)]) ⟨z9 5 rfl, z9 12 rfl, ⟨⟩⟩]
      refine qU (t := 50) rfl (vT h4) (qh isAgg4 rfl (boolsH.rd [_] rfl (by omega)) ?_)
      exact ⟨rfl, rfl, rfl⟩
     refine pD (fun W R z9 => ?_) ?_
     ·rw [eS (l := [(5, _), (13, _)]) ⟨z9 5 rfl, z9 13 rfl, ⟨⟩⟩]
      refine qU (t := 50) rfl (vT h4) (js rfl ?_)
      exact ⟨rfl, rfl, rfl⟩
     refine pD (fun W R z9 => ?_) ?_
     ·rw [eS (l := [(5, _), (14, _)]) ⟨z9 5 rfl, z9 14 rfl, ⟨⟩⟩]
      refine qi (qX (.bool (!(sm.getD (((-1) - (((td.getD ((((m : Int)) - 1).toNat) [])).getD i 0)).toNat) false))) (vT h4) rfl ?_)
      exact ⟨rfl, rfl, rfl⟩
     refine pD (fun W R z9 => ?_) ?_
     ·rw [eS (l := [(15, _)]) ⟨z9 15 rfl, ⟨⟩⟩]
      refine qi (qj (.bool (!(sm.getD (((-1) - (((td.getD ((((m : Int)) - 1).toNat) [])).getD i 0)).toNat) false))) rfl ?_)
      exact ⟨rfl, rfl, rfl⟩
     refine pD (fun W R z9 => ?_) ?_
     ·rw [eS (l := [(16, _)]) ⟨z9 16 rfl, ⟨⟩⟩]
      exact jb (t := 61) rfl (vB h5) ⟨rfl, rfl, rfl⟩
     refine pD (fun W R z9 => ?_) ?_
     ·rw [eS (l := [(16, _), (17, undef)]) ⟨z9 16 rfl, z9 17 rfl, ⟨⟩⟩]
      exact jb (t := 61) rfl (vB h5) ⟨rfl, rfl, rfl⟩
     refine pD (fun W R z9 => ?_) ?_
     ·rw [eS (l := [(16, _), (18, undef)]) ⟨z9 16 rfl, z9 18 rfl, ⟨⟩⟩]
      exact jb (t := 61) rfl (vB h5) ⟨rfl, rfl, rfl⟩
     refine pD (fun W R z9 => ?_) ?_
     ·rw [eS (l := [(16, _), (19, undef)]) ⟨z9 16 rfl, z9 19 rfl, ⟨⟩⟩]
      exact jb (t := 61) rfl (vB h5) ⟨rfl, rfl, rfl⟩
     refine pD (fun W R z9 => ?_) ?_
     ·rw [eS (l := [(16, _)]) ⟨z9 16 rfl, ⟨⟩⟩]
      exact jb (t := 61) rfl (vB h5) ⟨rfl, rfl, rfl⟩
     refine pD (fun W R z9 => ?_) ?_
     ·rw [eS (l := [(16, _)]) ⟨z9 16 rfl, ⟨⟩⟩]
      exact jb (t := 61) rfl (vB h5) ⟨rfl, rfl, rfl⟩
     refine pD (fun W R z9 => ?_) ?_
     ·rw [eS (l := [(16, _), (21, undef), (22, undef)]) ⟨z9 16 rfl, z9 21 rfl, z9 22 rfl, ⟨⟩⟩]
      exact jb (t := 61) rfl (vB h5) ⟨rfl, rfl, rfl⟩
     refine pD (fun W R z9 => ?_) ?_
     ·rw [eS (l := [(16, _), (23, undef)]) ⟨z9 16 rfl, z9 23 rfl, ⟨⟩⟩]
      exact jb (t := 61) rfl (vB h5) ⟨rfl, rfl, rfl⟩
     refine pD (fun W R z9 => ?_) ?_
     ·rw [eS (l := [(16, _), (24, undef)]) ⟨z9 16 rfl, z9 24 rfl, ⟨⟩⟩]
      exact jb (t := 61) rfl (vB h5) ⟨rfl, rfl, rfl⟩
     exact stepsP.nil
    intro W hphi
    rw [eS (l := [(16, _), (20, undef), (25, undef)]) ⟨(hphi 16 (by decide)), (hphi 20 (by decide)), (hphi 25 (by decide)), ⟨⟩⟩]
    show XL _ _ _ _ _ _ _ (slH 27 1 ev m2 ecs :: boolsH 4 v1 sm :: cellsH ub [ov] 234 :: slH 27 1 ov 48 ocs :: L)
    refine qt (t := 61) rfl (vB h5) (qt (t := 61) rfl (vB h5) (qt (t := 61) rfl (vB h5) (qt (t := 61) rfl (vB h5) (cX (qV (.bool (false)) (vB h5) rfl (qb (jv rfl (qx (qa (qf (ii ((i : Int))) rfl (cX (qL (((i + 1 : Nat) : Int)) rfl rfl (by omega) (by omega) ?_))))))))))))
    refine qg (ii (((i + 1 : Nat) : Int))) rfl (qb ?_)
    exact ⟨(i + 1, sm, ev, te, ecs, m2), _, FLe.refl _, rF, ⟨rfl, rfl, rfl, rfl, rfl, rfl, ⟨⟩⟩, (sC (sC (sC (sC sR)))), ⟨rfl, (hev), (hE), (hm2), (hOJ.skip hne hjs), (htw2), (hmu2), (by (try dsimp only) <;> omega)⟩, (by omega)⟩
   have hjs : 0 ≤ (((td.getD ((((m : Int)) - 1).toNat) [])).getD i 0) ∨ Mk sm (((td.getD ((((m : Int)) - 1).toNat) [])).getD i 0) ∨ lkN bl (((td.getD ((((m : Int)) - 1).toNat) [])).getD i 0) = [] := .inl (by omega)
   refine jl [slH 27 1 ev m2 ecs, boolsH 4 v1 sm, cellsH ub [ov] 234, slH 27 1 ov 48 ocs] L 26 [] [[], [], [0, 1], [2], [3], [4], [5], [5], [5], [5, 7, 8], [5, 9], [5, 10], [5, 6, 11], [5, 12], [5, 13], [5, 14], [15], [16], [16, 17], [16, 18], [16, 19], [16], [16], [16, 21, 22], [16, 23], [16, 24]] (phiL [qe a1, qe (ii ((i : Int)) : Value), qe (.pointer (some (elemA a1 (i)))), qe (ii (((td.getD ((((m : Int)) - 1).toNat) [])).getD i 0) : Value), qe (.bool (decide ((((td.getD ((((m : Int)) - 1).toNat) [])).getD i 0 : Int) < 0)) : Value), qe (.bool (decide ((((td.getD ((((m : Int)) - 1).toNat) [])).getD i 0 : Int) < 0)) : Value), qe undef, qe undef, qe undef, qe undef, qe undef, qe undef, qe undef, qe undef, qe undef, qe (.bool (false)), qe (.bool (false)), qe undef, qe undef, qe undef, qe undef, qe undef, qe undef, qe undef, qe undef, qe undef]) (ownL []) mixed rfl rfl (by kernel_rfl) ?_ ?_
   ·refine pD (fun W R z9 => ?_) ?_
    ·refine qi (qj (a1) rfl ?_)
     exact ⟨rfl, rfl, rfl⟩
    refine pD (fun W R z9 => ?_) ?_
    ·refine qi (qj (ii ((i : Int))) rfl ?_)
     exact ⟨rfl, rfl, rfl⟩
    refine pD (fun W R z9 => ?_) ?_
    ·rw [eS (l := [(0, _), (1, _)]) ⟨z9 0 rfl, z9 1 rfl, ⟨⟩⟩]
     refine qi (ql i qd qn rfl rfl rfl ha1.slv (by omega) (Nat.mul_one _) ?_)
     exact ⟨rfl, rfl, rfl⟩
    refine pD (fun W R z9 => ?_) ?_
    ·rw [eS (l := [(2, _)]) ⟨z9 2 rfl, ⟨⟩⟩]
     refine qi (qh qD rfl (ha1.rd (by omega)) ?_)
     exact ⟨rfl, rfl, rfl⟩
    refine pD (fun W R z9 => ?_) ?_
    ·rw [eS (l := [(3, _)]) ⟨z9 3 rfl, ⟨⟩⟩]
     refine qi (qK rfl rfl ?_)
     exact ⟨rfl, rfl, rfl⟩
    refine pD (fun W R z9 => ?_) ?_
    ·rw [eS (l := [(4, _)]) ⟨z9 4 rfl, ⟨⟩⟩]
     refine qi (qj (.bool (decide ((((td.getD ((((m : Int)) - 1).toNat) [])).getD i 0 : Int) < 0))) rfl ?_)
     exact ⟨rfl, rfl, rfl⟩
    refine pD (fun W R z9 => ?_) ?_
    ·rw [eS (l := [(5, _)]) ⟨z9 5 rfl, ⟨⟩⟩]
     exact jb (t := 50) rfl (vF h4) ⟨rfl, rfl, rfl⟩
    refine pD (fun W R z9 => ?_) ?_
    ·rw [eS (l := [(5, _)]) ⟨z9 5 rfl, ⟨⟩⟩]
     exact jb (t := 50) rfl (vF h4) ⟨rfl, rfl, rfl⟩
    refine pD (fun W R z9 => ?_) ?_
    ·rw [eS (l := [(5, _)]) ⟨z9 5 rfl, ⟨⟩⟩]
     exact jb (t := 50) rfl (vF h4) ⟨rfl, rfl, rfl⟩
    refine pD (fun W R z9 => ?_) ?_
    ·rw [eS (l := [(5, _), (7, undef), (8, undef)]) ⟨z9 5 rfl, z9 7 rfl, z9 8 rfl, ⟨⟩⟩]
     exact jb (t := 50) rfl (vF h4) ⟨rfl, rfl, rfl⟩
    refine pD (fun W R z9 => ?_) ?_
    ·rw [eS (l := [(5, _), (9, undef)]) ⟨z9 5 rfl, z9 9 rfl, ⟨⟩⟩]
     exact jb (t := 50) rfl (vF h4) ⟨rfl, rfl, rfl⟩
    refine pD (fun W R z9 => ?_) ?_
    ·rw [eS (l := [(5, _), (10, undef)]) ⟨z9 5 rfl, z9 10 rfl, ⟨⟩⟩]
     exact jb (t := 50) rfl (vF h4) ⟨rfl, rfl, rfl⟩
    refine pD (fun W R z9 => ?_) ?_
    ·rw [eS (l := [(5, _), (6, undef), (11, undef)]) ⟨z9 5 rfl, z9 6 rfl, z9 11 rfl, ⟨⟩⟩]
     exact jb (t := 50) rfl (vF h4) ⟨rfl, rfl, rfl⟩
    refine pD (fun W R z9 => ?_) ?_
    ·rw [eS (l := [(5, _), (12, undef)]) ⟨z9 5 rfl, z9 12 rfl, ⟨⟩⟩]
     exact jb (t := 50) rfl (vF h4) ⟨rfl, rfl, rfl⟩
    refine pD (fun W R z9 => ?_) ?_
    ·rw [eS (l := [(5, _), (13, undef)]) ⟨z9 5 rfl, z9 13 rfl, ⟨⟩⟩]
     exact jb (t := 50) rfl (vF h4) ⟨rfl, rfl, rfl⟩
    refine pD (fun W R z9 => ?_) ?_
    ·rw [eS (l := [(5, _), (14, undef)]) ⟨z9 5 rfl, z9 14 rfl, ⟨⟩⟩]
     refine qi (qV (.bool (false)) (vF h4) rfl ?_)
     exact ⟨rfl, rfl, rfl⟩
    refine pD (fun W R z9 => ?_) ?_
    ·rw [eS (l := [(15, _)]) ⟨z9 15 rfl, ⟨⟩⟩]
     refine qi (qj (.bool (false)) rfl ?_)
     exact ⟨rfl, rfl, rfl⟩
    refine pD (fun W R z9 => ?_) ?_
    ·rw [eS (l := [(16, _)]) ⟨z9 16 rfl, ⟨⟩⟩]
     exact jb (t := 61) rfl rfl ⟨rfl, rfl, rfl⟩
    refine pD (fun W R z9 => ?_) ?_
    ·rw [eS (l := [(16, _), (17, undef)]) ⟨z9 16 rfl, z9 17 rfl, ⟨⟩⟩]
     exact jb (t := 61) rfl rfl ⟨rfl, rfl, rfl⟩
    refine pD (fun W R z9 => ?_) ?_
    ·rw [eS (l := [(16, _), (18, undef)]) ⟨z9 16 rfl, z9 18 rfl, ⟨⟩⟩]
     exact jb (t := 61) rfl rfl ⟨rfl, rfl, rfl⟩
    refine pD (fun W R z9 => ?_) ?_
    ·rw [eS (l := [(16, _), (19, undef)]) ⟨z9 16 rfl, z9 19 rfl, ⟨⟩⟩]
     exact jb (t := 61) rfl rfl ⟨rfl, rfl, rfl⟩
    refine pD (fun W R z9 => ?_) ?_
    ·rw [eS (l := [(16, _)]) ⟨z9 16 rfl, ⟨⟩⟩]
     exact jb (t := 61) rfl rfl ⟨rfl, rfl, rfl⟩
    refine pD (fun W R z9 => ?_) ?_
    ·rw [eS (l := [(16, _)]) ⟨z9 16 rfl, ⟨⟩⟩]
     exact jb (t := 61) rfl rfl ⟨rfl, rfl, rfl⟩
    refine pD (fun W R z9 => ?_) ?_
    ·rw [eS (l := [(16, _), (21, undef), (22, undef)]) ⟨z9 16 rfl, z9 21 rfl, z9 22 rfl, ⟨⟩⟩]
     exact jb (t := 61) rfl rfl ⟨rfl, rfl, rfl⟩
    refine pD (fun W R z9 => ?_) ?_
    ·rw [eS (l := [(16, _), (23, undef)]) ⟨z9 16 rfl, z9 23 rfl, ⟨⟩⟩]
     exact jb (t := 61) rfl rfl ⟨rfl, rfl, rfl⟩
    refine pD (fun W R z9 => ?_) ?_
    ·rw [eS (l := [(16, _), (24, undef)]) ⟨z9 16 rfl, z9 24 rfl, ⟨⟩⟩]
     exact jb (t := 61) rfl rfl ⟨rfl, rfl, rfl⟩
    exact stepsP.nil
   intro W hphi
   rw [eS (l := [(16, _), (20, undef), (25, undef)]) ⟨(hphi 16 (by decide)), (hphi 20 (by decide)), (hphi 25 (by decide)), ⟨⟩⟩]
   show XL _ _ _ _ _ _ _ (slH 27 1 ev m2 ecs :: boolsH 4 v1 sm :: cellsH ub [ov] 234 :: slH 27 1 ov 48 ocs :: L)
   refine qt (t := 61) rfl rfl (qt (t := 61) rfl rfl (qt (t := 61) rfl rfl (qt (t := 61) rfl rfl (cX (qV (.bool (false)) rfl rfl (qb (jv rfl (qx (qa (qf (ii ((i : Int))) rfl (cX (qL (((i + 1 : Nat) : Int)) rfl rfl (by omega) (by omega) ?_))))))))))))
   refine qg (ii (((i + 1 : Nat) : Int))) rfl (qb ?_)
   exact ⟨(i + 1, sm, ev, te, ecs, m2), _, FLe.refl _, rF, ⟨rfl, rfl, rfl, rfl, rfl, rfl, ⟨⟩⟩, (sC (sC (sC (sC sR)))), ⟨rfl, (hev), (hE), (hm2), (hOJ.skip hne hjs), (htw2), (hmu2), (by (try dsimp only) <;> omega)⟩, (by omega)⟩
  refine jf (qu (qu (qN ?_)))
  exact ⟨(sm, ev, te, ecs, m2), _, FLe.refl _, rF, ⟨rfl, rfl, rfl, rfl, ⟨⟩⟩, (sC (sC (sC (sC sR)))), ⟨rfl, (hev), (hE), (hm2), (hOJ.stop (by omega)), (htw2), (by (try dsimp only) <;> omega)⟩, (by (try dsimp only); omega)⟩
 refine jf (qu (qu (qN (qc (qa (qg (.bool (false)) rfl (qb (qz (qs (L' := cellsH ub [ov] 234 :: slH 27 1 ov 48 ocs :: L) [.bool (false)] (.bool (false)) (.tmp rfl .nil) rfl rF rF (sD (sD (sC (sC sR)))) ?_)))))))))
 have e8 : td = [] := List.eq_nil_of_length_eq_zero (by omega)
 rw [e8] at hOI
 obtain ⟨ρ, hρ⟩ := hb.acyc
 have e9 : decide (n ∈ ap σ t) = false := decide_eq_false (hOI.none hσ hρ hn)
 exact ⟨congrArg Value.bool e9, rfl, rfl⟩

/- spec.l11Meet -/
set_option maxHeartbeats 2000000 in
set_option maxRecDepth 20000 in
theorem meet_spec {F : FH} {L : List HP} {ub : Nat} {ov : Value} {ocs : List Value} {arv : Value} {ar : List Int} (har : IntsF F arv ar) (hov : IsSl ov) (hC : RowsC F ocs (List.replicate 48 ([] : List Int))) {av : Value} {a : List Int} (ha : IntsF F av a) {cv : Value} {c : List Int} (hc : IntsF F cv c) (hoa : TermW ar a) (hoc : TermW ar c) :
    Does prog 240 [.agg #[arv], ptr ub 0, av, cv] F (cellsH ub [ov] 234 :: slH 27 1 ov 48 ocs :: L) (fun v F' L' => ∃ (x : Bool) (bc : List Value) (b9 : RowL), (.bool x : Value) = v ∧ RowsC F' bc b9 ∧ (x = true → Mgu ar a c b9) ∧ (x = false → ∀ θ, GoodS ar θ → ap θ a ≠ ap θ c) ∧ cellsH ub [ov] 234 :: slH 27 1 ov 48 bc :: L = L') := by
 refine qI func240 rfl rfl rfl ?_
 have hsig := hoa.sig
 refine qc (qa (cX (jc [arv] rfl rfl ?_)))
 intro b1
 refine qg (.bool (false)) rfl (qb (qc (qa (qf (av) rfl (cX (qS (s := 1) [av] [sN] [(0, [av])] qG qo zeroValue27 rfl (by decide) rfl (.cons (cells_one (qB ha)) CellsAre.nil) rfl ?_))))))
 intro v1 hv1
 refine qg (v1) rfl (qb (qc (qa (qf (cv) rfl (cX (qS (s := 1) [cv] [sN] [(0, [cv])] qG qo zeroValue27 rfl (by decide) rfl (.cons (cells_one (qB hc)) CellsAre.nil) rfl ?_))))))
 intro v2 hv2
 refine qg (v2) rfl (qb (qc (qJ ?_)))
 have hc1 : RowsC F [av] ([a] : List (List Int)) := (RowsC.snoc (CO.nil : RowsC F [] []) ha)
 have hc2 : RowsC F [cv] ([c] : List (List Int)) := (RowsC.snoc (CO.nil : RowsC F [] []) hc)
 obtain ⟨σ0, hσ0⟩ := (BOk.nils (ar := ar)).sol
 refine jh (α := List Value × RowL × Sbs × Value × RowL × List Value × Nat × Value × RowL × List Value × Nat × FH) (fun xQ => [(1, ptr ub 0), (4, ptr b1 0), (9, xQ.2.2.2.1), (10, xQ.2.2.2.2.2.2.2.1)]) (fun xQ => slH 27 1 xQ.2.2.2.2.2.2.2.1 xQ.2.2.2.2.2.2.2.2.2.2.1 xQ.2.2.2.2.2.2.2.2.2.1 :: slH 27 1 xQ.2.2.2.1 xQ.2.2.2.2.2.2.1 xQ.2.2.2.2.2.1 :: cellsH b1 [arv] 29 :: cellsH ub [ov] 234 :: slH 27 1 ov 48 xQ.1 :: L) (fun xQ F' => xQ.2.2.2.2.2.2.2.2.2.2.2 = F' ∧ F ≤ xQ.2.2.2.2.2.2.2.2.2.2.2 ∧ (RowsC xQ.2.2.2.2.2.2.2.2.2.2.2 xQ.1 xQ.2.1) ∧ (Sol xQ.2.1 xQ.2.2.1) ∧ (IsSl xQ.2.2.2.1) ∧ (RowsC xQ.2.2.2.2.2.2.2.2.2.2.2 xQ.2.2.2.2.2.1 xQ.2.2.2.2.1) ∧ (xQ.2.2.2.2.2.2.1 = xQ.2.2.2.2.1.length) ∧ (IsSl xQ.2.2.2.2.2.2.2.1) ∧ (RowsC xQ.2.2.2.2.2.2.2.2.2.2.2 xQ.2.2.2.2.2.2.2.2.2.1 xQ.2.2.2.2.2.2.2.2.1) ∧ (xQ.2.2.2.2.2.2.2.2.2.2.1 = xQ.2.2.2.2.2.2.2.2.1.length) ∧ (MeetI ar a c xQ.2.1 xQ.2.2.2.2.1 xQ.2.2.2.2.2.2.2.2.1) ∧ (StkI xQ.2.1 a xQ.2.2.2.2.1)) (fun xQ => muM xQ.2.1 xQ.2.2.2.2.1 xQ.2.2.2.2.2.2.2.2.1 xQ.2.2.1) (ocs, (List.replicate 48 ([] : List Int)), σ0, v1, [a], [av], 1, v2, [c], [cv], 1, F) ⟨rfl, rfl, rfl, rfl, ⟨⟩⟩ (sC (sC (sC (sC (sC sR))))) ⟨rfl, FLe.refl _, (hC), (hσ0), ((jJ hv1)), (hc1), (rfl), ((jJ hv2)), (hc2), (rfl), (MeetI.start hoa hoc), (StkI.start)⟩ ?_
 rintro ⟨bcs, b, σ, lv, l, lcs, ml, rv, r, rcs, mr, G1⟩ rE _ _ ⟨rfl, leG, hbC, hσ, hlv, hlC, hml, hrv, hrC, hmr, hMI, hSt⟩
 show X _ _ _ _ (envs [(1, ptr ub 0), (4, ptr b1 0), (9, lv), (10, rv)] rE) _ (slH 27 1 rv mr rcs :: slH 27 1 lv ml lcs :: cellsH b1 [arv] 29 :: cellsH ub [ov] 234 :: slH 27 1 ov 48 bcs :: L)
 replace leG : F ≤ G1 := leG
 dsimp only at hbC hσ hlv hlC hml hrv hrC hmr hMI hSt
 have hll := hSt.len hMI.ok hoa.len.2
 have hsame := hMI.same
 have leG1 := leG
 replace har := har.mono leG1
 refine qc (qc (qa (qf (lv) rfl (cX (qF qG rfl (SlV.own [_] rfl) (cX (XOp.gtr rfl rfl (qb ?_))))))))
 refine qv (p := (((ml : Nat) : Int) : Int) > 0) rfl (fun h1 => ?_) (fun h1 => ?_)
 ·refine qx (qJ (qc (qa (qf (ptr ub 0) rfl (qf (lv) rfl (qf (lv) rfl (cX (qF qG rfl (SlV.own [_] rfl) (cX (jd ((((ml : Nat) : Int)) - 1) rfl rfl (by omega) (by omega) (cX (ql (((((ml : Nat) : Int)) - 1).toNat) qG qo rfl rfl (by omega) (SlV.own [_] rfl) (by omega) (Nat.mul_one _) ?_))))))))))))
  obtain ⟨a1, ha1, he1⟩ := hlC.get (i := ((((ml : Nat) : Int)) - 1).toNat) (by omega)
  refine cX (qh qM rfl (Rd.sl [_] rfl he1) (qW (qw (A := [_, _, _, _])) ?_))
  show XL _ _ _ _ _ _ _ (slH 27 1 ov 48 bcs :: slH 27 1 rv mr rcs :: slH 27 1 lv ml lcs :: cellsH b1 [arv] 29 :: cellsH ub [ov] 234 :: L)
  refine qW (qw (A := [_, _, _, _])) ?_
  show XL _ _ _ _ _ _ _ (cellsH ub [ov] 234 :: slH 27 1 ov 48 bcs :: slH 27 1 rv mr rcs :: slH 27 1 lv ml lcs :: cellsH b1 [arv] 29 :: L)
  refine cX (qr (args := [ptr ub 0, a1]) call250 rfl (head_spec hov hbC (by first | assumption | exact hMI.ok) ha1 (ho := (by have h9 := hMI.lw; rw [show ((ml : Int) - 1).toNat = l.length - 1 from by omega]; exact h9 _ (mem_rows (by omega))))) ?_)
  rintro v3 _ _ _ ⟨u1, hv3, hru1, hwl1, rfl, rfl⟩
  refine qg (v3) rfl (qb (qc (qa (qf (ptr ub 0) rfl (qf (rv) rfl (qf (rv) rfl (cX (qF qG rfl (SlV.own [_, _] rfl) (cX (jd ((((mr : Nat) : Int)) - 1) rfl rfl (by omega) (by omega) (cX (ql (((((mr : Nat) : Int)) - 1).toNat) qG qo rfl rfl (by omega) (SlV.own [_, _] rfl) (by omega) (Nat.mul_one _) ?_))))))))))))
  obtain ⟨a2, ha2, he2⟩ := hrC.get (i := ((((mr : Nat) : Int)) - 1).toNat) (by omega)
  refine cX (qh qM rfl (Rd.sl [_, _] rfl he2) (qW (qw (A := [_])) ?_))
  show XL _ _ _ _ _ _ _ (slH 27 1 ov 48 bcs :: cellsH ub [ov] 234 :: slH 27 1 rv mr rcs :: slH 27 1 lv ml lcs :: cellsH b1 [arv] 29 :: L)
  refine qW (qw (A := [_])) ?_
  show XL _ _ _ _ _ _ _ (cellsH ub [ov] 234 :: slH 27 1 ov 48 bcs :: slH 27 1 rv mr rcs :: slH 27 1 lv ml lcs :: cellsH b1 [arv] 29 :: L)
  refine cX (qr (args := [ptr ub 0, a2]) call250 rfl (head_spec hov hbC (by first | assumption | exact hMI.ok) ha2 (ho := (by have h9 := hMI.rw'; rw [show ((mr : Int) - 1).toNat = r.length - 1 from by omega]; exact h9 _ (mem_rows (by omega))))) ?_)
  rintro v4 _ _ _ ⟨u2, hv4, hru2, hwl2, rfl, rfl⟩
  refine qg (v4) rfl (qb (qc (qa (qf (lv) rfl (qf (lv) rfl (cX (qF qG rfl (SlV.own [_, _, _] rfl) (cX (jd ((((ml : Nat) : Int)) - 1) rfl rfl (by omega) (by omega) (cX (XOp.sliceOwn (cs := lcs) [_, _, _] _ ((ml - 1)) qG qo rfl rfl ⟨.i64, congrArg (Value.int .i64) (show (((ml : Nat) : Int)) - 1 = (((ml - 1) : Nat) : Int) from by omega)⟩ (by omega) ?_)))))))))))
  intro v5 hs1
  have hc3 : RowsC G1 _ _ := CO.take hlC (k := (ml - 1)) (by omega)
  refine qg (v5) rfl (qb (qc (qa (qf (rv) rfl (qf (rv) rfl (cX (qF qG rfl (SlV.own [_, _] rfl) (cX (jd ((((mr : Nat) : Int)) - 1) rfl rfl (by omega) (by omega) (cX (XOp.sliceOwn (cs := rcs) [_, _] _ ((mr - 1)) qG qo rfl rfl ⟨.i64, congrArg (Value.int .i64) (show (((mr : Nat) : Int)) - 1 = (((mr - 1) : Nat) : Int) from by omega)⟩ (by omega) ?_)))))))))))
  intro v6 hs2
  have hc4 : RowsC G1 _ _ := CO.take hrC (k := (mr - 1)) (by omega)
  refine qg (v6) rfl ?_
  have el9 : ((ml : Int) - 1).toNat = l.length - 1 := by omega
  have er9 : ((mr : Int) - 1).toNat = r.length - 1 := by omega
  have hu : Root ar b (lst l) u1 := by have h9 := hru1; rwa [el9] at h9
  have hv : Root ar b (lst r) u2 := by have h9 := hru2; rwa [er9] at h9
  have hwu : WtLe b (lst l) u1 := by have h9 := hwl1; rwa [el9] at h9
  have hp : 0 < l.length := by omega
  have huw := hu.w
  have hvw := hv.w
  have hul := hu.w.len
  have hvl := hv.w.len
  have hug := hu.w.geD (p := 0) (by omega)
  have hvg := hv.w.geD (p := 0) (by omega)
  have ehl : ml - 1 = l.length - 1 := by omega
  have ehr : mr - 1 = r.length - 1 := by omega
  have hbl := hMI.ok.len
  refine qb (qJ (qc ?_))
  refine jl [cellsH ub [ov] 234, slH 27 1 ov 48 bcs, slH 27 1 v6 ((mr - 1)) ((rcs.take (((mr - 1)) * 1))), slH 27 1 v5 ((ml - 1)) ((lcs.take (((ml - 1)) * 1))), cellsH b1 [arv] 29] L 6 [] [[], [0], [1], [], [3], [4]] (phiL [qe v3, qe (.pointer (some (elemA v3 (0)))), qe (ii (u1.getD 0 0)), qe v4, qe (.pointer (some (elemA v4 (0)))), qe (ii (u2.getD 0 0))]) (ownL []) mixed rfl rfl (by kernel_rfl) ?_ ?_
  ·refine pD (fun W R z9 => ?_) ?_
   ·refine qi (qj (v3) rfl ?_)
    exact ⟨rfl, rfl, rfl⟩
   refine pD (fun W R z9 => ?_) ?_
   ·rw [eS (l := [(0, _)]) ⟨z9 0 rfl, ⟨⟩⟩]
    refine qi (ql 0 qd qn rfl rfl rfl hv3.slv (by omega) (Nat.mul_one _) ?_)
    exact ⟨rfl, rfl, rfl⟩
   refine pD (fun W R z9 => ?_) ?_
   ·rw [eS (l := [(1, _)]) ⟨z9 1 rfl, ⟨⟩⟩]
    refine qi (qh qD rfl (hv3.rd (by omega)) ?_)
    exact ⟨rfl, rfl, rfl⟩
   refine pD (fun W R z9 => ?_) ?_
   ·refine qi (qj (v4) rfl ?_)
    exact ⟨rfl, rfl, rfl⟩
   refine pD (fun W R z9 => ?_) ?_
   ·rw [eS (l := [(3, _)]) ⟨z9 3 rfl, ⟨⟩⟩]
    refine qi (ql 0 qd qn rfl rfl rfl hv4.slv (by omega) (Nat.mul_one _) ?_)
    exact ⟨rfl, rfl, rfl⟩
   refine pD (fun W R z9 => ?_) ?_
   ·rw [eS (l := [(4, _)]) ⟨z9 4 rfl, ⟨⟩⟩]
    refine qi (qh qD rfl (hv4.rd (by omega)) ?_)
    exact ⟨rfl, rfl, rfl⟩
   exact stepsP.nil
  intro W hphi
  rw [eS (l := [(2, _), (5, _)]) ⟨(hphi 2 (by decide)), (hphi 5 (by decide)), ⟨⟩⟩]
  show XL _ _ _ _ _ _ _ (cellsH ub [ov] 234 :: slH 27 1 ov 48 bcs :: slH 27 1 v6 ((mr - 1)) ((rcs.take (((mr - 1)) * 1))) :: slH 27 1 v5 ((ml - 1)) ((lcs.take (((ml - 1)) * 1))) :: cellsH b1 [arv] 29 :: L)
  refine cX (jF rfl rfl (qf (.bool (decide ((u1.getD 0 0 : Int) = u2.getD 0 0))) rfl ?_))
  by_cases h2 : (u1.getD 0 0 : Int) = u2.getD 0 0
  ·refine qy (t := 64) rfl (vT h2) (qj (v3) rfl (qy (t := 64) rfl (vT h2) (ql 0 qd qn rfl rfl rfl hv3.slv (by omega) (Nat.mul_one _) (qy (t := 64) rfl (vT h2) (qh qD rfl (hv3.rd (by omega)) (qy (t := 64) rfl (vT h2) (qK rfl rfl (cX (qX (.bool (decide ((u1.getD 0 0 : Int) < 0))) (vT h2) rfl (qg (.bool (decide ((u1.getD 0 0 : Int) < 0))) rfl (qb ?_)))))))))))
   refine qv (p := (u1.getD 0 0 : Int) < 0) rfl (fun h3 => ?_) (fun h3 => ?_)
   ·refine jf (blockQ_other (by decide) (qN ?_))
    exact ⟨(bcs, b, σ, v5, (l.take ((ml - 1))), (lcs.take (((ml - 1)) * 1)), (ml - 1), v6, (r.take ((mr - 1))), (rcs.take (((mr - 1)) * 1)), (mr - 1), G1), _, leG1, rF, ⟨rfl, rfl, rfl, rfl, ⟨⟩⟩, (qC (qw (A := [_])) (qC (qw (A := [_])) (qC (qw (A := [_, _, _, _])) (qC (qw (A := [_, _, _, _])) (qC (qw (A := [_, _, _, _])) (sC (sC (sC (sC (sC sR)))))))))), ⟨rfl, leG1, (hbC), (hσ), (hs1), (hc3), (by (try dsimp only); (try rw [List.length_append]); rw [List.length_take]; omega), (hs2), (hc4), (by (try dsimp only); (try rw [List.length_append]); rw [List.length_take]; omega), (by (try dsimp only); (try rw [ehl]); (try rw [ehr]); exact hMI.keep hp hu hv (by omega) (by omega)), (by (try dsimp only); (try rw [ehl]); (try rw [ehr]); exact hSt.cut)⟩, (by (try dsimp only); (try rw [ehl]); (try rw [ehr]); exact hMI.mu_keep hp hσ)⟩
   refine qc (qa (qf (v3) rfl (cX (ql 0 qd qn rfl rfl rfl hv3.slv (by omega) (Nat.mul_one _) (cX (qh qD rfl (hv3.rd (by omega)) (cX (qK rfl rfl (qg (.bool (decide ((u1.getD 0 0 : Int) < 0))) rfl (qb (jv (vF h3) (qc (qa (qf (v4) rfl ?_))))))))))))))
   refine cX (ql 0 qd qn rfl rfl rfl hv4.slv (by omega) (Nat.mul_one _) (cX (qh qD rfl (hv4.rd (by omega)) (cX (qK rfl rfl (qg (.bool (decide ((u2.getD 0 0 : Int) < 0))) rfl (qb ?_)))))))
   refine qv (p := (u2.getD 0 0 : Int) < 0) rfl (fun h4 => ?_) (fun h4 => ?_)
   ·refine qc (qc (qa ?_))
    skip
    refine qf (ptr ub 0) rfl (qf (v4) rfl (cX (ql 0 qd qn rfl rfl rfl hv4.slv (by omega) (Nat.mul_one _) (cX (qh qD rfl (hv4.rd (by omega)) (qf (v3) rfl (qW (qw (A := [_])) ?_)))))))
    show XL _ _ _ _ _ _ _ (slH 27 1 ov 48 bcs :: cellsH ub [ov] 234 :: slH 27 1 v6 ((mr - 1)) ((rcs.take (((mr - 1)) * 1))) :: slH 27 1 v5 ((ml - 1)) ((lcs.take (((ml - 1)) * 1))) :: cellsH b1 [arv] 29 :: L)
    refine qW (qw (A := [_])) ?_
    show XL _ _ _ _ _ _ _ (cellsH ub [ov] 234 :: slH 27 1 ov 48 bcs :: slH 27 1 v6 ((mr - 1)) ((rcs.take (((mr - 1)) * 1))) :: slH 27 1 v5 ((ml - 1)) ((lcs.take (((ml - 1)) * 1))) :: cellsH b1 [arv] 29 :: L)
    refine cX (qr (args := [ptr ub 0, ii (u2.getD 0 0), v3]) call251 rfl (occurs2_spec hov hbC hMI.ok hv3 hu.w hσ (by omega) (hv.top.resolve_left (by omega))) ?_)
    rintro _ _ _ _ ⟨rfl, rfl, rfl⟩
    refine qb ?_
    refine qv (p := u2.getD 0 0 ∈ ap σ u1) rfl (fun h5 => ?_) (fun h5 => ?_)
    ·have hocc := h5
     refine qc (qa (qg (.bool (false)) rfl (qb (qz (qk (qA (qA (qk (qA (qk (qs (L' := cellsH ub [ov] 234 :: slH 27 1 ov 48 bcs :: L) [.bool (false)] (.bool (false)) (.tmp rfl .nil) rfl leG1 rF (sC (sC (sD (sD (sD sR))))) ?_)))))))))))
     exact ⟨_, _, _, rfl, hbC, fun h => (by cases h), fun _ => hMI.occR hp hσ hu hv (by omega) (by omega) hocc, rfl⟩
    have hx0 : u2.getD 0 0 < 0 := by omega
    have hxf := hv.top.resolve_left (by omega : ¬ 0 ≤ u2.getD 0 0)
    have hMB := hMI.bindR hp hσ hu hv hx0 h5
    have hno9 := h5
    obtain ⟨σ1, hσ1⟩ := hMB.ok.sol
    refine qx ?_
    refine jl [cellsH ub [ov] 234, slH 27 1 ov 48 bcs, slH 27 1 v6 ((mr - 1)) ((rcs.take (((mr - 1)) * 1))), slH 27 1 v5 ((ml - 1)) ((lcs.take (((ml - 1)) * 1))), cellsH b1 [arv] 29] L 9 [] [[], [0], [1], [2], [], [4], [5], [6]] (phiL [qe (ptr ub 0), qe (ptr ub 0), qe (ptr ub 0), qe ov, qe v4, qe (.pointer (some (elemA v4 (0)))), qe (ii (u2.getD 0 0)), qe (ii ((-1) - (u2.getD 0 0))), qe v3]) (ownL []) mixed rfl rfl (by kernel_rfl) ?_ ?_
    ·refine pD (fun W R z9 => ?_) ?_
     ·refine qi (qj (ptr ub 0) rfl ?_)
      exact ⟨rfl, rfl, rfl⟩
     refine pD (fun W R z9 => ?_) ?_
     ·rw [eS (l := [(0, _)]) ⟨z9 0 rfl, ⟨⟩⟩]
      refine qi (ja rfl ?_)
      exact ⟨rfl, rfl, rfl⟩
     refine pD (fun W R z9 => ?_) ?_
     ·rw [eS (l := [(1, _)]) ⟨z9 1 rfl, ⟨⟩⟩]
      refine qi (qm (0) jE rfl sizeOf34 (by decide) rfl rfl ?_)
      exact ⟨rfl, rfl, rfl⟩
     refine pD (fun W R z9 => ?_) ?_
     ·rw [eS (l := [(2, _)]) ⟨z9 2 rfl, ⟨⟩⟩]
      refine qi (qh isAgg34 rfl (Rd.own [] rfl rfl) ?_)
      exact ⟨rfl, rfl, rfl⟩
     refine pD (fun W R z9 => ?_) ?_
     ·refine qi (qj (v4) rfl ?_)
      exact ⟨rfl, rfl, rfl⟩
     refine pD (fun W R z9 => ?_) ?_
     ·rw [eS (l := [(4, _)]) ⟨z9 4 rfl, ⟨⟩⟩]
      refine qi (ql 0 qd qn rfl rfl rfl hv4.slv (by omega) (Nat.mul_one _) ?_)
      exact ⟨rfl, rfl, rfl⟩
     refine pD (fun W R z9 => ?_) ?_
     ·rw [eS (l := [(5, _)]) ⟨z9 5 rfl, ⟨⟩⟩]
      refine qi (qh qD rfl (hv4.rd (by omega)) ?_)
      exact ⟨rfl, rfl, rfl⟩
     refine pD (fun W R z9 => ?_) ?_
     ·rw [eS (l := [(6, _)]) ⟨z9 6 rfl, ⟨⟩⟩]
      refine qi (jd ((-1) - (u2.getD 0 0)) rfl rfl (by omega) (by omega) ?_)
      exact ⟨rfl, rfl, rfl⟩
     refine pD (fun W R z9 => ?_) ?_
     ·refine qi (qj (v3) rfl ?_)
      exact ⟨rfl, rfl, rfl⟩
     exact stepsP.nil
    intro W hphi
    rw [eS (l := [(3, _), (7, _), (8, _)]) ⟨(hphi 3 (by decide)), (hphi 7 (by decide)), (hphi 8 (by decide)), ⟨⟩⟩]
    show XL _ _ _ _ _ _ _ (cellsH ub [ov] 234 :: slH 27 1 ov 48 bcs :: slH 27 1 v6 ((mr - 1)) ((rcs.take (((mr - 1)) * 1))) :: slH 27 1 v5 ((ml - 1)) ((lcs.take (((ml - 1)) * 1))) :: cellsH b1 [arv] 29 :: L)
    refine cX (ql (((-1) - (u2.getD 0 0)).toNat) qG qo rfl rfl (by omega) (SlV.own [_] rfl) (by omega) (Nat.mul_one _) (cX (XOp.storeS (i := ((-1) - (u2.getD 0 0)).toNat) (cs := bcs) [_] _ qo rfl rfl (je (qB hv3)) rfl (by have h9 := CO.len hbC; (try simp only [List.length_set, List.length_replicate] at h9 ⊢) <;> omega) ?_)))
    have hc5 := hbC.set (((-1) - (u2.getD 0 0)).toNat) hv3
    refine qb ?_
    exact ⟨((bcs.set (((-1) - (u2.getD 0 0)).toNat) v3), (b.set (((-1) - (u2.getD 0 0)).toNat) u1), σ1, v5, (l.take ((ml - 1))), (lcs.take (((ml - 1)) * 1)), (ml - 1), v6, (r.take ((mr - 1))), (rcs.take (((mr - 1)) * 1)), (mr - 1), G1), _, leG1, rF, ⟨rfl, rfl, rfl, rfl, ⟨⟩⟩, (qC (qw (A := [_])) (qC (qw (A := [_])) (qC (qw (A := [_, _, _, _])) (qC (qw (A := [_, _, _, _])) (qC (qw (A := [_, _, _, _])) (sC (sC (sC (sC (sC sR)))))))))), ⟨rfl, leG1, (hc5), (hσ1), (hs1), (hc3), (by (try dsimp only); (try rw [List.length_append]); rw [List.length_take]; omega), (hs2), (hc4), (by (try dsimp only); (try rw [List.length_append]); rw [List.length_take]; omega), (by (try dsimp only); (try rw [ehl]); (try rw [ehr]); exact hMB), (by (try dsimp only); (try rw [ehl]); (try rw [ehr]); exact (hSt.bind hMI.ok hx0 (by omega) hxf).cut)⟩, (by (try dsimp only); (try rw [ehl]); (try rw [ehr]); exact hMI.mu_bind hp hσ hx0 (by omega) hxf hu.w hno9 hσ1 (.inl (by rw [hu.same σ hσ.sat])))⟩
   refine qc ?_
   refine jl [cellsH ub [ov] 234, slH 27 1 ov 48 bcs, slH 27 1 v6 ((mr - 1)) ((rcs.take (((mr - 1)) * 1))), slH 27 1 v5 ((ml - 1)) ((lcs.take (((ml - 1)) * 1))), cellsH b1 [arv] 29] L 6 [] [[], [0], [1], [], [3], [4]] (phiL [qe v3, qe (.pointer (some (elemA v3 (0)))), qe (ii (u1.getD 0 0)), qe v4, qe (.pointer (some (elemA v4 (0)))), qe (ii (u2.getD 0 0))]) (ownL []) mixed rfl rfl (by kernel_rfl) ?_ ?_
   ·refine pD (fun W R z9 => ?_) ?_
    ·refine qi (qj (v3) rfl ?_)
     exact ⟨rfl, rfl, rfl⟩
    refine pD (fun W R z9 => ?_) ?_
    ·rw [eS (l := [(0, _)]) ⟨z9 0 rfl, ⟨⟩⟩]
     refine qi (ql 0 qd qn rfl rfl rfl hv3.slv (by omega) (Nat.mul_one _) ?_)
     exact ⟨rfl, rfl, rfl⟩
    refine pD (fun W R z9 => ?_) ?_
    ·rw [eS (l := [(1, _)]) ⟨z9 1 rfl, ⟨⟩⟩]
     refine qi (qh qD rfl (hv3.rd (by omega)) ?_)
     exact ⟨rfl, rfl, rfl⟩
    refine pD (fun W R z9 => ?_) ?_
    ·refine qi (qj (v4) rfl ?_)
     exact ⟨rfl, rfl, rfl⟩
    refine pD (fun W R z9 => ?_) ?_
    ·rw [eS (l := [(3, _)]) ⟨z9 3 rfl, ⟨⟩⟩]
     refine qi (ql 0 qd qn rfl rfl rfl hv4.slv (by omega) (Nat.mul_one _) ?_)
     exact ⟨rfl, rfl, rfl⟩
    refine pD (fun W R z9 => ?_) ?_
    ·rw [eS (l := [(4, _)]) ⟨z9 4 rfl, ⟨⟩⟩]
     refine qi (qh qD rfl (hv4.rd (by omega)) ?_)
     exact ⟨rfl, rfl, rfl⟩
    exact stepsP.nil
   intro W hphi
   rw [eS (l := [(2, _), (5, _)]) ⟨(hphi 2 (by decide)), (hphi 5 (by decide)), ⟨⟩⟩]
   show XL _ _ _ _ _ _ _ (cellsH ub [ov] 234 :: slH 27 1 ov 48 bcs :: slH 27 1 v6 ((mr - 1)) ((rcs.take (((mr - 1)) * 1))) :: slH 27 1 v5 ((ml - 1)) ((lcs.take (((ml - 1)) * 1))) :: cellsH b1 [arv] 29 :: L)
   refine cX (jI rfl rfl (qg (.bool (decide ((u1.getD 0 0 : Int) ≠ u2.getD 0 0))) rfl (qb ?_)))
   refine qv (p := (u1.getD 0 0 : Int) ≠ u2.getD 0 0) rfl (fun h6 => ?_) (fun h6 => ?_)
   ·refine qc (qa (qg (.bool (false)) rfl (qb (qz (qA (qA (qk (qA (qk (qs (L' := cellsH ub [ov] 234 :: slH 27 1 ov 48 bcs :: L) [.bool (false)] (.bool (false)) (.tmp rfl .nil) rfl leG1 rF (sC (sC (sD (sD (sD sR))))) ?_))))))))))
    exact ⟨_, _, _, rfl, hbC, fun h => (by cases h), fun _ => hMI.heads hp hu hv (by omega) (by omega) (by omega), rfl⟩
   refine qc (qa ?_)
   have hpu3 := parts_le3 huw
   have hpv3 := parts_le3 hvw
   refine qf (v5) rfl (cX (qE [arv] ji qR rfl rfl (Rd.ownN [_, _, _, _] rfl rfl) (qf (v3) rfl (cX (qr (args := [.agg #[arv], v3]) call252 rfl (l13Parts_spec har hv3 (ho := (by first | assumption | rfl | omega | simp))) ?_)))))
   rintro _ F1 _ le1 ⟨x1, rfl, hr1, rfl⟩
   replace har := har.mono le1
   replace hbC := hbC.mono le1
   replace hv3 := hv3.mono le1
   replace hv4 := hv4.mono le1
   replace hc3 := hc3.mono le1
   replace hc4 := hc4.mono le1
   refine cX (XOp.appendRows (bytes := 24) (cs := (lcs.take (((ml - 1)) * 1))) [_, _, _] _ qG typeInfo27 rfl rfl rfl rfl rfl rfl rfl hc3 hr1 (by omega) (by omega) ?_)
   intro v7 ds1 hs3 hc6
   refine qg (v7) rfl (qb (qa (qf (v6) rfl (cX (qE [arv] ji qR rfl rfl (Rd.ownN [_, _, _, _] rfl rfl) (qf (v4) rfl (cX (qr (args := [.agg #[arv], v4]) call252 rfl (l13Parts_spec har hv4 (ho := (by first | assumption | rfl | omega | simp))) ?_))))))))
   rintro _ F2 _ le2 ⟨x2, rfl, hr2, rfl⟩
   replace har := har.mono le2
   replace hbC := hbC.mono le2
   replace hv3 := hv3.mono le2
   replace hv4 := hv4.mono le2
   replace hc3 := hc3.mono le2
   replace hc4 := hc4.mono le2
   replace hc6 := hc6.mono le2
   refine cX (XOp.appendRows (bytes := 24) (cs := (rcs.take (((mr - 1)) * 1))) [_, _] _ qG typeInfo27 rfl rfl rfl rfl rfl rfl rfl hc4 hr2 (by omega) (by omega) ?_)
   intro v8 ds2 hs4 hc7
   refine qg (v8) rfl (qb ?_)
   exact ⟨(bcs, b, σ, v7, ((l.take ((ml - 1))) ++ partsL ar u1), ((lcs.take (((ml - 1)) * 1)) ++ ds1), ((ml - 1)) + (partsL ar u1).length, v8, ((r.take ((mr - 1))) ++ partsL ar u2), ((rcs.take (((mr - 1)) * 1)) ++ ds2), ((mr - 1)) + (partsL ar u2).length, F2), _, (qp (qp leG1 le1) le2), rF, ⟨rfl, rfl, rfl, rfl, ⟨⟩⟩, (qC (qw (A := [_])) (qC (qw (A := [_])) (qC (qw (A := [_, _, _, _])) (qC (qw (A := [_, _, _, _])) (qC (qw (A := [_, _, _, _])) (sC (sC (sC (sC (sC sR)))))))))), ⟨rfl, (qp (qp leG1 le1) le2), (hbC), (hσ), (hs3), (hc6), (by (try dsimp only); (try rw [List.length_append]); rw [List.length_take]; omega), (hs4), (hc7), (by (try dsimp only); (try rw [List.length_append]); rw [List.length_take]; omega), (by (try dsimp only); (try rw [ehl]); (try rw [ehr]); exact hMI.parts hp hu hv (by omega) (by omega)), (by (try dsimp only); (try rw [ehl]); (try rw [ehr]); exact hSt.parts hp hwu hu.w)⟩, (by (try dsimp only); (try rw [ehl]); (try rw [ehr]); exact hMI.mu_parts hp hσ hu hv (by omega) (by omega))⟩
  refine qt (t := 64) rfl (vF h2) (qt (t := 64) rfl (vF h2) (qt (t := 64) rfl (vF h2) (qt (t := 64) rfl (vF h2) (cX (qV (.bool (false)) (vF h2) rfl (qg (.bool (false)) rfl (qb (jv rfl (qc (qa (qf (v3) rfl ?_)))))))))))
  refine cX (ql 0 qd qn rfl rfl rfl hv3.slv (by omega) (Nat.mul_one _) (cX (qh qD rfl (hv3.rd (by omega)) (cX (qK rfl rfl (qg (.bool (decide ((u1.getD 0 0 : Int) < 0))) rfl (qb ?_)))))))
  refine qv (p := (u1.getD 0 0 : Int) < 0) rfl (fun h7 => ?_) (fun h7 => ?_)
  ·refine qc (qc (qa ?_))
   skip
   refine qf (ptr ub 0) rfl (qf (v3) rfl (cX (ql 0 qd qn rfl rfl rfl hv3.slv (by omega) (Nat.mul_one _) (cX (qh qD rfl (hv3.rd (by omega)) (qf (v4) rfl (qW (qw (A := [_])) ?_)))))))
   show XL _ _ _ _ _ _ _ (slH 27 1 ov 48 bcs :: cellsH ub [ov] 234 :: slH 27 1 v6 ((mr - 1)) ((rcs.take (((mr - 1)) * 1))) :: slH 27 1 v5 ((ml - 1)) ((lcs.take (((ml - 1)) * 1))) :: cellsH b1 [arv] 29 :: L)
   refine qW (qw (A := [_])) ?_
   show XL _ _ _ _ _ _ _ (cellsH ub [ov] 234 :: slH 27 1 ov 48 bcs :: slH 27 1 v6 ((mr - 1)) ((rcs.take (((mr - 1)) * 1))) :: slH 27 1 v5 ((ml - 1)) ((lcs.take (((ml - 1)) * 1))) :: cellsH b1 [arv] 29 :: L)
   refine cX (qr (args := [ptr ub 0, ii (u1.getD 0 0), v4]) call251 rfl (occurs2_spec hov hbC hMI.ok hv4 hv.w hσ (by omega) (hu.top.resolve_left (by omega))) ?_)
   rintro _ _ _ _ ⟨rfl, rfl, rfl⟩
   refine qb ?_
   refine qv (p := u1.getD 0 0 ∈ ap σ u2) rfl (fun h8 => ?_) (fun h8 => ?_)
   ·have hocc := h8
    refine qc (qa (qg (.bool (false)) rfl (qb (qz (qk (qA (qA (qk (qA (qk (qs (L' := cellsH ub [ov] 234 :: slH 27 1 ov 48 bcs :: L) [.bool (false)] (.bool (false)) (.tmp rfl .nil) rfl leG1 rF (sC (sC (sD (sD (sD sR))))) ?_)))))))))))
    exact ⟨_, _, _, rfl, hbC, fun h => (by cases h), fun _ => hMI.occL hp hσ hu hv (by omega) (by omega) hocc, rfl⟩
   have hx0 : u1.getD 0 0 < 0 := by omega
   have hxf := hu.top.resolve_left (by omega : ¬ 0 ≤ u1.getD 0 0)
   have hMB := hMI.bindL hp hσ hu hv hx0 h8
   have hno9 := h8
   obtain ⟨σ1, hσ1⟩ := hMB.ok.sol
   refine qx ?_
   refine jl [cellsH ub [ov] 234, slH 27 1 ov 48 bcs, slH 27 1 v6 ((mr - 1)) ((rcs.take (((mr - 1)) * 1))), slH 27 1 v5 ((ml - 1)) ((lcs.take (((ml - 1)) * 1))), cellsH b1 [arv] 29] L 9 [] [[], [0], [1], [2], [], [4], [5], [6]] (phiL [qe (ptr ub 0), qe (ptr ub 0), qe (ptr ub 0), qe ov, qe v3, qe (.pointer (some (elemA v3 (0)))), qe (ii (u1.getD 0 0)), qe (ii ((-1) - (u1.getD 0 0))), qe v4]) (ownL []) mixed rfl rfl (by kernel_rfl) ?_ ?_
   ·refine pD (fun W R z9 => ?_) ?_
    ·refine qi (qj (ptr ub 0) rfl ?_)
     exact ⟨rfl, rfl, rfl⟩
    refine pD (fun W R z9 => ?_) ?_
    ·rw [eS (l := [(0, _)]) ⟨z9 0 rfl, ⟨⟩⟩]
     refine qi (ja rfl ?_)
     exact ⟨rfl, rfl, rfl⟩
    refine pD (fun W R z9 => ?_) ?_
    ·rw [eS (l := [(1, _)]) ⟨z9 1 rfl, ⟨⟩⟩]
     refine qi (qm (0) jE rfl sizeOf34 (by decide) rfl rfl ?_)
     exact ⟨rfl, rfl, rfl⟩
    refine pD (fun W R z9 => ?_) ?_
    ·rw [eS (l := [(2, _)]) ⟨z9 2 rfl, ⟨⟩⟩]
     refine qi (qh isAgg34 rfl (Rd.own [] rfl rfl) ?_)
     exact ⟨rfl, rfl, rfl⟩
    refine pD (fun W R z9 => ?_) ?_
    ·refine qi (qj (v3) rfl ?_)
     exact ⟨rfl, rfl, rfl⟩
    refine pD (fun W R z9 => ?_) ?_
    ·rw [eS (l := [(4, _)]) ⟨z9 4 rfl, ⟨⟩⟩]
     refine qi (ql 0 qd qn rfl rfl rfl hv3.slv (by omega) (Nat.mul_one _) ?_)
     exact ⟨rfl, rfl, rfl⟩
    refine pD (fun W R z9 => ?_) ?_
    ·rw [eS (l := [(5, _)]) ⟨z9 5 rfl, ⟨⟩⟩]
     refine qi (qh qD rfl (hv3.rd (by omega)) ?_)
     exact ⟨rfl, rfl, rfl⟩
    refine pD (fun W R z9 => ?_) ?_
    ·rw [eS (l := [(6, _)]) ⟨z9 6 rfl, ⟨⟩⟩]
     refine qi (jd ((-1) - (u1.getD 0 0)) rfl rfl (by omega) (by omega) ?_)
     exact ⟨rfl, rfl, rfl⟩
    refine pD (fun W R z9 => ?_) ?_
    ·refine qi (qj (v4) rfl ?_)
     exact ⟨rfl, rfl, rfl⟩
    exact stepsP.nil
   intro W hphi
   rw [eS (l := [(3, _), (7, _), (8, _)]) ⟨(hphi 3 (by decide)), (hphi 7 (by decide)), (hphi 8 (by decide)), ⟨⟩⟩]
   show XL _ _ _ _ _ _ _ (cellsH ub [ov] 234 :: slH 27 1 ov 48 bcs :: slH 27 1 v6 ((mr - 1)) ((rcs.take (((mr - 1)) * 1))) :: slH 27 1 v5 ((ml - 1)) ((lcs.take (((ml - 1)) * 1))) :: cellsH b1 [arv] 29 :: L)
   refine cX (ql (((-1) - (u1.getD 0 0)).toNat) qG qo rfl rfl (by omega) (SlV.own [_] rfl) (by omega) (Nat.mul_one _) (cX (XOp.storeS (i := ((-1) - (u1.getD 0 0)).toNat) (cs := bcs) [_] _ qo rfl rfl (je (qB hv4)) rfl (by have h9 := CO.len hbC; (try simp only [List.length_set, List.length_replicate] at h9 ⊢) <;> omega) ?_)))
   have hc8 := hbC.set (((-1) - (u1.getD 0 0)).toNat) hv4
   refine qb ?_
   exact ⟨((bcs.set (((-1) - (u1.getD 0 0)).toNat) v4), (b.set (((-1) - (u1.getD 0 0)).toNat) u2), σ1, v5, (l.take ((ml - 1))), (lcs.take (((ml - 1)) * 1)), (ml - 1), v6, (r.take ((mr - 1))), (rcs.take (((mr - 1)) * 1)), (mr - 1), G1), _, leG1, rF, ⟨rfl, rfl, rfl, rfl, ⟨⟩⟩, (qC (qw (A := [_])) (qC (qw (A := [_])) (qC (qw (A := [_, _, _, _])) (qC (qw (A := [_, _, _, _])) (qC (qw (A := [_, _, _, _])) (sC (sC (sC (sC (sC sR)))))))))), ⟨rfl, leG1, (hc8), (hσ1), (hs1), (hc3), (by (try dsimp only); (try rw [List.length_append]); rw [List.length_take]; omega), (hs2), (hc4), (by (try dsimp only); (try rw [List.length_append]); rw [List.length_take]; omega), (by (try dsimp only); (try rw [ehl]); (try rw [ehr]); exact hMB), (by (try dsimp only); (try rw [ehl]); (try rw [ehr]); exact (hSt.bind hMI.ok hx0 (by omega) hxf).cut)⟩, (by (try dsimp only); (try rw [ehl]); (try rw [ehr]); exact hMI.mu_bind hp hσ hx0 (by omega) hxf hv.w hno9 hσ1 (.inr (by rw [hv.same σ hσ.sat])))⟩
  refine qc (qa (qf (v4) rfl (cX (ql 0 qd qn rfl rfl rfl hv4.slv (by omega) (Nat.mul_one _) (cX (qh qD rfl (hv4.rd (by omega)) (cX (qK rfl rfl (qg (.bool (decide ((u2.getD 0 0 : Int) < 0))) rfl (qb ?_))))))))))
  refine qv (p := (u2.getD 0 0 : Int) < 0) rfl (fun h9 => ?_) (fun h9 => ?_)
  ·refine qc (qc (qa ?_))
   skip
   refine qf (ptr ub 0) rfl (qf (v4) rfl (cX (ql 0 qd qn rfl rfl rfl hv4.slv (by omega) (Nat.mul_one _) (cX (qh qD rfl (hv4.rd (by omega)) (qf (v3) rfl (qW (qw (A := [_])) ?_)))))))
   show XL _ _ _ _ _ _ _ (slH 27 1 ov 48 bcs :: cellsH ub [ov] 234 :: slH 27 1 v6 ((mr - 1)) ((rcs.take (((mr - 1)) * 1))) :: slH 27 1 v5 ((ml - 1)) ((lcs.take (((ml - 1)) * 1))) :: cellsH b1 [arv] 29 :: L)
   refine qW (qw (A := [_])) ?_
   show XL _ _ _ _ _ _ _ (cellsH ub [ov] 234 :: slH 27 1 ov 48 bcs :: slH 27 1 v6 ((mr - 1)) ((rcs.take (((mr - 1)) * 1))) :: slH 27 1 v5 ((ml - 1)) ((lcs.take (((ml - 1)) * 1))) :: cellsH b1 [arv] 29 :: L)
   refine cX (qr (args := [ptr ub 0, ii (u2.getD 0 0), v3]) call251 rfl (occurs2_spec hov hbC hMI.ok hv3 hu.w hσ (by omega) (hv.top.resolve_left (by omega))) ?_)
   rintro _ _ _ _ ⟨rfl, rfl, rfl⟩
   refine qb ?_
   refine qv (p := u2.getD 0 0 ∈ ap σ u1) rfl (fun h10 => ?_) (fun h10 => ?_)
   ·have hocc := h10
    refine qc (qa (qg (.bool (false)) rfl (qb (qz (qk (qA (qA (qk (qA (qk (qs (L' := cellsH ub [ov] 234 :: slH 27 1 ov 48 bcs :: L) [.bool (false)] (.bool (false)) (.tmp rfl .nil) rfl leG1 rF (sC (sC (sD (sD (sD sR))))) ?_)))))))))))
    exact ⟨_, _, _, rfl, hbC, fun h => (by cases h), fun _ => hMI.occR hp hσ hu hv (by omega) (by omega) hocc, rfl⟩
   have hx0 : u2.getD 0 0 < 0 := by omega
   have hxf := hv.top.resolve_left (by omega : ¬ 0 ≤ u2.getD 0 0)
   have hMB := hMI.bindR hp hσ hu hv hx0 h10
   have hno9 := h10
   obtain ⟨σ1, hσ1⟩ := hMB.ok.sol
   refine qx ?_
   refine jl [cellsH ub [ov] 234, slH 27 1 ov 48 bcs, slH 27 1 v6 ((mr - 1)) ((rcs.take (((mr - 1)) * 1))), slH 27 1 v5 ((ml - 1)) ((lcs.take (((ml - 1)) * 1))), cellsH b1 [arv] 29] L 9 [] [[], [0], [1], [2], [], [4], [5], [6]] (phiL [qe (ptr ub 0), qe (ptr ub 0), qe (ptr ub 0), qe ov, qe v4, qe (.pointer (some (elemA v4 (0)))), qe (ii (u2.getD 0 0)), qe (ii ((-1) - (u2.getD 0 0))), qe v3]) (ownL []) mixed rfl rfl (by kernel_rfl) ?_ ?_
   ·refine pD (fun W R z9 => ?_) ?_
    ·refine qi (qj (ptr ub 0) rfl ?_)
     exact ⟨rfl, rfl, rfl⟩
    refine pD (fun W R z9 => ?_) ?_
    ·rw [eS (l := [(0, _)]) ⟨z9 0 rfl, ⟨⟩⟩]
     refine qi (ja rfl ?_)
     exact ⟨rfl, rfl, rfl⟩
    refine pD (fun W R z9 => ?_) ?_
    ·rw [eS (l := [(1, _)]) ⟨z9 1 rfl, ⟨⟩⟩]
     refine qi (qm (0) jE rfl sizeOf34 (by decide) rfl rfl ?_)
     exact ⟨rfl, rfl, rfl⟩
    refine pD (fun W R z9 => ?_) ?_
    ·rw [eS (l := [(2, _)]) ⟨z9 2 rfl, ⟨⟩⟩]
     refine qi (qh isAgg34 rfl (Rd.own [] rfl rfl) ?_)
     exact ⟨rfl, rfl, rfl⟩
    refine pD (fun W R z9 => ?_) ?_
    ·refine qi (qj (v4) rfl ?_)
     exact ⟨rfl, rfl, rfl⟩
    refine pD (fun W R z9 => ?_) ?_
    ·rw [eS (l := [(4, _)]) ⟨z9 4 rfl, ⟨⟩⟩]
     refine qi (ql 0 qd qn rfl rfl rfl hv4.slv (by omega) (Nat.mul_one _) ?_)
     exact ⟨rfl, rfl, rfl⟩
    refine pD (fun W R z9 => ?_) ?_
    ·rw [eS (l := [(5, _)]) ⟨z9 5 rfl, ⟨⟩⟩]
     refine qi (qh qD rfl (hv4.rd (by omega)) ?_)
     exact ⟨rfl, rfl, rfl⟩
    refine pD (fun W R z9 => ?_) ?_
    ·rw [eS (l := [(6, _)]) ⟨z9 6 rfl, ⟨⟩⟩]
     refine qi (jd ((-1) - (u2.getD 0 0)) rfl rfl (by omega) (by omega) ?_)
     exact ⟨rfl, rfl, rfl⟩
    refine pD (fun W R z9 => ?_) ?_
    ·refine qi (qj (v3) rfl ?_)
     exact ⟨rfl, rfl, rfl⟩
    exact stepsP.nil
   intro W hphi
   rw [eS (l := [(3, _), (7, _), (8, _)]) ⟨(hphi 3 (by decide)), (hphi 7 (by decide)), (hphi 8 (by decide)), ⟨⟩⟩]
   show XL _ _ _ _ _ _ _ (cellsH ub [ov] 234 :: slH 27 1 ov 48 bcs :: slH 27 1 v6 ((mr - 1)) ((rcs.take (((mr - 1)) * 1))) :: slH 27 1 v5 ((ml - 1)) ((lcs.take (((ml - 1)) * 1))) :: cellsH b1 [arv] 29 :: L)
   refine cX (ql (((-1) - (u2.getD 0 0)).toNat) qG qo rfl rfl (by omega) (SlV.own [_] rfl) (by omega) (Nat.mul_one _) (cX (XOp.storeS (i := ((-1) - (u2.getD 0 0)).toNat) (cs := bcs) [_] _ qo rfl rfl (je (qB hv3)) rfl (by have h9 := CO.len hbC; (try simp only [List.length_set, List.length_replicate] at h9 ⊢) <;> omega) ?_)))
   have hc9 := hbC.set (((-1) - (u2.getD 0 0)).toNat) hv3
   refine qb ?_
   exact ⟨((bcs.set (((-1) - (u2.getD 0 0)).toNat) v3), (b.set (((-1) - (u2.getD 0 0)).toNat) u1), σ1, v5, (l.take ((ml - 1))), (lcs.take (((ml - 1)) * 1)), (ml - 1), v6, (r.take ((mr - 1))), (rcs.take (((mr - 1)) * 1)), (mr - 1), G1), _, leG1, rF, ⟨rfl, rfl, rfl, rfl, ⟨⟩⟩, (qC (qw (A := [_])) (qC (qw (A := [_])) (qC (qw (A := [_, _, _, _])) (qC (qw (A := [_, _, _, _])) (qC (qw (A := [_, _, _, _])) (sC (sC (sC (sC (sC sR)))))))))), ⟨rfl, leG1, (hc9), (hσ1), (hs1), (hc3), (by (try dsimp only); (try rw [List.length_append]); rw [List.length_take]; omega), (hs2), (hc4), (by (try dsimp only); (try rw [List.length_append]); rw [List.length_take]; omega), (by (try dsimp only); (try rw [ehl]); (try rw [ehr]); exact hMB), (by (try dsimp only); (try rw [ehl]); (try rw [ehr]); exact (hSt.bind hMI.ok hx0 (by omega) hxf).cut)⟩, (by (try dsimp only); (try rw [ehl]); (try rw [ehr]); exact hMI.mu_bind hp hσ hx0 (by omega) hxf hu.w hno9 hσ1 (.inl (by rw [hu.same σ hσ.sat])))⟩
  refine qc ?_
  refine jl [cellsH ub [ov] 234, slH 27 1 ov 48 bcs, slH 27 1 v6 ((mr - 1)) ((rcs.take (((mr - 1)) * 1))), slH 27 1 v5 ((ml - 1)) ((lcs.take (((ml - 1)) * 1))), cellsH b1 [arv] 29] L 6 [] [[], [0], [1], [], [3], [4]] (phiL [qe v3, qe (.pointer (some (elemA v3 (0)))), qe (ii (u1.getD 0 0)), qe v4, qe (.pointer (some (elemA v4 (0)))), qe (ii (u2.getD 0 0))]) (ownL []) mixed rfl rfl (by kernel_rfl) ?_ ?_
  ·refine pD (fun W R z9 => ?_) ?_
   ·refine qi (qj (v3) rfl ?_)
    exact ⟨rfl, rfl, rfl⟩
   refine pD (fun W R z9 => ?_) ?_
   ·rw [eS (l := [(0, _)]) ⟨z9 0 rfl, ⟨⟩⟩]
    refine qi (ql 0 qd qn rfl rfl rfl hv3.slv (by omega) (Nat.mul_one _) ?_)
    exact ⟨rfl, rfl, rfl⟩
   refine pD (fun W R z9 => ?_) ?_
   ·rw [eS (l := [(1, _)]) ⟨z9 1 rfl, ⟨⟩⟩]
    refine qi (qh qD rfl (hv3.rd (by omega)) ?_)
    exact ⟨rfl, rfl, rfl⟩
   refine pD (fun W R z9 => ?_) ?_
   ·refine qi (qj (v4) rfl ?_)
    exact ⟨rfl, rfl, rfl⟩
   refine pD (fun W R z9 => ?_) ?_
   ·rw [eS (l := [(3, _)]) ⟨z9 3 rfl, ⟨⟩⟩]
    refine qi (ql 0 qd qn rfl rfl rfl hv4.slv (by omega) (Nat.mul_one _) ?_)
    exact ⟨rfl, rfl, rfl⟩
   refine pD (fun W R z9 => ?_) ?_
   ·rw [eS (l := [(4, _)]) ⟨z9 4 rfl, ⟨⟩⟩]
    refine qi (qh qD rfl (hv4.rd (by omega)) ?_)
    exact ⟨rfl, rfl, rfl⟩
   exact stepsP.nil
  intro W hphi
  rw [eS (l := [(2, _), (5, _)]) ⟨(hphi 2 (by decide)), (hphi 5 (by decide)), ⟨⟩⟩]
  show XL _ _ _ _ _ _ _ (cellsH ub [ov] 234 :: slH 27 1 ov 48 bcs :: slH 27 1 v6 ((mr - 1)) ((rcs.take (((mr - 1)) * 1))) :: slH 27 1 v5 ((ml - 1)) ((lcs.take (((ml - 1)) * 1))) :: cellsH b1 [arv] 29 :: L)
  refine cX (jI rfl rfl (qg (.bool (decide ((u1.getD 0 0 : Int) ≠ u2.getD 0 0))) rfl (qb ?_)))
  refine qv (p := (u1.getD 0 0 : Int) ≠ u2.getD 0 0) rfl (fun h11 => ?_) (fun h11 => ?_)
  ·refine qc (qa (qg (.bool (false)) rfl (qb (qz (qA (qA (qk (qA (qk (qs (L' := cellsH ub [ov] 234 :: slH 27 1 ov 48 bcs :: L) [.bool (false)] (.bool (false)) (.tmp rfl .nil) rfl leG1 rF (sC (sC (sD (sD (sD sR))))) ?_))))))))))
   exact ⟨_, _, _, rfl, hbC, fun h => (by cases h), fun _ => hMI.heads hp hu hv (by omega) (by omega) (by omega), rfl⟩
  refine qc (qa ?_)
  have hpu3 := parts_le3 huw
  have hpv3 := parts_le3 hvw
  refine qf (v5) rfl (cX (qE [arv] ji qR rfl rfl (Rd.ownN [_, _, _, _] rfl rfl) (qf (v3) rfl (cX (qr (args := [.agg #[arv], v3]) call252 rfl (l13Parts_spec har hv3 (ho := (by first | assumption | rfl | omega | simp))) ?_)))))
  rintro _ F3 _ le3 ⟨x3, rfl, hr3, rfl⟩
  replace har := har.mono le3
  replace hbC := hbC.mono le3
  replace hv4 := hv4.mono le3
  replace hc3 := hc3.mono le3
  replace hc4 := hc4.mono le3
  refine cX (XOp.appendRows (bytes := 24) (cs := (lcs.take (((ml - 1)) * 1))) [_, _, _] _ qG typeInfo27 rfl rfl rfl rfl rfl rfl rfl hc3 hr3 (by omega) (by omega) ?_)
  intro v9 ds3 hs5 hc10
  refine qg (v9) rfl (qb (qa (qf (v6) rfl (cX (qE [arv] ji qR rfl rfl (Rd.ownN [_, _, _, _] rfl rfl) (qf (v4) rfl (cX (qr (args := [.agg #[arv], v4]) call252 rfl (l13Parts_spec har hv4 (ho := (by first | assumption | rfl | omega | simp))) ?_))))))))
  rintro _ F4 _ le4 ⟨x4, rfl, hr4, rfl⟩
  replace hbC := hbC.mono le4
  replace hc4 := hc4.mono le4
  replace hc10 := hc10.mono le4
  refine cX (XOp.appendRows (bytes := 24) (cs := (rcs.take (((mr - 1)) * 1))) [_, _] _ qG typeInfo27 rfl rfl rfl rfl rfl rfl rfl hc4 hr4 (by omega) (by omega) ?_)
  intro v10 ds4 hs6 hc11
  refine qg (v10) rfl (qb ?_)
  exact ⟨(bcs, b, σ, v9, ((l.take ((ml - 1))) ++ partsL ar u1), ((lcs.take (((ml - 1)) * 1)) ++ ds3), ((ml - 1)) + (partsL ar u1).length, v10, ((r.take ((mr - 1))) ++ partsL ar u2), ((rcs.take (((mr - 1)) * 1)) ++ ds4), ((mr - 1)) + (partsL ar u2).length, F4), _, (qp (qp leG1 le3) le4), rF, ⟨rfl, rfl, rfl, rfl, ⟨⟩⟩, (qC (qw (A := [_])) (qC (qw (A := [_])) (qC (qw (A := [_, _, _, _])) (qC (qw (A := [_, _, _, _])) (qC (qw (A := [_, _, _, _])) (sC (sC (sC (sC (sC sR)))))))))), ⟨rfl, (qp (qp leG1 le3) le4), (hbC), (hσ), (hs5), (hc10), (by (try dsimp only); (try rw [List.length_append]); rw [List.length_take]; omega), (hs6), (hc11), (by (try dsimp only); (try rw [List.length_append]); rw [List.length_take]; omega), (by (try dsimp only); (try rw [ehl]); (try rw [ehr]); exact hMI.parts hp hu hv (by omega) (by omega)), (by (try dsimp only); (try rw [ehl]); (try rw [ehr]); exact hSt.parts hp hwu hu.w)⟩, (by (try dsimp only); (try rw [ehl]); (try rw [ehr]); exact hMI.mu_parts hp hσ hu hv (by omega) (by omega))⟩
 refine jf (qu (qu (qN (qc (qa (qg (.bool (true)) rfl (qb (qz (qs (L' := cellsH ub [ov] 234 :: slH 27 1 ov 48 bcs :: L) [.bool (true)] (.bool (true)) (.tmp rfl .nil) rfl leG1 rF (sD (sD (sD (sC (sC sR))))) ?_)))))))))
 exact ⟨_, _, _, rfl, hbC, fun _ => (by have e9 : l = [] := List.eq_nil_of_length_eq_zero (by omega); rw [e9] at hMI; exact hMI.done), fun h => (by cases h), rfl⟩

/- spec.l11Away -/
theorem away2_spec {F : FH} {L : List HP} {tv : Value} {t : List Int} (ht : IntsF F tv t) {k : Int} (hk24 : k = 24) (hlt : t.length ≤ 4000000) (htg : ∀ i, i < t.length → -4000000 ≤ t.getD i 0) :
    Does prog 216 [tv, ii (k)] F (L) (fun v F' L' => F = F' ∧ IsSl v ∧ intsH 2 v (awayL t) :: L = L') := by
 refine qI func216 rfl rfl rfl (qc (qa (qg (sN) rfl (qb (qc (qa (cX (qS (s := 1) [] [ii (0)] [] qd qn ju rfl (by decide) rfl CellsAre.nil rfl ?_))))))))
 intro v1 hv1
 refine qg (v1) rfl (qb (qc (qc (qa (qg (ii (0)) rfl (qb (qJ (jh (α := Nat × Value × List Int) (fun xQ => [(0, tv), (1, ii (k)), (5, xQ.2.1), (6, ii (((xQ.1 : Nat) : Int)))]) (fun xQ => intsH 2 xQ.2.1 xQ.2.2 :: L) (fun xQ F' => F = F' ∧ (IsSl xQ.2.1) ∧ (xQ.1 ≤ t.length) ∧ (xQ.2.2 = awayL (t.take xQ.1)) ∧ (xQ.2.2.length = xQ.1)) (fun xQ => t.length - xQ.1) (0, v1, []) ⟨rfl, rfl, rfl, rfl, ⟨⟩⟩ (sC sR) ⟨rfl, ((jJ hv1)), (by (try dsimp only) <;> omega), (rfl), (rfl)⟩ ?_))))))))
 rintro ⟨j, ov, os⟩ rE _ _ ⟨rfl, hov, hj, hos, hol⟩
 show X _ _ _ _ (envs [(0, tv), (1, ii (k)), (5, ov), (6, ii ((j : Int)))] rE) _ (intsH 2 ov os :: L)
 dsimp only at hov hj hos hol
 have hgj := htg j
 refine qc (qc (qa (qf (ii ((j : Int))) rfl (qf (tv) rfl (cX (qF qd rfl ht.slv (cX (qK rfl rfl (qb ?_)))))))))
 refine qv (p := (j : Int) < (t.length : Int)) rfl (fun h1 => ?_) (fun h1 => ?_)
 ·refine qx (qc (qJ (qc (qa (qf (tv) rfl (qf (ii ((j : Int))) rfl (cX (ql j qd qn rfl rfl rfl ht.slv (by omega) (Nat.mul_one _) (cX (qh qD rfl (ht.rd (by omega)) (cX (qK rfl rfl (qb ?_)))))))))))))
  refine qv (p := (t.getD j 0 : Int) < 0) rfl (fun h2 => ?_) (fun h2 => ?_)
  ·refine qa (qf (ov) rfl (qf (tv) rfl (qf (ii ((j : Int))) rfl (cX (ql j qd qn rfl rfl rfl ht.slv (by omega) (Nat.mul_one _) (cX (qh qD rfl (ht.rd (by omega)) (qf (ii (k)) rfl (cX (jd ((t.getD j 0) - k) rfl rfl (by omega) (by omega) (cX (qS (s := 1) [ii ((t.getD j 0) - k)] [ii (0)] [(0, [ii ((t.getD j 0) - k)])] qd qn ju rfl (by decide) rfl (.cons rfl CellsAre.nil) rfl ?_))))))))))))
   intro v2 hv2
   refine cX (XOp.append1 (u := (t.getD j 0) - k) [_] _ qd typeInfo2 rfl rfl rfl rfl rfl rfl (SlV.own [] rfl) (Rd.sl [] rfl rfl) (by (try simp only [List.length_append, List.length_nil, List.length_cons, List.length_singleton, List.length_take, List.length_drop]); omega) ?_)
   intro v3 hs1 hn1
   refine qg (v3) rfl (qb (qa (qf (ii ((j : Int))) rfl (cX (qL (((j + 1 : Nat) : Int)) rfl rfl (by omega) (by omega) (qg (ii (((j + 1 : Nat) : Int))) rfl (qb ?_)))))))
   exact ⟨(j + 1, v3, os ++ [(t.getD j 0) - k]), _, FLe.refl _, rF, ⟨rfl, rfl, rfl, rfl, ⟨⟩⟩, (sD (sC sR)), ⟨rfl, (hs1), (by (try dsimp only) <;> omega), (by (try dsimp only); rw [hos]; exact (away_take (by omega) (by first | (left; constructor <;> omega) | (right; constructor <;> omega))).symm), (by (try dsimp only); rw [List.length_append, List.length_singleton]; omega)⟩, (by omega)⟩
  refine qa (qf (ov) rfl (qf (tv) rfl (qf (ii ((j : Int))) rfl (cX (ql j qd qn rfl rfl rfl ht.slv (by omega) (Nat.mul_one _) (cX (qh qD rfl (ht.rd (by omega)) (cX (qS (s := 1) [ii (t.getD j 0)] [ii (0)] [(0, [ii (t.getD j 0)])] qd qn ju rfl (by decide) rfl (.cons rfl CellsAre.nil) rfl ?_)))))))))
  intro v4 hv3
  refine cX (XOp.append1 (u := t.getD j 0) [_] _ qd typeInfo2 rfl rfl rfl rfl rfl rfl (SlV.own [] rfl) (Rd.sl [] rfl rfl) (by (try simp only [List.length_append, List.length_nil, List.length_cons, List.length_singleton, List.length_take, List.length_drop]); omega) ?_)
  intro v5 hs2 hn2
  refine qg (v5) rfl (qb (qa (qf (ii ((j : Int))) rfl (cX (qL (((j + 1 : Nat) : Int)) rfl rfl (by omega) (by omega) (qg (ii (((j + 1 : Nat) : Int))) rfl (qb ?_)))))))
  exact ⟨(j + 1, v5, os ++ [t.getD j 0]), _, FLe.refl _, rF, ⟨rfl, rfl, rfl, rfl, ⟨⟩⟩, (sD (sC sR)), ⟨rfl, (hs2), (by (try dsimp only) <;> omega), (by (try dsimp only); rw [hos]; exact (away_take (by omega) (by first | (left; constructor <;> omega) | (right; constructor <;> omega))).symm), (by (try dsimp only); rw [List.length_append, List.length_singleton]; omega)⟩, (by omega)⟩
 refine jf (qu (qu (qN (qc (qa (qf (ov) rfl (qg (ov) rfl (qb (qz (qs (L' := intsH 2 ov os :: L) [ov] (ov) (.tmp rfl .nil) rfl rF rF (sC sR) ?_))))))))))
 refine ⟨rfl, hov, ?_⟩
 have hxs : (awayL t : List Int) = os := by rw [hos, show j = t.length from by omega, List.take_length]
 exact congrArg (fun z => intsH 2 _ z :: L) hxs

/- spec.l11Full -/
set_option maxHeartbeats 1000000 in
theorem full_step {k : Nat} (ih : ∀ k9 : Nat, k9 < k → ∀ {F : FH} {L : List HP} {ub : Nat} {ov : Value} {ocs : List Value} {ar : List Int} {bl : RowL} (hov : IsSl ov) (hC : RowsC F ocs bl) (hb : BOk ar bl) {σ : Sbs} {ρ : Int → Nat} {tv : Value} {t : List Int} (ht : IntsF F tv t) (hσ : Sol bl σ) (hρ : Acyc bl ρ) (htk : ∀ m ∈ t, m < 0 → ρ m < k9) (htg : ∀ i, i < t.length → -48 ≤ t.getD i 0) (htl : t.length ≤ 200), Does prog 217 [ptr ub 0, tv] F (cellsH ub [ov] 234 :: slH 27 1 ov 48 ocs :: L) (fun v F' L' => IsSl v ∧ F = F' ∧ intsH 2 v ((fullX σ t)) :: cellsH ub [ov] 234 :: slH 27 1 ov 48 ocs :: L = L')) {F : FH} {L : List HP} {ub : Nat} {ov : Value} {ocs : List Value} {ar : List Int} {bl : RowL} (hov : IsSl ov) (hC : RowsC F ocs bl) (hb : BOk ar bl) {σ : Sbs} {ρ : Int → Nat} {tv : Value} {t : List Int} (ht : IntsF F tv t) (hσ : Sol bl σ) (hρ : Acyc bl ρ) (htk : ∀ m ∈ t, m < 0 → ρ m < k) (htg : ∀ i, i < t.length → -48 ≤ t.getD i 0) (htl : t.length ≤ 200) :
    Does prog 217 [ptr ub 0, tv] F (cellsH ub [ov] 234 :: slH 27 1 ov 48 ocs :: L) (fun v F' L' => IsSl v ∧ F = F' ∧ intsH 2 v ((fullX σ t)) :: cellsH ub [ov] 234 :: slH 27 1 ov 48 ocs :: L = L') := by
 refine qI func217 rfl rfl rfl ?_
 have hbl := hb.len
 refine qc (qa (qg (sN) rfl (qb (qc (qa (cX (qS (s := 1) [] [ii (0)] [] qd qn ju rfl (by decide) rfl CellsAre.nil rfl ?_)))))))
 intro v1 hv1
 refine qg (v1) rfl (qb (qc (qc (qa (qg (ii (0)) rfl (qb (qJ (jh (α := Nat × Value × List Int) (fun xQ => [(0, ptr ub 0), (1, tv), (5, xQ.2.1), (6, ii (((xQ.1 : Nat) : Int)))]) (fun xQ => intsH 2 xQ.2.1 xQ.2.2 :: cellsH ub [ov] 234 :: slH 27 1 ov 48 ocs :: L) (fun xQ F' => F = F' ∧ (IsSl xQ.2.1) ∧ (xQ.1 ≤ t.length) ∧ (xQ.2.2 = ap σ (t.take xQ.1)) ∧ (xQ.2.2.length ≤ 60)) (fun xQ => t.length - xQ.1) (0, v1, []) ⟨rfl, rfl, rfl, rfl, ⟨⟩⟩ (sC (sC (sC sR))) ⟨rfl, ((jJ hv1)), (by (try dsimp only) <;> omega), (by simp [ap]), (Nat.zero_le _)⟩ ?_))))))))
 rintro ⟨j, wv, ws⟩ rE _ _ ⟨rfl, hwv, hj, hws, hwl⟩
 show X _ _ _ _ (envs [(0, ptr ub 0), (1, tv), (5, wv), (6, ii ((j : Int)))] rE) _ (intsH 2 wv ws :: cellsH ub [ov] 234 :: slH 27 1 ov 48 ocs :: L)
 dsimp only at hwv hj hws hwl
 have hgj := fun h : j < t.length => htg j h
 have hwl2 : ws.length = (ap σ (t.take j)).length := congrArg List.length hws
 refine qc (qc (qa (qf (ii ((j : Int))) rfl (qf (tv) rfl (cX (qF qd rfl ht.slv (cX (qK rfl rfl (qb ?_)))))))))
 refine qv (p := (j : Int) < (t.length : Int)) rfl (fun h1 => ?_) (fun h1 => ?_)
 ·refine qx (qc (qJ (qc (qc ?_))))
  by_cases h2 : (t.getD j 0 : Int) ≥ 0
  ·have hsj : σ (t.getD j 0) = [(t.getD j 0)] := hσ.sym (by omega)
   refine jl [intsH 2 wv ws, cellsH ub [ov] 234, slH 27 1 ov 48 ocs] L 15 [] [[], [], [0, 1], [2], [3], [4], [5], [5, 6], [5, 7], [5, 8], [5], [5], [5, 10, 11], [5, 12], [5, 13]] (phiL [qe tv, qe (ii ((j : Int)) : Value), qe (.pointer (some (elemA tv (j)))), qe (ii (t.getD j 0)), qe (.bool (decide ((t.getD j 0 : Int) ≥ 0)) : Value), qe (.bool (decide ((t.getD j 0 : Int) ≥ 0)) : Value), qe undef, qe undef, qe undef, qe undef, qe undef, qe undef, qe undef, qe undef, qe undef]) (ownL []) mixed rfl rfl (by kernel_rfl) ?_ ?_
   ·refine pD (fun W R z9 => ?_) ?_
    ·refine qi (qj (tv) rfl ?_)
     exact ⟨rfl, rfl, rfl⟩
    refine pD (fun W R z9 => ?_) ?_
    ·refine qi (qj (ii ((j : Int))) rfl ?_)
     exact ⟨rfl, rfl, rfl⟩
    refine pD (fun W R z9 => ?_) ?_
    ·rw [eS (l := [(0, _), (1, _)]) ⟨z9 0 rfl, z9 1 rfl, ⟨⟩⟩]
     refine qi (ql j qd qn rfl rfl rfl ht.slv (by omega) (Nat.mul_one _) ?_)
     exact ⟨rfl, rfl, rfl⟩
    refine pD (fun W R z9 => ?_) ?_
    ·rw [eS (l := [(2, _)]) ⟨z9 2 rfl, ⟨⟩⟩]
     refine qi (qh qD rfl (ht.rd (by omega)) ?_)
     exact ⟨rfl, rfl, rfl⟩
    refine pD (fun W R z9 => ?_) ?_
    ·rw [eS (l := [(3, _)]) ⟨z9 3 rfl, ⟨⟩⟩]
     refine qi (XOp.geq rfl rfl ?_)
     exact ⟨rfl, rfl, rfl⟩
    refine pD (fun W R z9 => ?_) ?_
    ·rw [eS (l := [(4, _)]) ⟨z9 4 rfl, ⟨⟩⟩]
     refine qi (qj (.bool (decide ((t.getD j 0 : Int) ≥ 0))) rfl ?_)
     exact ⟨rfl, rfl, rfl⟩
    refine pD (fun W R z9 => ?_) ?_
    ·rw [eS (l := [(5, _)]) ⟨z9 5 rfl, ⟨⟩⟩]
     exact jb (t := 20) rfl (vT h2) ⟨rfl, rfl, rfl⟩
    refine pD (fun W R z9 => ?_) ?_
    ·rw [eS (l := [(5, _), (6, undef)]) ⟨z9 5 rfl, z9 6 rfl, ⟨⟩⟩]
     exact jb (t := 20) rfl (vT h2) ⟨rfl, rfl, rfl⟩
    refine pD (fun W R z9 => ?_) ?_
    ·rw [eS (l := [(5, _), (7, undef)]) ⟨z9 5 rfl, z9 7 rfl, ⟨⟩⟩]
     exact jb (t := 20) rfl (vT h2) ⟨rfl, rfl, rfl⟩
    refine pD (fun W R z9 => ?_) ?_
    ·rw [eS (l := [(5, _), (8, undef)]) ⟨z9 5 rfl, z9 8 rfl, ⟨⟩⟩]
     exact jb (t := 20) rfl (vT h2) ⟨rfl, rfl, rfl⟩
    refine pD (fun W R z9 => ?_) ?_
    ·rw [eS (l := [(5, _)]) ⟨z9 5 rfl, ⟨⟩⟩]
     exact jb (t := 20) rfl (vT h2) ⟨rfl, rfl, rfl⟩
    refine pD (fun W R z9 => ?_) ?_
    ·rw [eS (l := [(5, _)]) ⟨z9 5 rfl, ⟨⟩⟩]
     exact jb (t := 20) rfl (vT h2) ⟨rfl, rfl, rfl⟩
    refine pD (fun W R z9 => ?_) ?_
    ·rw [eS (l := [(5, _), (10, undef), (11, undef)]) ⟨z9 5 rfl, z9 10 rfl, z9 11 rfl, ⟨⟩⟩]
     exact jb (t := 20) rfl (vT h2) ⟨rfl, rfl, rfl⟩
    refine pD (fun W R z9 => ?_) ?_
    ·rw [eS (l := [(5, _), (12, undef)]) ⟨z9 5 rfl, z9 12 rfl, ⟨⟩⟩]
     exact jb (t := 20) rfl (vT h2) ⟨rfl, rfl, rfl⟩
    refine pD (fun W R z9 => ?_) ?_
    ·rw [eS (l := [(5, _), (13, undef)]) ⟨z9 5 rfl, z9 13 rfl, ⟨⟩⟩]
     exact jb (t := 20) rfl (vT h2) ⟨rfl, rfl, rfl⟩
    exact stepsP.nil
   intro W hphi
   rw [eS (l := [(5, _), (9, undef), (14, undef)]) ⟨(hphi 5 (by decide)), (hphi 9 (by decide)), (hphi 14 (by decide)), ⟨⟩⟩]
   show XL _ _ _ _ _ _ _ (intsH 2 wv ws :: cellsH ub [ov] 234 :: slH 27 1 ov 48 ocs :: L)
   refine qt (t := 20) rfl (vT h2) (qt (t := 20) rfl (vT h2) (qt (t := 20) rfl (vT h2) (qt (t := 20) rfl (vT h2) (cX (qX (.bool (true)) (vT h2) rfl (qb (jA rfl (qa (qf (wv) rfl (qf (tv) rfl ?_))))))))))
   refine qf (ii ((j : Int))) rfl (cX (ql j qd qn rfl rfl rfl ht.slv (by omega) (Nat.mul_one _) (cX (qh qD rfl (ht.rd (by omega)) (cX (qS (s := 1) [ii (t.getD j 0)] [ii (0)] [(0, [ii (t.getD j 0)])] qd qn ju rfl (by decide) rfl (.cons rfl CellsAre.nil) rfl ?_))))))
   intro v2 hv2
   refine cX (XOp.append1 (u := t.getD j 0) [_] _ qd typeInfo2 rfl rfl rfl rfl rfl rfl (SlV.own [] rfl) (Rd.sl [] rfl rfl) (by (try simp only [List.length_append, List.length_nil, List.length_cons, List.length_singleton, List.length_take, List.length_drop]); omega) ?_)
   intro v3 hs1 hn1
   refine qg (v3) rfl (qb (qc (qa (qf (v3) rfl (cX (qF qd rfl (intsH.slv [_] rfl) (cX (XOp.gtr rfl rfl (qb ?_)))))))))
   refine qv (p := ((((ws ++ [t.getD j 0]).length : Nat) : Int) : Int) > 60) rfl (fun h3 => ?_) (fun h3 => ?_)
   ·have hnext : ws ++ [t.getD j 0] = ws ++ σ (t.getD j 0) := by rw [hsj]
    have hbig2 : 60 < (ws ++ σ (t.getD j 0)).length := by rw [← hnext]; omega
    refine qc (qa (cX (qS (s := 1) [] [ii (0)] [] qd qn ju rfl (by decide) rfl CellsAre.nil rfl ?_)))
    intro v4 hv3
    refine qg (v4) rfl (qb (qz (qA (qk (qk (qA (qk (qs (L' := intsH 2 v4 ([]) :: cellsH ub [ov] 234 :: slH 27 1 ov 48 ocs :: L) [v4] (v4) (.tmp rfl .nil) rfl rF rF (sC (sD (sD (sC (sC sR))))) ?_))))))))
    have e9 : fullX σ t = [] := full_no (σ := σ) (j := j) (by omega) (by rw [List.length_append] at hbig2; omega)
    rw [e9]
    exact ⟨(jJ hv3), rfl, rfl⟩
   have hnext : ws ++ [t.getD j 0] = ws ++ σ (t.getD j 0) := by rw [hsj]
   have hnlen : (ws ++ [t.getD j 0]).length ≤ 60 := by omega
   refine qx (qa (qf (ii ((j : Int))) rfl (cX (qL (((j + 1 : Nat) : Int)) rfl rfl (by omega) (by omega) (qg (ii (((j + 1 : Nat) : Int))) rfl (qb ?_))))))
   exact ⟨(j + 1, v3, ws ++ [t.getD j 0]), _, FLe.refl _, rF, ⟨rfl, rfl, rfl, rfl, ⟨⟩⟩, (sD (sC (sC (sC sR)))), ⟨rfl, (hs1), (by (try dsimp only) <;> omega), (by (try dsimp only); rw [ap_take (by omega), ← hws]; exact hnext), (by (try dsimp only); exact hnlen)⟩, (by omega)⟩
  have hj0 : t.getD j 0 < 0 := by omega
  have hgj2 := hgj (by omega)
  have hrj := htk _ (mem_of_getD (k := j) (by omega) rfl) hj0
  refine jl [intsH 2 wv ws, cellsH ub [ov] 234, slH 27 1 ov 48 ocs] L 15 [] [[], [], [0, 1], [2], [3], [4], [5], [5, 6], [5, 7], [5, 8], [5], [5], [5, 10, 11], [5, 12], [5, 13]] (phiL [qe tv, qe (ii ((j : Int)) : Value), qe (.pointer (some (elemA tv (j)))), qe (ii (t.getD j 0)), qe (.bool (decide ((t.getD j 0 : Int) ≥ 0)) : Value), qe (.bool (decide ((t.getD j 0 : Int) ≥ 0)) : Value), qe (ptr ub 0), qe (ptr ub 0), qe (ptr ub 0), qe ov, qe tv, qe (ii ((j : Int)) : Value), qe (.pointer (some (elemA tv (j)))), qe (ii (t.getD j 0)), qe (ii ((-1) - (t.getD j 0)))]) (ownL []) mixed rfl rfl (by kernel_rfl) ?_ ?_
  ·refine pD (fun W R z9 => ?_) ?_
   ·refine qi (qj (tv) rfl ?_)
    exact ⟨rfl, rfl, rfl⟩
   refine pD (fun W R z9 => ?_) ?_
   ·refine qi (qj (ii ((j : Int))) rfl ?_)
    exact ⟨rfl, rfl, rfl⟩
   refine pD (fun W R z9 => ?_) ?_
   ·rw [eS (l := [(0, _), (1, _)]) ⟨z9 0 rfl, z9 1 rfl, ⟨⟩⟩]
    refine qi (ql j qd qn rfl rfl rfl ht.slv (by omega) (Nat.mul_one _) ?_)
    exact ⟨rfl, rfl, rfl⟩
   refine pD (fun W R z9 => ?_) ?_
   ·rw [eS (l := [(2, _)]) ⟨z9 2 rfl, ⟨⟩⟩]
    refine qi (qh qD rfl (ht.rd (by omega)) ?_)
    exact ⟨rfl, rfl, rfl⟩
   refine pD (fun W R z9 => ?_) ?_
   ·rw [eS (l := [(3, _)]) ⟨z9 3 rfl, ⟨⟩⟩]
    refine qi (XOp.geq rfl rfl ?_)
    exact ⟨rfl, rfl, rfl⟩
   refine pD (fun W R z9 => ?_) ?_
   ·rw [eS (l := [(4, _)]) ⟨z9 4 rfl, ⟨⟩⟩]
    refine qi (qj (.bool (decide ((t.getD j 0 : Int) ≥ 0))) rfl ?_)
    exact ⟨rfl, rfl, rfl⟩
   refine pD (fun W R z9 => ?_) ?_
   ·rw [eS (l := [(5, _)]) ⟨z9 5 rfl, ⟨⟩⟩]
    refine qU (t := 20) rfl (vF h2) (qj (ptr ub 0) rfl ?_)
    exact ⟨rfl, rfl, rfl⟩
   refine pD (fun W R z9 => ?_) ?_
   ·rw [eS (l := [(5, _), (6, _)]) ⟨z9 5 rfl, z9 6 rfl, ⟨⟩⟩]
    refine qU (t := 20) rfl (vF h2) (ja rfl ?_)
    exact ⟨rfl, rfl, rfl⟩
   refine pD (fun W R z9 => ?_) ?_
   ·rw [eS (l := [(5, _), (7, _)]) ⟨z9 5 rfl, z9 7 rfl, ⟨⟩⟩]
    refine qU (t := 20) rfl (vF h2) (qm (0) jE rfl sizeOf34 (by decide) rfl rfl ?_)
    exact ⟨rfl, rfl, rfl⟩
   refine pD (fun W R z9 => ?_) ?_
   ·rw [eS (l := [(5, _), (8, _)]) ⟨z9 5 rfl, z9 8 rfl, ⟨⟩⟩]
    refine qU (t := 20) rfl (vF h2) (qh isAgg34 rfl (Rd.own [_] rfl rfl) ?_)
    exact ⟨rfl, rfl, rfl⟩
   refine pD (fun W R z9 => ?_) ?_
   ·rw [eS (l := [(5, _)]) ⟨z9 5 rfl, ⟨⟩⟩]
    refine qU (t := 20) rfl (vF h2) (qj (tv) rfl ?_)
    exact ⟨rfl, rfl, rfl⟩
   refine pD (fun W R z9 => ?_) ?_
   ·rw [eS (l := [(5, _)]) ⟨z9 5 rfl, ⟨⟩⟩]
    refine qU (t := 20) rfl (vF h2) (qj (ii ((j : Int))) rfl ?_)
    exact ⟨rfl, rfl, rfl⟩
   refine pD (fun W R z9 => ?_) ?_
   ·rw [eS (l := [(5, _), (10, _), (11, _)]) ⟨z9 5 rfl, z9 10 rfl, z9 11 rfl, ⟨⟩⟩]
    refine qU (t := 20) rfl (vF h2) (ql j qd qn rfl rfl rfl ht.slv (by omega) (Nat.mul_one _) ?_)
    exact ⟨rfl, rfl, rfl⟩
   refine pD (fun W R z9 => ?_) ?_
   ·rw [eS (l := [(5, _), (12, _)]) ⟨z9 5 rfl, z9 12 rfl, ⟨⟩⟩]
    refine qU (t := 20) rfl (vF h2) (qh qD rfl (ht.rd (by omega)) ?_)
    exact ⟨rfl, rfl, rfl⟩
   refine pD (fun W R z9 => ?_) ?_
   ·rw [eS (l := [(5, _), (13, _)]) ⟨z9 5 rfl, z9 13 rfl, ⟨⟩⟩]
    refine qU (t := 20) rfl (vF h2) (jd ((-1) - (t.getD j 0)) rfl rfl (by omega) (by omega) ?_)
    exact ⟨rfl, rfl, rfl⟩
   exact stepsP.nil
  intro W hphi
  rw [eS (l := [(5, _), (9, _), (14, _)]) ⟨(hphi 5 (by decide)), (hphi 9 (by decide)), (hphi 14 (by decide)), ⟨⟩⟩]
  show XL _ _ _ _ _ _ _ (intsH 2 wv ws :: cellsH ub [ov] 234 :: slH 27 1 ov 48 ocs :: L)
  refine qy (t := 20) rfl (vF h2) (ql (((-1) - (t.getD j 0)).toNat) qG qo rfl rfl (by omega) (SlV.own [_, _] rfl) (by omega) (Nat.mul_one _) ?_)
  obtain ⟨a1, ha1, he1⟩ := hC.get (i := ((-1) - (t.getD j 0)).toNat) (by omega)
  refine qy (t := 20) rfl (vF h2) (qh qM rfl (Rd.sl [_, _] rfl he1) (qy (t := 20) rfl (vF h2) (qF qd rfl ha1.slv (qy (t := 20) rfl (vF h2) (jF rfl rfl (cX (qV (.bool (decide ((((((bl.getD (((-1) - (t.getD j 0)).toNat) [])).length : Nat) : Int) : Int) = 0))) (vF h2) rfl (qb ?_))))))))
  refine qv (p := (((((bl.getD (((-1) - (t.getD j 0)).toNat) [])).length : Nat) : Int) : Int) = 0) rfl (fun h4 => ?_) (fun h4 => ?_)
  ·have hsj : σ (t.getD j 0) = [(t.getD j 0)] := hσ.free (by rw [lkN_get hj0]; exact List.eq_nil_of_length_eq_zero (by unfold varIx; omega))
   refine qa (qf (wv) rfl (qf (tv) rfl (qf (ii ((j : Int))) rfl (cX (ql j qd qn rfl rfl rfl ht.slv (by omega) (Nat.mul_one _) (cX (qh qD rfl (ht.rd (by omega)) (cX (qS (s := 1) [ii (t.getD j 0)] [ii (0)] [(0, [ii (t.getD j 0)])] qd qn ju rfl (by decide) rfl (.cons rfl CellsAre.nil) rfl ?_)))))))))
   intro v5 hv4
   refine cX (XOp.append1 (u := t.getD j 0) [_] _ qd typeInfo2 rfl rfl rfl rfl rfl rfl (SlV.own [] rfl) (Rd.sl [] rfl rfl) (by (try simp only [List.length_append, List.length_nil, List.length_cons, List.length_singleton, List.length_take, List.length_drop]); omega) ?_)
   intro v6 hs2 hn2
   refine qg (v6) rfl (qb (qc (qa (qf (v6) rfl (cX (qF qd rfl (intsH.slv [_] rfl) (cX (XOp.gtr rfl rfl (qb ?_)))))))))
   refine qv (p := ((((ws ++ [t.getD j 0]).length : Nat) : Int) : Int) > 60) rfl (fun h5 => ?_) (fun h5 => ?_)
   ·have hnext : ws ++ [t.getD j 0] = ws ++ σ (t.getD j 0) := by rw [hsj]
    have hbig2 : 60 < (ws ++ σ (t.getD j 0)).length := by rw [← hnext]; omega
    refine qc (qa (cX (qS (s := 1) [] [ii (0)] [] qd qn ju rfl (by decide) rfl CellsAre.nil rfl ?_)))
    intro v7 hv5
    refine qg (v7) rfl (qb (qz (qA (qk (qk (qA (qk (qs (L' := intsH 2 v7 ([]) :: cellsH ub [ov] 234 :: slH 27 1 ov 48 ocs :: L) [v7] (v7) (.tmp rfl .nil) rfl rF rF (sC (sD (sD (sC (sC sR))))) ?_))))))))
    have e9 : fullX σ t = [] := full_no (σ := σ) (j := j) (by omega) (by rw [List.length_append] at hbig2; omega)
    rw [e9]
    exact ⟨(jJ hv5), rfl, rfl⟩
   have hnext : ws ++ [t.getD j 0] = ws ++ σ (t.getD j 0) := by rw [hsj]
   have hnlen : (ws ++ [t.getD j 0]).length ≤ 60 := by omega
   refine qx (qa (qf (ii ((j : Int))) rfl (cX (qL (((j + 1 : Nat) : Int)) rfl rfl (by omega) (by omega) (qg (ii (((j + 1 : Nat) : Int))) rfl (qb ?_))))))
   exact ⟨(j + 1, v6, ws ++ [t.getD j 0]), _, FLe.refl _, rF, ⟨rfl, rfl, rfl, rfl, ⟨⟩⟩, (sD (sC (sC (sC sR)))), ⟨rfl, (hs2), (by (try dsimp only) <;> omega), (by (try dsimp only); rw [ap_take (by omega), ← hws]; exact hnext), (by (try dsimp only); exact hnlen)⟩, (by omega)⟩
  have hlj : lkN bl (t.getD j 0) ≠ [] := fun e => by (have e9 : (bl.getD (varIx (t.getD j 0)) []).length = 0 := by rw [← lkN_get hj0, e]; rfl); unfold varIx at e9; omega
  have hwj := hb.wt _ hj0 hlj
  rw [lkN_get hj0] at hwj
  have hsj : σ (t.getD j 0) = ap σ (bl.getD (varIx (t.getD j 0)) []) := by rw [hσ.bound hlj, lkN_get hj0]
  have hfl : (fullX σ (bl.getD (-1 - (t.getD j 0)).toNat [])).length ≤ 60 := fullX_len
  refine qc ?_
  refine jl [intsH 2 wv ws, cellsH ub [ov] 234, slH 27 1 ov 48 ocs] L 12 [] [[], [], [1], [2], [3], [], [], [5, 6], [7], [8], [4, 9], [10]] (phiL [qe (ptr ub 0), qe (ptr ub 0), qe (ptr ub 0), qe (ptr ub 0), qe ov, qe tv, qe (ii ((j : Int)) : Value), qe (.pointer (some (elemA tv (j)))), qe (ii (t.getD j 0)), qe (ii ((-1) - (t.getD j 0))), qe (.pointer (some (elemA ov (((-1) - (t.getD j 0)).toNat)))), qe a1]) (ownL []) mixed rfl rfl (by kernel_rfl) ?_ ?_
  ·refine pD (fun W R z9 => ?_) ?_
   ·refine qi (qj (ptr ub 0) rfl ?_)
    exact ⟨rfl, rfl, rfl⟩
   refine pD (fun W R z9 => ?_) ?_
   ·refine qi (qj (ptr ub 0) rfl ?_)
    exact ⟨rfl, rfl, rfl⟩
   refine pD (fun W R z9 => ?_) ?_
   ·rw [eS (l := [(1, _)]) ⟨z9 1 rfl, ⟨⟩⟩]
    refine qi (ja rfl ?_)
    exact ⟨rfl, rfl, rfl⟩
   refine pD (fun W R z9 => ?_) ?_
   ·rw [eS (l := [(2, _)]) ⟨z9 2 rfl, ⟨⟩⟩]
    refine qi (qm (0) jE rfl sizeOf34 (by decide) rfl rfl ?_)
    exact ⟨rfl, rfl, rfl⟩
   refine pD (fun W R z9 => ?_) ?_
   ·rw [eS (l := [(3, _)]) ⟨z9 3 rfl, ⟨⟩⟩]
    refine qi (qh isAgg34 rfl (Rd.own [_] rfl rfl) ?_)
    exact ⟨rfl, rfl, rfl⟩
   refine pD (fun W R z9 => ?_) ?_
   ·refine qi (qj (tv) rfl ?_)
    exact ⟨rfl, rfl, rfl⟩
   refine pD (fun W R z9 => ?_) ?_
   ·refine qi (qj (ii ((j : Int))) rfl ?_)
    exact ⟨rfl, rfl, rfl⟩
   refine pD (fun W R z9 => ?_) ?_
   ·rw [eS (l := [(5, _), (6, _)]) ⟨z9 5 rfl, z9 6 rfl, ⟨⟩⟩]
    refine qi (ql j qd qn rfl rfl rfl ht.slv (by omega) (Nat.mul_one _) ?_)
    exact ⟨rfl, rfl, rfl⟩
   refine pD (fun W R z9 => ?_) ?_
   ·rw [eS (l := [(7, _)]) ⟨z9 7 rfl, ⟨⟩⟩]
    refine qi (qh qD rfl (ht.rd (by omega)) ?_)
    exact ⟨rfl, rfl, rfl⟩
   refine pD (fun W R z9 => ?_) ?_
   ·rw [eS (l := [(8, _)]) ⟨z9 8 rfl, ⟨⟩⟩]
    refine qi (jd ((-1) - (t.getD j 0)) rfl rfl (by omega) (by omega) ?_)
    exact ⟨rfl, rfl, rfl⟩
   refine pD (fun W R z9 => ?_) ?_
   ·rw [eS (l := [(4, _), (9, _)]) ⟨z9 4 rfl, z9 9 rfl, ⟨⟩⟩]
    refine qi (ql (((-1) - (t.getD j 0)).toNat) qG qo rfl rfl (by omega) (SlV.own [_, _] rfl) (by omega) (Nat.mul_one _) ?_)
    exact ⟨rfl, rfl, rfl⟩
   refine pD (fun W R z9 => ?_) ?_
   ·rw [eS (l := [(10, _)]) ⟨z9 10 rfl, ⟨⟩⟩]
    refine qi (qh qM rfl (Rd.sl [_, _] rfl he1) ?_)
    exact ⟨rfl, rfl, rfl⟩
   exact stepsP.nil
  intro W hphi
  rw [eS (l := [(0, _), (11, _)]) ⟨(hphi 0 (by decide)), (hphi 11 (by decide)), ⟨⟩⟩]
  show XL _ _ _ _ _ _ _ (intsH 2 wv ws :: cellsH ub [ov] 234 :: slH 27 1 ov 48 ocs :: L)
  refine qW (qw (A := [_, _])) ?_
  show XL _ _ _ _ _ _ _ (slH 27 1 ov 48 ocs :: intsH 2 wv ws :: cellsH ub [ov] 234 :: L)
  refine qW (qw (A := [_, _])) ?_
  show XL _ _ _ _ _ _ _ (cellsH ub [ov] 234 :: slH 27 1 ov 48 ocs :: intsH 2 wv ws :: L)
  refine cX (qr (args := [ptr ub 0, a1]) call217 rfl (ih _ hrj hov hC hb ha1 hσ hρ (fun m hm h0 => hρ _ hj0 m (by rw [lkN_get hj0]; exact hm) h0) (fun i hi => hwj.geD hi) (by have := hwj.len; unfold varIx at this; omega)) ?_)
  rintro v8 _ _ _ ⟨hs3, rfl, rfl⟩
  refine qg (v8) rfl (qb (qc (qc (qa (qf (v8) rfl (cX (qF qd rfl (intsH.slv [] rfl) (cX (jF rfl rfl (qb ?_))))))))))
  refine qv (p := (((((fullX σ ((bl.getD (((-1) - (t.getD j 0)).toNat) [])))).length : Nat) : Int) : Int) = 0) rfl (fun h6 => ?_) (fun h6 => ?_)
  ·have hbig := (fullX_nil hwj.len.1 (hσ.good hb)).1 (List.eq_nil_of_length_eq_zero (by unfold varIx; omega))
   refine qc (qa (cX (qS (s := 1) [] [ii (0)] [] qd qn ju rfl (by decide) rfl CellsAre.nil rfl ?_)))
   intro v9 hv6
   refine qg (v9) rfl (qb (qz (qk (qk (qA (qk (qk (qA (qk (qs (L' := intsH 2 v9 ([]) :: cellsH ub [ov] 234 :: slH 27 1 ov 48 ocs :: L) [v9] (v9) (.tmp rfl .nil) rfl rF rF (sC (sD (sC (sC (sD sR))))) ?_))))))))))
   have e9 : fullX σ t = [] := full_no (σ := σ) (j := j) (by omega) (by rw [hsj]; omega)
   rw [e9]
   exact ⟨(jJ hv6), rfl, rfl⟩
  have hfx : fullX σ (bl.getD (varIx (t.getD j 0)) []) = ap σ (bl.getD (varIx (t.getD j 0)) []) := fullX_yes (fun e => by (have e9 : (fullX σ (bl.getD (varIx (t.getD j 0)) [])).length = 0 := by rw [e]; rfl); unfold varIx at e9; omega)
  refine qx (qa (qf (wv) rfl (qf (v8) rfl (XL.freezeF [] _ _ rfl (fun F1 le1 hz1 => ?_)))))
  have hf1 : IntsF F1 v8 ((fullX σ ((bl.getD (((-1) - (t.getD j 0)).toNat) [])))) := intsH.fz (xs := (fullX σ ((bl.getD (((-1) - (t.getD j 0)).toNat) [])))) hz1.fz
  refine cX (XOp.appendI [_, _] _ qd typeInfo2 rfl rfl rfl rfl rfl rfl hf1 (by (try simp only [List.length_append, List.length_nil, List.length_cons, List.length_singleton, List.length_take, List.length_drop]); omega) ?_)
  intro v10 hs4 hn3 hm1
  refine qg (v10) rfl (qb (qc (qa (qf (v10) rfl (cX (qF qd rfl (intsH.slv [_, _] rfl) (cX (XOp.gtr rfl rfl (qb ?_)))))))))
  refine qv (p := ((((ws ++ ((fullX σ ((bl.getD (((-1) - (t.getD j 0)).toNat) []))))).length : Nat) : Int) : Int) > 60) rfl (fun h7 => ?_) (fun h7 => ?_)
  ·have hnext : ws ++ ((fullX σ ((bl.getD (((-1) - (t.getD j 0)).toNat) [])))) = ws ++ σ (t.getD j 0) := by rw [hsj, ← hfx]; rfl
   have hbig2 : 60 < (ws ++ σ (t.getD j 0)).length := by rw [← hnext]; omega
   refine qc (qa (cX (qS (s := 1) [] [ii (0)] [] qd qn ju rfl (by decide) rfl CellsAre.nil rfl ?_)))
   intro v11 hv7
   refine qg (v11) rfl (qb (qz (qA (qk (qk (qA (qk (qs (L' := intsH 2 v11 ([]) :: cellsH ub [ov] 234 :: slH 27 1 ov 48 ocs :: L) [v11] (v11) (.tmp rfl .nil) rfl rF le1 (sC (sC (sC (sD sR)))) ?_))))))))
   have e9 : fullX σ t = [] := full_no (σ := σ) (j := j) (by omega) (by rw [List.length_append] at hbig2; omega)
   rw [e9]
   exact ⟨(jJ hv7), rfl, rfl⟩
  have hnext : ws ++ ((fullX σ ((bl.getD (((-1) - (t.getD j 0)).toNat) [])))) = ws ++ σ (t.getD j 0) := by rw [hsj, ← hfx]; rfl
  have hnlen : (ws ++ ((fullX σ ((bl.getD (((-1) - (t.getD j 0)).toNat) []))))).length ≤ 60 := by omega
  refine qx (qa (qf (ii ((j : Int))) rfl (cX (qL (((j + 1 : Nat) : Int)) rfl rfl (by omega) (by omega) (qg (ii (((j + 1 : Nat) : Int))) rfl (qb ?_))))))
  exact ⟨(j + 1, v10, ws ++ ((fullX σ ((bl.getD (((-1) - (t.getD j 0)).toNat) []))))), _, FLe.refl _, le1, ⟨rfl, rfl, rfl, rfl, ⟨⟩⟩, (qC (qw (A := [_])) (qC (qw (A := [_])) (qC (qw (A := [_, _])) (sC (sC (sC sR)))))), ⟨rfl, (hs4), (by (try dsimp only) <;> omega), (by (try dsimp only); rw [ap_take (by omega), ← hws]; exact hnext), (by (try dsimp only); exact hnlen)⟩, (by omega)⟩
 refine jf (qu (qu (qN (qc (qa (qf (wv) rfl (qg (wv) rfl (qb (qz (qs (L' := intsH 2 wv ws :: cellsH ub [ov] 234 :: slH 27 1 ov 48 ocs :: L) [wv] (wv) (.tmp rfl .nil) rfl rF rF (sC (sC (sC sR))) ?_))))))))))
 have e9 : fullX σ t = ws := (full_end (by omega) (by omega)).trans hws.symm
 rw [e9]
 exact ⟨hwv, rfl, rfl⟩

theorem full_spec (k : Nat) : ∀ {F : FH} {L : List HP} {ub : Nat} {ov : Value} {ocs : List Value} {ar : List Int} {bl : RowL} (hov : IsSl ov) (hC : RowsC F ocs bl) (hb : BOk ar bl) {σ : Sbs} {ρ : Int → Nat} {tv : Value} {t : List Int} (ht : IntsF F tv t) (hσ : Sol bl σ) (hρ : Acyc bl ρ) (htk : ∀ m ∈ t, m < 0 → ρ m < k) (htg : ∀ i, i < t.length → -48 ≤ t.getD i 0) (htl : t.length ≤ 200), Does prog 217 [ptr ub 0, tv] F (cellsH ub [ov] 234 :: slH 27 1 ov 48 ocs :: L) (fun v F' L' => IsSl v ∧ F = F' ∧ intsH 2 v ((fullX σ t)) :: cellsH ub [ov] 234 :: slH 27 1 ov 48 ocs :: L = L') := by
  induction k using Nat.strongRecOn with
  | _ k ih =>
    intros
    exact full_step ih (by assumption) (by assumption) (by assumption) (by assumption) (by assumption) (by assumption) (by assumption) (by assumption) (by assumption)


/- spec.l11Try -/
set_option maxHeartbeats 1000000 in
set_option maxRecDepth 20000 in
theorem try_spec {F : FH} {L : List HP} {arv : Value} {ar : List Int} (har : IntsF F arv ar) {rsv : Value} {rs : List (List Int × List Int)} (hrs : PairsF F rsv rs) {o : Nat} {p : Nat} {u : Nat} (hsys : sysOk ar rs = true) (ho : o < rs.length) (hu : u < rs.length) (hp : p < (rs.getD o ([], [])).1.length) :
    Does prog 214 [.agg #[arv, rsv], ii ((o : Int)), ii ((p : Int)), ii ((u : Int))] F (L) (fun v F' L' => ∃ (x : Bool) (b7 : Nat) (o7 : Value) (bc : List Value) (l9 : RowL), (.tuple #[ptr b7 0, .bool x] : Value) = v ∧ IsSl o7 ∧ RowsC F' bc l9 ∧ (x = true → MguP ar rs o p u l9) ∧ (x = false → ∀ θ, GoodS ar θ → ap θ (sub ar (rs.getD o ([], [])).1 p) ≠ ap θ (awayL (rs.getD u ([], [])).1)) ∧ cellsH b7 [o7] 234 :: slH 27 1 o7 48 bc :: L = L') := by
 refine qI func214 rfl rfl rfl ?_
 have hlo : termOk ar (rs.getD o ([], [])).1 = true := rule_L hsys ho
 have hllo : 1 ≤ (rs.getD o ([], [])).1.length ∧ (rs.getD o ([], [])).1.length ≤ 60 := termOk_len hlo
 have hglo : ∀ k, k < (rs.getD o ([], [])).1.length → -24 ≤ (rs.getD o ([], [])).1.getD k 0 := fun k h => termOk_ge hlo h
 have hlu : termOk ar (rs.getD u ([], [])).1 = true := rule_L hsys hu
 have hllu : 1 ≤ (rs.getD u ([], [])).1.length ∧ (rs.getD u ([], [])).1.length ≤ 60 := termOk_len hlu
 have hglu : ∀ k, k < (rs.getD u ([], [])).1.length → -24 ≤ (rs.getD u ([], [])).1.getD k 0 := fun k h => termOk_ge hlu h
 have hro : termOk ar (rs.getD o ([], [])).2 = true := rule_R hsys ho
 have hlro : 1 ≤ (rs.getD o ([], [])).2.length ∧ (rs.getD o ([], [])).2.length ≤ 60 := termOk_len hro
 have hgro : ∀ k, k < (rs.getD o ([], [])).2.length → -24 ≤ (rs.getD o ([], [])).2.getD k 0 := fun k h => termOk_ge hro h
 have hru : termOk ar (rs.getD u ([], [])).2 = true := rule_R hsys hu
 have hlru : 1 ≤ (rs.getD u ([], [])).2.length ∧ (rs.getD u ([], [])).2.length ≤ 60 := termOk_len hru
 have hgru : ∀ k, k < (rs.getD u ([], [])).2.length → -24 ≤ (rs.getD u ([], [])).2.getD k 0 := fun k h => termOk_ge hru h
 have hrl := (sysOk_iff.1 hsys).2.1
 have hsig := (sysOk_iff.1 hsys).1
 have hsl := sigOk_spec hsig
 have hee := (termW_of hlo).endN hp
 refine qc (qa (cX (jc [arv, rsv] rfl rfl ?_)))
 intro b1
 refine qg ((.pointer none)) rfl (qg (.bool (false)) rfl (qb (qc (qa (cX (XOp.makeSlice (n := 48) (bytes := 24) [sN] qG qo typeInfo27 rfl zeroValue27 rfl rfl rfl rfl (by omega) (by omega) ?_))))))
 intro v1 hv1
 rw [nils]
 have hc1 : RowsC F _ _ := RowsC.nils 48
 refine cX (jw [v1] [sN] [(0, 1)] [(0, [v1])] jE zeroValue234 rfl (.cons rfl sizeOf34 PlacesAre.nil) rfl (.cons (cells_one (jJ hv1)) CellsAre.nil) (cX (jc [v1] rfl rfl ?_)))
 intro b2
 refine qg (ptr b2 0) rfl (qb (qc (qa (cX (qm (1) qQ rfl jx (by decide) rfl rfl (cX (qh jG rfl (Rd.own [_, _] rfl rfl) (qf (ii ((o : Int))) rfl (cX (ql o qZ jk rfl rfl rfl hrs.slv (by omega) rfl (cX (jp (o * 2) qP rfl qo (by decide) rfl rfl ?_))))))))))))
 obtain ⟨a1, a2, ha1, ha2, hr1, hr2⟩ := hrs.rd (i := o) (by omega)
 refine cX (qh qM rfl (hr1 _) (qg (a1) rfl (qb (qc (qa (cX (qm (0) qQ rfl qR (by decide) rfl rfl (cX (qE [arv] ji qR rfl rfl (Rd.ownN [_, _] rfl rfl) (qf (a1) rfl (qf (ii ((p : Int))) rfl (cX (qr (args := [.agg #[arv], a1, ii (p : Int)]) call215 rfl (l13End_spec (q := p) har ha1 (ho := (termW_of hlo)) (hp := (hp))) ?_)))))))))))))
 rintro _ _ _ _ ⟨rfl, rfl, rfl⟩
 refine qg (ii (((endN ar ((rs.getD o ([], [])).1) p : Nat) : Int))) rfl (qb (qc (X.free0 mixed (by kernel_rfl) (by kernel_rfl) (fun _ _ _ _ _ h => by obtain ⟨h1 | h1, _⟩ := h <;> cases h1) (fun _ _ _ h => by obtain ⟨h1 | h1, _⟩ := h <;> cases h1) ?_)))
 obtain ⟨a3, a4, ha3, ha4, hr3, hr4⟩ := hrs.rd (i := u) (by omega)
 refine XA.drawG [cellsH b2 [v1] 234, slH 27 1 v1 48 ((List.replicate 48 (sN))), cellsH b1 [arv, rsv] 32] L 15 [[], [], [], [], [], [], [], [], [], [], [], [], [], [], []] [[], [], [1], [], [], [], [], [4, 5, 6], [], [8], [], [9, 10], [11], [12], [13]] [[], [], [], [], [], [], [], [], [], [], [], [], [], [], []] (phiG [fun FF us v => v = ptr b2 0, fun FF us v => v = ptr b1 0, fun FF us v => v = (.agg #[arv] : Value), fun FF us v => v = ptr b2 0, fun FF us v => v = a1, fun FF us v => v = (ii ((p : Int)) : Value), fun FF us v => v = (ii (((endN ar ((rs.getD o ([], [])).1) p : Nat) : Int)) : Value), fun FF us v => (v : Value) = v ∧ (IntsF FF v ((((rs.getD o ([], [])).1).drop p).take ((endN ar ((rs.getD o ([], [])).1) p) - p))) ∧ (isNil v = isNil a1), fun FF us v => v = ptr b1 1, fun FF us v => v = rsv, fun FF us v => v = (ii ((u : Int)) : Value), fun FF us v => v = (.pointer (some (elemA rsv (u * 2))) : Value), fun FF us v => v = (.pointer (some (elemA rsv (u * 2))) : Value), fun FF us v => v = a3, fun FF us v => ((v) : Value) = v ∧ (IntsF FF (v) (awayL ((rs.getD u ([], [])).1)))]) (ownL [fun us v => [], fun us v => [], fun us v => [], fun us v => [], fun us v => [], fun us v => [], fun us v => [], fun us v => [], fun us v => [], fun us v => [], fun us v => [], fun us v => [], fun us v => [], fun us v => [], fun us v => []]) rfl rfl (by kernel_rfl) (by kernel_rfl) (MonoG.get (mC (fun le h => h) (mC (fun le h => h) (mC (fun le h => h) (mC (fun le h => h) (mC (fun le h => h) (mC (fun le h => h) (mC (fun le h => h) (mC (fun le h => ⟨h.1, h.2.1.mono le, h.2.2⟩) (mC (fun le h => h) (mC (fun le h => h) (mC (fun le h => h) (mC (fun le h => h) (mC (fun le h => h) (mC (fun le h => h) (mC (fun le h => ⟨h.1, h.2.mono le⟩) MonoG.nil)))))))))))))))) ?_ ?_
 ·refine gD (fun W Fs R lF z9 => ?_) ?_
  ·refine qi (qj (ptr b2 0) rfl ?_)
   exact ⟨rfl, rfl⟩
  refine gD (fun W Fs R lF z9 => ?_) ?_
  ·refine qi (qm (0) qQ rfl qR (by decide) rfl rfl ?_)
   exact ⟨rfl, rfl⟩
  refine gD (fun W Fs R lF z9 => ?_) ?_
  ·replace har := har.mono lF
   replace hrs := hrs.mono lF
   replace hc1 := hc1.mono lF
   replace ha1 := ha1.mono lF
   replace ha3 := ha3.mono lF
   replace hr3 := Rd.monoA hr3 lF
   rw [eS (l := [(1, _)]) ⟨z9 1 rfl, ⟨⟩⟩]
   refine qi (qE [arv] ji qR rfl rfl (Rd.ownN [_, _] rfl rfl) ?_)
   exact ⟨rfl, rfl⟩
  refine gD (fun W Fs R lF z9 => ?_) ?_
  ·refine qi (qj (ptr b2 0) rfl ?_)
   exact ⟨rfl, rfl⟩
  refine gD (fun W Fs R lF z9 => ?_) ?_
  ·refine qi (qj (a1) rfl ?_)
   exact ⟨rfl, rfl⟩
  refine gD (fun W Fs R lF z9 => ?_) ?_
  ·refine qi (qj (ii ((p : Int))) rfl ?_)
   exact ⟨rfl, rfl⟩
  refine gD (fun W Fs R lF z9 => ?_) ?_
  ·refine qi (qj (ii (((endN ar ((rs.getD o ([], [])).1) p : Nat) : Int))) rfl ?_)
   exact ⟨rfl, rfl⟩
  refine gD (fun W Fs R lF z9 => ?_) ?_
  ·replace har := har.mono lF
   replace hrs := hrs.mono lF
   replace hc1 := hc1.mono lF
   replace ha1 := ha1.mono lF
   replace ha3 := ha3.mono lF
   replace hr3 := Rd.monoA hr3 lF
   rw [eS (l := [(4, _), (5, _), (6, _)]) ⟨z9 4 rfl, z9 5 rfl, z9 6 rfl, ⟨⟩⟩]
   refine qi (XOp.sliceI p (endN ar ((rs.getD o ([], [])).1) p) qd qn rfl ha1 ⟨_, rfl⟩ ⟨_, rfl⟩ (by omega) (by omega) ?_)
   intro v4 hv3 hn2
   exact ⟨⟨rfl, hv3, hn2⟩, rfl⟩
  refine gD (fun W Fs R lF z9 => ?_) ?_
  ·refine qi (qm (1) qQ rfl jx (by decide) rfl rfl ?_)
   exact ⟨rfl, rfl⟩
  refine gD (fun W Fs R lF z9 => ?_) ?_
  ·replace har := har.mono lF
   replace hrs := hrs.mono lF
   replace hc1 := hc1.mono lF
   replace ha3 := ha3.mono lF
   replace hr3 := Rd.monoA hr3 lF
   rw [eS (l := [(8, _)]) ⟨z9 8 rfl, ⟨⟩⟩]
   refine qi (qh jG rfl (Rd.own [_, _] rfl rfl) ?_)
   exact ⟨rfl, rfl⟩
  refine gD (fun W Fs R lF z9 => ?_) ?_
  ·refine qi (qj (ii ((u : Int))) rfl ?_)
   exact ⟨rfl, rfl⟩
  refine gD (fun W Fs R lF z9 => ?_) ?_
  ·replace har := har.mono lF
   replace hrs := hrs.mono lF
   replace hc1 := hc1.mono lF
   replace ha3 := ha3.mono lF
   replace hr3 := Rd.monoA hr3 lF
   rw [eS (l := [(9, _), (10, _)]) ⟨z9 9 rfl, z9 10 rfl, ⟨⟩⟩]
   refine qi (ql u qZ jk rfl rfl rfl hrs.slv (by omega) rfl ?_)
   exact ⟨rfl, rfl⟩
  refine gD (fun W Fs R lF z9 => ?_) ?_
  ·rw [eS (l := [(11, _)]) ⟨z9 11 rfl, ⟨⟩⟩]
   refine qi (jp (u * 2) qP rfl qo (by decide) rfl rfl ?_)
   exact ⟨rfl, rfl⟩
  refine gD (fun W Fs R lF z9 => ?_) ?_
  ·replace har := har.mono lF
   replace hc1 := hc1.mono lF
   replace ha3 := ha3.mono lF
   replace hr3 := Rd.monoA hr3 lF
   rw [eS (l := [(12, _)]) ⟨z9 12 rfl, ⟨⟩⟩]
   refine qi (qh qM rfl (hr3 _) ?_)
   exact ⟨rfl, rfl⟩
  refine gD (fun W Fs R lF z9 => ?_) ?_
  ·replace har := har.mono lF
   replace hc1 := hc1.mono lF
   replace ha3 := ha3.mono lF
   rw [eS (l := [(13, _)]) ⟨z9 13 rfl, ⟨⟩⟩]
   refine qi (XOp.frzF <| qr (args := [a3, ii (24)]) call216 rfl (away2_spec (k := 24) ha3 (hk24 := (rfl)) (hlt := (by omega)) (htg := (fun i hi => by have := hglu i hi; omega))) ?_)
   rintro v5 _ _ _ ⟨rfl, hs2, rfl⟩
   refine ⟨_, _, rfl, fun F1 le1 hz1 => ?_⟩
   replace har := har.mono le1
   replace hc1 := hc1.mono le1
   have hf1 : IntsF F1 v5 ((awayL ((rs.getD u ([], [])).1))) := intsH.fz (xs := (awayL ((rs.getD u ([], [])).1))) hz1.fz
   exact ⟨⟨rfl, hf1⟩, rfl⟩
  exact stepsG.nil
 intro W F2 le2 hphi
 obtain ⟨e7, f7_1hv, f7_1hn⟩ := hphi 7 (by decide)
 obtain ⟨e14, f14_1ha⟩ := hphi 14 (by decide)
 generalize hu1 : (W 7) = u1 at e7 f7_1hv f7_1hn e14 f14_1ha
 generalize hu2 : ((W 14)) = u2 at e7 f7_1hv f7_1hn e14 f14_1ha
 rw [eS (l := [(0, _), (2, _), (3, _), (7, u1), (14, u2)]) ⟨(hphi 0 (by decide)), (hphi 2 (by decide)), (hphi 3 (by decide)), hu1, hu2, ⟨⟩⟩]
 replace har := har.mono le2
 replace hc1 := hc1.mono le2
 show XL _ _ _ _ _ _ _ (cellsH b2 [v1] 234 :: slH 27 1 v1 48 ((List.replicate 48 (sN))) :: cellsH b1 [arv, rsv] 32 :: L)
 refine qW (qw (A := [_])) ?_
 show XL _ _ _ _ _ _ _ (slH 27 1 v1 48 ((List.replicate 48 (sN))) :: cellsH b2 [v1] 234 :: cellsH b1 [arv, rsv] 32 :: L)
 refine qW (qw (A := [_])) ?_
 show XL _ _ _ _ _ _ _ (cellsH b2 [v1] 234 :: slH 27 1 v1 48 ((List.replicate 48 (sN))) :: cellsH b1 [arv, rsv] 32 :: L)
 refine cX (qr (args := [.agg #[arv], ptr b2 0, u1, u2]) call240 rfl (meet_spec har ((jJ hv1)) hc1 f7_1hv f14_1ha (termW_of (sub_ok hlo hp)) (away_W hlu)) ?_)
 rintro _ F3 _ le3 ⟨x1, bc1, l1, rfl, hb1, hy1, hn3, rfl⟩
 refine qg (ptr b2 0) rfl (qg (.bool (x1)) rfl (qb (qz (qs (L' := cellsH b2 [v1] 234 :: slH 27 1 v1 48 bc1 :: L) [ptr b2 0, .bool (x1)] (.tuple #[ptr b2 0, .bool (x1)]) (.tmp rfl (.tmp rfl .nil)) rfl (qp le2 le3) rF (sC (sC (sD sR))) ?_))))
 exact ⟨_, _, _, _, _, rfl, (jJ hv1), hb1, hy1, hn3, rfl⟩

/- spec.l2Order -/
theorem l2OrderL_spec {F : FH} {L : List HP} {tv : Value} {t : List Int} (ht : IntsF F tv t) (hlt : t.length ≤ 4000000) :
    Does prog 147 [tv] F (L) (fun v F' L' => F = F' ∧ IsSl v ∧ intsH 2 v (orderL t) :: L = L') := by
 refine qI func147 rfl rfl rfl (qc (qa (qg (sN) rfl (qb (qc (qa (cX (qS (s := 1) [] [ii (0)] [] qd qn ju rfl (by decide) rfl CellsAre.nil rfl ?_))))))))
 intro v1 hv1
 refine qg (v1) rfl (qb (qc (qc (qa (qg (ii (0)) rfl (qb (qJ (jh (α := Nat × Value × List Int × FH) (fun xQ => [(0, tv), (3, xQ.2.1), (4, ii (((xQ.1 : Nat) : Int)))]) (fun xQ => intsH 2 xQ.2.1 xQ.2.2.1 :: L) (fun xQ F' => xQ.2.2.2 = F' ∧ F ≤ xQ.2.2.2 ∧ (IsSl xQ.2.1) ∧ (xQ.1 ≤ t.length) ∧ (xQ.2.2.1 = orderL (t.take xQ.1)) ∧ (xQ.2.2.1.length ≤ xQ.1)) (fun xQ => t.length - xQ.1) (0, v1, [], F) ⟨rfl, rfl, rfl, ⟨⟩⟩ (sC sR) ⟨rfl, FLe.refl _, ((jJ hv1)), (by (try dsimp only) <;> omega), (rfl), (Nat.le_refl _)⟩ ?_))))))))
 rintro ⟨j, ov, os, G1⟩ rE _ _ ⟨rfl, leG, hov, hj, hos, hol⟩
 show X _ _ _ _ (envs [(0, tv), (3, ov), (4, ii ((j : Int)))] rE) _ (intsH 2 ov os :: L)
 replace leG : F ≤ G1 := leG
 dsimp only at hov hj hos hol
 have leG1 := leG
 replace ht := ht.mono leG1
 refine qc (qc (qa (qf (ii ((j : Int))) rfl (qf (tv) rfl (cX (qF qd rfl ht.slv (cX (qK rfl rfl (qb ?_)))))))))
 refine qv (p := (j : Int) < (t.length : Int)) rfl (fun h1 => ?_) (fun h1 => ?_)
 ·refine qx (qc (qJ (qc (qa (qf (tv) rfl (qf (ii ((j : Int))) rfl (cX (ql j qd qn rfl rfl rfl ht.slv (by omega) (Nat.mul_one _) (cX (qh qD rfl (ht.rd (by omega)) (cX (qK rfl rfl (qf (.bool (decide ((t.getD j 0 : Int) < 0))) rfl ?_)))))))))))))
  by_cases h2 : (t.getD j 0 : Int) < 0
  ·refine qy (t := 17) rfl (vT h2) (qj (ov) rfl (qy (t := 17) rfl (vT h2) (qj (tv) rfl (qy (t := 17) rfl (vT h2) (qj (ii ((j : Int))) rfl (qy (t := 17) rfl (vT h2) (ql j qd qn rfl rfl rfl ht.slv (by omega) (Nat.mul_one _) (qy (t := 17) rfl (vT h2) (qh qD rfl (ht.rd (by omega)) (qy (t := 17) rfl (vT h2) (XOp.lend [] _ _ rfl (fun F1 le1 hz1 => ?_))))))))))))
   have hf1 : IntsF _ ov os := intsH.fz (xs := os) hz1
   refine id (qr (args := [ov, ii (t.getD j 0)]) call206 rfl (l1Has_spec (n := t.getD j 0) hf1 (hbd := (by first | assumption | rfl | omega | simp))) ?_)
   rintro _ _ _ _ ⟨rfl, rfl, rfl⟩
   show XL _ _ _ _ _ _ _ (intsH 2 ov os :: L)
   refine qy (t := 17) rfl (vT h2) (jz rfl (cX (qX (.bool (decide (¬((t.getD j 0) ∈ os)))) (vT h2) rfl (qb ?_))))
   refine qv (p := ¬((t.getD j 0) ∈ os)) rfl (fun h3 => ?_) (fun h3 => ?_)
   ·have hor := h3
    refine qa (qf (ov) rfl (qf (tv) rfl (qf (ii ((j : Int))) rfl (cX (ql j qd qn rfl rfl rfl ht.slv (by omega) (Nat.mul_one _) (cX (qh qD rfl (ht.rd (by omega)) (cX (qS (s := 1) [ii (t.getD j 0)] [ii (0)] [(0, [ii (t.getD j 0)])] qd qn ju rfl (by decide) rfl (.cons rfl CellsAre.nil) rfl ?_)))))))))
    intro v2 hv2
    refine cX (XOp.append1 (u := t.getD j 0) [_] _ qd typeInfo2 rfl rfl rfl rfl rfl rfl (SlV.own [] rfl) (Rd.sl [] rfl rfl) (by (try simp only [List.length_append, List.length_nil, List.length_cons, List.length_singleton, List.length_take, List.length_drop]); omega) ?_)
    intro v3 hs1 hn1
    refine qg (v3) rfl (qb (qa (qf (ii ((j : Int))) rfl (cX (qL (((j + 1 : Nat) : Int)) rfl rfl (by omega) (by omega) (qg (ii (((j + 1 : Nat) : Int))) rfl (qb ?_)))))))
    exact ⟨(j + 1, v3, os ++ [t.getD j 0], G1), _, leG1, rF, ⟨rfl, rfl, rfl, ⟨⟩⟩, (sD (sC sR)), ⟨rfl, leG1, (hs1), (by (try dsimp only) <;> omega), (by (try dsimp only); first | exact ord_skip (by omega) hos (.inl (by omega)) | exact ord_skip (by omega) hos (.inr (by simpa using hor)) | exact ord_add (by omega) hos (by omega) (by simpa using hor)), (by (try dsimp only); (try rw [List.length_append, List.length_singleton]); omega)⟩, (by omega)⟩
   have hor := h3
   refine qx (qa (qf (ii ((j : Int))) rfl (cX (qL (((j + 1 : Nat) : Int)) rfl rfl (by omega) (by omega) (qg (ii (((j + 1 : Nat) : Int))) rfl (qb ?_))))))
   exact ⟨(j + 1, ov, os, G1), _, leG1, rF, ⟨rfl, rfl, rfl, ⟨⟩⟩, (sC sR), ⟨rfl, leG1, (hov), (by (try dsimp only) <;> omega), (by (try dsimp only); first | exact ord_skip (by omega) hos (.inl (by omega)) | exact ord_skip (by omega) hos (.inr (by simpa using hor)) | exact ord_add (by omega) hos (by omega) (by simpa using hor)), (by (try dsimp only); (try rw [List.length_append, List.length_singleton]); omega)⟩, (by omega)⟩
  refine qt (t := 17) rfl (vF h2) (qt (t := 17) rfl (vF h2) (qt (t := 17) rfl (vF h2) (qt (t := 17) rfl (vF h2) (qt (t := 17) rfl (vF h2) (qt (t := 17) rfl (vF h2) (qt (t := 17) rfl (vF h2) (cX (qV (.bool (false)) (vF h2) rfl (qb (jv rfl ?_))))))))))
  refine qx (qa (qf (ii ((j : Int))) rfl (cX (qL (((j + 1 : Nat) : Int)) rfl rfl (by omega) (by omega) (qg (ii (((j + 1 : Nat) : Int))) rfl (qb ?_))))))
  exact ⟨(j + 1, ov, os, G1), _, leG1, rF, ⟨rfl, rfl, rfl, ⟨⟩⟩, (sC sR), ⟨rfl, leG1, (hov), (by (try dsimp only) <;> omega), (by (try dsimp only); first | exact ord_skip (by omega) hos (.inl (by omega)) | exact ord_skip (by omega) hos (.inr (by simpa using hor)) | exact ord_add (by omega) hos (by omega) (by simpa using hor)), (by (try dsimp only); (try rw [List.length_append, List.length_singleton]); omega)⟩, (by omega)⟩
 refine jf (qu (qu (qN (qc (qa (qf (ov) rfl (qg (ov) rfl (qb (qz (qs (L' := intsH 2 ov os :: L) [ov] (ov) (.tmp rfl .nil) rfl rF leG1 (sC sR) ?_))))))))))
 refine ⟨rfl, hov, ?_⟩
 have hxs : (orderL t : List Int) = os := by rw [hos, show j = t.length from by omega, List.take_length]
 exact congrArg (fun z => intsH 2 _ z :: L) hxs

/- spec.l2By -/
theorem l2ByL_spec {F : FH} {L : List HP} {wv : Value} {w : List Int} (hw : IntsF F wv w) {tv : Value} {t : List Int} (ht : IntsF F tv t) (hno : w.Nodup) (hlo : w.length ≤ 4000000) (hlt : t.length ≤ 4000000) :
    Does prog 146 [wv, tv] F (L) (fun v F' L' => F = F' ∧ IsSl v ∧ intsH 2 v (byL w t) :: L = L') := by
 refine qI func146 rfl rfl rfl (qc (qa (qg (sN) rfl (qb (qc (qa (cX (qS (s := 1) [] [ii (0)] [] qd qn ju rfl (by decide) rfl CellsAre.nil rfl ?_))))))))
 intro v1 hv1
 refine qg (v1) rfl (qb (qc (qc (qa (qg (ii (0)) rfl (qb (qJ (jh (α := Nat × Value × List Int) (fun xQ => [(0, wv), (1, tv), (5, xQ.2.1), (6, ii (((xQ.1 : Nat) : Int)))]) (fun xQ => intsH 2 xQ.2.1 xQ.2.2 :: L) (fun xQ F' => F = F' ∧ (IsSl xQ.2.1) ∧ (xQ.1 ≤ t.length) ∧ (xQ.2.2 = byL w (t.take xQ.1)) ∧ (xQ.2.2.length = xQ.1)) (fun xQ => t.length - xQ.1) (0, v1, []) ⟨rfl, rfl, rfl, rfl, ⟨⟩⟩ (sC sR) ⟨rfl, ((jJ hv1)), (by (try dsimp only) <;> omega), (rfl), (rfl)⟩ ?_))))))))
 rintro ⟨j, ov, os⟩ rE _ _ ⟨rfl, hov, hj, hos, hol⟩
 show X _ _ _ _ (envs [(0, wv), (1, tv), (5, ov), (6, ii ((j : Int)))] rE) _ (intsH 2 ov os :: L)
 dsimp only at hov hj hos hol
 refine qc (qc (qa (qf (ii ((j : Int))) rfl (qf (tv) rfl (cX (qF qd rfl ht.slv (cX (qK rfl rfl (qb ?_)))))))))
 refine qv (p := (j : Int) < (t.length : Int)) rfl (fun h1 => ?_) (fun h1 => ?_)
 ·refine qx (qc (qJ (qc (qa (qf (tv) rfl (qf (ii ((j : Int))) rfl (cX (ql j qd qn rfl rfl rfl ht.slv (by omega) (Nat.mul_one _) (cX (qh qD rfl (ht.rd (by omega)) (qg (ii (t.getD j 0)) rfl (qb (qc (qc (qa (qg (ii (0)) rfl (qb (qJ (jh (α := Nat × Int) (fun xQ => [(0, wv), (1, tv), (5, ov), (6, ii ((j : Int))), (7, ii (xQ.2)), (8, ii (((xQ.1 : Nat) : Int)))]) (fun xQ => intsH 2 ov os :: L) (fun xQ F' => F = F' ∧ (xQ.1 ≤ w.length) ∧ (xQ.2 = byN w xQ.1 (t.getD j 0))) (fun xQ => w.length - xQ.1) (0, (t.getD j 0)) ⟨rfl, rfl, rfl, rfl, rfl, rfl, ⟨⟩⟩ (sC sR) ⟨rfl, (by (try dsimp only) <;> omega), (by_start)⟩ ?_)))))))))))))))))))
  rintro ⟨k, n⟩ rE _ _ ⟨rfl, hk, hn⟩
  show X _ _ _ _ (envs [(0, wv), (1, tv), (5, ov), (6, ii ((j : Int))), (7, ii (n)), (8, ii ((k : Int)))] rE) _ (intsH 2 ov os :: L)
  dsimp only at hk hn
  refine qc (qc (qa (qf (ii ((k : Int))) rfl (qf (wv) rfl (cX (qF qd rfl hw.slv (cX (qK rfl rfl (qf (.bool (decide ((k : Int) < (w.length : Int)))) rfl ?_)))))))))
  by_cases h2 : (k : Int) < (w.length : Int)
  ·refine qy (t := 24) rfl (vT h2) (qj (tv) rfl (qy (t := 24) rfl (vT h2) (qj (ii ((j : Int))) rfl (qy (t := 24) rfl (vT h2) (ql j qd qn rfl rfl rfl ht.slv (by omega) (Nat.mul_one _) (qy (t := 24) rfl (vT h2) (qh qD rfl (ht.rd (by omega)) (qy (t := 24) rfl (vT h2) (qK rfl rfl (cX (qX (.bool (decide ((t.getD j 0 : Int) < 0))) (vT h2) rfl (qb ?_))))))))))))
   refine qv (p := (t.getD j 0 : Int) < 0) rfl (fun h3 => ?_) (fun h3 => ?_)
   ·refine qx (qc (qJ (qc ?_)))
    refine jl [intsH 2 ov os] L 8 [] [[], [], [0, 1], [2], [], [], [4, 5], [6]] (phiL [qe wv, qe (ii ((k : Int)) : Value), qe (.pointer (some (elemA wv (k)))), qe (ii (w.getD k 0)), qe tv, qe (ii ((j : Int)) : Value), qe (.pointer (some (elemA tv (j)))), qe (ii (t.getD j 0))]) (ownL []) mixed rfl rfl (by kernel_rfl) ?_ ?_
    ·refine pD (fun W R z9 => ?_) ?_
     ·refine qi (qj (wv) rfl ?_)
      exact ⟨rfl, rfl, rfl⟩
     refine pD (fun W R z9 => ?_) ?_
     ·refine qi (qj (ii ((k : Int))) rfl ?_)
      exact ⟨rfl, rfl, rfl⟩
     refine pD (fun W R z9 => ?_) ?_
     ·rw [eS (l := [(0, _), (1, _)]) ⟨z9 0 rfl, z9 1 rfl, ⟨⟩⟩]
      refine qi (ql k qd qn rfl rfl rfl hw.slv (by omega) (Nat.mul_one _) ?_)
      exact ⟨rfl, rfl, rfl⟩
     refine pD (fun W R z9 => ?_) ?_
     ·rw [eS (l := [(2, _)]) ⟨z9 2 rfl, ⟨⟩⟩]
      refine qi (qh qD rfl (hw.rd (by omega)) ?_)
      exact ⟨rfl, rfl, rfl⟩
     refine pD (fun W R z9 => ?_) ?_
     ·refine qi (qj (tv) rfl ?_)
      exact ⟨rfl, rfl, rfl⟩
     refine pD (fun W R z9 => ?_) ?_
     ·refine qi (qj (ii ((j : Int))) rfl ?_)
      exact ⟨rfl, rfl, rfl⟩
     refine pD (fun W R z9 => ?_) ?_
     ·rw [eS (l := [(4, _), (5, _)]) ⟨z9 4 rfl, z9 5 rfl, ⟨⟩⟩]
      refine qi (ql j qd qn rfl rfl rfl ht.slv (by omega) (Nat.mul_one _) ?_)
      exact ⟨rfl, rfl, rfl⟩
     refine pD (fun W R z9 => ?_) ?_
     ·rw [eS (l := [(6, _)]) ⟨z9 6 rfl, ⟨⟩⟩]
      refine qi (qh qD rfl (ht.rd (by omega)) ?_)
      exact ⟨rfl, rfl, rfl⟩
     exact stepsP.nil
    intro W hphi
    rw [eS (l := [(3, _), (7, _)]) ⟨(hphi 3 (by decide)), (hphi 7 (by decide)), ⟨⟩⟩]
    show XL _ _ _ _ _ _ _ (intsH 2 ov os :: L)
    refine cX (jF rfl rfl (qb ?_))
    refine qv (p := (w.getD k 0 : Int) = t.getD j 0) rfl (fun h4 => ?_) (fun h4 => ?_)
    ·refine qa (qf (ii ((k : Int))) rfl (cX (jd ((-1) - ((k : Int))) rfl rfl (by omega) (by omega) (qg (ii ((-1) - ((k : Int)))) rfl (qb (qa (qf (ii ((k : Int))) rfl (cX (qL (((k + 1 : Nat) : Int)) rfl rfl (by omega) (by omega) (qg (ii (((k + 1 : Nat) : Int))) rfl (qb ?_)))))))))))
     exact ⟨(k + 1, (-1) - ((k : Int))), _, FLe.refl _, rF, ⟨rfl, rfl, rfl, rfl, rfl, rfl, ⟨⟩⟩, (sC sR), ⟨rfl, (by (try dsimp only) <;> omega), (by (try dsimp only); exact by_hit hno (by omega) (by omega) (by omega))⟩, (by omega)⟩
    refine qx (qa (qf (ii ((k : Int))) rfl (cX (qL (((k + 1 : Nat) : Int)) rfl rfl (by omega) (by omega) (qg (ii (((k + 1 : Nat) : Int))) rfl (qb ?_))))))
    exact ⟨(k + 1, n), _, FLe.refl _, rF, ⟨rfl, rfl, rfl, rfl, rfl, rfl, ⟨⟩⟩, (sC sR), ⟨rfl, (by (try dsimp only) <;> omega), (by (try dsimp only); rw [hn]; exact by_miss (by omega) (by omega))⟩, (by omega)⟩
   refine jf (qu (qu (qN (qa (qf (ov) rfl (qf (ii (n)) rfl (cX (qS (s := 1) [ii (n)] [ii (0)] [(0, [ii (n)])] qd qn ju rfl (by decide) rfl (.cons rfl CellsAre.nil) rfl ?_))))))))
   intro v2 hv2
   refine cX (XOp.append1 (u := n) [_] _ qd typeInfo2 rfl rfl rfl rfl rfl rfl (SlV.own [] rfl) (Rd.sl [] rfl rfl) (by (try simp only [List.length_append, List.length_nil, List.length_cons, List.length_singleton, List.length_take, List.length_drop]); omega) ?_)
   intro v3 hs1 hn1
   refine qg (v3) rfl (qb (qa (qf (ii ((j : Int))) rfl (cX (qL (((j + 1 : Nat) : Int)) rfl rfl (by omega) (by omega) (qg (ii (((j + 1 : Nat) : Int))) rfl (qb ?_)))))))
   exact ⟨(j + 1, v3, os ++ [n]), _, FLe.refl _, rF, ⟨rfl, rfl, rfl, rfl, ⟨⟩⟩, (sD (sC sR)), ⟨rfl, (hs1), (by (try dsimp only) <;> omega), (by (try dsimp only); rw [hos]; exact by_take (by omega) (by_done hn (by omega))), (by (try dsimp only); rw [List.length_append, List.length_singleton]; omega)⟩, (by omega)⟩
  refine qt (t := 24) rfl (vF h2) (qt (t := 24) rfl (vF h2) (qt (t := 24) rfl (vF h2) (qt (t := 24) rfl (vF h2) (qt (t := 24) rfl (vF h2) (cX (qV (.bool (false)) (vF h2) rfl (qb (jv rfl (jf (qu (qu (qN (qa ?_)))))))))))))
  refine qf (ov) rfl (qf (ii (n)) rfl (cX (qS (s := 1) [ii (n)] [ii (0)] [(0, [ii (n)])] qd qn ju rfl (by decide) rfl (.cons rfl CellsAre.nil) rfl ?_)))
  intro v4 hv3
  refine cX (XOp.append1 (u := n) [_] _ qd typeInfo2 rfl rfl rfl rfl rfl rfl (SlV.own [] rfl) (Rd.sl [] rfl rfl) (by (try simp only [List.length_append, List.length_nil, List.length_cons, List.length_singleton, List.length_take, List.length_drop]); omega) ?_)
  intro v5 hs2 hn2
  refine qg (v5) rfl (qb (qa (qf (ii ((j : Int))) rfl (cX (qL (((j + 1 : Nat) : Int)) rfl rfl (by omega) (by omega) (qg (ii (((j + 1 : Nat) : Int))) rfl (qb ?_)))))))
  exact ⟨(j + 1, v5, os ++ [n]), _, FLe.refl _, rF, ⟨rfl, rfl, rfl, rfl, ⟨⟩⟩, (sD (sC sR)), ⟨rfl, (hs2), (by (try dsimp only) <;> omega), (by (try dsimp only); rw [hos]; exact by_take (by omega) (by_done hn (by omega))), (by (try dsimp only); rw [List.length_append, List.length_singleton]; omega)⟩, (by omega)⟩
 refine jf (qu (qu (qN (qc (qa (qf (ov) rfl (qg (ov) rfl (qb (qz (qs (L' := intsH 2 ov os :: L) [ov] (ov) (.tmp rfl .nil) rfl rF rF (sC sR) ?_))))))))))
 refine ⟨rfl, hov, ?_⟩
 have hxs : (byL w t : List Int) = os := by rw [hos, show j = t.length from by omega, List.take_length]
 exact congrArg (fun z => intsH 2 _ z :: L) hxs

/- spec.l11Meets -/
theorem meets2_spec {F : FH} {L : List HP} {arv : Value} {ar : List Int} (har : IntsF F arv ar) {rsv : Value} {rs : List (List Int × List Int)} (hrs : PairsF F rsv rs) {o : Nat} {p : Nat} {u : Nat} (hsys : sysOk ar rs = true) (ho : o < rs.length) (hu : u < rs.length) (hp : p < (rs.getD o ([], [])).1.length) :
    Does prog 168 [.agg #[arv, rsv], ii ((o : Int)), ii ((p : Int)), ii ((u : Int))] F (L) (fun v F' L' => (.bool (decide (0 ≤ (rs.getD o ([], [])).1.getD p 0 ∧ meetB ar rs o p u = true)) : Value) = v ∧ L = L') := by
 refine qI func168 rfl rfl rfl ?_
 have hlo : termOk ar (rs.getD o ([], [])).1 = true := rule_L hsys ho
 have hllo : 1 ≤ (rs.getD o ([], [])).1.length ∧ (rs.getD o ([], [])).1.length ≤ 60 := termOk_len hlo
 have hglo : ∀ k, k < (rs.getD o ([], [])).1.length → -24 ≤ (rs.getD o ([], [])).1.getD k 0 := fun k h => termOk_ge hlo h
 have hlu : termOk ar (rs.getD u ([], [])).1 = true := rule_L hsys hu
 have hllu : 1 ≤ (rs.getD u ([], [])).1.length ∧ (rs.getD u ([], [])).1.length ≤ 60 := termOk_len hlu
 have hglu : ∀ k, k < (rs.getD u ([], [])).1.length → -24 ≤ (rs.getD u ([], [])).1.getD k 0 := fun k h => termOk_ge hlu h
 have hro : termOk ar (rs.getD o ([], [])).2 = true := rule_R hsys ho
 have hlro : 1 ≤ (rs.getD o ([], [])).2.length ∧ (rs.getD o ([], [])).2.length ≤ 60 := termOk_len hro
 have hgro : ∀ k, k < (rs.getD o ([], [])).2.length → -24 ≤ (rs.getD o ([], [])).2.getD k 0 := fun k h => termOk_ge hro h
 have hru : termOk ar (rs.getD u ([], [])).2 = true := rule_R hsys hu
 have hlru : 1 ≤ (rs.getD u ([], [])).2.length ∧ (rs.getD u ([], [])).2.length ≤ 60 := termOk_len hru
 have hgru : ∀ k, k < (rs.getD u ([], [])).2.length → -24 ≤ (rs.getD u ([], [])).2.getD k 0 := fun k h => termOk_ge hru h
 have hrl := (sysOk_iff.1 hsys).2.1
 have hsig := (sysOk_iff.1 hsys).1
 have hsl := sigOk_spec hsig
 have hee := (termW_of hlo).endN hp
 refine qc (qa (cX (jc [arv, rsv] rfl rfl ?_)))
 intro b1
 refine qg (.bool (false)) rfl (qb (qc (qa (cX (qm (1) qQ rfl jx (by decide) rfl rfl (cX (qh jG rfl (Rd.own [] rfl rfl) (qf (ii ((o : Int))) rfl (cX (ql o qZ jk rfl rfl rfl hrs.slv (by omega) rfl (cX (jp (o * 2) qP rfl qo (by decide) rfl rfl ?_))))))))))))
 obtain ⟨a1, a2, ha1, ha2, hr1, hr2⟩ := hrs.rd (i := o) (by omega)
 refine cX (qh qM rfl (hr1 _) (qg (a1) rfl (qb (qc (qc (qa (qf (ii ((p : Int))) rfl (qf (a1) rfl (cX (qF qd rfl ha1.slv (cX (jd ((((((rs.getD o ([], [])).1).length : Nat) : Int)) - 1) rfl rfl (by omega) (by omega) (cX (qr (args := [ii ((p : Int)), ii (0), ii ((((((rs.getD o ([], [])).1).length : Nat) : Int)) - 1)]) call112 rfl (l1In_spec (n := (p : Int)) (a := 0) (b := (((((rs.getD o ([], [])).1).length : Nat) : Int)) - 1)) ?_))))))))))))))
 rintro _ _ _ _ ⟨rfl, rfl, rfl⟩
 refine cX (jz rfl (qf (.bool (decide (¬(0 ≤ ((p : Int)) ∧ ((p : Int)) ≤ ((((((rs.getD o ([], [])).1).length : Nat) : Int)) - 1))))) rfl ?_))
 by_cases h1 : ¬(0 ≤ ((p : Int)) ∧ ((p : Int)) ≤ ((((((rs.getD o ([], [])).1).length : Nat) : Int)) - 1))
 ·refine qt (t := 24) rfl (vT h1) (qt (t := 24) rfl (vT h1) (qt (t := 24) rfl (vT h1) (qt (t := 24) rfl (vT h1) (qt (t := 24) rfl (vT h1) (cX (qX (.bool (true)) (vT h1) rfl (qf (.bool (true)) rfl (qt (t := 31) rfl rfl (qt (t := 31) rfl rfl (qt (t := 31) rfl rfl ?_))))))))))
  refine XL.noU (t := 34) rfl rfl (XL.noU (t := 34) rfl rfl (XL.noU (t := 34) rfl rfl (qt (t := 31) rfl rfl (cX (qX (.bool (true)) rfl rfl (qb (jA rfl (qc (qa (qg (.bool (false)) rfl (qb ?_)))))))))))
  refine qz (qk (qs (L' := L) [.bool (false)] (.bool (false)) (.tmp rfl .nil) rfl rF rF (sD sR) ?_))
  have e9 : ¬ (0 ≤ (rs.getD o ([], [])).1.getD p 0 ∧ meetB ar rs o p u = true) := by first | (rintro ⟨h8, h9⟩; omega) | (rintro ⟨h8, h9⟩; rw [meet_self (by omega)] at h9; cases h9)
  exact ⟨congrArg Value.bool (decide_eq_false e9), rfl⟩
 refine qy (t := 24) rfl (vF h1) (qj (a1) rfl (qy (t := 24) rfl (vF h1) (qj (ii ((p : Int))) rfl (qy (t := 24) rfl (vF h1) (ql p qd qn rfl rfl rfl ha1.slv (by omega) (Nat.mul_one _) (qy (t := 24) rfl (vF h1) (qh qD rfl (ha1.rd (by omega)) (qy (t := 24) rfl (vF h1) (qK rfl rfl (cX (qV (.bool (decide ((((rs.getD o ([], [])).1).getD p 0 : Int) < 0))) (vF h1) rfl (qf (.bool (decide ((((rs.getD o ([], [])).1).getD p 0 : Int) < 0))) rfl ?_))))))))))))
 by_cases h2 : (((rs.getD o ([], [])).1).getD p 0 : Int) < 0
 ·refine qt (t := 31) rfl (vT h2) (qt (t := 31) rfl (vT h2) (qt (t := 31) rfl (vT h2) (XL.noU (t := 34) rfl rfl (XL.noU (t := 34) rfl rfl (XL.noU (t := 34) rfl rfl (qt (t := 31) rfl (vT h2) (cX (qX (.bool (true)) (vT h2) rfl (qb (jA rfl ?_))))))))))
  refine qc (qa (qg (.bool (false)) rfl (qb (qz (qk (qs (L' := L) [.bool (false)] (.bool (false)) (.tmp rfl .nil) rfl rF rF (sD sR) ?_))))))
  have e9 : ¬ (0 ≤ (rs.getD o ([], [])).1.getD p 0 ∧ meetB ar rs o p u = true) := by first | (rintro ⟨h8, h9⟩; omega) | (rintro ⟨h8, h9⟩; rw [meet_self (by omega)] at h9; cases h9)
  exact ⟨congrArg Value.bool (decide_eq_false e9), rfl⟩
 refine qy (t := 31) rfl (vF h2) (qj (ii ((p : Int))) rfl (qy (t := 31) rfl (vF h2) (jF rfl rfl (qy (t := 31) rfl (vF h2) (qj (.bool (decide ((p : Int) = 0))) rfl ?_)))))
 by_cases h3 : (p : Int) = 0
 ·refine qy (t := 34) rfl (vT h3) (qj (ii ((o : Int))) rfl (qy (t := 34) rfl (vT h3) (qj (ii ((u : Int))) rfl (qy (t := 34) rfl (vT h3) (jF rfl rfl (qy (t := 31) rfl (vF h2) (qX (.bool (decide ((o : Int) = (u : Int)))) (vT h3) rfl (cX (qV (.bool (decide ((o : Int) = (u : Int)))) (vF h2) rfl (qb ?_))))))))))
  refine qv (p := (o : Int) = (u : Int)) rfl (fun h4 => ?_) (fun h4 => ?_)
  ·refine qc (qa (qg (.bool (false)) rfl (qb (qz (qk (qs (L' := L) [.bool (false)] (.bool (false)) (.tmp rfl .nil) rfl rF rF (sD sR) ?_))))))
   have e9 : ¬ (0 ≤ (rs.getD o ([], [])).1.getD p 0 ∧ meetB ar rs o p u = true) := by first | (rintro ⟨h8, h9⟩; omega) | (rintro ⟨h8, h9⟩; rw [meet_self (by omega)] at h9; cases h9)
   exact ⟨congrArg Value.bool (decide_eq_false e9), rfl⟩
  refine qx (qc (qa (cX (qE [arv, rsv] isAgg32 jB rfl rfl (Rd.ownN [] rfl rfl) (qf (ii ((o : Int))) rfl (qf (ii ((p : Int))) rfl (qf (ii ((u : Int))) rfl (cX (qr (args := [.agg #[arv, rsv], ii (o : Int), ii (p : Int), ii (u : Int)]) call214 rfl (try_spec (o := o) (p := p) (u := u) har hrs hsys (by omega) (by omega) (by first | assumption | omega)) ?_)))))))))
  rintro _ F1 _ le1 ⟨x1, b2, o1, bc1, l1, rfl, hs1, hb1, hy1, hn1, rfl⟩
  replace har := har.mono le1
  replace hrs := hrs.mono le1
  refine qf (.tuple #[ptr b2 0, .bool (x1)]) rfl (cX (qY (ptr b2 0) rfl rfl (cX (qY (.bool (x1)) rfl rfl (qg (ptr b2 0) rfl (qg (.bool (x1)) rfl (qb (qc (qa (qf (.bool (x1)) rfl (qg (.bool (x1)) rfl (qb (qz (qs (L' := L) [.bool (x1)] (.bool (x1)) (.tmp rfl .nil) rfl le1 rF (sD (sD (sD sR))) ?_))))))))))))))
  have e9 : x1 = decide (0 ≤ (rs.getD o ([], [])).1.getD p 0 ∧ meetB ar rs o p u = true) := by
    cases h9 : x1 with
    | true => exact (decide_eq_true ⟨by omega, meet_yes (by omega) (hy1 h9)⟩).symm
    | false => exact (decide_eq_false (fun h => by rw [meet_no (hn1 h9)] at h; cases h.2)).symm
  exact ⟨congrArg Value.bool e9.symm, rfl⟩
 refine qt (t := 34) rfl (vF h3) (qt (t := 34) rfl (vF h3) (qt (t := 34) rfl (vF h3) (qy (t := 31) rfl (vF h2) (qV (.bool (false)) (vF h3) rfl (cX (qV (.bool (false)) (vF h2) rfl (qb (jv rfl (qx (qc (qa (cX (qE [arv, rsv] isAgg32 jB rfl rfl (Rd.ownN [] rfl rfl) (qf (ii ((o : Int))) rfl ?_))))))))))))))
 refine qf (ii ((p : Int))) rfl (qf (ii ((u : Int))) rfl (cX (qr (args := [.agg #[arv, rsv], ii (o : Int), ii (p : Int), ii (u : Int)]) call214 rfl (try_spec (o := o) (p := p) (u := u) har hrs hsys (by omega) (by omega) (by first | assumption | omega)) ?_)))
 rintro _ F2 _ le2 ⟨x2, b3, o2, bc2, l2, rfl, hs2, hb2, hy2, hn2, rfl⟩
 refine qf (.tuple #[ptr b3 0, .bool (x2)]) rfl (cX (qY (ptr b3 0) rfl rfl (cX (qY (.bool (x2)) rfl rfl (qg (ptr b3 0) rfl (qg (.bool (x2)) rfl (qb (qc (qa (qf (.bool (x2)) rfl (qg (.bool (x2)) rfl (qb (qz (qs (L' := L) [.bool (x2)] (.bool (x2)) (.tmp rfl .nil) rfl le2 rF (sD (sD (sD sR))) ?_))))))))))))))
 have e9 : x2 = decide (0 ≤ (rs.getD o ([], [])).1.getD p 0 ∧ meetB ar rs o p u = true) := by
   cases h9 : x2 with
   | true => exact (decide_eq_true ⟨by omega, meet_yes (by omega) (hy2 h9)⟩).symm
   | false => exact (decide_eq_false (fun h => by rw [meet_no (hn2 h9)] at h; cases h.2)).symm
 exact ⟨congrArg Value.bool e9.symm, rfl⟩

/- spec.l11Peak -/
set_option maxHeartbeats 2000000 in
set_option maxRecDepth 20000 in
theorem peak2_spec {F : FH} {L : List HP} {arv : Value} {ar : List Int} (har : IntsF F arv ar) {rsv : Value} {rs : List (List Int × List Int)} (hrs : PairsF F rsv rs) {o : Nat} {p : Nat} {u : Nat} (hsys : sysOk ar rs = true) (ho : o < rs.length) (hu : u < rs.length) (hp : p < (rs.getD o ([], [])).1.length) (hmt : meetB ar rs o p u = true) :
    Does prog 169 [.agg #[arv, rsv], ii ((o : Int)), ii ((p : Int)), ii ((u : Int))] F (L) (fun v F' L' => ∃ (a : Value), ∃ (b : Value), ∃ (c : Value), (.tuple #[.agg #[a, b, c, ii (((pkF ar rs o p u).getD P0).2.2.2.1), ii (((pkF ar rs o p u).getD P0).2.2.2.2.1), ii (((pkF ar rs o p u).getD P0).2.2.2.2.2)], .bool ((pkF ar rs o p u).isSome)] : Value) = v ∧ (IntsF F' a ((pkF ar rs o p u).getD P0).1) ∧ (IntsF F' b ((pkF ar rs o p u).getD P0).2.1) ∧ (IntsF F' c ((pkF ar rs o p u).getD P0).2.2.1) ∧ L = L') := by
 refine qI func169 rfl rfl rfl ?_
 have hlo : termOk ar (rs.getD o ([], [])).1 = true := rule_L hsys ho
 have hllo : 1 ≤ (rs.getD o ([], [])).1.length ∧ (rs.getD o ([], [])).1.length ≤ 60 := termOk_len hlo
 have hglo : ∀ k, k < (rs.getD o ([], [])).1.length → -24 ≤ (rs.getD o ([], [])).1.getD k 0 := fun k h => termOk_ge hlo h
 have hlu : termOk ar (rs.getD u ([], [])).1 = true := rule_L hsys hu
 have hllu : 1 ≤ (rs.getD u ([], [])).1.length ∧ (rs.getD u ([], [])).1.length ≤ 60 := termOk_len hlu
 have hglu : ∀ k, k < (rs.getD u ([], [])).1.length → -24 ≤ (rs.getD u ([], [])).1.getD k 0 := fun k h => termOk_ge hlu h
 have hro : termOk ar (rs.getD o ([], [])).2 = true := rule_R hsys ho
 have hlro : 1 ≤ (rs.getD o ([], [])).2.length ∧ (rs.getD o ([], [])).2.length ≤ 60 := termOk_len hro
 have hgro : ∀ k, k < (rs.getD o ([], [])).2.length → -24 ≤ (rs.getD o ([], [])).2.getD k 0 := fun k h => termOk_ge hro h
 have hru : termOk ar (rs.getD u ([], [])).2 = true := rule_R hsys hu
 have hlru : 1 ≤ (rs.getD u ([], [])).2.length ∧ (rs.getD u ([], [])).2.length ≤ 60 := termOk_len hru
 have hgru : ∀ k, k < (rs.getD u ([], [])).2.length → -24 ≤ (rs.getD u ([], [])).2.getD k 0 := fun k h => termOk_ge hru h
 have hrl := (sysOk_iff.1 hsys).2.1
 have hsig := (sysOk_iff.1 hsys).1
 have hsl := sigOk_spec hsig
 have hee := (termW_of hlo).endN hp
 have hal := away_len (l := (rs.getD u ([], [])).2)
 refine qc (qa (cX (jc [arv, rsv] rfl rfl ?_)))
 intro b1
 refine cX (jy [sN, sN, sN, ii (0), ii (0), ii (0)] jj rfl ?_)
 intro b2
 refine qg (.bool (false)) rfl (qb (qc (qa (cX (qE [arv, rsv] isAgg32 jB rfl rfl (Rd.ownN [_] rfl rfl) (qf (ii ((o : Int))) rfl (qf (ii ((p : Int))) rfl (qf (ii ((u : Int))) rfl (cX (qr (args := [.agg #[arv, rsv], ii (o : Int), ii (p : Int), ii (u : Int)]) call214 rfl (try_spec (o := o) (p := p) (u := u) har hrs hsys (by omega) (by omega) (by first | assumption | omega)) ?_))))))))))
 rintro _ F1 _ le1 ⟨x1, b3, o1, bc1, l1, rfl, hs1, hb1, hy1, hn1, rfl⟩
 replace har := har.mono le1
 replace hrs := hrs.mono le1
 refine qf (.tuple #[ptr b3 0, .bool (x1)]) rfl (cX (qY (ptr b3 0) rfl rfl (cX (qY (.bool (x1)) rfl rfl (qg (ptr b3 0) rfl (qg (.bool (x1)) rfl ?_))))))
 have hxt : x1 = true := by
   cases h9 : x1 with
   | true => rfl
   | false => have h8 := hn1 h9; rw [meet_no h8] at hmt; cases hmt
 have hmg := hy1 hxt
 have hbo := hmg.ok
 obtain ⟨σ, hσ⟩ := hbo.sol
 have hgs := hσ.good hbo
 obtain ⟨hLg, hLl, hLp⟩ := left_ok (ar := ar) (rs := rs) (o := o) (u := u) (p := p) hsys ho hu
 refine qb (qc (qa (cX (qm (1) qQ rfl jx (by decide) rfl rfl (cX (qh jG rfl (Rd.own [_, _, _] rfl rfl) (qf (ii ((o : Int))) rfl (cX (ql o qZ jk rfl rfl rfl hrs.slv (by omega) rfl ?_)))))))))
 obtain ⟨a1, a2, ha1, ha2, hr1, hr2⟩ := hrs.rd (i := o) (by omega)
 refine cX (qE [a1, a2] isAgg72 jk rfl rfl (Rd.two (hr1 _) (hr2 _)) (cX (jy [sN, sN] zeroValue72 rfl ?_)))
 intro b4
 refine cX (jn [] _ [a1, a2] jk rfl rfl rfl (qq (je (qB ha1)) (qq (je (qB ha2)) jm)) rfl rfl rfl (qb (qc (qa (cX (qm (0) qQ rfl qR (by decide) rfl rfl (cX (qE [arv] ji qR rfl rfl (Rd.ownN [_, _, _, _] rfl rfl) (cX (qm (0) qP rfl qo (by decide) rfl rfl (cX (qh qM rfl (Rd.own [] rfl rfl) (qf (ii ((p : Int))) rfl (cX (qr (args := [.agg #[arv], a1, ii (p : Int)]) call215 rfl (l13End_spec (q := p) har ha1 (ho := (termW_of hlo)) (hp := (hp))) ?_)))))))))))))))
 rintro _ _ _ _ ⟨rfl, rfl, rfl⟩
 refine qg (ii (((endN ar ((rs.getD o ([], [])).1) p : Nat) : Int))) rfl (qb (qc ?_))
 obtain ⟨a3, a4, ha3, ha4, hr3, hr4⟩ := hrs.rd (i := u) (by omega)
 refine X.drawG [cellsH b4 [a1, a2] 72, cellsH b3 [o1] 234, slH 27 1 o1 48 bc1, cellsH b2 [sN, sN, sN, ii (0), ii (0), ii (0)] 76, cellsH b1 [arv, rsv] 32] L 12 [] [[], [], [1], [], [2, 3], [0, 4], [], [6], [], [7, 8], [9], [10]] [] (phiG [fun FF us v => ∃ b, v = .slice (some ⟨b, 0, none⟩) 0 0, pe (ptr b4 0), pe a1, pe (ii ((p : Int)) : Value), fun FF us v => (v : Value) = v ∧ (IntsF FF v ((((rs.getD o ([], [])).1).drop 0).take (p - 0))) ∧ (isNil v = isNil a1), fun FF us v => IsSl v, pe (ptr b1 1), pe rsv, pe (ii ((u : Int)) : Value), pe (.pointer (some (elemA rsv (u * 2)))), pe (.pointer (some (elemA rsv (u * 2 + 1)))), pe a4]) (ownL [fun us v => [slH 2 1 v 0 []], o0, o0, o0, o0, fun us v => [intsH 2 (v) (((((rs.getD o ([], [])).1).drop 0).take (p - 0)))]]) mixed rfl rfl (by kernel_rfl) (by kernel_rfl) (MonoG.get (mC (fun le h => h) (mC (fun le h => h) (m1 (m1 (mC (fun le h => ⟨h.1, h.2.1.mono le, h.2.2⟩) (mC (fun le h => h) (mC (fun le h => h) (m1 (m1 (m1 (m1 (m1 MonoG.nil))))))))))))) ?_ ?_
 ·refine gD (fun W Fs R lF z9 => ?_) ?_
  ·replace har := har.mono lF
   replace hrs := hrs.mono lF
   replace hb1 := hb1.mono lF
   replace ha1 := ha1.mono lF
   replace ha2 := ha2.mono lF
   replace ha4 := ha4.mono lF
   replace hr4 := Rd.monoA hr4 lF
   refine qi (qS (s := 1) [] [ii (0)] [] qd qn ju rfl (by decide) rfl CellsAre.nil rfl ?_)
   intro v3 hv3
   exact ⟨hv3, rfl⟩
  refine gD (fun W Fs R lF z9 => ?_) ?_
  ·refine qi (qm (0) qP rfl qo (by decide) rfl rfl ?_)
   exact ⟨rfl, rfl⟩
  refine gD (fun W Fs R lF z9 => ?_) ?_
  ·replace har := har.mono lF
   replace hrs := hrs.mono lF
   replace hb1 := hb1.mono lF
   replace ha1 := ha1.mono lF
   replace ha2 := ha2.mono lF
   replace ha4 := ha4.mono lF
   replace hr4 := Rd.monoA hr4 lF
   rw [eS (l := [(1, _)]) ⟨z9 1 rfl, ⟨⟩⟩]
   refine qi (qh qM rfl (Rd.own [] rfl rfl) ?_)
   exact ⟨rfl, rfl⟩
  refine gD (fun W Fs R lF z9 => ?_) ?_
  ·refine qi (qj (ii ((p : Int))) rfl ?_)
   exact ⟨rfl, rfl⟩
  refine gD (fun W Fs R lF z9 => ?_) ?_
  ·replace har := har.mono lF
   replace hrs := hrs.mono lF
   replace hb1 := hb1.mono lF
   replace ha1 := ha1.mono lF
   replace ha2 := ha2.mono lF
   replace ha4 := ha4.mono lF
   replace hr4 := Rd.monoA hr4 lF
   rw [eS (l := [(2, _), (3, _)]) ⟨z9 2 rfl, z9 3 rfl, ⟨⟩⟩]
   refine qi (XOp.sliceI 0 p qd qn rfl ha1 rfl ⟨_, rfl⟩ (by omega) (by omega) ?_)
   intro v4 hv4 hn3
   exact ⟨⟨rfl, hv4, hn3⟩, rfl⟩
  refine gD (fun W Fs R lF z9 => ?_) ?_
  ·have f0 : ∃ b, (W 0) = .slice (some ⟨b, 0, none⟩) 0 0 := z9 0 rfl
   obtain ⟨e4, f4_1hv, f4_1hn⟩ := z9 4 rfl
   replace har := har.mono lF
   replace hrs := hrs.mono lF
   replace hb1 := hb1.mono lF
   replace ha1 := ha1.mono lF
   replace ha2 := ha2.mono lF
   replace ha4 := ha4.mono lF
   replace hr4 := Rd.monoA hr4 lF
   rw [eS (l := [(4, (W 4))]) ⟨(e4).symm, ⟨⟩⟩]
   refine qi (XOp.appendE qd typeInfo2 rfl rfl rfl rfl rfl f0 f4_1hv (by (try simp only [List.length_append, List.length_nil, List.length_cons, List.length_singleton, List.length_take, List.length_drop]); omega) ?_)
   intro v5 hs2
   exact ⟨hs2, rfl⟩
  refine gD (fun W Fs R lF z9 => ?_) ?_
  ·refine qi (qm (1) qQ rfl jx (by decide) rfl rfl ?_)
   exact ⟨rfl, rfl⟩
  refine gD (fun W Fs R lF z9 => ?_) ?_
  ·replace har := har.mono lF
   replace hrs := hrs.mono lF
   replace hb1 := hb1.mono lF
   replace ha1 := ha1.mono lF
   replace ha2 := ha2.mono lF
   replace ha4 := ha4.mono lF
   replace hr4 := Rd.monoA hr4 lF
   rw [eS (l := [(6, _)]) ⟨z9 6 rfl, ⟨⟩⟩]
   refine qi (qh jG rfl (Rd.own [_, _, _, _] rfl rfl) ?_)
   exact ⟨rfl, rfl⟩
  refine gD (fun W Fs R lF z9 => ?_) ?_
  ·refine qi (qj (ii ((u : Int))) rfl ?_)
   exact ⟨rfl, rfl⟩
  refine gD (fun W Fs R lF z9 => ?_) ?_
  ·replace har := har.mono lF
   replace hrs := hrs.mono lF
   replace hb1 := hb1.mono lF
   replace ha1 := ha1.mono lF
   replace ha2 := ha2.mono lF
   replace ha4 := ha4.mono lF
   replace hr4 := Rd.monoA hr4 lF
   rw [eS (l := [(7, _), (8, _)]) ⟨z9 7 rfl, z9 8 rfl, ⟨⟩⟩]
   refine qi (ql u qZ jk rfl rfl rfl hrs.slv (by omega) rfl ?_)
   exact ⟨rfl, rfl⟩
  refine gD (fun W Fs R lF z9 => ?_) ?_
  ·rw [eS (l := [(9, _)]) ⟨z9 9 rfl, ⟨⟩⟩]
   refine qi (jp (u * 2 + 1) qP rfl qo (by decide) rfl rfl ?_)
   exact ⟨rfl, rfl⟩
  refine gD (fun W Fs R lF z9 => ?_) ?_
  ·replace har := har.mono lF
   replace hb1 := hb1.mono lF
   replace ha1 := ha1.mono lF
   replace ha2 := ha2.mono lF
   replace ha4 := ha4.mono lF
   replace hr4 := Rd.monoA hr4 lF
   rw [eS (l := [(10, _)]) ⟨z9 10 rfl, ⟨⟩⟩]
   refine qi (qh qM rfl (hr4 _) ?_)
   exact ⟨rfl, rfl⟩
  exact stepsG.nil
 intro W F2 le2 hphi
 have f0 : ∃ b, (W 0) = .slice (some ⟨b, 0, none⟩) 0 0 := hphi 0 (by decide)
 obtain ⟨e4, f4_1hv, f4_1hn⟩ := hphi 4 (by decide)
 have f5 : IsSl (W 5) := hphi 5 (by decide)
 generalize hu0 : W 0 = u1 at f0 e4 f4_1hv f4_1hn f5
 generalize hu1 : (W 4) = u2 at f0 e4 f4_1hv f4_1hn f5
 generalize hu5 : W 5 = u3 at f0 e4 f4_1hv f4_1hn f5
 rw [eS (l := [(0, u1), (5, u3), (11, _)]) ⟨hu0, hu5, (hphi 11 (by decide)), ⟨⟩⟩]
 replace hb1 := hb1.mono le2
 replace ha1 := ha1.mono le2
 replace ha2 := ha2.mono le2
 replace ha4 := ha4.mono le2
 show XL _ _ _ _ _ _ _ (slH 2 1 u1 0 [] :: intsH 2 u3 (((((rs.getD o ([], [])).1).drop 0).take (p - 0))) :: cellsH b4 [a1, a2] 72 :: cellsH b3 [o1] 234 :: slH 27 1 o1 48 bc1 :: cellsH b2 [sN, sN, sN, ii (0), ii (0), ii (0)] 76 :: cellsH b1 [arv, rsv] 32 :: L)
 refine cX (XOp.frzF <| qr (args := [a4, ii (24)]) call216 rfl (away2_spec (k := 24) ha4 (hk24 := (rfl)) (hlt := (by omega)) (htg := (fun i hi => by have := hgru i hi; omega))) ?_)
 rintro v6 _ _ _ ⟨rfl, hs3, rfl⟩
 refine ⟨_, _, rfl, fun F3 le3 hz1 => ?_⟩
 replace hb1 := hb1.mono le3
 replace ha1 := ha1.mono le3
 replace ha2 := ha2.mono le3
 have hf1 : IntsF F3 v6 ((awayL ((rs.getD u ([], [])).2))) := intsH.fz (xs := (awayL ((rs.getD u ([], [])).2))) hz1.fz
 refine cX (XOp.appendI [_] _ qd typeInfo2 rfl rfl rfl rfl rfl rfl hf1 (by (try simp only [List.length_append, List.length_nil, List.length_cons, List.length_singleton, List.length_take, List.length_drop]); omega) ?_)
 intro v7 hs4 hn4 hm1
 refine qg (v7) rfl (qb (qc (qa (qf (ptr b3 0) rfl (cX (qm (0) qP rfl qo (by decide) rfl rfl (cX (qh qM rfl (Rd.own [_, _] rfl rfl) ?_))))))))
 obtain ⟨ρ9, hρ9⟩ := hbo.acyc
 obtain ⟨k9, hk9⟩ := maxRank ((rs.getD o ([], [])).1) ρ9
 refine qW (qw (A := [_, _, _, _])) ?_
 show XL _ _ _ _ _ _ _ (slH 27 1 o1 48 bc1 :: slH 2 1 u1 0 [] :: intsH 2 v7 ((((((rs.getD o ([], [])).1).drop 0).take (p - 0))) ++ ((awayL ((rs.getD u ([], [])).2)))) :: cellsH b4 [a1, a2] 72 :: cellsH b3 [o1] 234 :: cellsH b2 [sN, sN, sN, ii (0), ii (0), ii (0)] 76 :: cellsH b1 [arv, rsv] 32 :: L)
 refine qW (qw (A := [_, _, _, _])) ?_
 show XL _ _ _ _ _ _ _ (cellsH b3 [o1] 234 :: slH 27 1 o1 48 bc1 :: slH 2 1 u1 0 [] :: intsH 2 v7 ((((((rs.getD o ([], [])).1).drop 0).take (p - 0))) ++ ((awayL ((rs.getD u ([], [])).2)))) :: cellsH b4 [a1, a2] 72 :: cellsH b2 [sN, sN, sN, ii (0), ii (0), ii (0)] 76 :: cellsH b1 [arv, rsv] 32 :: L)
 refine cX (qr (args := [ptr b3 0, a1]) call217 rfl (full_spec k9 hs1 hb1 hbo ha1 hσ hρ9 (fun m hm _ => hk9 m hm) (fun i hi => by have := hglo i hi; omega) (by omega)) ?_)
 rintro v8 _ _ _ ⟨hs5, rfl, rfl⟩
 refine qg (v8) rfl (XL.freezeF [] _ _ rfl (fun F4 le4 hz2 => ?_))
 replace hb1 := hb1.mono le4
 replace ha1 := ha1.mono le4
 replace ha2 := ha2.mono le4
 have hf2 : IntsF F4 v8 ((fullX σ ((rs.getD o ([], [])).1))) := intsH.fz (xs := (fullX σ ((rs.getD o ([], [])).1))) hz2.fz
 have hfl15 : (fullX σ ((rs.getD o ([], [])).1)).length ≤ 60 := fullX_len
 skip
 refine qb (qc (qa (qf (ptr b3 0) rfl (qf (v7) rfl (cX (qm (0) qP rfl qo (by decide) rfl rfl (cX (qh qM rfl (Rd.own [_, _, _, _] rfl rfl) (qf (ii (((endN ar ((rs.getD o ([], [])).1) p : Nat) : Int))) rfl (cX (XOp.sliceI (endN ar ((rs.getD o ([], [])).1) p) (((rs.getD o ([], [])).1).length) qd qn rfl ha1 ⟨_, rfl⟩ rfl (by omega) (by omega) ?_)))))))))))
 intro v9 hv5 hn5
 refine cX (XOp.appendI [_, _, _] _ qd typeInfo2 rfl rfl rfl rfl rfl rfl hv5 (by (try simp only [List.length_append, List.length_nil, List.length_cons, List.length_singleton, List.length_take, List.length_drop]); omega) ?_)
 intro v10 hs6 hn6 hm2
 refine XL.freezeF [_, _, _] _ _ rfl (fun F5 le5 hz3 => ?_)
 replace hb1 := hb1.mono le5
 replace ha2 := ha2.mono le5
 replace hf2 := hf2.mono le5
 have hf3 : IntsF F5 v10 (((((((rs.getD o ([], [])).1).drop 0).take (p - 0))) ++ ((awayL ((rs.getD u ([], [])).2)))) ++ (((((rs.getD o ([], [])).1).drop (endN ar ((rs.getD o ([], [])).1) p)).take ((((rs.getD o ([], [])).1).length) - (endN ar ((rs.getD o ([], [])).1) p))))) := intsH.fz (xs := ((((((rs.getD o ([], [])).1).drop 0).take (p - 0))) ++ ((awayL ((rs.getD u ([], [])).2)))) ++ (((((rs.getD o ([], [])).1).drop (endN ar ((rs.getD o ([], [])).1) p)).take ((((rs.getD o ([], [])).1).length) - (endN ar ((rs.getD o ([], [])).1) p))))) hz3.fz
 skip
 obtain ⟨ρ9, hρ9⟩ := hbo.acyc
 obtain ⟨k9, hk9⟩ := maxRank (((((((rs.getD o ([], [])).1).drop 0).take (p - 0))) ++ ((awayL ((rs.getD u ([], [])).2)))) ++ (((((rs.getD o ([], [])).1).drop (endN ar ((rs.getD o ([], [])).1) p)).take ((((rs.getD o ([], [])).1).length) - (endN ar ((rs.getD o ([], [])).1) p))))) ρ9
 have hLE9 : ((((((rs.getD o ([], [])).1).drop 0).take (p - 0))) ++ ((awayL ((rs.getD u ([], [])).2)))) ++ (((((rs.getD o ([], [])).1).drop (endN ar ((rs.getD o ([], [])).1) p)).take ((((rs.getD o ([], [])).1).length) - (endN ar ((rs.getD o ([], [])).1) p)))) = leftT ar rs o p u := left_eq
 refine qW (qw (A := [_])) ?_
 show XL _ _ _ _ _ _ _ (slH 27 1 o1 48 bc1 :: cellsH b3 [o1] 234 :: slH 2 1 u1 0 [] :: cellsH b4 [a1, a2] 72 :: cellsH b2 [sN, sN, sN, ii (0), ii (0), ii (0)] 76 :: cellsH b1 [arv, rsv] 32 :: L)
 refine qW (qw (A := [_])) ?_
 show XL _ _ _ _ _ _ _ (cellsH b3 [o1] 234 :: slH 27 1 o1 48 bc1 :: slH 2 1 u1 0 [] :: cellsH b4 [a1, a2] 72 :: cellsH b2 [sN, sN, sN, ii (0), ii (0), ii (0)] 76 :: cellsH b1 [arv, rsv] 32 :: L)
 refine cX (qr (args := [ptr b3 0, v10]) call217 rfl (full_spec k9 hs1 hb1 hbo hf3 hσ hρ9 (fun m hm _ => hk9 m hm) (by rw [hLE9]; exact hLg) (by rw [hLE9]; exact hLl)) ?_)
 rintro v11 _ _ _ ⟨hs7, rfl, rfl⟩
 refine qg (v11) rfl (XL.freezeF [] _ _ rfl (fun F6 le6 hz4 => ?_))
 replace hb1 := hb1.mono le6
 replace ha2 := ha2.mono le6
 replace hf2 := hf2.mono le6
 have hf4 : IntsF F6 v11 ((fullX σ (((((((rs.getD o ([], [])).1).drop 0).take (p - 0))) ++ ((awayL ((rs.getD u ([], [])).2)))) ++ (((((rs.getD o ([], [])).1).drop (endN ar ((rs.getD o ([], [])).1) p)).take ((((rs.getD o ([], [])).1).length) - (endN ar ((rs.getD o ([], [])).1) p))))))) := intsH.fz (xs := (fullX σ (((((((rs.getD o ([], [])).1).drop 0).take (p - 0))) ++ ((awayL ((rs.getD u ([], [])).2)))) ++ (((((rs.getD o ([], [])).1).drop (endN ar ((rs.getD o ([], [])).1) p)).take ((((rs.getD o ([], [])).1).length) - (endN ar ((rs.getD o ([], [])).1) p))))))) hz4.fz
 rw [hLE9] at hf4
 have hfl16 : (fullX σ (leftT ar rs o p u)).length ≤ 60 := fullX_len
 skip
 refine qb (qc (qa (qf (ptr b3 0) rfl (cX (qm (1) qP rfl qo (by decide) rfl rfl (cX (qh qM rfl (Rd.own [_, _, _] rfl rfl) ?_)))))))
 obtain ⟨ρ9, hρ9⟩ := hbo.acyc
 obtain ⟨k9, hk9⟩ := maxRank ((rs.getD o ([], [])).2) ρ9
 refine qW (qw (A := [_])) ?_
 show XL _ _ _ _ _ _ _ (slH 27 1 o1 48 bc1 :: cellsH b3 [o1] 234 :: slH 2 1 u1 0 [] :: cellsH b4 [a1, a2] 72 :: cellsH b2 [sN, sN, sN, ii (0), ii (0), ii (0)] 76 :: cellsH b1 [arv, rsv] 32 :: L)
 refine qW (qw (A := [_])) ?_
 show XL _ _ _ _ _ _ _ (cellsH b3 [o1] 234 :: slH 27 1 o1 48 bc1 :: slH 2 1 u1 0 [] :: cellsH b4 [a1, a2] 72 :: cellsH b2 [sN, sN, sN, ii (0), ii (0), ii (0)] 76 :: cellsH b1 [arv, rsv] 32 :: L)
 refine cX (qr (args := [ptr b3 0, a2]) call217 rfl (full_spec k9 hs1 hb1 hbo ha2 hσ hρ9 (fun m hm _ => hk9 m hm) (fun i hi => by have := hgro i hi; omega) (by omega)) ?_)
 rintro v12 _ _ _ ⟨hs8, rfl, rfl⟩
 refine qg (v12) rfl (XL.freezeF [] _ _ rfl (fun F7 le7 hz5 => ?_))
 replace hf2 := hf2.mono le7
 replace hf4 := hf4.mono le7
 have hf5 : IntsF F7 v12 ((fullX σ ((rs.getD o ([], [])).2))) := intsH.fz (xs := (fullX σ ((rs.getD o ([], [])).2))) hz5.fz
 have hfl17 : (fullX σ ((rs.getD o ([], [])).2)).length ≤ 60 := fullX_len
 skip
 refine qb (qc (qa (qf (v8) rfl (cX (XOp.frzF <| qr (args := [v8]) call147 rfl (l2OrderL_spec hf2 (hlt := (by omega))) ?_)))))
 rintro v13 _ _ _ ⟨rfl, hs9, rfl⟩
 refine ⟨_, _, rfl, fun F8 le8 hz6 => ?_⟩
 replace hf2 := hf2.mono le8
 replace hf4 := hf4.mono le8
 replace hf5 := hf5.mono le8
 have hf6 : IntsF F8 v13 ((orderL ((fullX σ ((rs.getD o ([], [])).1))))) := intsH.fz (xs := (orderL ((fullX σ ((rs.getD o ([], [])).1))))) hz6.fz
 refine qg (v13) rfl ?_
 have hol18 := ord_len (t := (fullX σ ((rs.getD o ([], [])).1)))
 skip
 refine qb (qc (qc (qa (qf (v8) rfl (cX (qF qd rfl hf2.slv (cX (jF rfl rfl (qf (.bool (decide ((((((fullX σ ((rs.getD o ([], [])).1))).length : Nat) : Int) : Int) = 0))) rfl ?_)))))))))
 by_cases h1 : (((((fullX σ ((rs.getD o ([], [])).1))).length : Nat) : Int) : Int) = 0
 ·have hnil : fullX σ (Lr rs o) = [] ∨ fullX σ (leftT ar rs o p u) = [] ∨ fullX σ (Rr rs o) = [] := .inl (List.eq_nil_of_length_eq_zero (show ((fullX σ ((rs.getD o ([], [])).1))).length = 0 from by omega))
  refine qt (t := 73) rfl (vT h1) (qt (t := 73) rfl (vT h1) (qt (t := 73) rfl (vT h1) (cX (qX (.bool (true)) (vT h1) rfl (qf (.bool (true)) rfl (qt (t := 78) rfl rfl (qt (t := 78) rfl rfl (qt (t := 78) rfl rfl (cX (qX (.bool (true)) rfl rfl (qf (.bool (true)) rfl ?_)))))))))))
  refine qt (t := 83) rfl rfl (qt (t := 83) rfl rfl (qt (t := 83) rfl rfl (cX (qX (.bool (true)) rfl rfl (qb (jA rfl (qc (qa (cX (jw [sN, sN, sN, ii (0), ii (0), ii (0)] [sN, sN, sN, ii (0), ii (0), ii (0)] [(0, 1), (1, 1), (2, 1), (3, 1), (4, 1), (5, 1)] [] qH jj rfl (.cons rfl qo (.cons rfl qo (.cons rfl qo (.cons rfl qn (.cons rfl qn (.cons rfl qn PlacesAre.nil)))))) rfl CellsAre.nil (cX (jn [_, _, _, _] _ [sN, sN, sN, ii (0), ii (0), ii (0)] qT rfl rfl rfl (qq rfl (qq rfl (qq rfl (qq rfl (qq rfl (qq rfl jm)))))) rfl rfl rfl (qg (.bool (false)) rfl ?_)))))))))))))
  refine qb (qz (qk (qs (L' := L) [.agg #[sN, sN, sN, ii (0), ii (0), ii (0)], .bool (false)] (.tuple #[.agg #[sN, sN, sN, ii (0), ii (0), ii (0)], .bool (false)]) (.cell rfl (loadNV [sN, sN, sN, ii (0), ii (0), ii (0)] jH qT rfl (Rd.ownN [_, _, _, _] rfl rfl)) (.tmp rfl .nil)) rfl (qp (qp (qp (qp (qp (qp (qp le1 le2) le3) le4) le5) le6) le7) le8) rF (sD (sD (sD (sD (sD (sD sR)))))) ?_)))
  have e : pkF ar rs o p u = none := by first | exact pk_nil hsys ho hu hmt hmg hσ hnil | exact pk_order hsys ho hu hmt hmg hσ h24
  exact ⟨_, _, _, by rw [e]; rfl, by rw [e]; exact IntsF.nilV, by rw [e]; exact IntsF.nilV, by rw [e]; exact IntsF.nilV, rfl⟩
 have eL : fullX σ (rs.getD o ([], [])).1 = ap σ (rs.getD o ([], [])).1 := fullX_yes (fun e => by (have e9 : ((fullX σ ((rs.getD o ([], [])).1))).length = 0 := (congrArg List.length e :)); omega)
 have lL : (ap σ (rs.getD o ([], [])).1).length ≤ 60 := by rw [← eL]; exact fullX_len
 refine qy (t := 73) rfl (vF h1) (qj (v11) rfl (qy (t := 73) rfl (vF h1) (qF qd rfl hf4.slv (qy (t := 73) rfl (vF h1) (jF rfl rfl (cX (qV (.bool (decide ((((((fullX σ (leftT ar rs o p u))).length : Nat) : Int) : Int) = 0))) (vF h1) rfl (qf (.bool (decide ((((((fullX σ (leftT ar rs o p u))).length : Nat) : Int) : Int) = 0))) rfl ?_))))))))
 by_cases h2 : (((((fullX σ (leftT ar rs o p u))).length : Nat) : Int) : Int) = 0
 ·have hnil : fullX σ (Lr rs o) = [] ∨ fullX σ (leftT ar rs o p u) = [] ∨ fullX σ (Rr rs o) = [] := .inr <| .inl (List.eq_nil_of_length_eq_zero (show ((fullX σ (leftT ar rs o p u))).length = 0 from by omega))
  refine qt (t := 78) rfl (vT h2) (qt (t := 78) rfl (vT h2) (qt (t := 78) rfl (vT h2) (cX (qX (.bool (true)) (vT h2) rfl (qf (.bool (true)) rfl (qt (t := 83) rfl rfl (qt (t := 83) rfl rfl (qt (t := 83) rfl rfl (cX (qX (.bool (true)) rfl rfl (qb ?_)))))))))))
  refine jA rfl (qc (qa (cX (jw [sN, sN, sN, ii (0), ii (0), ii (0)] [sN, sN, sN, ii (0), ii (0), ii (0)] [(0, 1), (1, 1), (2, 1), (3, 1), (4, 1), (5, 1)] [] qH jj rfl (.cons rfl qo (.cons rfl qo (.cons rfl qo (.cons rfl qn (.cons rfl qn (.cons rfl qn PlacesAre.nil)))))) rfl CellsAre.nil (cX (jn [_, _, _, _] _ [sN, sN, sN, ii (0), ii (0), ii (0)] qT rfl rfl rfl (qq rfl (qq rfl (qq rfl (qq rfl (qq rfl (qq rfl jm)))))) rfl rfl rfl (qg (.bool (false)) rfl (qb (qz (qk (qs (L' := L) [.agg #[sN, sN, sN, ii (0), ii (0), ii (0)], .bool (false)] (.tuple #[.agg #[sN, sN, sN, ii (0), ii (0), ii (0)], .bool (false)]) (.cell rfl (loadNV [sN, sN, sN, ii (0), ii (0), ii (0)] jH qT rfl (Rd.ownN [_, _, _, _] rfl rfl)) (.tmp rfl .nil)) rfl (qp (qp (qp (qp (qp (qp (qp le1 le2) le3) le4) le5) le6) le7) le8) rF (sD (sD (sD (sD (sD (sD sR)))))) ?_)))))))))))
  have e : pkF ar rs o p u = none := by first | exact pk_nil hsys ho hu hmt hmg hσ hnil | exact pk_order hsys ho hu hmt hmg hσ h24
  exact ⟨_, _, _, by rw [e]; rfl, by rw [e]; exact IntsF.nilV, by rw [e]; exact IntsF.nilV, by rw [e]; exact IntsF.nilV, rfl⟩
 have eM : fullX σ (leftT ar rs o p u) = ap σ (leftT ar rs o p u) := fullX_yes (fun e => by (have e9 : ((fullX σ (leftT ar rs o p u))).length = 0 := (congrArg List.length e :)); omega)
 have lM : (ap σ (leftT ar rs o p u)).length ≤ 60 := by rw [← eM]; exact fullX_len
 refine qy (t := 78) rfl (vF h2) (qj (v12) rfl (qy (t := 78) rfl (vF h2) (qF qd rfl hf5.slv (qy (t := 78) rfl (vF h2) (jF rfl rfl (cX (qV (.bool (decide ((((((fullX σ ((rs.getD o ([], [])).2))).length : Nat) : Int) : Int) = 0))) (vF h2) rfl (qf (.bool (decide ((((((fullX σ ((rs.getD o ([], [])).2))).length : Nat) : Int) : Int) = 0))) rfl ?_))))))))
 by_cases h3 : (((((fullX σ ((rs.getD o ([], [])).2))).length : Nat) : Int) : Int) = 0
 ·have hnil : fullX σ (Lr rs o) = [] ∨ fullX σ (leftT ar rs o p u) = [] ∨ fullX σ (Rr rs o) = [] := .inr <| .inr (List.eq_nil_of_length_eq_zero (show ((fullX σ ((rs.getD o ([], [])).2))).length = 0 from by omega))
  refine qt (t := 83) rfl (vT h3) (qt (t := 83) rfl (vT h3) (qt (t := 83) rfl (vT h3) (cX (qX (.bool (true)) (vT h3) rfl (qb (jA rfl (qc (qa (cX (jw [sN, sN, sN, ii (0), ii (0), ii (0)] [sN, sN, sN, ii (0), ii (0), ii (0)] [(0, 1), (1, 1), (2, 1), (3, 1), (4, 1), (5, 1)] [] qH jj rfl (.cons rfl qo (.cons rfl qo (.cons rfl qo (.cons rfl qn (.cons rfl qn (.cons rfl qn PlacesAre.nil)))))) rfl CellsAre.nil (cX (jn [_, _, _, _] _ [sN, sN, sN, ii (0), ii (0), ii (0)] qT rfl rfl rfl (qq rfl (qq rfl (qq rfl (qq rfl (qq rfl (qq rfl jm)))))) rfl rfl rfl (qg (.bool (false)) rfl ?_)))))))))))))
  refine qb (qz (qk (qs (L' := L) [.agg #[sN, sN, sN, ii (0), ii (0), ii (0)], .bool (false)] (.tuple #[.agg #[sN, sN, sN, ii (0), ii (0), ii (0)], .bool (false)]) (.cell rfl (loadNV [sN, sN, sN, ii (0), ii (0), ii (0)] jH qT rfl (Rd.ownN [_, _, _, _] rfl rfl)) (.tmp rfl .nil)) rfl (qp (qp (qp (qp (qp (qp (qp le1 le2) le3) le4) le5) le6) le7) le8) rF (sD (sD (sD (sD (sD (sD sR)))))) ?_)))
  have e : pkF ar rs o p u = none := by first | exact pk_nil hsys ho hu hmt hmg hσ hnil | exact pk_order hsys ho hu hmt hmg hσ h24
  exact ⟨_, _, _, by rw [e]; rfl, by rw [e]; exact IntsF.nilV, by rw [e]; exact IntsF.nilV, by rw [e]; exact IntsF.nilV, rfl⟩
 have eR : fullX σ (rs.getD o ([], [])).2 = ap σ (rs.getD o ([], [])).2 := fullX_yes (fun e => by (have e9 : ((fullX σ ((rs.getD o ([], [])).2))).length = 0 := (congrArg List.length e :)); omega)
 have lR : (ap σ (rs.getD o ([], [])).2).length ≤ 60 := by rw [← eR]; exact fullX_len
 refine qy (t := 83) rfl (vF h3) (qj (v13) rfl (qy (t := 83) rfl (vF h3) (qF qd rfl hf6.slv (qy (t := 83) rfl (vF h3) (XOp.gtr rfl rfl (cX (qV (.bool (decide ((((((orderL ((fullX σ ((rs.getD o ([], [])).1))))).length : Nat) : Int) : Int) > 24))) (vF h3) rfl (qb ?_))))))))
 refine qv (p := (((((orderL ((fullX σ ((rs.getD o ([], [])).1))))).length : Nat) : Int) : Int) > 24) rfl (fun h4 => ?_) (fun h4 => ?_)
 ·have h24 : 24 < (orderL (ap σ (rs.getD o ([], [])).1)).length := by rw [← eL]; omega
  refine qc (qa (cX (jw [sN, sN, sN, ii (0), ii (0), ii (0)] [sN, sN, sN, ii (0), ii (0), ii (0)] [(0, 1), (1, 1), (2, 1), (3, 1), (4, 1), (5, 1)] [] qH jj rfl (.cons rfl qo (.cons rfl qo (.cons rfl qo (.cons rfl qn (.cons rfl qn (.cons rfl qn PlacesAre.nil)))))) rfl CellsAre.nil (cX (jn [_, _, _, _] _ [sN, sN, sN, ii (0), ii (0), ii (0)] qT rfl rfl rfl (qq rfl (qq rfl (qq rfl (qq rfl (qq rfl (qq rfl jm)))))) rfl rfl rfl (qg (.bool (false)) rfl (qb (qz (qk (qs (L' := L) [.agg #[sN, sN, sN, ii (0), ii (0), ii (0)], .bool (false)] (.tuple #[.agg #[sN, sN, sN, ii (0), ii (0), ii (0)], .bool (false)]) (.cell rfl (loadNV [sN, sN, sN, ii (0), ii (0), ii (0)] jH qT rfl (Rd.ownN [_, _, _, _] rfl rfl)) (.tmp rfl .nil)) rfl (qp (qp (qp (qp (qp (qp (qp le1 le2) le3) le4) le5) le6) le7) le8) rF (sD (sD (sD (sD (sD (sD sR)))))) ?_))))))))))
  have e : pkF ar rs o p u = none := by first | exact pk_nil hsys ho hu hmt hmg hσ hnil | exact pk_order hsys ho hu hmt hmg hσ h24
  exact ⟨_, _, _, by rw [e]; rfl, by rw [e]; exact IntsF.nilV, by rw [e]; exact IntsF.nilV, by rw [e]; exact IntsF.nilV, rfl⟩
 have h24 : (orderL (ap σ (rs.getD o ([], [])).1)).length ≤ 24 := by rw [← eL]; omega
 refine qx (qc (qa (qf (v13) rfl (qf (v8) rfl (cX (XOp.frzF <| qr (args := [v13, v8]) call146 rfl (l2ByL_spec hf6 hf2 (hno := (ord_nodup)) (hlo := (by omega)) (hlt := (by first | omega | (have := fullX_len (σ := σ) (t := (rs.getD o ([], [])).1); omega)))) ?_))))))
 rintro v14 _ _ _ ⟨rfl, hs10, rfl⟩
 refine ⟨_, _, rfl, fun F9 le9 hz7 => ?_⟩
 replace hf4 := hf4.mono le9
 replace hf5 := hf5.mono le9
 replace hf6 := hf6.mono le9
 have hf7 : IntsF F9 v14 ((byL ((orderL ((fullX σ ((rs.getD o ([], [])).1))))) ((fullX σ ((rs.getD o ([], [])).1))))) := intsH.fz (xs := (byL ((orderL ((fullX σ ((rs.getD o ([], [])).1))))) ((fullX σ ((rs.getD o ([], [])).1))))) hz7.fz
 skip
 refine qf (v13) rfl (qf (v11) rfl (cX (XOp.frzF <| qr (args := [v13, v11]) call146 rfl (l2ByL_spec hf6 hf4 (hno := (ord_nodup)) (hlo := (by omega)) (hlt := (by first | omega | (have := fullX_len (σ := σ) (t := (rs.getD o ([], [])).1); omega)))) ?_)))
 rintro v15 _ _ _ ⟨rfl, hs11, rfl⟩
 refine ⟨_, _, rfl, fun F10 le10 hz8 => ?_⟩
 replace hf5 := hf5.mono le10
 replace hf6 := hf6.mono le10
 replace hf7 := hf7.mono le10
 have hf8 : IntsF F10 v15 ((byL ((orderL ((fullX σ ((rs.getD o ([], [])).1))))) ((fullX σ (leftT ar rs o p u))))) := intsH.fz (xs := (byL ((orderL ((fullX σ ((rs.getD o ([], [])).1))))) ((fullX σ (leftT ar rs o p u))))) hz8.fz
 skip
 refine qf (v13) rfl (qf (v12) rfl (cX (XOp.frzF <| qr (args := [v13, v12]) call146 rfl (l2ByL_spec hf6 hf5 (hno := (ord_nodup)) (hlo := (by omega)) (hlt := (by first | omega | (have := fullX_len (σ := σ) (t := (rs.getD o ([], [])).1); omega)))) ?_)))
 rintro v16 _ _ _ ⟨rfl, hs12, rfl⟩
 refine ⟨_, _, rfl, fun F11 le11 hz9 => ?_⟩
 replace hf7 := hf7.mono le11
 replace hf8 := hf8.mono le11
 have hf9 : IntsF F11 v16 ((byL ((orderL ((fullX σ ((rs.getD o ([], [])).1))))) ((fullX σ ((rs.getD o ([], [])).2))))) := intsH.fz (xs := (byL ((orderL ((fullX σ ((rs.getD o ([], [])).1))))) ((fullX σ ((rs.getD o ([], [])).2))))) hz9.fz
 skip
 refine qf (ii ((p : Int))) rfl (qf (ii ((u : Int))) rfl (qf (ii ((o : Int))) rfl (cX (jw [v14, v15, v16, ii ((p : Int)), ii ((u : Int)), ii ((o : Int))] [sN, sN, sN, ii (0), ii (0), ii (0)] [(0, 1), (1, 1), (2, 1), (3, 1), (4, 1), (5, 1)] [(0, [v14]), (1, [v15]), (2, [v16]), (3, [ii ((p : Int))]), (4, [ii ((u : Int))]), (5, [ii ((o : Int))])] qH jj rfl (.cons rfl qo (.cons rfl qo (.cons rfl qo (.cons rfl qn (.cons rfl qn (.cons rfl qn PlacesAre.nil)))))) rfl (.cons (cells_one (qB hf7)) (.cons (cells_one (qB hf8)) (.cons (cells_one (qB hf9)) (.cons rfl (.cons rfl (.cons rfl CellsAre.nil)))))) (cX (jn [_, _, _, _] _ [v14, v15, v16, ii ((p : Int)), ii ((u : Int)), ii ((o : Int))] qT rfl rfl rfl (qq (je (qB hf7)) (qq (je (qB hf8)) (qq (je (qB hf9)) (qq rfl (qq rfl (qq rfl jm)))))) rfl rfl rfl (qg (.bool (true)) rfl (qb (qz (qs (L' := L) [.agg #[v14, v15, v16, ii ((p : Int)), ii ((u : Int)), ii ((o : Int))], .bool (true)] (.tuple #[.agg #[v14, v15, v16, ii ((p : Int)), ii ((u : Int)), ii ((o : Int))], .bool (true)]) (.cell rfl (loadNV [v14, v15, v16, ii ((p : Int)), ii ((u : Int)), ii ((o : Int))] jH qT rfl (Rd.ownN [_, _, _, _] rfl rfl)) (.tmp rfl .nil)) rfl (qp (qp (qp (qp (qp (qp (qp (qp (qp (qp le1 le2) le3) le4) le5) le6) le7) le8) le9) le10) le11) rF (sD (sD (sD (sD (sD (sD sR)))))) ?_))))))))))
 have e := pk_yes hsys ho hu hmt hmg hσ lL lM lR h24
 rw [← eL, ← eM, ← eR] at e
 exact ⟨_, _, _, by rw [e]; rfl, by rw [e]; exact hf7, by rw [e]; exact hf8, by rw [e]; exact hf9, rfl⟩

/- spec.l11All -/
set_option maxHeartbeats 2000000 in
set_option maxRecDepth 20000 in
theorem all2_spec {F : FH} {L : List HP} {arv : Value} {ar : List Int} (har : IntsF F arv ar) {rsv : Value} {rs : List (List Int × List Int)} (hrs : PairsF F rsv rs) (hsys : sysOk ar rs = true) :
    Does prog 96 [.agg #[arv, rsv]] F (L) (fun v F' L' => ∃ (a : Value), (.tuple #[a, .bool ((peaksF ar rs).isSome)] : Value) = v ∧ (PeaksF F' a ((peaksF ar rs).getD [])) ∧ L = L') := by
 refine qI func96 rfl rfl rfl ?_
 have hrl := (sysOk_iff.1 hsys).2.1
 refine qc (qa (cX (jc [arv, rsv] rfl rfl ?_)))
 intro b1
 refine qg (sN) rfl (qg (.bool (false)) rfl (qb (qc (qa (cX (qS (s := 6) [] [sN, sN, sN, ii (0), ii (0), ii (0)] [] qO qT jj rfl (by decide) rfl CellsAre.nil rfl ?_))))))
 intro v1 hv1
 refine qg (v1) rfl (qb (qc (qa (cX (qm (1) qQ rfl jx (by decide) rfl rfl (cX (qh jG rfl (Rd.own [_] rfl rfl) (cX (qF qZ rfl hrs.slv (qg (ii ((rs.length : Int))) rfl (qb (qc (qc (qa (qg (ii (0)) rfl (qb (qJ ?_)))))))))))))))))
 have hc1 : PeaksC F [] ([] : List PeakT) := (CO.nil : PeaksC F [] [])
 refine jh (α := Nat × Value × List PkT × List Value × Nat × FH) (fun xQ => [(1, ptr b1 0), (4, xQ.2.1), (5, ii ((rs.length : Int))), (6, ii (((xQ.1 : Nat) : Int)))]) (fun xQ => slH 76 6 xQ.2.1 xQ.2.2.2.2.1 xQ.2.2.2.1 :: cellsH b1 [arv, rsv] 32 :: L) (fun xQ F' => xQ.2.2.2.2.2 = F' ∧ F ≤ xQ.2.2.2.2.2 ∧ (IsSl xQ.2.1) ∧ (PeaksC xQ.2.2.2.2.2 xQ.2.2.2.1 xQ.2.2.1) ∧ (xQ.2.2.2.2.1 = xQ.2.2.1.length) ∧ (xQ.1 ≤ rs.length) ∧ (PkI ar rs (mO ar rs xQ.1) xQ.2.2.1)) (fun xQ => rs.length - xQ.1) (0, v1, [], [], 0, F) ⟨rfl, rfl, rfl, rfl, ⟨⟩⟩ (sC (sC sR)) ⟨rfl, FLe.refl _, ((jJ hv1)), (hc1), (rfl), (by (try dsimp only) <;> omega), (PkI.start)⟩ ?_
 rintro ⟨o, ova, osa, csa, ma, G1⟩ rE _ _ ⟨rfl, leG, hova, hCa, hma, hbo, hIa⟩
 show X _ _ _ _ (envs [(1, ptr b1 0), (4, ova), (5, ii ((rs.length : Int))), (6, ii ((o : Int)))] rE) _ (slH 76 6 ova ma csa :: cellsH b1 [arv, rsv] 32 :: L)
 replace leG : F ≤ G1 := leG
 dsimp only at hova hCa hma hbo hIa
 have hlna := hIa.len
 have leG1 := leG
 replace har := har.mono leG1
 replace hrs := hrs.mono leG1
 refine qc (qc (qa (qf (ii ((o : Int))) rfl (qf (ii ((rs.length : Int))) rfl (cX (qK rfl rfl (qb ?_)))))))
 refine qv (p := (o : Int) < (rs.length : Int)) rfl (fun h1 => ?_) (fun h1 => ?_)
 ·refine qx (qc (qJ (qc (qa (qg (ii (0)) rfl (qb (qJ (jh (α := Nat × Value × List PkT × List Value × Nat × FH) (fun xQ => [(1, ptr b1 0), (4, xQ.2.1), (5, ii ((rs.length : Int))), (6, ii ((o : Int))), (7, ii (((xQ.1 : Nat) : Int)))]) (fun xQ => slH 76 6 xQ.2.1 xQ.2.2.2.2.1 xQ.2.2.2.1 :: cellsH b1 [arv, rsv] 32 :: L) (fun xQ F' => xQ.2.2.2.2.2 = F' ∧ G1 ≤ xQ.2.2.2.2.2 ∧ (IsSl xQ.2.1) ∧ (PeaksC xQ.2.2.2.2.2 xQ.2.2.2.1 xQ.2.2.1) ∧ (xQ.2.2.2.2.1 = xQ.2.2.1.length) ∧ (xQ.1 ≤ (rs.getD o ([], [])).1.length) ∧ (PkI ar rs (mO ar rs o ++ mP ar rs o xQ.1) xQ.2.2.1)) (fun xQ => (rs.getD o ([], [])).1.length - xQ.1) (0, ova, osa, csa, ma, G1) ⟨rfl, rfl, rfl, rfl, rfl, ⟨⟩⟩ (sC (sC sR)) ⟨rfl, FLe.refl _, (hova), (hCa), (by (try dsimp only); omega), (by (try dsimp only) <;> omega), (by (try dsimp only); simpa only [mP, List.append_nil] using hIa)⟩ ?_))))))))
  rintro ⟨p, ovb, osb, csb, mb, G2⟩ rE _ _ ⟨rfl, leG, hovb, hCb, hmb, hbp, hIb⟩
  show X _ _ _ _ (envs [(1, ptr b1 0), (4, ovb), (5, ii ((rs.length : Int))), (6, ii ((o : Int))), (7, ii ((p : Int)))] rE) _ (slH 76 6 ovb mb csb :: cellsH b1 [arv, rsv] 32 :: L)
  replace leG : G1 ≤ G2 := leG
  dsimp only at hovb hCb hmb hbp hIb
  have hlnb := hIb.len
  have hlo9 : 1 ≤ (rs.getD o ([], [])).1.length ∧ (rs.getD o ([], [])).1.length ≤ 60 := termOk_len (rule_L hsys (show o < rs.length by omega))
  have leG2 := leG
  replace har := har.mono leG2
  replace hrs := hrs.mono leG2
  replace hCa := hCa.mono leG2
  refine qc (qc (qa (qf (ii ((p : Int))) rfl (cX (qm (1) qQ rfl jx (by decide) rfl rfl (cX (qh jG rfl (Rd.own [_] rfl rfl) (qf (ii ((o : Int))) rfl (cX (ql o qZ jk rfl rfl rfl hrs.slv (by omega) rfl (cX (jp (o * 2) qP rfl qo (by decide) rfl rfl ?_))))))))))))
  obtain ⟨a1, a2, ha1, ha2, hr1, hr2⟩ := hrs.rd (i := o) (by omega)
  refine cX (qh qM rfl (hr1 _) (cX (qF qd rfl ha1.slv (cX (qK rfl rfl (qb ?_))))))
  refine qv (p := (p : Int) < ((((rs.getD o ([], [])).1).length : Nat) : Int)) rfl (fun h2 => ?_) (fun h2 => ?_)
  ·refine qx (qc (qJ (qc (qa (qg (ii (0)) rfl (qb (qJ (jh (α := Nat × Value × List PkT × List Value × Nat × FH) (fun xQ => [(1, ptr b1 0), (4, xQ.2.1), (5, ii ((rs.length : Int))), (6, ii ((o : Int))), (7, ii ((p : Int))), (8, ii (((xQ.1 : Nat) : Int)))]) (fun xQ => slH 76 6 xQ.2.1 xQ.2.2.2.2.1 xQ.2.2.2.1 :: cellsH b1 [arv, rsv] 32 :: L) (fun xQ F' => xQ.2.2.2.2.2 = F' ∧ G2 ≤ xQ.2.2.2.2.2 ∧ (IsSl xQ.2.1) ∧ (PeaksC xQ.2.2.2.2.2 xQ.2.2.2.1 xQ.2.2.1) ∧ (xQ.2.2.2.2.1 = xQ.2.2.1.length) ∧ (xQ.1 ≤ rs.length) ∧ (PkI ar rs (mO ar rs o ++ mP ar rs o p ++ mU ar rs o p xQ.1) xQ.2.2.1)) (fun xQ => rs.length - xQ.1) (0, ovb, osb, csb, mb, G2) ⟨rfl, rfl, rfl, rfl, rfl, rfl, ⟨⟩⟩ (sC (sC sR)) ⟨rfl, FLe.refl _, (hovb), (hCb), (by (try dsimp only); omega), (by (try dsimp only) <;> omega), (by (try dsimp only); simpa only [mU, List.append_nil] using hIb)⟩ ?_))))))))
   rintro ⟨u, ovc, osc, csc, mc, G3⟩ rE _ _ ⟨rfl, leG, hovc, hCc, hmc, hbu, hIc⟩
   show X _ _ _ _ (envs [(1, ptr b1 0), (4, ovc), (5, ii ((rs.length : Int))), (6, ii ((o : Int))), (7, ii ((p : Int))), (8, ii ((u : Int)))] rE) _ (slH 76 6 ovc mc csc :: cellsH b1 [arv, rsv] 32 :: L)
   replace leG : G2 ≤ G3 := leG
   dsimp only at hovc hCc hmc hbu hIc
   have hlnc := hIc.len
   have leG3 := leG
   replace har := har.mono leG3
   replace hrs := hrs.mono leG3
   replace hCa := hCa.mono leG3
   replace hCb := hCb.mono leG3
   refine qc (qc (qa (qf (ii ((u : Int))) rfl (qf (ii ((rs.length : Int))) rfl (cX (qK rfl rfl (qb ?_)))))))
   refine qv (p := (u : Int) < (rs.length : Int)) rfl (fun h3 => ?_) (fun h3 => ?_)
   ·refine qx (qc (qJ (qc (qc (qa (cX (qE [arv, rsv] isAgg32 jB rfl rfl (Rd.ownN [_] rfl rfl) (qf (ii ((o : Int))) rfl (qf (ii ((p : Int))) rfl (qf (ii ((u : Int))) rfl (cX (qr (args := [.agg #[arv, rsv], ii (o : Int), ii (p : Int), ii (u : Int)]) call168 rfl (meets2_spec (o := o) (p := p) (u := u) har hrs (hsys := (hsys)) (ho := (by omega)) (hu := (by omega)) (hp := (by omega))) ?_))))))))))))
    rintro _ F1 _ le1 ⟨rfl, rfl⟩
    replace har := har.mono le1
    replace hrs := hrs.mono le1
    replace hCa := hCa.mono le1
    replace hCb := hCb.mono le1
    replace hCc := hCc.mono le1
    refine cX (jz rfl (qb ?_))
    refine qv (p := ¬(0 ≤ (rs.getD o ([], [])).1.getD p 0 ∧ meetB ar rs o p u = true)) rfl (fun h4 => ?_) (fun h4 => ?_)
    ·have hmt : ¬ (0 ≤ (rs.getD o ([], [])).1.getD p 0 ∧ meetB ar rs o p u = true) := h4
     refine jf (qu (qN (qa (qf (ii ((u : Int))) rfl (cX (qL (((u + 1 : Nat) : Int)) rfl rfl (by omega) (by omega) (qg (ii (((u + 1 : Nat) : Int))) rfl (qb ?_))))))))
     exact ⟨(u + 1, ovc, osc, csc, mc, F1), _, (qp leG3 le1), rF, ⟨rfl, rfl, rfl, rfl, rfl, rfl, ⟨⟩⟩, (sC (sC sR)), ⟨rfl, (qp leG3 le1), (hovc), (hCc), (by (try dsimp only); (try rw [List.length_append, List.length_singleton]); omega), (by (try dsimp only) <;> omega), (by (try dsimp only); first | (rw [mU_no hmt]; exact hIc) | (have h9 := hIc.next hpk hpl; rw [mU_yes hmt.1 hmt.2, ← List.append_assoc]; exact h9))⟩, (by omega)⟩
    have hmt : 0 ≤ (rs.getD o ([], [])).1.getD p 0 ∧ meetB ar rs o p u = true := (Classical.not_not.1 h4)
    refine qx (qc (qa (cX (qE [arv, rsv] isAgg32 jB rfl rfl (Rd.ownN [_] rfl rfl) (qf (ii ((o : Int))) rfl (qf (ii ((p : Int))) rfl (qf (ii ((u : Int))) rfl (cX (qr (args := [.agg #[arv, rsv], ii (o : Int), ii (p : Int), ii (u : Int)]) call169 rfl (peak2_spec (o := o) (p := p) (u := u) har hrs (hsys := (hsys)) (ho := (by omega)) (hu := (by omega)) (hp := (by omega)) (hmt := (hmt.2))) ?_)))))))))
    rintro _ F2 _ le2 ⟨x1, x2, x3, rfl, hr3, hr4, hr5, rfl⟩
    replace hCa := hCa.mono le2
    replace hCb := hCb.mono le2
    replace hCc := hCc.mono le2
    refine qf (.tuple #[.agg #[x1, x2, x3, ii (((pkF ar rs o p u).getD P0).2.2.2.1), ii (((pkF ar rs o p u).getD P0).2.2.2.2.1), ii (((pkF ar rs o p u).getD P0).2.2.2.2.2)], .bool ((pkF ar rs o p u).isSome)]) rfl (cX (qY (.agg #[x1, x2, x3, ii (((pkF ar rs o p u).getD P0).2.2.2.1), ii (((pkF ar rs o p u).getD P0).2.2.2.2.1), ii (((pkF ar rs o p u).getD P0).2.2.2.2.2)]) rfl rfl (cX (qY (.bool ((pkF ar rs o p u).isSome)) rfl rfl (cX (jy [sN, sN, sN, ii (0), ii (0), ii (0)] jj rfl ?_))))))
    intro b2
    refine cX (jn [] _ [x1, x2, x3, ii (((pkF ar rs o p u).getD P0).2.2.2.1), ii (((pkF ar rs o p u).getD P0).2.2.2.2.1), ii (((pkF ar rs o p u).getD P0).2.2.2.2.2)] qT rfl rfl rfl (qq (je (qB hr3)) (qq (je (qB hr4)) (qq (je (qB hr5)) (qq rfl (qq rfl (qq rfl jm)))))) rfl rfl rfl (qg (.bool ((pkF ar rs o p u).isSome)) rfl (qb (qc (qc (qa (qf (.bool ((pkF ar rs o p u).isSome)) rfl (cX (js rfl (qf (.bool (!((pkF ar rs o p u).isSome))) rfl ?_))))))))))
    by_cases h5 : (!((pkF ar rs o p u).isSome)) = true
    ·have hpk : (pkF ar rs o p u).isSome = false := Bool.not_inj (y := false) h5
     refine qt (t := 52) rfl (vB h5) (qt (t := 52) rfl (vB h5) (qt (t := 52) rfl (vB h5) (cX (qX (.bool (true)) (vB h5) rfl (qb (jA rfl (qc (qa (cX (qS (s := 6) [] [sN, sN, sN, ii (0), ii (0), ii (0)] [] qO qT jj rfl (by decide) rfl CellsAre.nil rfl ?_))))))))))
     intro v2 hv2
     refine qg (v2) rfl (qg (.bool (false)) rfl (qb ?_))
     have hc2 : PeaksC F2 [] ([] : List PeakT) := (CO.nil : PeaksC F2 [] [])
     refine X.freezeF [] _ _ rfl (fun F3 le3 hz1 => ?_)
     replace hCa := hCa.mono le3
     replace hCb := hCb.mono le3
     replace hCc := hCc.mono le3
     replace hr3 := hr3.mono le3
     replace hr4 := hr4.mono le3
     replace hr5 := hr5.mono le3
     replace hc2 := hc2.mono le3
     have hf1 : PeaksF F3 v2 (([] : List PeakT)) := CO.fz hc2 (by first | rfl | omega | (rw [List.length_set]; omega) | (simp; done)) hz1.fz
     refine qz (qk (qA (qk (qk (qA (qA (qk (qk (qA (qA (qk (qk (qA (qk (qs (L' := L) [v2, .bool (false)] (.tuple #[v2, .bool (false)]) (.tmp rfl (.tmp rfl .nil)) rfl (qp (qp (qp (qp (qp leG1 leG2) leG3) le1) le2) le3) rF (sD (sD (sD sR))) ?_)))))))))))))))
     have e : peaksF ar rs = none := peaks_no (ms := mO ar rs o ++ mP ar rs o p ++ mU ar rs o p u) (by have h9 := meets_pre (ar := ar) (rs := rs) (o := o) (p := p) (u := u) (by omega) (by show p < (rs.getD o ([], [])).1.length; omega) (by omega); rw [mU_yes hmt.1 hmt.2, ← List.append_assoc] at h9; exact h9) hIc (by first | exact .inl hpk | exact .inr hpl)
     exact ⟨_, by rw [e]; rfl, by rw [e]; exact hf1, rfl⟩
    rw [Bool.not_eq_true] at h5
    have hpk : (pkF ar rs o p u).isSome = true := Bool.not_inj (y := true) h5
    refine qy (t := 52) rfl (vB h5) (qj (ovc) rfl (qy (t := 52) rfl (vB h5) (qF qO rfl (SlV.own [_] rfl) (qy (t := 52) rfl (vB h5) (jF rfl rfl (cX (qV (.bool (decide ((((mc : Nat) : Int) : Int) = 64))) (vB h5) rfl (qb ?_))))))))
    refine qv (p := (((mc : Nat) : Int) : Int) = 64) rfl (fun h6 => ?_) (fun h6 => ?_)
    ·have hpl : osc.length = 64 := by omega
     refine qc (qa (cX (qS (s := 6) [] [sN, sN, sN, ii (0), ii (0), ii (0)] [] qO qT jj rfl (by decide) rfl CellsAre.nil rfl ?_)))
     intro v3 hv3
     refine qg (v3) rfl (qg (.bool (false)) rfl (qb ?_))
     have hc3 : PeaksC F2 [] ([] : List PeakT) := (CO.nil : PeaksC F2 [] [])
     refine X.freezeF [] _ _ rfl (fun F4 le4 hz2 => ?_)
     replace hCa := hCa.mono le4
     replace hCb := hCb.mono le4
     replace hCc := hCc.mono le4
     replace hr3 := hr3.mono le4
     replace hr4 := hr4.mono le4
     replace hr5 := hr5.mono le4
     replace hc3 := hc3.mono le4
     have hf2 : PeaksF F4 v3 (([] : List PeakT)) := CO.fz hc3 (by first | rfl | omega | (rw [List.length_set]; omega) | (simp; done)) hz2.fz
     refine qz (qk (qA (qk (qk (qA (qA (qk (qk (qA (qA (qk (qk (qA (qk (qs (L' := L) [v3, .bool (false)] (.tuple #[v3, .bool (false)]) (.tmp rfl (.tmp rfl .nil)) rfl (qp (qp (qp (qp (qp leG1 leG2) leG3) le1) le2) le4) rF (sD (sD (sD sR))) ?_)))))))))))))))
     have e : peaksF ar rs = none := peaks_no (ms := mO ar rs o ++ mP ar rs o p ++ mU ar rs o p u) (by have h9 := meets_pre (ar := ar) (rs := rs) (o := o) (p := p) (u := u) (by omega) (by show p < (rs.getD o ([], [])).1.length; omega) (by omega); rw [mU_yes hmt.1 hmt.2, ← List.append_assoc] at h9; exact h9) hIc (by first | exact .inl hpk | exact .inr hpl)
     exact ⟨_, by rw [e]; rfl, by rw [e]; exact hf2, rfl⟩
    have hpl : osc.length ≠ 64 := by omega
    refine qx (qa (qf (ovc) rfl (cX (qE [x1, x2, x3, ii (((pkF ar rs o p u).getD P0).2.2.2.1), ii (((pkF ar rs o p u).getD P0).2.2.2.2.1), ii (((pkF ar rs o p u).getD P0).2.2.2.2.2)] jH qT rfl rfl (Rd.ownN [] rfl rfl) (cX (qS (s := 6) [x1, x2, x3, ii (((pkF ar rs o p u).getD P0).2.2.2.1), ii (((pkF ar rs o p u).getD P0).2.2.2.2.1), ii (((pkF ar rs o p u).getD P0).2.2.2.2.2)] [sN, sN, sN, ii (0), ii (0), ii (0)] [(0, [x1, x2, x3, ii (((pkF ar rs o p u).getD P0).2.2.2.1), ii (((pkF ar rs o p u).getD P0).2.2.2.2.1), ii (((pkF ar rs o p u).getD P0).2.2.2.2.2)])] qO qT jj rfl (by decide) rfl (.cons rfl CellsAre.nil) rfl ?_))))))
    intro v4 hv4
    refine cX (XOp.append (m := 1) (bytes := 96) (cs := csc) [_, _] _ [x1, x2, x3, ii (((pkF ar rs o p u).getD P0).2.2.2.1), ii (((pkF ar rs o p u).getD P0).2.2.2.2.1), ii (((pkF ar rs o p u).getD P0).2.2.2.2.2)] qO typeInfo76 rfl rfl rfl rfl rfl rfl rfl (SlV.own [] rfl) rfl (Rd.lit [] rfl) (qq (je (qB hr3)) (qq (je (qB hr4)) (qq (je (qB hr5)) (qq rfl (qq rfl (qq rfl jm)))))) (by (try simp only [List.length_append, List.length_nil, List.length_cons, List.length_singleton]); omega) (by (try simp only [List.length_append, List.length_nil, List.length_cons, List.length_singleton]); omega) ?_)
    intro v5 hs1 hn1 hm1
    have hc4 := PeaksC.snoc hCc (y0 := ((pkF ar rs o p u).getD P0).1) (y1 := ((pkF ar rs o p u).getD P0).2.1) (y2 := ((pkF ar rs o p u).getD P0).2.2.1) (y3 := ((pkF ar rs o p u).getD P0).2.2.2.1) (y4 := ((pkF ar rs o p u).getD P0).2.2.2.2.1) (y5 := ((pkF ar rs o p u).getD P0).2.2.2.2.2) hr3 hr4 hr5
    refine qg (v5) rfl (qb (qa (qf (ii ((u : Int))) rfl (cX (qL (((u + 1 : Nat) : Int)) rfl rfl (by omega) (by omega) (qg (ii (((u + 1 : Nat) : Int))) rfl (qb ?_)))))))
    exact ⟨(u + 1, v5, osc ++ [(((pkF ar rs o p u).getD P0).1, ((pkF ar rs o p u).getD P0).2.1, ((pkF ar rs o p u).getD P0).2.2.1, ((pkF ar rs o p u).getD P0).2.2.2.1, ((pkF ar rs o p u).getD P0).2.2.2.2.1, ((pkF ar rs o p u).getD P0).2.2.2.2.2)], csc ++ [x1, x2, x3, ii (((pkF ar rs o p u).getD P0).2.2.2.1), ii (((pkF ar rs o p u).getD P0).2.2.2.2.1), ii (((pkF ar rs o p u).getD P0).2.2.2.2.2)], (mc) + 1, F2), _, (qp (qp leG3 le1) le2), rF, ⟨rfl, rfl, rfl, rfl, rfl, rfl, ⟨⟩⟩, (sD (sD (sC (sC sR)))), ⟨rfl, (qp (qp leG3 le1) le2), (hs1), (hc4), (by (try dsimp only); (try rw [List.length_append, List.length_singleton]); omega), (by (try dsimp only) <;> omega), (by (try dsimp only); first | (rw [mU_no hmt]; exact hIc) | (have h9 := hIc.next hpk hpl; rw [mU_yes hmt.1 hmt.2, ← List.append_assoc]; exact h9))⟩, (by omega)⟩
   refine jf (qu (qu (qN (qa (qf (ii ((p : Int))) rfl (cX (qL (((p + 1 : Nat) : Int)) rfl rfl (by omega) (by omega) (qg (ii (((p + 1 : Nat) : Int))) rfl (qb ?_)))))))))
   exact ⟨(p + 1, ovc, osc, csc, mc, G3), _, (qp leG2 leG3), rF, ⟨rfl, rfl, rfl, rfl, rfl, ⟨⟩⟩, (sC (sC sR)), ⟨rfl, (qp leG2 leG3), (hovc), (hCc), (by (try dsimp only); (try rw [List.length_append, List.length_singleton]); omega), (by (try dsimp only) <;> omega), (by (try dsimp only); have e9 : u = rs.length := (by omega); rw [e9] at hIc; simpa only [mP, List.append_assoc] using hIc)⟩, (by omega)⟩
  refine jf (qu (qu (qN (qa (qf (ii ((o : Int))) rfl (cX (qL (((o + 1 : Nat) : Int)) rfl rfl (by omega) (by omega) (qg (ii (((o + 1 : Nat) : Int))) rfl (qb ?_)))))))))
  exact ⟨(o + 1, ovb, osb, csb, mb, G2), _, (qp leG1 leG2), rF, ⟨rfl, rfl, rfl, rfl, ⟨⟩⟩, (sC (sC sR)), ⟨rfl, (qp leG1 leG2), (hovb), (hCb), (by (try dsimp only); (try rw [List.length_append, List.length_singleton]); omega), (by (try dsimp only) <;> omega), (by (try dsimp only); have e9 : p = (rs.getD o ([], [])).1.length := (by omega); rw [e9] at hIb; simpa only [mO, List.append_assoc] using hIb)⟩, (by omega)⟩
 refine jf (qu (qu (qN (qc (qa (qf (ova) rfl (qg (ova) rfl (qg (.bool (true)) rfl (qb (X.freezeF [] _ _ rfl (fun F5 le5 hz3 => ?_)))))))))))
 replace hCa := hCa.mono le5
 have hf3 : PeaksF F5 ova osa := CO.fz hCa (by first | rfl | omega | (rw [List.length_set]; omega) | (simp; done)) hz3.fz
 refine qz (qs (L' := L) [ova, .bool (true)] (.tuple #[ova, .bool (true)]) (.tmp rfl (.tmp rfl .nil)) rfl (qp leG1 le5) rF (sD sR) ?_)
 have e9 : o = rs.length := by omega
 rw [e9] at hIa
 have e := peaks_yes hIa
 exact ⟨_, by rw [e]; rfl, by rw [e]; exact hf3, rfl⟩

/- spec.PeaksOf -/
theorem sPeaksOf_spec {F : FH} {L : List HP} {arv : Value} {ar : List Int} (har : IntsF F arv ar) {rsv : Value} {rs : List (List Int × List Int)} (hrs : PairsF F rsv rs) (hla : ar.length ≤ 4000000) (hlr : rs.length ≤ 4000000) (hrb : ∀ i, i < rs.length → (rs.getD i ([], [])).1.length ≤ 4000000 ∧ (rs.getD i ([], [])).2.length ≤ 4000000) :
    Does prog 37 [.agg #[arv, rsv]] F (L) (fun v F' L' => ∃ (a : Value), (.tuple #[a, .bool ((psO ar rs).isSome)] : Value) = v ∧ (PeaksF F' a ((psO ar rs).getD [])) ∧ L = L') := by
 refine qI func37 rfl rfl rfl (qc (qa (cX (jc [arv, rsv] rfl rfl ?_))))
 intro b1
 refine qg (sN) rfl (qg (.bool (false)) rfl (qb (qc (qc (qa (cX (qE [arv, rsv] isAgg32 jB rfl rfl (Rd.ownN [] rfl rfl) (cX (qr (args := [.agg #[arv, rsv]]) call95 rfl (sSystemOk_spec har hrs (hla := (by first | assumption | rfl | omega | simp)) (hlr := (by first | assumption | rfl | omega | simp)) (hrb := (by first | assumption | rfl | omega | simp))) ?_)))))))))
 rintro _ _ _ _ ⟨rfl, rfl, rfl⟩
 refine cX (js rfl (qb ?_))
 refine X.cond (t := !(sysOk ar rs)) rfl (fun h1 => ?_) (fun h1 => ?_)
 ·have hsys : sysOk ar rs = false := Bool.not_inj (y := false) h1
  refine qc (qa (cX (qS (s := 6) [] [sN, sN, sN, ii (0), ii (0), ii (0)] [] qO qT jj rfl (by decide) rfl CellsAre.nil rfl ?_)))
  intro v1 hv1
  refine qg (v1) rfl (qg (.bool (false)) rfl (qb ?_))
  have hc1 : PeaksC F [] ([] : List PeakT) := (CO.nil : PeaksC F [] [])
  refine X.freezeF [] _ _ rfl (fun F1 le1 hz1 => ?_)
  replace har := har.mono le1
  replace hrs := hrs.mono le1
  replace hc1 := hc1.mono le1
  have hf1 : PeaksF F1 v1 (([] : List PeakT)) := CO.fz hc1 (by first | rfl | omega | (rw [List.length_set]; omega) | (simp; done)) hz1.fz
  refine qz (qk (qs (L' := L) [v1, .bool (false)] (.tuple #[v1, .bool (false)]) (.tmp rfl (.tmp rfl .nil)) rfl le1 rF (sD sR) ?_))
  have e := ps_no hsys
  exact ⟨_, by rw [e]; rfl, by rw [e]; exact hf1, rfl⟩
 have hsys : sysOk ar rs = true := Bool.not_inj (y := true) h1
 refine qx (qc (qa (cX (qE [arv, rsv] isAgg32 jB rfl rfl (Rd.ownN [] rfl rfl) (cX (qr (args := [.agg #[arv, rsv]]) call96 rfl (all2_spec har hrs (hsys := (hsys))) ?_))))))
 rintro _ F2 _ le2 ⟨x1, rfl, hr1, rfl⟩
 refine cX (qY (x1) rfl rfl (cX (qY (.bool ((peaksF ar rs).isSome)) rfl rfl (qg (x1) rfl (qg (.bool ((peaksF ar rs).isSome)) rfl (qb (qz (qs (L' := L) [x1, .bool ((peaksF ar rs).isSome)] (.tuple #[x1, .bool ((peaksF ar rs).isSome)]) (.tmp rfl (.tmp rfl .nil)) rfl le2 rF (sD sR) ?_))))))))
 have e := ps_yes hsys
 exact ⟨_, by rw [e], by rw [e]; exact hr1, rfl⟩

/- impl.PeaksOf -/
theorem PeaksOf_spec {F : FH} {L : List HP} {arv : Value} {ar : List Int} (har : IntsF F arv ar) {rsv : Value} {rs : List (List Int × List Int)} (hrs : PairsF F rsv rs) :
    Does prog 38 [.agg #[arv, rsv]] F (L) (fun v F' L' => ∃ (a : Value), (.tuple #[a, .bool ((psO ar rs).isSome)] : Value) = v ∧ (PeaksF F' a ((psO ar rs).getD [])) ∧ (Fresh F F' (star [peaksD 2 76 a ((psO ar rs).getD [])])) ∧ L = L') := by
 refine qI func38 rfl rfl rfl (qc (qa (cX (jc [arv, rsv] rfl rfl ?_))))
 intro b1
 refine qg (sN) rfl (qg (.bool (false)) rfl (qb (qc (qc (qa (cX (qE [arv, rsv] isAgg32 jB rfl rfl (Rd.ownN [] rfl rfl) (cX (qr (args := [.agg #[arv, rsv]]) call97 rfl (SystemOk_spec har hrs) ?_)))))))))
 rintro _ _ _ _ ⟨rfl, rfl, rfl⟩
 refine cX (js rfl (qb ?_))
 refine X.cond (t := !(sysOk ar rs)) rfl (fun h1 => ?_) (fun h1 => ?_)
 ·have hsys : sysOk ar rs = false := Bool.not_inj (y := false) h1
  refine qc (qa (qg (sN) rfl (qg (.bool (false)) rfl (qb (qz (qk (qs (L' := L) [sN, .bool (false)] (.tuple #[sN, .bool (false)]) (.tmp rfl (.tmp rfl .nil)) rfl rF rF (sD sR) ?_)))))))
  have e := ps_no hsys
  exact ⟨_, by rw [e]; rfl, by rw [e]; exact SlOf.nilV, by rw [e]; exact Fresh.empty ⟨[], [], nilPeaksD, rfl, rfl⟩, rfl⟩
 have hsys : sysOk ar rs = true := Bool.not_inj (y := true) h1
 refine qx (qc (qa (cX (qE [arv, rsv] isAgg32 jB rfl rfl (Rd.ownN [] rfl rfl) (cX (qr (args := [.agg #[arv, rsv]]) call98 rfl (peaks_spec har hrs (hsys := (hsys))) ?_))))))
 rintro _ F1 _ le1 ⟨x1, rfl, hr1, hr2, rfl⟩
 refine cX (qY (x1) rfl rfl (cX (qY (.bool ((peaksF ar rs).isSome)) rfl rfl (qg (x1) rfl (qg (.bool ((peaksF ar rs).isSome)) rfl (qb (qz (qs (L' := L) [x1, .bool ((peaksF ar rs).isSome)] (.tuple #[x1, .bool ((peaksF ar rs).isSome)]) (.tmp rfl (.tmp rfl .nil)) rfl le1 rF (sD sR) ?_))))))))
 have e := ps_yes hsys
 exact ⟨_, by rw [e], by rw [e]; exact hr1, by rw [e]; exact hr2, rfl⟩
end Go.Proofs.Ytcdjpapjjoldeaa
