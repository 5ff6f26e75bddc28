/-
  Walks, one after the other (part 4).
-/
import Derived.Test.YtcdjpapjjoldeaaGreatQTL2
import Derived.Test.YtcdjpapjjoldeaaGreatQTB2
import Derived.Test.YtcdjpapjjoldeaaGreatQTB1
set_option linter.unusedSimpArgs false
set_option linter.unusedVariables false
namespace Go.Proofs.YtcdjpapjjoldeaaGreat
open Go X M Tryz

/- spec.l11Away -/
theorem away2_spec {F : FH} {L : List HP} {tv : Value} {t : List Int} (ht : IntsF F tv t) {k : Int} (hk24 : k = 24) (hlt : t.length ≤ 4000000) (htg : ∀ i, i < t.length → -4000000 ≤ t.getD i 0) :
    Does prog 223 [tv, ii (k)] F (L) (fun v F' L' => F = F' ∧ IsSl v ∧ intsH 2 v (awayL t) :: L = L') := by
 refine qD func223 rfl rfl rfl (qc (qa (qg (sN) rfl (qb (qc (qa (cX (qM (s := 1) [] [ii (0)] [] qd qo jk rfl (by decide) rfl CellsAre.nil rfl ?_))))))))
 intro v1 hv1
 refine qg (v1) rfl (qb (qc (qc (qa (qg (ii (0)) rfl (qb (qF (jj (α := Nat × Value × List Int) (fun xQ => [(0, tv), (1, ii (k)), (5, xQ.2.1), (6, ii (((xQ.1 : Nat) : Int)))]) (fun xQ => intsH 2 xQ.2.1 xQ.2.2 :: L) (fun xQ F' => F = F' ∧ (IsSl xQ.2.1) ∧ (xQ.1 ≤ t.length) ∧ (xQ.2.2 = awayL (t.take xQ.1)) ∧ (xQ.2.2.length = xQ.1)) (fun xQ => t.length - xQ.1) (0, v1, []) ⟨rfl, rfl, rfl, rfl, ⟨⟩⟩ (sC sR) ⟨rfl, ((jJ hv1)), (by (try dsimp only) <;> omega), (rfl), (rfl)⟩ ?_))))))))
 rintro ⟨j, ov, os⟩ rE _ _ ⟨rfl, hov, hj, hos, hol⟩
 show X _ _ _ _ (envs [(0, tv), (1, ii (k)), (5, ov), (6, ii ((j : Int)))] rE) _ (intsH 2 ov os :: L)
 dsimp only at hov hj hos hol
 have hgj := htg j
 refine qc (qc (qa (qf (ii ((j : Int))) rfl (qf (tv) rfl (cX (qC qd rfl ht.slv (cX (qL rfl rfl (qb ?_)))))))))
 refine qx (p := (j : Int) < (t.length : Int)) rfl (fun h1 => ?_) (fun h1 => ?_)
 ·refine qw (qc (qF (qc (qa (qf (tv) rfl (qf (ii ((j : Int))) rfl (cX (ql j qd qo rfl rfl rfl ht.slv (by omega) (Nat.mul_one _) (cX (qi qK rfl (ht.rd (by omega)) (cX (qL rfl rfl (qb ?_)))))))))))))
  refine qx (p := (t.getD j 0 : Int) < 0) rfl (fun h2 => ?_) (fun h2 => ?_)
  ·refine qa (qf (ov) rfl (qf (tv) rfl (qf (ii ((j : Int))) rfl (cX (ql j qd qo rfl rfl rfl ht.slv (by omega) (Nat.mul_one _) (cX (qi qK rfl (ht.rd (by omega)) (qf (ii (k)) rfl (cX (qY ((t.getD j 0) - k) rfl rfl (by omega) (by omega) (cX (qM (s := 1) [ii ((t.getD j 0) - k)] [ii (0)] [(0, [ii ((t.getD j 0) - k)])] qd qo jk rfl (by decide) rfl (.cons rfl CellsAre.nil) rfl ?_))))))))))))
   intro v2 hv2
   refine cX (jW (u := (t.getD j 0) - k) [_] _ qd typeInfo2 rfl rfl rfl rfl rfl rfl (SlV.own [] rfl) (Rd.sl [] rfl rfl) (by (try simp only [List.length_append, List.length_nil, List.length_cons, List.length_singleton, List.length_take, List.length_drop]); omega) ?_)
   intro v3 hs1 hn1
   refine qg (v3) rfl (qb (qa (qf (ii ((j : Int))) rfl (cX (qI (((j + 1 : Nat) : Int)) rfl rfl (by omega) (by omega) (qg (ii (((j + 1 : Nat) : Int))) rfl (qb ?_)))))))
   exact ⟨(j + 1, v3, os ++ [(t.getD j 0) - k]), _, FLe.refl _, rF, ⟨rfl, rfl, rfl, rfl, ⟨⟩⟩, (sD (sC sR)), ⟨rfl, (hs1), (by (try dsimp only) <;> omega), (by (try dsimp only); rw [hos]; exact (away_take (by omega) (by first | (left; constructor <;> omega) | (right; constructor <;> omega))).symm), (by (try dsimp only); rw [List.length_append, List.length_singleton]; omega)⟩, (by omega)⟩
  refine qa (qf (ov) rfl (qf (tv) rfl (qf (ii ((j : Int))) rfl (cX (ql j qd qo rfl rfl rfl ht.slv (by omega) (Nat.mul_one _) (cX (qi qK rfl (ht.rd (by omega)) (cX (qM (s := 1) [ii (t.getD j 0)] [ii (0)] [(0, [ii (t.getD j 0)])] qd qo jk rfl (by decide) rfl (.cons rfl CellsAre.nil) rfl ?_)))))))))
  intro v4 hv3
  refine cX (jW (u := t.getD j 0) [_] _ qd typeInfo2 rfl rfl rfl rfl rfl rfl (SlV.own [] rfl) (Rd.sl [] rfl rfl) (by (try simp only [List.length_append, List.length_nil, List.length_cons, List.length_singleton, List.length_take, List.length_drop]); omega) ?_)
  intro v5 hs2 hn2
  refine qg (v5) rfl (qb (qa (qf (ii ((j : Int))) rfl (cX (qI (((j + 1 : Nat) : Int)) rfl rfl (by omega) (by omega) (qg (ii (((j + 1 : Nat) : Int))) rfl (qb ?_)))))))
  exact ⟨(j + 1, v5, os ++ [t.getD j 0]), _, FLe.refl _, rF, ⟨rfl, rfl, rfl, rfl, ⟨⟩⟩, (sD (sC sR)), ⟨rfl, (hs2), (by (try dsimp only) <;> omega), (by (try dsimp only); rw [hos]; exact (away_take (by omega) (by first | (left; constructor <;> omega) | (right; constructor <;> omega))).symm), (by (try dsimp only); rw [List.length_append, List.length_singleton]; omega)⟩, (by omega)⟩
 refine ja (qu (qu (qJ (qc (qa (qf (ov) rfl (qg (ov) rfl (qb (qy (qs (L' := intsH 2 ov os :: L) [ov] (ov) (.tmp rfl .nil) rfl rF rF (sC sR) ?_))))))))))
 refine ⟨rfl, hov, ?_⟩
 have hxs : (awayL t : List Int) = os := by rw [hos, show j = t.length from by omega, List.take_length]
 exact congrArg (fun z => intsH 2 _ z :: L) hxs

/- spec.l11Full -/
set_option maxHeartbeats 1000000 in
theorem full_step {k : Nat} (ih : ∀ k9 : Nat, k9 < k → ∀ {F : FH} {L : List HP} {ub : Nat} {ov : Value} {ocs : List Value} {ar : List Int} {bl : RowL} (hov : IsSl ov) (hC : RowsC F ocs bl) (hb : BOk ar bl) {σ : Sbs} {ρ : Int → Nat} {tv : Value} {t : List Int} (ht : IntsF F tv t) (hσ : Sol bl σ) (hρ : Acyc bl ρ) (htk : ∀ m ∈ t, m < 0 → ρ m < k9) (htg : ∀ i, i < t.length → -48 ≤ t.getD i 0) (htl : t.length ≤ 200), Does prog 224 [ptr ub 0, tv] F (cellsH ub [ov] 282 :: slH 22 1 ov 48 ocs :: L) (fun v F' L' => IsSl v ∧ F = F' ∧ intsH 2 v ((fullX σ t)) :: cellsH ub [ov] 282 :: slH 22 1 ov 48 ocs :: L = L')) {F : FH} {L : List HP} {ub : Nat} {ov : Value} {ocs : List Value} {ar : List Int} {bl : RowL} (hov : IsSl ov) (hC : RowsC F ocs bl) (hb : BOk ar bl) {σ : Sbs} {ρ : Int → Nat} {tv : Value} {t : List Int} (ht : IntsF F tv t) (hσ : Sol bl σ) (hρ : Acyc bl ρ) (htk : ∀ m ∈ t, m < 0 → ρ m < k) (htg : ∀ i, i < t.length → -48 ≤ t.getD i 0) (htl : t.length ≤ 200) :
    Does prog 224 [ptr ub 0, tv] F (cellsH ub [ov] 282 :: slH 22 1 ov 48 ocs :: L) (fun v F' L' => IsSl v ∧ F = F' ∧ intsH 2 v ((fullX σ t)) :: cellsH ub [ov] 282 :: slH 22 1 ov 48 ocs :: L = L') := by
 refine qD func224 rfl rfl rfl ?_
 have hbl := hb.len
 refine qc (qa (qg (sN) rfl (qb (qc (qa (cX (qM (s := 1) [] [ii (0)] [] qd qo jk rfl (by decide) rfl CellsAre.nil rfl ?_)))))))
 intro v1 hv1
 refine qg (v1) rfl (qb (qc (qc (qa (qg (ii (0)) rfl (qb (qF (jj (α := Nat × Value × List Int) (fun xQ => [(0, ptr ub 0), (1, tv), (5, xQ.2.1), (6, ii (((xQ.1 : Nat) : Int)))]) (fun xQ => intsH 2 xQ.2.1 xQ.2.2 :: cellsH ub [ov] 282 :: slH 22 1 ov 48 ocs :: L) (fun xQ F' => F = F' ∧ (IsSl xQ.2.1) ∧ (xQ.1 ≤ t.length) ∧ (xQ.2.2 = ap σ (t.take xQ.1)) ∧ (xQ.2.2.length ≤ 60)) (fun xQ => t.length - xQ.1) (0, v1, []) ⟨rfl, rfl, rfl, rfl, ⟨⟩⟩ (sC (sC (sC sR))) ⟨rfl, ((jJ hv1)), (by (try dsimp only) <;> omega), (by simp [ap]), (Nat.zero_le _)⟩ ?_))))))))
 rintro ⟨j, wv, ws⟩ rE _ _ ⟨rfl, hwv, hj, hws, hwl⟩
 show X _ _ _ _ (envs [(0, ptr ub 0), (1, tv), (5, wv), (6, ii ((j : Int)))] rE) _ (intsH 2 wv ws :: cellsH ub [ov] 282 :: slH 22 1 ov 48 ocs :: L)
 dsimp only at hwv hj hws hwl
 have hgj := fun h : j < t.length => htg j h
 have hwl2 : ws.length = (ap σ (t.take j)).length := congrArg List.length hws
 refine qc (qc (qa (qf (ii ((j : Int))) rfl (qf (tv) rfl (cX (qC qd rfl ht.slv (cX (qL rfl rfl (qb ?_)))))))))
 refine qx (p := (j : Int) < (t.length : Int)) rfl (fun h1 => ?_) (fun h1 => ?_)
 ·refine qw (qc (qF (qc (qc ?_))))
  by_cases h2 : (t.getD j 0 : Int) ≥ 0
  ·have hsj : σ (t.getD j 0) = [(t.getD j 0)] := hσ.sym (by omega)
   refine jn [intsH 2 wv ws, cellsH ub [ov] 282, slH 22 1 ov 48 ocs] L 15 [] [[], [], [0, 1], [2], [3], [4], [5], [5, 6], [5, 7], [5, 8], [5], [5], [5, 10, 11], [5, 12], [5, 13]] (phiL [qe tv, qe (ii ((j : Int)) : Value), qe (.pointer (some (elemA tv (j)))), qe (ii (t.getD j 0)), qe (.bool (decide ((t.getD j 0 : Int) ≥ 0)) : Value), qe (.bool (decide ((t.getD j 0 : Int) ≥ 0)) : Value), qe undef, qe undef, qe undef, qe undef, qe undef, qe undef, qe undef, qe undef, qe undef]) (ownL []) mixed rfl rfl (by kernel_rfl) ?_ ?_
   ·refine pD (fun W R z9 => ?_) ?_
    ·refine qh (qj (tv) rfl ?_)
     exact ⟨rfl, rfl, rfl⟩
    refine pD (fun W R z9 => ?_) ?_
    ·refine qh (qj (ii ((j : Int))) rfl ?_)
     exact ⟨rfl, rfl, rfl⟩
    refine pD (fun W R z9 => ?_) ?_
    ·rw [eS (l := [(0, _), (1, _)]) ⟨z9 0 rfl, z9 1 rfl, ⟨⟩⟩]
     refine qh (ql j qd qo rfl rfl rfl ht.slv (by omega) (Nat.mul_one _) ?_)
     exact ⟨rfl, rfl, rfl⟩
    refine pD (fun W R z9 => ?_) ?_
    ·rw [eS (l := [(2, _)]) ⟨z9 2 rfl, ⟨⟩⟩]
     refine qh (qi qK rfl (ht.rd (by omega)) ?_)
     exact ⟨rfl, rfl, rfl⟩
    refine pD (fun W R z9 => ?_) ?_
    ·rw [eS (l := [(3, _)]) ⟨z9 3 rfl, ⟨⟩⟩]
     refine qh (jT rfl rfl ?_)
     exact ⟨rfl, rfl, rfl⟩
    refine pD (fun W R z9 => ?_) ?_
    ·rw [eS (l := [(4, _)]) ⟨z9 4 rfl, ⟨⟩⟩]
     refine qh (qj (.bool (decide ((t.getD j 0 : Int) ≥ 0))) rfl ?_)
     exact ⟨rfl, rfl, rfl⟩
    refine pD (fun W R z9 => ?_) ?_
    ·rw [eS (l := [(5, _)]) ⟨z9 5 rfl, ⟨⟩⟩]
     exact jd (t := 20) rfl (vT h2) ⟨rfl, rfl, rfl⟩
    refine pD (fun W R z9 => ?_) ?_
    ·rw [eS (l := [(5, _), (6, undef)]) ⟨z9 5 rfl, z9 6 rfl, ⟨⟩⟩]
     exact jd (t := 20) rfl (vT h2) ⟨rfl, rfl, rfl⟩
    refine pD (fun W R z9 => ?_) ?_
    ·rw [eS (l := [(5, _), (7, undef)]) ⟨z9 5 rfl, z9 7 rfl, ⟨⟩⟩]
     exact jd (t := 20) rfl (vT h2) ⟨rfl, rfl, rfl⟩
    refine pD (fun W R z9 => ?_) ?_
    ·rw [eS (l := [(5, _), (8, undef)]) ⟨z9 5 rfl, z9 8 rfl, ⟨⟩⟩]
     exact jd (t := 20) rfl (vT h2) ⟨rfl, rfl, rfl⟩
    refine pD (fun W R z9 => ?_) ?_
    ·rw [eS (l := [(5, _)]) ⟨z9 5 rfl, ⟨⟩⟩]
     exact jd (t := 20) rfl (vT h2) ⟨rfl, rfl, rfl⟩
    refine pD (fun W R z9 => ?_) ?_
    ·rw [eS (l := [(5, _)]) ⟨z9 5 rfl, ⟨⟩⟩]
     exact jd (t := 20) rfl (vT h2) ⟨rfl, rfl, rfl⟩
    refine pD (fun W R z9 => ?_) ?_
    ·rw [eS (l := [(5, _), (10, undef), (11, undef)]) ⟨z9 5 rfl, z9 10 rfl, z9 11 rfl, ⟨⟩⟩]
     exact jd (t := 20) rfl (vT h2) ⟨rfl, rfl, rfl⟩
    refine pD (fun W R z9 => ?_) ?_
    ·rw [eS (l := [(5, _), (12, undef)]) ⟨z9 5 rfl, z9 12 rfl, ⟨⟩⟩]
     exact jd (t := 20) rfl (vT h2) ⟨rfl, rfl, rfl⟩
    refine pD (fun W R z9 => ?_) ?_
    ·rw [eS (l := [(5, _), (13, undef)]) ⟨z9 5 rfl, z9 13 rfl, ⟨⟩⟩]
     exact jd (t := 20) rfl (vT h2) ⟨rfl, rfl, rfl⟩
    exact stepsP.nil
   intro W hphi
   rw [eS (l := [(5, _), (9, undef), (14, undef)]) ⟨(hphi 5 (by decide)), (hphi 9 (by decide)), (hphi 14 (by decide)), ⟨⟩⟩]
   show XL _ _ _ _ _ _ _ (intsH 2 wv ws :: cellsH ub [ov] 282 :: slH 22 1 ov 48 ocs :: L)
   refine qp (t := 20) rfl (vT h2) (qp (t := 20) rfl (vT h2) (qp (t := 20) rfl (vT h2) (qp (t := 20) rfl (vT h2) (cX (qR (.bool (true)) (vT h2) rfl (qb (jB rfl (qa (qf (wv) rfl (qf (tv) rfl ?_))))))))))
   refine qf (ii ((j : Int))) rfl (cX (ql j qd qo rfl rfl rfl ht.slv (by omega) (Nat.mul_one _) (cX (qi qK rfl (ht.rd (by omega)) (cX (qM (s := 1) [ii (t.getD j 0)] [ii (0)] [(0, [ii (t.getD j 0)])] qd qo jk rfl (by decide) rfl (.cons rfl CellsAre.nil) rfl ?_))))))
   intro v2 hv2
   refine cX (jW (u := t.getD j 0) [_] _ qd typeInfo2 rfl rfl rfl rfl rfl rfl (SlV.own [] rfl) (Rd.sl [] rfl rfl) (by (try simp only [List.length_append, List.length_nil, List.length_cons, List.length_singleton, List.length_take, List.length_drop]); omega) ?_)
   intro v3 hs1 hn1
   refine qg (v3) rfl (qb (qc (qa (qf (v3) rfl (cX (qC qd rfl (intsH.slv [_] rfl) (cX (jH rfl rfl (qb ?_)))))))))
   refine qx (p := ((((ws ++ [t.getD j 0]).length : Nat) : Int) : Int) > 60) rfl (fun h3 => ?_) (fun h3 => ?_)
   ·have hnext : ws ++ [t.getD j 0] = ws ++ σ (t.getD j 0) := by rw [hsj]
    have hbig2 : 60 < (ws ++ σ (t.getD j 0)).length := by rw [← hnext]; omega
    refine qc (qa (cX (qM (s := 1) [] [ii (0)] [] qd qo jk rfl (by decide) rfl CellsAre.nil rfl ?_)))
    intro v4 hv3
    refine qg (v4) rfl (qb (qy (qz (qk (qk (qz (qk (qs (L' := intsH 2 v4 ([]) :: cellsH ub [ov] 282 :: slH 22 1 ov 48 ocs :: L) [v4] (v4) (.tmp rfl .nil) rfl rF rF (sC (sD (sD (sC (sC sR))))) ?_))))))))
    have e9 : fullX σ t = [] := full_no (σ := σ) (j := j) (by omega) (by rw [List.length_append] at hbig2; omega)
    rw [e9]
    exact ⟨(jJ hv3), rfl, rfl⟩
   have hnext : ws ++ [t.getD j 0] = ws ++ σ (t.getD j 0) := by rw [hsj]
   have hnlen : (ws ++ [t.getD j 0]).length ≤ 60 := by omega
   refine qw (qa (qf (ii ((j : Int))) rfl (cX (qI (((j + 1 : Nat) : Int)) rfl rfl (by omega) (by omega) (qg (ii (((j + 1 : Nat) : Int))) rfl (qb ?_))))))
   exact ⟨(j + 1, v3, ws ++ [t.getD j 0]), _, FLe.refl _, rF, ⟨rfl, rfl, rfl, rfl, ⟨⟩⟩, (sD (sC (sC (sC sR)))), ⟨rfl, (hs1), (by (try dsimp only) <;> omega), (by (try dsimp only); rw [ap_take (by omega), ← hws]; exact hnext), (by (try dsimp only); exact hnlen)⟩, (by omega)⟩
  have hj0 : t.getD j 0 < 0 := by omega
  have hgj2 := hgj (by omega)
  have hrj := htk _ (mem_of_getD (k := j) (by omega) rfl) hj0
  refine jn [intsH 2 wv ws, cellsH ub [ov] 282, slH 22 1 ov 48 ocs] L 15 [] [[], [], [0, 1], [2], [3], [4], [5], [5, 6], [5, 7], [5, 8], [5], [5], [5, 10, 11], [5, 12], [5, 13]] (phiL [qe tv, qe (ii ((j : Int)) : Value), qe (.pointer (some (elemA tv (j)))), qe (ii (t.getD j 0)), qe (.bool (decide ((t.getD j 0 : Int) ≥ 0)) : Value), qe (.bool (decide ((t.getD j 0 : Int) ≥ 0)) : Value), qe (ptr ub 0), qe (ptr ub 0), qe (ptr ub 0), qe ov, qe tv, qe (ii ((j : Int)) : Value), qe (.pointer (some (elemA tv (j)))), qe (ii (t.getD j 0)), qe (ii ((-1) - (t.getD j 0)))]) (ownL []) mixed rfl rfl (by kernel_rfl) ?_ ?_
  ·refine pD (fun W R z9 => ?_) ?_
   ·refine qh (qj (tv) rfl ?_)
    exact ⟨rfl, rfl, rfl⟩
   refine pD (fun W R z9 => ?_) ?_
   ·refine qh (qj (ii ((j : Int))) rfl ?_)
    exact ⟨rfl, rfl, rfl⟩
   refine pD (fun W R z9 => ?_) ?_
   ·rw [eS (l := [(0, _), (1, _)]) ⟨z9 0 rfl, z9 1 rfl, ⟨⟩⟩]
    refine qh (ql j qd qo rfl rfl rfl ht.slv (by omega) (Nat.mul_one _) ?_)
    exact ⟨rfl, rfl, rfl⟩
   refine pD (fun W R z9 => ?_) ?_
   ·rw [eS (l := [(2, _)]) ⟨z9 2 rfl, ⟨⟩⟩]
    refine qh (qi qK rfl (ht.rd (by omega)) ?_)
    exact ⟨rfl, rfl, rfl⟩
   refine pD (fun W R z9 => ?_) ?_
   ·rw [eS (l := [(3, _)]) ⟨z9 3 rfl, ⟨⟩⟩]
    refine qh (jT rfl rfl ?_)
    exact ⟨rfl, rfl, rfl⟩
   refine pD (fun W R z9 => ?_) ?_
   ·rw [eS (l := [(4, _)]) ⟨z9 4 rfl, ⟨⟩⟩]
    refine qh (qj (.bool (decide ((t.getD j 0 : Int) ≥ 0))) rfl ?_)
    exact ⟨rfl, rfl, rfl⟩
   refine pD (fun W R z9 => ?_) ?_
   ·rw [eS (l := [(5, _)]) ⟨z9 5 rfl, ⟨⟩⟩]
    refine qW (t := 20) rfl (vF h2) (qj (ptr ub 0) rfl ?_)
    exact ⟨rfl, rfl, rfl⟩
   refine pD (fun W R z9 => ?_) ?_
   ·rw [eS (l := [(5, _), (6, _)]) ⟨z9 5 rfl, z9 6 rfl, ⟨⟩⟩]
    refine qW (t := 20) rfl (vF h2) (jc rfl ?_)
    exact ⟨rfl, rfl, rfl⟩
   refine pD (fun W R z9 => ?_) ?_
   ·rw [eS (l := [(5, _), (7, _)]) ⟨z9 5 rfl, z9 7 rfl, ⟨⟩⟩]
    refine qW (t := 20) rfl (vF h2) (qn (0) jS rfl jg (by decide) rfl rfl ?_)
    exact ⟨rfl, rfl, rfl⟩
   refine pD (fun W R z9 => ?_) ?_
   ·rw [eS (l := [(5, _), (8, _)]) ⟨z9 5 rfl, z9 8 rfl, ⟨⟩⟩]
    refine qW (t := 20) rfl (vF h2) (qi jE rfl (Rd.own [_] rfl rfl) ?_)
    exact ⟨rfl, rfl, rfl⟩
   refine pD (fun W R z9 => ?_) ?_
   ·rw [eS (l := [(5, _)]) ⟨z9 5 rfl, ⟨⟩⟩]
    refine qW (t := 20) rfl (vF h2) (qj (tv) rfl ?_)
    exact ⟨rfl, rfl, rfl⟩
   refine pD (fun W R z9 => ?_) ?_
   ·rw [eS (l := [(5, _)]) ⟨z9 5 rfl, ⟨⟩⟩]
    refine qW (t := 20) rfl (vF h2) (qj (ii ((j : Int))) rfl ?_)
    exact ⟨rfl, rfl, rfl⟩
   refine pD (fun W R z9 => ?_) ?_
   ·rw [eS (l := [(5, _), (10, _), (11, _)]) ⟨z9 5 rfl, z9 10 rfl, z9 11 rfl, ⟨⟩⟩]
    refine qW (t := 20) rfl (vF h2) (ql j qd qo rfl rfl rfl ht.slv (by omega) (Nat.mul_one _) ?_)
    exact ⟨rfl, rfl, rfl⟩
   refine pD (fun W R z9 => ?_) ?_
   ·rw [eS (l := [(5, _), (12, _)]) ⟨z9 5 rfl, z9 12 rfl, ⟨⟩⟩]
    refine qW (t := 20) rfl (vF h2) (qi qK rfl (ht.rd (by omega)) ?_)
    exact ⟨rfl, rfl, rfl⟩
   refine pD (fun W R z9 => ?_) ?_
   ·rw [eS (l := [(5, _), (13, _)]) ⟨z9 5 rfl, z9 13 rfl, ⟨⟩⟩]
    refine qW (t := 20) rfl (vF h2) (qY ((-1) - (t.getD j 0)) rfl rfl (by omega) (by omega) ?_)
    exact ⟨rfl, rfl, rfl⟩
   exact stepsP.nil
  intro W hphi
  rw [eS (l := [(5, _), (9, _), (14, _)]) ⟨(hphi 5 (by decide)), (hphi 9 (by decide)), (hphi 14 (by decide)), ⟨⟩⟩]
  show XL _ _ _ _ _ _ _ (intsH 2 wv ws :: cellsH ub [ov] 282 :: slH 22 1 ov 48 ocs :: L)
  refine qq (t := 20) rfl (vF h2) (ql (((-1) - (t.getD j 0)).toNat) qA qr rfl rfl (by omega) (SlV.own [_, _] rfl) (by omega) (Nat.mul_one _) ?_)
  obtain ⟨a1, ha1, he1⟩ := hC.get (i := ((-1) - (t.getD j 0)).toNat) (by omega)
  refine qq (t := 20) rfl (vF h2) (qi qP rfl (Rd.sl [_, _] rfl he1) (qq (t := 20) rfl (vF h2) (qC qd rfl ha1.slv (qq (t := 20) rfl (vF h2) (jI rfl rfl (cX (qS (.bool (decide ((((((bl.getD (((-1) - (t.getD j 0)).toNat) [])).length : Nat) : Int) : Int) = 0))) (vF h2) rfl (qb ?_))))))))
  refine qx (p := (((((bl.getD (((-1) - (t.getD j 0)).toNat) [])).length : Nat) : Int) : Int) = 0) rfl (fun h4 => ?_) (fun h4 => ?_)
  ·have hsj : σ (t.getD j 0) = [(t.getD j 0)] := hσ.free (by rw [lkN_get hj0]; exact List.eq_nil_of_length_eq_zero (by unfold varIx; omega))
   refine qa (qf (wv) rfl (qf (tv) rfl (qf (ii ((j : Int))) rfl (cX (ql j qd qo rfl rfl rfl ht.slv (by omega) (Nat.mul_one _) (cX (qi qK rfl (ht.rd (by omega)) (cX (qM (s := 1) [ii (t.getD j 0)] [ii (0)] [(0, [ii (t.getD j 0)])] qd qo jk rfl (by decide) rfl (.cons rfl CellsAre.nil) rfl ?_)))))))))
   intro v5 hv4
   refine cX (jW (u := t.getD j 0) [_] _ qd typeInfo2 rfl rfl rfl rfl rfl rfl (SlV.own [] rfl) (Rd.sl [] rfl rfl) (by (try simp only [List.length_append, List.length_nil, List.length_cons, List.length_singleton, List.length_take, List.length_drop]); omega) ?_)
   intro v6 hs2 hn2
   refine qg (v6) rfl (qb (qc (qa (qf (v6) rfl (cX (qC qd rfl (intsH.slv [_] rfl) (cX (jH rfl rfl (qb ?_)))))))))
   refine qx (p := ((((ws ++ [t.getD j 0]).length : Nat) : Int) : Int) > 60) rfl (fun h5 => ?_) (fun h5 => ?_)
   ·have hnext : ws ++ [t.getD j 0] = ws ++ σ (t.getD j 0) := by rw [hsj]
    have hbig2 : 60 < (ws ++ σ (t.getD j 0)).length := by rw [← hnext]; omega
    refine qc (qa (cX (qM (s := 1) [] [ii (0)] [] qd qo jk rfl (by decide) rfl CellsAre.nil rfl ?_)))
    intro v7 hv5
    refine qg (v7) rfl (qb (qy (qz (qk (qk (qz (qk (qs (L' := intsH 2 v7 ([]) :: cellsH ub [ov] 282 :: slH 22 1 ov 48 ocs :: L) [v7] (v7) (.tmp rfl .nil) rfl rF rF (sC (sD (sD (sC (sC sR))))) ?_))))))))
    have e9 : fullX σ t = [] := full_no (σ := σ) (j := j) (by omega) (by rw [List.length_append] at hbig2; omega)
    rw [e9]
    exact ⟨(jJ hv5), rfl, rfl⟩
   have hnext : ws ++ [t.getD j 0] = ws ++ σ (t.getD j 0) := by rw [hsj]
   have hnlen : (ws ++ [t.getD j 0]).length ≤ 60 := by omega
   refine qw (qa (qf (ii ((j : Int))) rfl (cX (qI (((j + 1 : Nat) : Int)) rfl rfl (by omega) (by omega) (qg (ii (((j + 1 : Nat) : Int))) rfl (qb ?_))))))
   exact ⟨(j + 1, v6, ws ++ [t.getD j 0]), _, FLe.refl _, rF, ⟨rfl, rfl, rfl, rfl, ⟨⟩⟩, (sD (sC (sC (sC sR)))), ⟨rfl, (hs2), (by (try dsimp only) <;> omega), (by (try dsimp only); rw [ap_take (by omega), ← hws]; exact hnext), (by (try dsimp only); exact hnlen)⟩, (by omega)⟩
  have hlj : lkN bl (t.getD j 0) ≠ [] := fun e => by (have e9 : (bl.getD (varIx (t.getD j 0)) []).length = 0 := by rw [← lkN_get hj0, e]; rfl); unfold varIx at e9; omega
  have hwj := hb.wt _ hj0 hlj
  rw [lkN_get hj0] at hwj
  have hsj : σ (t.getD j 0) = ap σ (bl.getD (varIx (t.getD j 0)) []) := by rw [hσ.bound hlj, lkN_get hj0]
  have hfl : (fullX σ (bl.getD (-1 - (t.getD j 0)).toNat [])).length ≤ 60 := fullX_len
  refine qc ?_
  refine jn [intsH 2 wv ws, cellsH ub [ov] 282, slH 22 1 ov 48 ocs] L 12 [] [[], [], [1], [2], [3], [], [], [5, 6], [7], [8], [4, 9], [10]] (phiL [qe (ptr ub 0), qe (ptr ub 0), qe (ptr ub 0), qe (ptr ub 0), qe ov, qe tv, qe (ii ((j : Int)) : Value), qe (.pointer (some (elemA tv (j)))), qe (ii (t.getD j 0)), qe (ii ((-1) - (t.getD j 0))), qe (.pointer (some (elemA ov (((-1) - (t.getD j 0)).toNat)))), qe a1]) (ownL []) mixed rfl rfl (by kernel_rfl) ?_ ?_
  ·refine pD (fun W R z9 => ?_) ?_
   ·refine qh (qj (ptr ub 0) rfl ?_)
    exact ⟨rfl, rfl, rfl⟩
   refine pD (fun W R z9 => ?_) ?_
   ·refine qh (qj (ptr ub 0) rfl ?_)
    exact ⟨rfl, rfl, rfl⟩
   refine pD (fun W R z9 => ?_) ?_
   ·rw [eS (l := [(1, _)]) ⟨z9 1 rfl, ⟨⟩⟩]
    refine qh (jc rfl ?_)
    exact ⟨rfl, rfl, rfl⟩
   refine pD (fun W R z9 => ?_) ?_
   ·rw [eS (l := [(2, _)]) ⟨z9 2 rfl, ⟨⟩⟩]
    refine qh (qn (0) jS rfl jg (by decide) rfl rfl ?_)
    exact ⟨rfl, rfl, rfl⟩
   refine pD (fun W R z9 => ?_) ?_
   ·rw [eS (l := [(3, _)]) ⟨z9 3 rfl, ⟨⟩⟩]
    refine qh (qi jE rfl (Rd.own [_] rfl rfl) ?_)
    exact ⟨rfl, rfl, rfl⟩
   refine pD (fun W R z9 => ?_) ?_
   ·refine qh (qj (tv) rfl ?_)
    exact ⟨rfl, rfl, rfl⟩
   refine pD (fun W R z9 => ?_) ?_
   ·refine qh (qj (ii ((j : Int))) rfl ?_)
    exact ⟨rfl, rfl, rfl⟩
   refine pD (fun W R z9 => ?_) ?_
   ·rw [eS (l := [(5, _), (6, _)]) ⟨z9 5 rfl, z9 6 rfl, ⟨⟩⟩]
    refine qh (ql j qd qo rfl rfl rfl ht.slv (by omega) (Nat.mul_one _) ?_)
    exact ⟨rfl, rfl, rfl⟩
   refine pD (fun W R z9 => ?_) ?_
   ·rw [eS (l := [(7, _)]) ⟨z9 7 rfl, ⟨⟩⟩]
    refine qh (qi qK rfl (ht.rd (by omega)) ?_)
    exact ⟨rfl, rfl, rfl⟩
   refine pD (fun W R z9 => ?_) ?_
   ·rw [eS (l := [(8, _)]) ⟨z9 8 rfl, ⟨⟩⟩]
    refine qh (qY ((-1) - (t.getD j 0)) rfl rfl (by omega) (by omega) ?_)
    exact ⟨rfl, rfl, rfl⟩
   refine pD (fun W R z9 => ?_) ?_
   ·rw [eS (l := [(4, _), (9, _)]) ⟨z9 4 rfl, z9 9 rfl, ⟨⟩⟩]
    refine qh (ql (((-1) - (t.getD j 0)).toNat) qA qr rfl rfl (by omega) (SlV.own [_, _] rfl) (by omega) (Nat.mul_one _) ?_)
    exact ⟨rfl, rfl, rfl⟩
   refine pD (fun W R z9 => ?_) ?_
   ·rw [eS (l := [(10, _)]) ⟨z9 10 rfl, ⟨⟩⟩]
    refine qh (qi qP rfl (Rd.sl [_, _] rfl he1) ?_)
    exact ⟨rfl, rfl, rfl⟩
   exact stepsP.nil
  intro W hphi
  rw [eS (l := [(0, _), (11, _)]) ⟨(hphi 0 (by decide)), (hphi 11 (by decide)), ⟨⟩⟩]
  show XL _ _ _ _ _ _ _ (intsH 2 wv ws :: cellsH ub [ov] 282 :: slH 22 1 ov 48 ocs :: L)
  refine ji (qE (A := [_, _])) ?_
  show XL _ _ _ _ _ _ _ (slH 22 1 ov 48 ocs :: intsH 2 wv ws :: cellsH ub [ov] 282 :: L)
  refine ji (qE (A := [_, _])) ?_
  show XL _ _ _ _ _ _ _ (cellsH ub [ov] 282 :: slH 22 1 ov 48 ocs :: intsH 2 wv ws :: L)
  refine cX (qt (args := [ptr ub 0, a1]) call224 rfl (ih _ hrj hov hC hb ha1 hσ hρ (fun m hm h0 => hρ _ hj0 m (by rw [lkN_get hj0]; exact hm) h0) (fun i hi => hwj.geD hi) (by have := hwj.len; unfold varIx at this; omega)) ?_)
  rintro v8 _ _ _ ⟨hs3, rfl, rfl⟩
  refine qg (v8) rfl (qb (qc (qc (qa (qf (v8) rfl (cX (qC qd rfl (intsH.slv [] rfl) (cX (jI rfl rfl (qb ?_))))))))))
  refine qx (p := (((((fullX σ ((bl.getD (((-1) - (t.getD j 0)).toNat) [])))).length : Nat) : Int) : Int) = 0) rfl (fun h6 => ?_) (fun h6 => ?_)
  ·have hbig := (fullX_nil hwj.len.1 (hσ.good hb)).1 (List.eq_nil_of_length_eq_zero (by unfold varIx; omega))
   refine qc (qa (cX (qM (s := 1) [] [ii (0)] [] qd qo jk rfl (by decide) rfl CellsAre.nil rfl ?_)))
   intro v9 hv6
   refine qg (v9) rfl (qb (qy (qk (qk (qz (qk (qk (qz (qk (qs (L' := intsH 2 v9 ([]) :: cellsH ub [ov] 282 :: slH 22 1 ov 48 ocs :: L) [v9] (v9) (.tmp rfl .nil) rfl rF rF (sC (sD (sC (sC (sD sR))))) ?_))))))))))
   have e9 : fullX σ t = [] := full_no (σ := σ) (j := j) (by omega) (by rw [hsj]; omega)
   rw [e9]
   exact ⟨(jJ hv6), rfl, rfl⟩
  have hfx : fullX σ (bl.getD (varIx (t.getD j 0)) []) = ap σ (bl.getD (varIx (t.getD j 0)) []) := fullX_yes (fun e => by (have e9 : (fullX σ (bl.getD (varIx (t.getD j 0)) [])).length = 0 := by rw [e]; rfl); unfold varIx at e9; omega)
  refine qw (qa (qf (wv) rfl (qf (v8) rfl (jY [] _ _ rfl (fun F1 le1 hz1 => ?_)))))
  have hf1 : IntsF F1 v8 ((fullX σ ((bl.getD (((-1) - (t.getD j 0)).toNat) [])))) := intsH.fz (xs := (fullX σ ((bl.getD (((-1) - (t.getD j 0)).toNat) [])))) hz1.fz
  refine cX (XOp.appendI [_, _] _ qd typeInfo2 rfl rfl rfl rfl rfl rfl hf1 (by (try simp only [List.length_append, List.length_nil, List.length_cons, List.length_singleton, List.length_take, List.length_drop]); omega) ?_)
  intro v10 hs4 hn3 hm1
  refine qg (v10) rfl (qb (qc (qa (qf (v10) rfl (cX (qC qd rfl (intsH.slv [_, _] rfl) (cX (jH rfl rfl (qb ?_)))))))))
  refine qx (p := ((((ws ++ ((fullX σ ((bl.getD (((-1) - (t.getD j 0)).toNat) []))))).length : Nat) : Int) : Int) > 60) rfl (fun h7 => ?_) (fun h7 => ?_)
  ·have hnext : ws ++ ((fullX σ ((bl.getD (((-1) - (t.getD j 0)).toNat) [])))) = ws ++ σ (t.getD j 0) := by rw [hsj, ← hfx]; rfl
   have hbig2 : 60 < (ws ++ σ (t.getD j 0)).length := by rw [← hnext]; omega
   refine qc (qa (cX (qM (s := 1) [] [ii (0)] [] qd qo jk rfl (by decide) rfl CellsAre.nil rfl ?_)))
   intro v11 hv7
   refine qg (v11) rfl (qb (qy (qz (qk (qk (qz (qk (qs (L' := intsH 2 v11 ([]) :: cellsH ub [ov] 282 :: slH 22 1 ov 48 ocs :: L) [v11] (v11) (.tmp rfl .nil) rfl rF le1 (sC (sC (sC (sD sR)))) ?_))))))))
   have e9 : fullX σ t = [] := full_no (σ := σ) (j := j) (by omega) (by rw [List.length_append] at hbig2; omega)
   rw [e9]
   exact ⟨(jJ hv7), rfl, rfl⟩
  have hnext : ws ++ ((fullX σ ((bl.getD (((-1) - (t.getD j 0)).toNat) [])))) = ws ++ σ (t.getD j 0) := by rw [hsj, ← hfx]; rfl
  have hnlen : (ws ++ ((fullX σ ((bl.getD (((-1) - (t.getD j 0)).toNat) []))))).length ≤ 60 := by omega
  refine qw (qa (qf (ii ((j : Int))) rfl (cX (qI (((j + 1 : Nat) : Int)) rfl rfl (by omega) (by omega) (qg (ii (((j + 1 : Nat) : Int))) rfl (qb ?_))))))
  exact ⟨(j + 1, v10, ws ++ ((fullX σ ((bl.getD (((-1) - (t.getD j 0)).toNat) []))))), _, FLe.refl _, le1, ⟨rfl, rfl, rfl, rfl, ⟨⟩⟩, (qO (qE (A := [_])) (qO (qE (A := [_])) (qO (qE (A := [_, _])) (sC (sC (sC sR)))))), ⟨rfl, (hs4), (by (try dsimp only) <;> omega), (by (try dsimp only); rw [ap_take (by omega), ← hws]; exact hnext), (by (try dsimp only); exact hnlen)⟩, (by omega)⟩
 refine ja (qu (qu (qJ (qc (qa (qf (wv) rfl (qg (wv) rfl (qb (qy (qs (L' := intsH 2 wv ws :: cellsH ub [ov] 282 :: slH 22 1 ov 48 ocs :: L) [wv] (wv) (.tmp rfl .nil) rfl rF rF (sC (sC (sC sR))) ?_))))))))))
 have e9 : fullX σ t = ws := (full_end (by omega) (by omega)).trans hws.symm
 rw [e9]
 exact ⟨hwv, rfl, rfl⟩

theorem full_spec (k : Nat) : ∀ {F : FH} {L : List HP} {ub : Nat} {ov : Value} {ocs : List Value} {ar : List Int} {bl : RowL} (hov : IsSl ov) (hC : RowsC F ocs bl) (hb : BOk ar bl) {σ : Sbs} {ρ : Int → Nat} {tv : Value} {t : List Int} (ht : IntsF F tv t) (hσ : Sol bl σ) (hρ : Acyc bl ρ) (htk : ∀ m ∈ t, m < 0 → ρ m < k) (htg : ∀ i, i < t.length → -48 ≤ t.getD i 0) (htl : t.length ≤ 200), Does prog 224 [ptr ub 0, tv] F (cellsH ub [ov] 282 :: slH 22 1 ov 48 ocs :: L) (fun v F' L' => IsSl v ∧ F = F' ∧ intsH 2 v ((fullX σ t)) :: cellsH ub [ov] 282 :: slH 22 1 ov 48 ocs :: L = L') := by
  induction k using Nat.strongRecOn with
  | _ k ih =>
    intros
    exact full_step ih (by assumption) (by assumption) (by assumption) (by assumption) (by assumption) (by assumption) (by assumption) (by assumption) (by assumption)


/- spec.l11Try -/
set_option maxHeartbeats 1000000 in
set_option maxRecDepth 20000 in
theorem try_spec {F : FH} {L : List HP} {arv : Value} {ar : List Int} (har : IntsF F arv ar) {rsv : Value} {rs : List (List Int × List Int)} (hrs : PairsF F rsv rs) {o : Nat} {p : Nat} {u : Nat} (hsys : sysOk ar rs = true) (ho : o < rs.length) (hu : u < rs.length) (hp : p < (rs.getD o ([], [])).1.length) :
    Does prog 222 [.agg #[arv, rsv], ii ((o : Int)), ii ((p : Int)), ii ((u : Int))] F (L) (fun v F' L' => ∃ (x : Bool) (b7 : Nat) (o7 : Value) (bc : List Value) (l9 : RowL), (.tuple #[ptr b7 0, .bool x] : Value) = v ∧ IsSl o7 ∧ RowsC F' bc l9 ∧ (x = true → MguP ar rs o p u l9) ∧ (x = false → ∀ θ, GoodS ar θ → ap θ (sub ar (rs.getD o ([], [])).1 p) ≠ ap θ (awayL (rs.getD u ([], [])).1)) ∧ cellsH b7 [o7] 282 :: slH 22 1 o7 48 bc :: L = L') := by
 refine qD func222 rfl rfl rfl ?_
 have hlo : termOk ar (rs.getD o ([], [])).1 = true := rule_L hsys ho
 have hllo : 1 ≤ (rs.getD o ([], [])).1.length ∧ (rs.getD o ([], [])).1.length ≤ 60 := termOk_len hlo
 have hglo : ∀ k, k < (rs.getD o ([], [])).1.length → -24 ≤ (rs.getD o ([], [])).1.getD k 0 := fun k h => termOk_ge hlo h
 have hlu : termOk ar (rs.getD u ([], [])).1 = true := rule_L hsys hu
 have hllu : 1 ≤ (rs.getD u ([], [])).1.length ∧ (rs.getD u ([], [])).1.length ≤ 60 := termOk_len hlu
 have hglu : ∀ k, k < (rs.getD u ([], [])).1.length → -24 ≤ (rs.getD u ([], [])).1.getD k 0 := fun k h => termOk_ge hlu h
 have hro : termOk ar (rs.getD o ([], [])).2 = true := rule_R hsys ho
 have hlro : 1 ≤ (rs.getD o ([], [])).2.length ∧ (rs.getD o ([], [])).2.length ≤ 60 := termOk_len hro
 have hgro : ∀ k, k < (rs.getD o ([], [])).2.length → -24 ≤ (rs.getD o ([], [])).2.getD k 0 := fun k h => termOk_ge hro h
 have hru : termOk ar (rs.getD u ([], [])).2 = true := rule_R hsys hu
 have hlru : 1 ≤ (rs.getD u ([], [])).2.length ∧ (rs.getD u ([], [])).2.length ≤ 60 := termOk_len hru
 have hgru : ∀ k, k < (rs.getD u ([], [])).2.length → -24 ≤ (rs.getD u ([], [])).2.getD k 0 := fun k h => termOk_ge hru h
 have hrl := (sysOk_iff.1 hsys).2.1
 have hsig := (sysOk_iff.1 hsys).1
 have hsl := sigOk_spec hsig
 have hee := (termW_of hlo).endN hp
 refine qc (qa (cX (qV [arv, rsv] rfl rfl ?_)))
 intro b1
 refine qg ((.pointer none)) rfl (qg (.bool (false)) rfl (qb (qc (qa (cX (XOp.makeSlice (n := 48) (bytes := 24) [sN] qA qr typeInfo22 rfl jM rfl rfl rfl rfl (by omega) (by omega) ?_))))))
 intro v1 hv1
 rw [nils]
 have hc1 : RowsC F _ _ := RowsC.nils 48
 refine cX (jw [v1] [sN] [(0, 1)] [(0, [v1])] jS zeroValue282 rfl (.cons rfl jg PlacesAre.nil) rfl (.cons (cells_one (jJ hv1)) CellsAre.nil) (cX (qV [v1] rfl rfl ?_)))
 intro b2
 refine qg (ptr b2 0) rfl (qb (qc (qa (cX (qn (1) qH rfl jx (by decide) rfl rfl (cX (qi jG rfl (Rd.own [_, _] rfl rfl) (qf (ii ((o : Int))) rfl (cX (ql o qU jh rfl rfl rfl hrs.slv (by omega) rfl (cX (jZ (o * 2) qQ rfl qr (by decide) rfl rfl ?_))))))))))))
 obtain ⟨a1, a2, ha1, ha2, hr1, hr2⟩ := hrs.rd (i := o) (by omega)
 refine cX (qi qP rfl (hr1 _) (qg (a1) rfl (qb (qc (qa (cX (qn (0) qH rfl qN (by decide) rfl rfl (cX (qB [arv] je qN rfl rfl (Rd.ownN [_, _] rfl rfl) (qf (a1) rfl (qf (ii ((p : Int))) rfl (cX (qt (args := [.agg #[arv], a1, ii (p : Int)]) call197 rfl (l13End_spec (q := p) har ha1 (ho := (termW_of hlo)) (hp := (hp))) ?_)))))))))))))
 rintro _ _ _ _ ⟨rfl, rfl, rfl⟩
 refine qg (ii (((endN ar ((rs.getD o ([], [])).1) p : Nat) : Int))) rfl (qb (qc (X.free0 mixed (by kernel_rfl) (by kernel_rfl) (fun _ _ _ _ _ h => by obtain ⟨h1 | h1, _⟩ := h <;> cases h1) (fun _ _ _ h => by obtain ⟨h1 | h1, _⟩ := h <;> cases h1) ?_)))
 obtain ⟨a3, a4, ha3, ha4, hr3, hr4⟩ := hrs.rd (i := u) (by omega)
 refine XA.drawG [cellsH b2 [v1] 282, slH 22 1 v1 48 ((List.replicate 48 (sN))), cellsH b1 [arv, rsv] 66] L 15 [[], [], [], [], [], [], [], [], [], [], [], [], [], [], []] [[], [], [1], [], [], [], [], [4, 5, 6], [], [8], [], [9, 10], [11], [12], [13]] [[], [], [], [], [], [], [], [], [], [], [], [], [], [], []] (phiG [fun FF us v => v = ptr b2 0, fun FF us v => v = ptr b1 0, fun FF us v => v = (.agg #[arv] : Value), fun FF us v => v = ptr b2 0, fun FF us v => v = a1, fun FF us v => v = (ii ((p : Int)) : Value), fun FF us v => v = (ii (((endN ar ((rs.getD o ([], [])).1) p : Nat) : Int)) : Value), fun FF us v => (v : Value) = v ∧ (IntsF FF v ((((rs.getD o ([], [])).1).drop p).take ((endN ar ((rs.getD o ([], [])).1) p) - p))) ∧ (isNil v = isNil a1), fun FF us v => v = ptr b1 1, fun FF us v => v = rsv, fun FF us v => v = (ii ((u : Int)) : Value), fun FF us v => v = (.pointer (some (elemA rsv (u * 2))) : Value), fun FF us v => v = (.pointer (some (elemA rsv (u * 2))) : Value), fun FF us v => v = a3, fun FF us v => ((v) : Value) = v ∧ (IntsF FF (v) (awayL ((rs.getD u ([], [])).1)))]) (ownL [fun us v => [], fun us v => [], fun us v => [], fun us v => [], fun us v => [], fun us v => [], fun us v => [], fun us v => [], fun us v => [], fun us v => [], fun us v => [], fun us v => [], fun us v => [], fun us v => [], fun us v => []]) rfl rfl (by kernel_rfl) (by kernel_rfl) (MonoG.get (mC (fun le h => h) (mC (fun le h => h) (mC (fun le h => h) (mC (fun le h => h) (mC (fun le h => h) (mC (fun le h => h) (mC (fun le h => h) (mC (fun le h => ⟨h.1, h.2.1.mono le, h.2.2⟩) (mC (fun le h => h) (mC (fun le h => h) (mC (fun le h => h) (mC (fun le h => h) (mC (fun le h => h) (mC (fun le h => h) (mC (fun le h => ⟨h.1, h.2.mono le⟩) MonoG.nil)))))))))))))))) ?_ ?_
 ·refine gD (fun W Fs R lF z9 => ?_) ?_
  ·refine qh (qj (ptr b2 0) rfl ?_)
   exact ⟨rfl, rfl⟩
  refine gD (fun W Fs R lF z9 => ?_) ?_
  ·refine qh (qn (0) qH rfl qN (by decide) rfl rfl ?_)
   exact ⟨rfl, rfl⟩
  refine gD (fun W Fs R lF z9 => ?_) ?_
  ·replace har := har.mono lF
   replace hrs := hrs.mono lF
   replace hc1 := hc1.mono lF
   replace ha1 := ha1.mono lF
   replace ha3 := ha3.mono lF
   replace hr3 := Rd.monoA hr3 lF
   rw [eS (l := [(1, _)]) ⟨z9 1 rfl, ⟨⟩⟩]
   refine qh (qB [arv] je qN rfl rfl (Rd.ownN [_, _] rfl rfl) ?_)
   exact ⟨rfl, rfl⟩
  refine gD (fun W Fs R lF z9 => ?_) ?_
  ·refine qh (qj (ptr b2 0) rfl ?_)
   exact ⟨rfl, rfl⟩
  refine gD (fun W Fs R lF z9 => ?_) ?_
  ·refine qh (qj (a1) rfl ?_)
   exact ⟨rfl, rfl⟩
  refine gD (fun W Fs R lF z9 => ?_) ?_
  ·refine qh (qj (ii ((p : Int))) rfl ?_)
   exact ⟨rfl, rfl⟩
  refine gD (fun W Fs R lF z9 => ?_) ?_
  ·refine qh (qj (ii (((endN ar ((rs.getD o ([], [])).1) p : Nat) : Int))) rfl ?_)
   exact ⟨rfl, rfl⟩
  refine gD (fun W Fs R lF z9 => ?_) ?_
  ·replace har := har.mono lF
   replace hrs := hrs.mono lF
   replace hc1 := hc1.mono lF
   replace ha1 := ha1.mono lF
   replace ha3 := ha3.mono lF
   replace hr3 := Rd.monoA hr3 lF
   rw [eS (l := [(4, _), (5, _), (6, _)]) ⟨z9 4 rfl, z9 5 rfl, z9 6 rfl, ⟨⟩⟩]
   refine qh (jX p (endN ar ((rs.getD o ([], [])).1) p) qd qo rfl ha1 ⟨_, rfl⟩ ⟨_, rfl⟩ (by omega) (by omega) ?_)
   intro v4 hv3 hn2
   exact ⟨⟨rfl, hv3, hn2⟩, rfl⟩
  refine gD (fun W Fs R lF z9 => ?_) ?_
  ·refine qh (qn (1) qH rfl jx (by decide) rfl rfl ?_)
   exact ⟨rfl, rfl⟩
  refine gD (fun W Fs R lF z9 => ?_) ?_
  ·replace har := har.mono lF
   replace hrs := hrs.mono lF
   replace hc1 := hc1.mono lF
   replace ha3 := ha3.mono lF
   replace hr3 := Rd.monoA hr3 lF
   rw [eS (l := [(8, _)]) ⟨z9 8 rfl, ⟨⟩⟩]
   refine qh (qi jG rfl (Rd.own [_, _] rfl rfl) ?_)
   exact ⟨rfl, rfl⟩
  refine gD (fun W Fs R lF z9 => ?_) ?_
  ·refine qh (qj (ii ((u : Int))) rfl ?_)
   exact ⟨rfl, rfl⟩
  refine gD (fun W Fs R lF z9 => ?_) ?_
  ·replace har := har.mono lF
   replace hrs := hrs.mono lF
   replace hc1 := hc1.mono lF
   replace ha3 := ha3.mono lF
   replace hr3 := Rd.monoA hr3 lF
   rw [eS (l := [(9, _), (10, _)]) ⟨z9 9 rfl, z9 10 rfl, ⟨⟩⟩]
   refine qh (ql u qU jh rfl rfl rfl hrs.slv (by omega) rfl ?_)
   exact ⟨rfl, rfl⟩
  refine gD (fun W Fs R lF z9 => ?_) ?_
  ·rw [eS (l := [(11, _)]) ⟨z9 11 rfl, ⟨⟩⟩]
   refine qh (jZ (u * 2) qQ rfl qr (by decide) rfl rfl ?_)
   exact ⟨rfl, rfl⟩
  refine gD (fun W Fs R lF z9 => ?_) ?_
  ·replace har := har.mono lF
   replace hc1 := hc1.mono lF
   replace ha3 := ha3.mono lF
   replace hr3 := Rd.monoA hr3 lF
   rw [eS (l := [(12, _)]) ⟨z9 12 rfl, ⟨⟩⟩]
   refine qh (qi qP rfl (hr3 _) ?_)
   exact ⟨rfl, rfl⟩
  refine gD (fun W Fs R lF z9 => ?_) ?_
  ·replace har := har.mono lF
   replace hc1 := hc1.mono lF
   replace ha3 := ha3.mono lF
   rw [eS (l := [(13, _)]) ⟨z9 13 rfl, ⟨⟩⟩]
   refine qh (jK <| qt (args := [a3, ii (24)]) call223 rfl (away2_spec (k := 24) ha3 (hk24 := (rfl)) (hlt := (by omega)) (htg := (fun i hi => by have := hglu i hi; omega))) ?_)
   rintro v5 _ _ _ ⟨rfl, hs2, rfl⟩
   refine ⟨_, _, rfl, fun F1 le1 hz1 => ?_⟩
   replace har := har.mono le1
   replace hc1 := hc1.mono le1
   have hf1 : IntsF F1 v5 ((awayL ((rs.getD u ([], [])).1))) := intsH.fz (xs := (awayL ((rs.getD u ([], [])).1))) hz1.fz
   exact ⟨⟨rfl, hf1⟩, rfl⟩
  exact stepsG.nil
 intro W F2 le2 hphi
 obtain ⟨e7, f7_1hv, f7_1hn⟩ := hphi 7 (by decide)
 obtain ⟨e14, f14_1ha⟩ := hphi 14 (by decide)
 generalize hu1 : (W 7) = u1 at e7 f7_1hv f7_1hn e14 f14_1ha
 generalize hu2 : ((W 14)) = u2 at e7 f7_1hv f7_1hn e14 f14_1ha
 rw [eS (l := [(0, _), (2, _), (3, _), (7, u1), (14, u2)]) ⟨(hphi 0 (by decide)), (hphi 2 (by decide)), (hphi 3 (by decide)), hu1, hu2, ⟨⟩⟩]
 replace har := har.mono le2
 replace hc1 := hc1.mono le2
 show XL _ _ _ _ _ _ _ (cellsH b2 [v1] 282 :: slH 22 1 v1 48 ((List.replicate 48 (sN))) :: cellsH b1 [arv, rsv] 66 :: L)
 refine ji (qE (A := [_])) ?_
 show XL _ _ _ _ _ _ _ (slH 22 1 v1 48 ((List.replicate 48 (sN))) :: cellsH b2 [v1] 282 :: cellsH b1 [arv, rsv] 66 :: L)
 refine ji (qE (A := [_])) ?_
 show XL _ _ _ _ _ _ _ (cellsH b2 [v1] 282 :: slH 22 1 v1 48 ((List.replicate 48 (sN))) :: cellsH b1 [arv, rsv] 66 :: L)
 refine cX (qt (args := [.agg #[arv], ptr b2 0, u1, u2]) call240 rfl (meet_spec har ((jJ hv1)) hc1 f7_1hv f14_1ha (termW_of (sub_ok hlo hp)) (away_W hlu)) ?_)
 rintro _ F3 _ le3 ⟨x1, bc1, l1, rfl, hb1, hy1, hn3, rfl⟩
 refine qg (ptr b2 0) rfl (qg (.bool (x1)) rfl (qb (qy (qs (L' := cellsH b2 [v1] 282 :: slH 22 1 v1 48 bc1 :: L) [ptr b2 0, .bool (x1)] (.tuple #[ptr b2 0, .bool (x1)]) (.tmp rfl (.tmp rfl .nil)) rfl (qm le2 le3) rF (sC (sC (sD sR))) ?_))))
 exact ⟨_, _, _, _, _, rfl, (jJ hv1), hb1, hy1, hn3, rfl⟩

/- spec.l2Order -/
theorem l2OrderL_spec {F : FH} {L : List HP} {tv : Value} {t : List Int} (ht : IntsF F tv t) (hlt : t.length ≤ 4000000) :
    Does prog 205 [tv] F (L) (fun v F' L' => F = F' ∧ IsSl v ∧ intsH 2 v (orderL t) :: L = L') := by
 refine qD func205 rfl rfl rfl (qc (qa (qg (sN) rfl (qb (qc (qa (cX (qM (s := 1) [] [ii (0)] [] qd qo jk rfl (by decide) rfl CellsAre.nil rfl ?_))))))))
 intro v1 hv1
 refine qg (v1) rfl (qb (qc (qc (qa (qg (ii (0)) rfl (qb (qF (jj (α := Nat × Value × List Int × FH) (fun xQ => [(0, tv), (3, xQ.2.1), (4, ii (((xQ.1 : Nat) : Int)))]) (fun xQ => intsH 2 xQ.2.1 xQ.2.2.1 :: L) (fun xQ F' => xQ.2.2.2 = F' ∧ F ≤ xQ.2.2.2 ∧ (IsSl xQ.2.1) ∧ (xQ.1 ≤ t.length) ∧ (xQ.2.2.1 = orderL (t.take xQ.1)) ∧ (xQ.2.2.1.length ≤ xQ.1)) (fun xQ => t.length - xQ.1) (0, v1, [], F) ⟨rfl, rfl, rfl, ⟨⟩⟩ (sC sR) ⟨rfl, FLe.refl _, ((jJ hv1)), (by (try dsimp only) <;> omega), (rfl), (Nat.le_refl _)⟩ ?_))))))))
 rintro ⟨j, ov, os, G1⟩ rE _ _ ⟨rfl, leG, hov, hj, hos, hol⟩
 show X _ _ _ _ (envs [(0, tv), (3, ov), (4, ii ((j : Int)))] rE) _ (intsH 2 ov os :: L)
 replace leG : F ≤ G1 := leG
 dsimp only at hov hj hos hol
 have leG1 := leG
 replace ht := ht.mono leG1
 refine qc (qc (qa (qf (ii ((j : Int))) rfl (qf (tv) rfl (cX (qC qd rfl ht.slv (cX (qL rfl rfl (qb ?_)))))))))
 refine qx (p := (j : Int) < (t.length : Int)) rfl (fun h1 => ?_) (fun h1 => ?_)
 ·refine qw (qc (qF (qc (qa (qf (tv) rfl (qf (ii ((j : Int))) rfl (cX (ql j qd qo rfl rfl rfl ht.slv (by omega) (Nat.mul_one _) (cX (qi qK rfl (ht.rd (by omega)) (cX (qL rfl rfl (qf (.bool (decide ((t.getD j 0 : Int) < 0))) rfl ?_)))))))))))))
  by_cases h2 : (t.getD j 0 : Int) < 0
  ·refine qq (t := 17) rfl (vT h2) (qj (ov) rfl (qq (t := 17) rfl (vT h2) (qj (tv) rfl (qq (t := 17) rfl (vT h2) (qj (ii ((j : Int))) rfl (qq (t := 17) rfl (vT h2) (ql j qd qo rfl rfl rfl ht.slv (by omega) (Nat.mul_one _) (qq (t := 17) rfl (vT h2) (qi qK rfl (ht.rd (by omega)) (qq (t := 17) rfl (vT h2) (XOp.lend [] _ _ rfl (fun F1 le1 hz1 => ?_))))))))))))
   have hf1 : IntsF _ ov os := intsH.fz (xs := os) hz1
   refine id (qt (args := [ov, ii (t.getD j 0)]) call103 rfl (l1Has_spec (n := t.getD j 0) hf1 (hbd := (by first | assumption | rfl | omega | simp))) ?_)
   rintro _ _ _ _ ⟨rfl, rfl, rfl⟩
   show XL _ _ _ _ _ _ _ (intsH 2 ov os :: L)
   refine qq (t := 17) rfl (vT h2) (jN rfl (cX (qR (.bool (decide (¬((t.getD j 0) ∈ os)))) (vT h2) rfl (qb ?_))))
   refine qx (p := ¬((t.getD j 0) ∈ os)) rfl (fun h3 => ?_) (fun h3 => ?_)
   ·have hor := h3
    refine qa (qf (ov) rfl (qf (tv) rfl (qf (ii ((j : Int))) rfl (cX (ql j qd qo rfl rfl rfl ht.slv (by omega) (Nat.mul_one _) (cX (qi qK rfl (ht.rd (by omega)) (cX (qM (s := 1) [ii (t.getD j 0)] [ii (0)] [(0, [ii (t.getD j 0)])] qd qo jk rfl (by decide) rfl (.cons rfl CellsAre.nil) rfl ?_)))))))))
    intro v2 hv2
    refine cX (jW (u := t.getD j 0) [_] _ qd typeInfo2 rfl rfl rfl rfl rfl rfl (SlV.own [] rfl) (Rd.sl [] rfl rfl) (by (try simp only [List.length_append, List.length_nil, List.length_cons, List.length_singleton, List.length_take, List.length_drop]); omega) ?_)
    intro v3 hs1 hn1
    refine qg (v3) rfl (qb (qa (qf (ii ((j : Int))) rfl (cX (qI (((j + 1 : Nat) : Int)) rfl rfl (by omega) (by omega) (qg (ii (((j + 1 : Nat) : Int))) rfl (qb ?_)))))))
    exact ⟨(j + 1, v3, os ++ [t.getD j 0], G1), _, leG1, rF, ⟨rfl, rfl, rfl, ⟨⟩⟩, (sD (sC sR)), ⟨rfl, leG1, (hs1), (by (try dsimp only) <;> omega), (by (try dsimp only); first | exact ord_skip (by omega) hos (.inl (by omega)) | exact ord_skip (by omega) hos (.inr (by simpa using hor)) | exact ord_add (by omega) hos (by omega) (by simpa using hor)), (by (try dsimp only); (try rw [List.length_append, List.length_singleton]); omega)⟩, (by omega)⟩
   have hor := h3
   refine qw (qa (qf (ii ((j : Int))) rfl (cX (qI (((j + 1 : Nat) : Int)) rfl rfl (by omega) (by omega) (qg (ii (((j + 1 : Nat) : Int))) rfl (qb ?_))))))
   exact ⟨(j + 1, ov, os, G1), _, leG1, rF, ⟨rfl, rfl, rfl, ⟨⟩⟩, (sC sR), ⟨rfl, leG1, (hov), (by (try dsimp only) <;> omega), (by (try dsimp only); first | exact ord_skip (by omega) hos (.inl (by omega)) | exact ord_skip (by omega) hos (.inr (by simpa using hor)) | exact ord_add (by omega) hos (by omega) (by simpa using hor)), (by (try dsimp only); (try rw [List.length_append, List.length_singleton]); omega)⟩, (by omega)⟩
  refine qp (t := 17) rfl (vF h2) (qp (t := 17) rfl (vF h2) (qp (t := 17) rfl (vF h2) (qp (t := 17) rfl (vF h2) (qp (t := 17) rfl (vF h2) (qp (t := 17) rfl (vF h2) (qp (t := 17) rfl (vF h2) (cX (qS (.bool (false)) (vF h2) rfl (qb (jz rfl ?_))))))))))
  refine qw (qa (qf (ii ((j : Int))) rfl (cX (qI (((j + 1 : Nat) : Int)) rfl rfl (by omega) (by omega) (qg (ii (((j + 1 : Nat) : Int))) rfl (qb ?_))))))
  exact ⟨(j + 1, ov, os, G1), _, leG1, rF, ⟨rfl, rfl, rfl, ⟨⟩⟩, (sC sR), ⟨rfl, leG1, (hov), (by (try dsimp only) <;> omega), (by (try dsimp only); first | exact ord_skip (by omega) hos (.inl (by omega)) | exact ord_skip (by omega) hos (.inr (by simpa using hor)) | exact ord_add (by omega) hos (by omega) (by simpa using hor)), (by (try dsimp only); (try rw [List.length_append, List.length_singleton]); omega)⟩, (by omega)⟩
 refine ja (qu (qu (qJ (qc (qa (qf (ov) rfl (qg (ov) rfl (qb (qy (qs (L' := intsH 2 ov os :: L) [ov] (ov) (.tmp rfl .nil) rfl rF leG1 (sC sR) ?_))))))))))
 refine ⟨rfl, hov, ?_⟩
 have hxs : (orderL t : List Int) = os := by rw [hos, show j = t.length from by omega, List.take_length]
 exact congrArg (fun z => intsH 2 _ z :: L) hxs

/- spec.l2By -/
theorem l2ByL_spec {F : FH} {L : List HP} {wv : Value} {w : List Int} (hw : IntsF F wv w) {tv : Value} {t : List Int} (ht : IntsF F tv t) (hno : w.Nodup) (hlo : w.length ≤ 4000000) (hlt : t.length ≤ 4000000) :
    Does prog 225 [wv, tv] F (L) (fun v F' L' => F = F' ∧ IsSl v ∧ intsH 2 v (byL w t) :: L = L') := by
 refine qD func225 rfl rfl rfl (qc (qa (qg (sN) rfl (qb (qc (qa (cX (qM (s := 1) [] [ii (0)] [] qd qo jk rfl (by decide) rfl CellsAre.nil rfl ?_))))))))
 intro v1 hv1
 refine qg (v1) rfl (qb (qc (qc (qa (qg (ii (0)) rfl (qb (qF (jj (α := Nat × Value × List Int) (fun xQ => [(0, wv), (1, tv), (5, xQ.2.1), (6, ii (((xQ.1 : Nat) : Int)))]) (fun xQ => intsH 2 xQ.2.1 xQ.2.2 :: L) (fun xQ F' => F = F' ∧ (IsSl xQ.2.1) ∧ (xQ.1 ≤ t.length) ∧ (xQ.2.2 = byL w (t.take xQ.1)) ∧ (xQ.2.2.length = xQ.1)) (fun xQ => t.length - xQ.1) (0, v1, []) ⟨rfl, rfl, rfl, rfl, ⟨⟩⟩ (sC sR) ⟨rfl, ((jJ hv1)), (by (try dsimp only) <;> omega), (rfl), (rfl)⟩ ?_))))))))
 rintro ⟨j, ov, os⟩ rE _ _ ⟨rfl, hov, hj, hos, hol⟩
 show X _ _ _ _ (envs [(0, wv), (1, tv), (5, ov), (6, ii ((j : Int)))] rE) _ (intsH 2 ov os :: L)
 dsimp only at hov hj hos hol
 refine qc (qc (qa (qf (ii ((j : Int))) rfl (qf (tv) rfl (cX (qC qd rfl ht.slv (cX (qL rfl rfl (qb ?_)))))))))
 refine qx (p := (j : Int) < (t.length : Int)) rfl (fun h1 => ?_) (fun h1 => ?_)
 ·refine qw (qc (qF (qc (qa (qf (tv) rfl (qf (ii ((j : Int))) rfl (cX (ql j qd qo rfl rfl rfl ht.slv (by omega) (Nat.mul_one _) (cX (qi qK rfl (ht.rd (by omega)) (qg (ii (t.getD j 0)) rfl (qb (qc (qc (qa (qg (ii (0)) rfl (qb (qF (jj (α := Nat × Int) (fun xQ => [(0, wv), (1, tv), (5, ov), (6, ii ((j : Int))), (7, ii (xQ.2)), (8, ii (((xQ.1 : Nat) : Int)))]) (fun xQ => intsH 2 ov os :: L) (fun xQ F' => F = F' ∧ (xQ.1 ≤ w.length) ∧ (xQ.2 = byN w xQ.1 (t.getD j 0))) (fun xQ => w.length - xQ.1) (0, (t.getD j 0)) ⟨rfl, rfl, rfl, rfl, rfl, rfl, ⟨⟩⟩ (sC sR) ⟨rfl, (by (try dsimp only) <;> omega), (by_start)⟩ ?_)))))))))))))))))))
  rintro ⟨k, n⟩ rE _ _ ⟨rfl, hk, hn⟩
  show X _ _ _ _ (envs [(0, wv), (1, tv), (5, ov), (6, ii ((j : Int))), (7, ii (n)), (8, ii ((k : Int)))] rE) _ (intsH 2 ov os :: L)
  dsimp only at hk hn
  refine qc (qc (qa (qf (ii ((k : Int))) rfl (qf (wv) rfl (cX (qC qd rfl hw.slv (cX (qL rfl rfl (qf (.bool (decide ((k : Int) < (w.length : Int)))) rfl ?_)))))))))
  by_cases h2 : (k : Int) < (w.length : Int)
  ·refine qq (t := 24) rfl (vT h2) (qj (tv) rfl (qq (t := 24) rfl (vT h2) (qj (ii ((j : Int))) rfl (qq (t := 24) rfl (vT h2) (ql j qd qo rfl rfl rfl ht.slv (by omega) (Nat.mul_one _) (qq (t := 24) rfl (vT h2) (qi qK rfl (ht.rd (by omega)) (qq (t := 24) rfl (vT h2) (qL rfl rfl (cX (qR (.bool (decide ((t.getD j 0 : Int) < 0))) (vT h2) rfl (qb ?_))))))))))))
   refine qx (p := (t.getD j 0 : Int) < 0) rfl (fun h3 => ?_) (fun h3 => ?_)
   ·refine qw (qc (qF (qc ?_)))
    refine jn [intsH 2 ov os] L 8 [] [[], [], [0, 1], [2], [], [], [4, 5], [6]] (phiL [qe wv, qe (ii ((k : Int)) : Value), qe (.pointer (some (elemA wv (k)))), qe (ii (w.getD k 0)), qe tv, qe (ii ((j : Int)) : Value), qe (.pointer (some (elemA tv (j)))), qe (ii (t.getD j 0))]) (ownL []) mixed rfl rfl (by kernel_rfl) ?_ ?_
    ·refine pD (fun W R z9 => ?_) ?_
     ·refine qh (qj (wv) rfl ?_)
      exact ⟨rfl, rfl, rfl⟩
     refine pD (fun W R z9 => ?_) ?_
     ·refine qh (qj (ii ((k : Int))) rfl ?_)
      exact ⟨rfl, rfl, rfl⟩
     refine pD (fun W R z9 => ?_) ?_
     ·rw [eS (l := [(0, _), (1, _)]) ⟨z9 0 rfl, z9 1 rfl, ⟨⟩⟩]
      refine qh (ql k qd qo rfl rfl rfl hw.slv (by omega) (Nat.mul_one _) ?_)
      exact ⟨rfl, rfl, rfl⟩
     refine pD (fun W R z9 => ?_) ?_
     ·rw [eS (l := [(2, _)]) ⟨z9 2 rfl, ⟨⟩⟩]
      refine qh (qi qK rfl (hw.rd (by omega)) ?_)
      exact ⟨rfl, rfl, rfl⟩
     refine pD (fun W R z9 => ?_) ?_
     ·refine qh (qj (tv) rfl ?_)
      exact ⟨rfl, rfl, rfl⟩
     refine pD (fun W R z9 => ?_) ?_
     ·refine qh (qj (ii ((j : Int))) rfl ?_)
      exact ⟨rfl, rfl, rfl⟩
     refine pD (fun W R z9 => ?_) ?_
     ·rw [eS (l := [(4, _), (5, _)]) ⟨z9 4 rfl, z9 5 rfl, ⟨⟩⟩]
      refine qh (ql j qd qo rfl rfl rfl ht.slv (by omega) (Nat.mul_one _) ?_)
      exact ⟨rfl, rfl, rfl⟩
     refine pD (fun W R z9 => ?_) ?_
     ·rw [eS (l := [(6, _)]) ⟨z9 6 rfl, ⟨⟩⟩]
      refine qh (qi qK rfl (ht.rd (by omega)) ?_)
      exact ⟨rfl, rfl, rfl⟩
     exact stepsP.nil
    intro W hphi
    rw [eS (l := [(3, _), (7, _)]) ⟨(hphi 3 (by decide)), (hphi 7 (by decide)), ⟨⟩⟩]
    show XL _ _ _ _ _ _ _ (intsH 2 ov os :: L)
    refine cX (jI rfl rfl (qb ?_))
    refine qx (p := (w.getD k 0 : Int) = t.getD j 0) rfl (fun h4 => ?_) (fun h4 => ?_)
    ·refine qa (qf (ii ((k : Int))) rfl (cX (qY ((-1) - ((k : Int))) rfl rfl (by omega) (by omega) (qg (ii ((-1) - ((k : Int)))) rfl (qb (qa (qf (ii ((k : Int))) rfl (cX (qI (((k + 1 : Nat) : Int)) rfl rfl (by omega) (by omega) (qg (ii (((k + 1 : Nat) : Int))) rfl (qb ?_)))))))))))
     exact ⟨(k + 1, (-1) - ((k : Int))), _, FLe.refl _, rF, ⟨rfl, rfl, rfl, rfl, rfl, rfl, ⟨⟩⟩, (sC sR), ⟨rfl, (by (try dsimp only) <;> omega), (by (try dsimp only); exact by_hit hno (by omega) (by omega) (by omega))⟩, (by omega)⟩
    refine qw (qa (qf (ii ((k : Int))) rfl (cX (qI (((k + 1 : Nat) : Int)) rfl rfl (by omega) (by omega) (qg (ii (((k + 1 : Nat) : Int))) rfl (qb ?_))))))
    exact ⟨(k + 1, n), _, FLe.refl _, rF, ⟨rfl, rfl, rfl, rfl, rfl, rfl, ⟨⟩⟩, (sC sR), ⟨rfl, (by (try dsimp only) <;> omega), (by (try dsimp only); rw [hn]; exact by_miss (by omega) (by omega))⟩, (by omega)⟩
   refine ja (qu (qu (qJ (qa (qf (ov) rfl (qf (ii (n)) rfl (cX (qM (s := 1) [ii (n)] [ii (0)] [(0, [ii (n)])] qd qo jk rfl (by decide) rfl (.cons rfl CellsAre.nil) rfl ?_))))))))
   intro v2 hv2
   refine cX (jW (u := n) [_] _ qd typeInfo2 rfl rfl rfl rfl rfl rfl (SlV.own [] rfl) (Rd.sl [] rfl rfl) (by (try simp only [List.length_append, List.length_nil, List.length_cons, List.length_singleton, List.length_take, List.length_drop]); omega) ?_)
   intro v3 hs1 hn1
   refine qg (v3) rfl (qb (qa (qf (ii ((j : Int))) rfl (cX (qI (((j + 1 : Nat) : Int)) rfl rfl (by omega) (by omega) (qg (ii (((j + 1 : Nat) : Int))) rfl (qb ?_)))))))
   exact ⟨(j + 1, v3, os ++ [n]), _, FLe.refl _, rF, ⟨rfl, rfl, rfl, rfl, ⟨⟩⟩, (sD (sC sR)), ⟨rfl, (hs1), (by (try dsimp only) <;> omega), (by (try dsimp only); rw [hos]; exact by_take (by omega) (by_done hn (by omega))), (by (try dsimp only); rw [List.length_append, List.length_singleton]; omega)⟩, (by omega)⟩
  refine qp (t := 24) rfl (vF h2) (qp (t := 24) rfl (vF h2) (qp (t := 24) rfl (vF h2) (qp (t := 24) rfl (vF h2) (qp (t := 24) rfl (vF h2) (cX (qS (.bool (false)) (vF h2) rfl (qb (jz rfl (ja (qu (qu (qJ (qa ?_)))))))))))))
  refine qf (ov) rfl (qf (ii (n)) rfl (cX (qM (s := 1) [ii (n)] [ii (0)] [(0, [ii (n)])] qd qo jk rfl (by decide) rfl (.cons rfl CellsAre.nil) rfl ?_)))
  intro v4 hv3
  refine cX (jW (u := n) [_] _ qd typeInfo2 rfl rfl rfl rfl rfl rfl (SlV.own [] rfl) (Rd.sl [] rfl rfl) (by (try simp only [List.length_append, List.length_nil, List.length_cons, List.length_singleton, List.length_take, List.length_drop]); omega) ?_)
  intro v5 hs2 hn2
  refine qg (v5) rfl (qb (qa (qf (ii ((j : Int))) rfl (cX (qI (((j + 1 : Nat) : Int)) rfl rfl (by omega) (by omega) (qg (ii (((j + 1 : Nat) : Int))) rfl (qb ?_)))))))
  exact ⟨(j + 1, v5, os ++ [n]), _, FLe.refl _, rF, ⟨rfl, rfl, rfl, rfl, ⟨⟩⟩, (sD (sC sR)), ⟨rfl, (hs2), (by (try dsimp only) <;> omega), (by (try dsimp only); rw [hos]; exact by_take (by omega) (by_done hn (by omega))), (by (try dsimp only); rw [List.length_append, List.length_singleton]; omega)⟩, (by omega)⟩
 refine ja (qu (qu (qJ (qc (qa (qf (ov) rfl (qg (ov) rfl (qb (qy (qs (L' := intsH 2 ov os :: L) [ov] (ov) (.tmp rfl .nil) rfl rF rF (sC sR) ?_))))))))))
 refine ⟨rfl, hov, ?_⟩
 have hxs : (byL w t : List Int) = os := by rw [hos, show j = t.length from by omega, List.take_length]
 exact congrArg (fun z => intsH 2 _ z :: L) hxs

/- spec.l11Meets -/
theorem meets2_spec {F : FH} {L : List HP} {arv : Value} {ar : List Int} (har : IntsF F arv ar) {rsv : Value} {rs : List (List Int × List Int)} (hrs : PairsF F rsv rs) {o : Nat} {p : Nat} {u : Nat} (hsys : sysOk ar rs = true) (ho : o < rs.length) (hu : u < rs.length) (hp : p < (rs.getD o ([], [])).1.length) :
    Does prog 193 [.agg #[arv, rsv], ii ((o : Int)), ii ((p : Int)), ii ((u : Int))] F (L) (fun v F' L' => (.bool (decide (0 ≤ (rs.getD o ([], [])).1.getD p 0 ∧ meetB ar rs o p u = true)) : Value) = v ∧ L = L') := by
 refine qD func193 rfl rfl rfl ?_
 have hlo : termOk ar (rs.getD o ([], [])).1 = true := rule_L hsys ho
 have hllo : 1 ≤ (rs.getD o ([], [])).1.length ∧ (rs.getD o ([], [])).1.length ≤ 60 := termOk_len hlo
 have hglo : ∀ k, k < (rs.getD o ([], [])).1.length → -24 ≤ (rs.getD o ([], [])).1.getD k 0 := fun k h => termOk_ge hlo h
 have hlu : termOk ar (rs.getD u ([], [])).1 = true := rule_L hsys hu
 have hllu : 1 ≤ (rs.getD u ([], [])).1.length ∧ (rs.getD u ([], [])).1.length ≤ 60 := termOk_len hlu
 have hglu : ∀ k, k < (rs.getD u ([], [])).1.length → -24 ≤ (rs.getD u ([], [])).1.getD k 0 := fun k h => termOk_ge hlu h
 have hro : termOk ar (rs.getD o ([], [])).2 = true := rule_R hsys ho
 have hlro : 1 ≤ (rs.getD o ([], [])).2.length ∧ (rs.getD o ([], [])).2.length ≤ 60 := termOk_len hro
 have hgro : ∀ k, k < (rs.getD o ([], [])).2.length → -24 ≤ (rs.getD o ([], [])).2.getD k 0 := fun k h => termOk_ge hro h
 have hru : termOk ar (rs.getD u ([], [])).2 = true := rule_R hsys hu
 have hlru : 1 ≤ (rs.getD u ([], [])).2.length ∧ (rs.getD u ([], [])).2.length ≤ 60 := termOk_len hru
 have hgru : ∀ k, k < (rs.getD u ([], [])).2.length → -24 ≤ (rs.getD u ([], [])).2.getD k 0 := fun k h => termOk_ge hru h
 have hrl := (sysOk_iff.1 hsys).2.1
 have hsig := (sysOk_iff.1 hsys).1
 have hsl := sigOk_spec hsig
 have hee := (termW_of hlo).endN hp
 refine qc (qa (cX (qV [arv, rsv] rfl rfl ?_)))
 intro b1
 refine qg (.bool (false)) rfl (qb (qc (qa (cX (qn (1) qH rfl jx (by decide) rfl rfl (cX (qi jG rfl (Rd.own [] rfl rfl) (qf (ii ((o : Int))) rfl (cX (ql o qU jh rfl rfl rfl hrs.slv (by omega) rfl (cX (jZ (o * 2) qQ rfl qr (by decide) rfl rfl ?_))))))))))))
 obtain ⟨a1, a2, ha1, ha2, hr1, hr2⟩ := hrs.rd (i := o) (by omega)
 refine cX (qi qP rfl (hr1 _) (qg (a1) rfl (qb (qc (qc (qa (qf (ii ((p : Int))) rfl (qf (a1) rfl (cX (qC qd rfl ha1.slv (cX (qY ((((((rs.getD o ([], [])).1).length : Nat) : Int)) - 1) rfl rfl (by omega) (by omega) (cX (qt (args := [ii ((p : Int)), ii (0), ii ((((((rs.getD o ([], [])).1).length : Nat) : Int)) - 1)]) call41 rfl (l1In_spec (n := (p : Int)) (a := 0) (b := (((((rs.getD o ([], [])).1).length : Nat) : Int)) - 1)) ?_))))))))))))))
 rintro _ _ _ _ ⟨rfl, rfl, rfl⟩
 refine cX (jN rfl (qf (.bool (decide (¬(0 ≤ ((p : Int)) ∧ ((p : Int)) ≤ ((((((rs.getD o ([], [])).1).length : Nat) : Int)) - 1))))) rfl ?_))
 by_cases h1 : ¬(0 ≤ ((p : Int)) ∧ ((p : Int)) ≤ ((((((rs.getD o ([], [])).1).length : Nat) : Int)) - 1))
 ·refine qp (t := 24) rfl (vT h1) (qp (t := 24) rfl (vT h1) (qp (t := 24) rfl (vT h1) (qp (t := 24) rfl (vT h1) (qp (t := 24) rfl (vT h1) (cX (qR (.bool (true)) (vT h1) rfl (qf (.bool (true)) rfl (qp (t := 31) rfl rfl (qp (t := 31) rfl rfl (qp (t := 31) rfl rfl ?_))))))))))
  refine XL.noU (t := 34) rfl rfl (XL.noU (t := 34) rfl rfl (XL.noU (t := 34) rfl rfl (qp (t := 31) rfl rfl (cX (qR (.bool (true)) rfl rfl (qb (jB rfl (qc (qa (qg (.bool (false)) rfl (qb ?_)))))))))))
  refine qy (qk (qs (L' := L) [.bool (false)] (.bool (false)) (.tmp rfl .nil) rfl rF rF (sD sR) ?_))
  have e9 : ¬ (0 ≤ (rs.getD o ([], [])).1.getD p 0 ∧ meetB ar rs o p u = true) := by first | (rintro ⟨h8, h9⟩; omega) | (rintro ⟨h8, h9⟩; rw [meet_self (by omega)] at h9; cases h9)
  exact ⟨congrArg Value.bool (decide_eq_false e9), rfl⟩
 refine qq (t := 24) rfl (vF h1) (qj (a1) rfl (qq (t := 24) rfl (vF h1) (qj (ii ((p : Int))) rfl (qq (t := 24) rfl (vF h1) (ql p qd qo rfl rfl rfl ha1.slv (by omega) (Nat.mul_one _) (qq (t := 24) rfl (vF h1) (qi qK rfl (ha1.rd (by omega)) (qq (t := 24) rfl (vF h1) (qL rfl rfl (cX (qS (.bool (decide ((((rs.getD o ([], [])).1).getD p 0 : Int) < 0))) (vF h1) rfl (qf (.bool (decide ((((rs.getD o ([], [])).1).getD p 0 : Int) < 0))) rfl ?_))))))))))))
 by_cases h2 : (((rs.getD o ([], [])).1).getD p 0 : Int) < 0
 ·refine qp (t := 31) rfl (vT h2) (qp (t := 31) rfl (vT h2) (qp (t := 31) rfl (vT h2) (XL.noU (t := 34) rfl rfl (XL.noU (t := 34) rfl rfl (XL.noU (t := 34) rfl rfl (qp (t := 31) rfl (vT h2) (cX (qR (.bool (true)) (vT h2) rfl (qb (jB rfl ?_))))))))))
  refine qc (qa (qg (.bool (false)) rfl (qb (qy (qk (qs (L' := L) [.bool (false)] (.bool (false)) (.tmp rfl .nil) rfl rF rF (sD sR) ?_))))))
  have e9 : ¬ (0 ≤ (rs.getD o ([], [])).1.getD p 0 ∧ meetB ar rs o p u = true) := by first | (rintro ⟨h8, h9⟩; omega) | (rintro ⟨h8, h9⟩; rw [meet_self (by omega)] at h9; cases h9)
  exact ⟨congrArg Value.bool (decide_eq_false e9), rfl⟩
 refine qq (t := 31) rfl (vF h2) (qj (ii ((p : Int))) rfl (qq (t := 31) rfl (vF h2) (jI rfl rfl (qq (t := 31) rfl (vF h2) (qj (.bool (decide ((p : Int) = 0))) rfl ?_)))))
 by_cases h3 : (p : Int) = 0
 ·refine qq (t := 34) rfl (vT h3) (qj (ii ((o : Int))) rfl (qq (t := 34) rfl (vT h3) (qj (ii ((u : Int))) rfl (qq (t := 34) rfl (vT h3) (jI rfl rfl (qq (t := 31) rfl (vF h2) (qR (.bool (decide ((o : Int) = (u : Int)))) (vT h3) rfl (cX (qS (.bool (decide ((o : Int) = (u : Int)))) (vF h2) rfl (qb ?_))))))))))
  refine qx (p := (o : Int) = (u : Int)) rfl (fun h4 => ?_) (fun h4 => ?_)
  ·refine qc (qa (qg (.bool (false)) rfl (qb (qy (qk (qs (L' := L) [.bool (false)] (.bool (false)) (.tmp rfl .nil) rfl rF rF (sD sR) ?_))))))
   have e9 : ¬ (0 ≤ (rs.getD o ([], [])).1.getD p 0 ∧ meetB ar rs o p u = true) := by first | (rintro ⟨h8, h9⟩; omega) | (rintro ⟨h8, h9⟩; rw [meet_self (by omega)] at h9; cases h9)
   exact ⟨congrArg Value.bool (decide_eq_false e9), rfl⟩
  refine qw (qc (qa (cX (qB [arv, rsv] jF jt rfl rfl (Rd.ownN [] rfl rfl) (qf (ii ((o : Int))) rfl (qf (ii ((p : Int))) rfl (qf (ii ((u : Int))) rfl (cX (qt (args := [.agg #[arv, rsv], ii (o : Int), ii (p : Int), ii (u : Int)]) call222 rfl (try_spec (o := o) (p := p) (u := u) har hrs hsys (by omega) (by omega) (by first | assumption | omega)) ?_)))))))))
  rintro _ F1 _ le1 ⟨x1, b2, o1, bc1, l1, rfl, hs1, hb1, hy1, hn1, rfl⟩
  replace har := har.mono le1
  replace hrs := hrs.mono le1
  refine qf (.tuple #[ptr b2 0, .bool (x1)]) rfl (cX (qT (ptr b2 0) rfl rfl (cX (qT (.bool (x1)) rfl rfl (qg (ptr b2 0) rfl (qg (.bool (x1)) rfl (qb (qc (qa (qf (.bool (x1)) rfl (qg (.bool (x1)) rfl (qb (qy (qs (L' := L) [.bool (x1)] (.bool (x1)) (.tmp rfl .nil) rfl le1 rF (sD (sD (sD sR))) ?_))))))))))))))
  have e9 : x1 = decide (0 ≤ (rs.getD o ([], [])).1.getD p 0 ∧ meetB ar rs o p u = true) := by
    cases h9 : x1 with
    | true => exact (decide_eq_true ⟨by omega, meet_yes (by omega) (hy1 h9)⟩).symm
    | false => exact (decide_eq_false (fun h => by rw [meet_no (hn1 h9)] at h; cases h.2)).symm
  exact ⟨congrArg Value.bool e9.symm, rfl⟩
 refine qp (t := 34) rfl (vF h3) (qp (t := 34) rfl (vF h3) (qp (t := 34) rfl (vF h3) (qq (t := 31) rfl (vF h2) (qS (.bool (false)) (vF h3) rfl (cX (qS (.bool (false)) (vF h2) rfl (qb (jz rfl (qw (qc (qa (cX (qB [arv, rsv] jF jt rfl rfl (Rd.ownN [] rfl rfl) (qf (ii ((o : Int))) rfl ?_))))))))))))))
 refine qf (ii ((p : Int))) rfl (qf (ii ((u : Int))) rfl (cX (qt (args := [.agg #[arv, rsv], ii (o : Int), ii (p : Int), ii (u : Int)]) call222 rfl (try_spec (o := o) (p := p) (u := u) har hrs hsys (by omega) (by omega) (by first | assumption | omega)) ?_)))
 rintro _ F2 _ le2 ⟨x2, b3, o2, bc2, l2, rfl, hs2, hb2, hy2, hn2, rfl⟩
 refine qf (.tuple #[ptr b3 0, .bool (x2)]) rfl (cX (qT (ptr b3 0) rfl rfl (cX (qT (.bool (x2)) rfl rfl (qg (ptr b3 0) rfl (qg (.bool (x2)) rfl (qb (qc (qa (qf (.bool (x2)) rfl (qg (.bool (x2)) rfl (qb (qy (qs (L' := L) [.bool (x2)] (.bool (x2)) (.tmp rfl .nil) rfl le2 rF (sD (sD (sD sR))) ?_))))))))))))))
 have e9 : x2 = decide (0 ≤ (rs.getD o ([], [])).1.getD p 0 ∧ meetB ar rs o p u = true) := by
   cases h9 : x2 with
   | true => exact (decide_eq_true ⟨by omega, meet_yes (by omega) (hy2 h9)⟩).symm
   | false => exact (decide_eq_false (fun h => by rw [meet_no (hn2 h9)] at h; cases h.2)).symm
 exact ⟨congrArg Value.bool e9.symm, rfl⟩

/- spec.l11Peak -/
set_option maxHeartbeats 2000000 in
set_option maxRecDepth 20000 in
theorem peak2_spec {F : FH} {L : List HP} {arv : Value} {ar : List Int} (har : IntsF F arv ar) {rsv : Value} {rs : List (List Int × List Int)} (hrs : PairsF F rsv rs) {o : Nat} {p : Nat} {u : Nat} (hsys : sysOk ar rs = true) (ho : o < rs.length) (hu : u < rs.length) (hp : p < (rs.getD o ([], [])).1.length) (hmt : meetB ar rs o p u = true) :
    Does prog 194 [.agg #[arv, rsv], ii ((o : Int)), ii ((p : Int)), ii ((u : Int))] F (L) (fun v F' L' => ∃ (a : Value), ∃ (b : Value), ∃ (c : Value), (.tuple #[.agg #[a, b, c, ii (((pkF ar rs o p u).getD P0).2.2.2.1), ii (((pkF ar rs o p u).getD P0).2.2.2.2.1), ii (((pkF ar rs o p u).getD P0).2.2.2.2.2)], .bool ((pkF ar rs o p u).isSome)] : Value) = v ∧ (IntsF F' a ((pkF ar rs o p u).getD P0).1) ∧ (IntsF F' b ((pkF ar rs o p u).getD P0).2.1) ∧ (IntsF F' c ((pkF ar rs o p u).getD P0).2.2.1) ∧ L = L') := by
 refine qD func194 rfl rfl rfl ?_
 have hlo : termOk ar (rs.getD o ([], [])).1 = true := rule_L hsys ho
 have hllo : 1 ≤ (rs.getD o ([], [])).1.length ∧ (rs.getD o ([], [])).1.length ≤ 60 := termOk_len hlo
 have hglo : ∀ k, k < (rs.getD o ([], [])).1.length → -24 ≤ (rs.getD o ([], [])).1.getD k 0 := fun k h => termOk_ge hlo h
 have hlu : termOk ar (rs.getD u ([], [])).1 = true := rule_L hsys hu
 have hllu : 1 ≤ (rs.getD u ([], [])).1.length ∧ (rs.getD u ([], [])).1.length ≤ 60 := termOk_len hlu
 have hglu : ∀ k, k < (rs.getD u ([], [])).1.length → -24 ≤ (rs.getD u ([], [])).1.getD k 0 := fun k h => termOk_ge hlu h
 have hro : termOk ar (rs.getD o ([], [])).2 = true := rule_R hsys ho
 have hlro : 1 ≤ (rs.getD o ([], [])).2.length ∧ (rs.getD o ([], [])).2.length ≤ 60 := termOk_len hro
 have hgro : ∀ k, k < (rs.getD o ([], [])).2.length → -24 ≤ (rs.getD o ([], [])).2.getD k 0 := fun k h => termOk_ge hro h
 have hru : termOk ar (rs.getD u ([], [])).2 = true := rule_R hsys hu
 have hlru : 1 ≤ (rs.getD u ([], [])).2.length ∧ (rs.getD u ([], [])).2.length ≤ 60 := termOk_len hru
 have hgru : ∀ k, k < (rs.getD u ([], [])).2.length → -24 ≤ (rs.getD u ([], [])).2.getD k 0 := fun k h => termOk_ge hru h
 have hrl := (sysOk_iff.1 hsys).2.1
 have hsig := (sysOk_iff.1 hsys).1
 have hsl := sigOk_spec hsig
 have hee := (termW_of hlo).endN hp
 have hal := away_len (l := (rs.getD u ([], [])).2)
 refine qc (qa (cX (qV [arv, rsv] rfl rfl ?_)))
 intro b1
 refine cX (jo [sN, sN, sN, ii (0), ii (0), ii (0)] jr rfl ?_)
 intro b2
 refine qg (.bool (false)) rfl (qb (qc (qa (cX (qB [arv, rsv] jF jt rfl rfl (Rd.ownN [_] rfl rfl) (qf (ii ((o : Int))) rfl (qf (ii ((p : Int))) rfl (qf (ii ((u : Int))) rfl (cX (qt (args := [.agg #[arv, rsv], ii (o : Int), ii (p : Int), ii (u : Int)]) call222 rfl (try_spec (o := o) (p := p) (u := u) har hrs hsys (by omega) (by omega) (by first | assumption | omega)) ?_))))))))))
 rintro _ F1 _ le1 ⟨x1, b3, o1, bc1, l1, rfl, hs1, hb1, hy1, hn1, rfl⟩
 replace har := har.mono le1
 replace hrs := hrs.mono le1
 refine qf (.tuple #[ptr b3 0, .bool (x1)]) rfl (cX (qT (ptr b3 0) rfl rfl (cX (qT (.bool (x1)) rfl rfl (qg (ptr b3 0) rfl (qg (.bool (x1)) rfl ?_))))))
 have hxt : x1 = true := by
   cases h9 : x1 with
   | true => rfl
   | false => have h8 := hn1 h9; rw [meet_no h8] at hmt; cases hmt
 have hmg := hy1 hxt
 have hbo := hmg.ok
 obtain ⟨σ, hσ⟩ := hbo.sol
 have hgs := hσ.good hbo
 obtain ⟨hLg, hLl, hLp⟩ := left_ok (ar := ar) (rs := rs) (o := o) (u := u) (p := p) hsys ho hu
 refine qb (qc (qa (cX (qn (1) qH rfl jx (by decide) rfl rfl (cX (qi jG rfl (Rd.own [_, _, _] rfl rfl) (qf (ii ((o : Int))) rfl (cX (ql o qU jh rfl rfl rfl hrs.slv (by omega) rfl ?_)))))))))
 obtain ⟨a1, a2, ha1, ha2, hr1, hr2⟩ := hrs.rd (i := o) (by omega)
 refine cX (qB [a1, a2] isAgg136 jh rfl rfl (Rd.two (hr1 _) (hr2 _)) (cX (jo [sN, sN] zeroValue136 rfl ?_)))
 intro b4
 refine cX (jb [] _ [a1, a2] jh rfl rfl rfl (qv (qZ (qG ha1)) (qv (qZ (qG ha2)) jf)) rfl rfl rfl (qb (qc (qa (cX (qn (0) qH rfl qN (by decide) rfl rfl (cX (qB [arv] je qN rfl rfl (Rd.ownN [_, _, _, _] rfl rfl) (cX (qn (0) qQ rfl qr (by decide) rfl rfl (cX (qi qP rfl (Rd.own [] rfl rfl) (qf (ii ((p : Int))) rfl (cX (qt (args := [.agg #[arv], a1, ii (p : Int)]) call197 rfl (l13End_spec (q := p) har ha1 (ho := (termW_of hlo)) (hp := (hp))) ?_)))))))))))))))
 rintro _ _ _ _ ⟨rfl, rfl, rfl⟩
 refine qg (ii (((endN ar ((rs.getD o ([], [])).1) p : Nat) : Int))) rfl (qb (qc ?_))
 obtain ⟨a3, a4, ha3, ha4, hr3, hr4⟩ := hrs.rd (i := u) (by omega)
 refine X.drawG [cellsH b4 [a1, a2] 136, cellsH b3 [o1] 282, slH 22 1 o1 48 bc1, cellsH b2 [sN, sN, sN, ii (0), ii (0), ii (0)] 128, cellsH b1 [arv, rsv] 66] L 12 [] [[], [], [1], [], [2, 3], [0, 4], [], [6], [], [7, 8], [9], [10]] [] (phiG [fun FF us v => ∃ b, v = .slice (some ⟨b, 0, none⟩) 0 0, pe (ptr b4 0), pe a1, pe (ii ((p : Int)) : Value), fun FF us v => (v : Value) = v ∧ (IntsF FF v ((((rs.getD o ([], [])).1).drop 0).take (p - 0))) ∧ (isNil v = isNil a1), fun FF us v => IsSl v, pe (ptr b1 1), pe rsv, pe (ii ((u : Int)) : Value), pe (.pointer (some (elemA rsv (u * 2)))), pe (.pointer (some (elemA rsv (u * 2 + 1)))), pe a4]) (ownL [fun us v => [slH 2 1 v 0 []], o0, o0, o0, o0, fun us v => [intsH 2 (v) (((((rs.getD o ([], [])).1).drop 0).take (p - 0)))]]) mixed rfl rfl (by kernel_rfl) (by kernel_rfl) (MonoG.get (mC (fun le h => h) (mC (fun le h => h) (m1 (m1 (mC (fun le h => ⟨h.1, h.2.1.mono le, h.2.2⟩) (mC (fun le h => h) (mC (fun le h => h) (m1 (m1 (m1 (m1 (m1 MonoG.nil))))))))))))) ?_ ?_
 ·refine gD (fun W Fs R lF z9 => ?_) ?_
  ·replace har := har.mono lF
   replace hrs := hrs.mono lF
   replace hb1 := hb1.mono lF
   replace ha1 := ha1.mono lF
   replace ha2 := ha2.mono lF
   replace ha4 := ha4.mono lF
   replace hr4 := Rd.monoA hr4 lF
   refine qh (qM (s := 1) [] [ii (0)] [] qd qo jk rfl (by decide) rfl CellsAre.nil rfl ?_)
   intro v3 hv3
   exact ⟨hv3, rfl⟩
  refine gD (fun W Fs R lF z9 => ?_) ?_
  ·refine qh (qn (0) qQ rfl qr (by decide) rfl rfl ?_)
   exact ⟨rfl, rfl⟩
  refine gD (fun W Fs R lF z9 => ?_) ?_
  ·replace har := har.mono lF
   replace hrs := hrs.mono lF
   replace hb1 := hb1.mono lF
   replace ha1 := ha1.mono lF
   replace ha2 := ha2.mono lF
   replace ha4 := ha4.mono lF
   replace hr4 := Rd.monoA hr4 lF
   rw [eS (l := [(1, _)]) ⟨z9 1 rfl, ⟨⟩⟩]
   refine qh (qi qP rfl (Rd.own [] rfl rfl) ?_)
   exact ⟨rfl, rfl⟩
  refine gD (fun W Fs R lF z9 => ?_) ?_
  ·refine qh (qj (ii ((p : Int))) rfl ?_)
   exact ⟨rfl, rfl⟩
  refine gD (fun W Fs R lF z9 => ?_) ?_
  ·replace har := har.mono lF
   replace hrs := hrs.mono lF
   replace hb1 := hb1.mono lF
   replace ha1 := ha1.mono lF
   replace ha2 := ha2.mono lF
   replace ha4 := ha4.mono lF
   replace hr4 := Rd.monoA hr4 lF
   rw [eS (l := [(2, _), (3, _)]) ⟨z9 2 rfl, z9 3 rfl, ⟨⟩⟩]
   refine qh (jX 0 p qd qo rfl ha1 rfl ⟨_, rfl⟩ (by omega) (by omega) ?_)
   intro v4 hv4 hn3
   exact ⟨⟨rfl, hv4, hn3⟩, rfl⟩
  refine gD (fun W Fs R lF z9 => ?_) ?_
  ·have f0 : ∃ b, (W 0) = .slice (some ⟨b, 0, none⟩) 0 0 := z9 0 rfl
   obtain ⟨e4, f4_1hv, f4_1hn⟩ := z9 4 rfl
   replace har := har.mono lF
   replace hrs := hrs.mono lF
   replace hb1 := hb1.mono lF
   replace ha1 := ha1.mono lF
   replace ha2 := ha2.mono lF
   replace ha4 := ha4.mono lF
   replace hr4 := Rd.monoA hr4 lF
   rw [eS (l := [(4, (W 4))]) ⟨(e4).symm, ⟨⟩⟩]
   refine qh (XOp.appendE qd typeInfo2 rfl rfl rfl rfl rfl f0 f4_1hv (by (try simp only [List.length_append, List.length_nil, List.length_cons, List.length_singleton, List.length_take, List.length_drop]); omega) ?_)
   intro v5 hs2
   exact ⟨hs2, rfl⟩
  refine gD (fun W Fs R lF z9 => ?_) ?_
  ·refine qh (qn (1) qH rfl jx (by decide) rfl rfl ?_)
   exact ⟨rfl, rfl⟩
  refine gD (fun W Fs R lF z9 => ?_) ?_
  ·replace har := har.mono lF
   replace hrs := hrs.mono lF
   replace hb1 := hb1.mono lF
   replace ha1 := ha1.mono lF
   replace ha2 := ha2.mono lF
   replace ha4 := ha4.mono lF
   replace hr4 := Rd.monoA hr4 lF
   rw [eS (l := [(6, _)]) ⟨z9 6 rfl, ⟨⟩⟩]
   refine qh (qi jG rfl (Rd.own [_, _, _, _] rfl rfl) ?_)
   exact ⟨rfl, rfl⟩
  refine gD (fun W Fs R lF z9 => ?_) ?_
  ·refine qh (qj (ii ((u : Int))) rfl ?_)
   exact ⟨rfl, rfl⟩
  refine gD (fun W Fs R lF z9 => ?_) ?_
  ·replace har := har.mono lF
   replace hrs := hrs.mono lF
   replace hb1 := hb1.mono lF
   replace ha1 := ha1.mono lF
   replace ha2 := ha2.mono lF
   replace ha4 := ha4.mono lF
   replace hr4 := Rd.monoA hr4 lF
   rw [eS (l := [(7, _), (8, _)]) ⟨z9 7 rfl, z9 8 rfl, ⟨⟩⟩]
   refine qh (ql u qU jh rfl rfl rfl hrs.slv (by omega) rfl ?_)
   exact ⟨rfl, rfl⟩
  refine gD (fun W Fs R lF z9 => ?_) ?_
  ·rw [eS (l := [(9, _)]) ⟨z9 9 rfl, ⟨⟩⟩]
   refine qh (jZ (u * 2 + 1) qQ rfl qr (by decide) rfl rfl ?_)
   exact ⟨rfl, rfl⟩
  refine gD (fun W Fs R lF z9 => ?_) ?_
  ·replace har := har.mono lF
   replace hb1 := hb1.mono lF
   replace ha1 := ha1.mono lF
   replace ha2 := ha2.mono lF
   replace ha4 := ha4.mono lF
   replace hr4 := Rd.monoA hr4 lF
   rw [eS (l := [(10, _)]) ⟨z9 10 rfl, ⟨⟩⟩]
   refine qh (qi qP rfl (hr4 _) ?_)
   exact ⟨rfl, rfl⟩
  exact stepsG.nil
 intro W F2 le2 hphi
 have f0 : ∃ b, (W 0) = .slice (some ⟨b, 0, none⟩) 0 0 := hphi 0 (by decide)
 obtain ⟨e4, f4_1hv, f4_1hn⟩ := hphi 4 (by decide)
 have f5 : IsSl (W 5) := hphi 5 (by decide)
 generalize hu0 : W 0 = u1 at f0 e4 f4_1hv f4_1hn f5
 generalize hu1 : (W 4) = u2 at f0 e4 f4_1hv f4_1hn f5
 generalize hu5 : W 5 = u3 at f0 e4 f4_1hv f4_1hn f5
 rw [eS (l := [(0, u1), (5, u3), (11, _)]) ⟨hu0, hu5, (hphi 11 (by decide)), ⟨⟩⟩]
 replace hb1 := hb1.mono le2
 replace ha1 := ha1.mono le2
 replace ha2 := ha2.mono le2
 replace ha4 := ha4.mono le2
 show XL _ _ _ _ _ _ _ (slH 2 1 u1 0 [] :: intsH 2 u3 (((((rs.getD o ([], [])).1).drop 0).take (p - 0))) :: cellsH b4 [a1, a2] 136 :: cellsH b3 [o1] 282 :: slH 22 1 o1 48 bc1 :: cellsH b2 [sN, sN, sN, ii (0), ii (0), ii (0)] 128 :: cellsH b1 [arv, rsv] 66 :: L)
 refine cX (jK <| qt (args := [a4, ii (24)]) call223 rfl (away2_spec (k := 24) ha4 (hk24 := (rfl)) (hlt := (by omega)) (htg := (fun i hi => by have := hgru i hi; omega))) ?_)
 rintro v6 _ _ _ ⟨rfl, hs3, rfl⟩
 refine ⟨_, _, rfl, fun F3 le3 hz1 => ?_⟩
 replace hb1 := hb1.mono le3
 replace ha1 := ha1.mono le3
 replace ha2 := ha2.mono le3
 have hf1 : IntsF F3 v6 ((awayL ((rs.getD u ([], [])).2))) := intsH.fz (xs := (awayL ((rs.getD u ([], [])).2))) hz1.fz
 refine cX (XOp.appendI [_] _ qd typeInfo2 rfl rfl rfl rfl rfl rfl hf1 (by (try simp only [List.length_append, List.length_nil, List.length_cons, List.length_singleton, List.length_take, List.length_drop]); omega) ?_)
 intro v7 hs4 hn4 hm1
 refine qg (v7) rfl (qb (qc (qa (qf (ptr b3 0) rfl (cX (qn (0) qQ rfl qr (by decide) rfl rfl (cX (qi qP rfl (Rd.own [_, _] rfl rfl) ?_))))))))
 obtain ⟨ρ9, hρ9⟩ := hbo.acyc
 obtain ⟨k9, hk9⟩ := maxRank ((rs.getD o ([], [])).1) ρ9
 refine ji (qE (A := [_, _, _, _])) ?_
 show XL _ _ _ _ _ _ _ (slH 22 1 o1 48 bc1 :: slH 2 1 u1 0 [] :: intsH 2 v7 ((((((rs.getD o ([], [])).1).drop 0).take (p - 0))) ++ ((awayL ((rs.getD u ([], [])).2)))) :: cellsH b4 [a1, a2] 136 :: cellsH b3 [o1] 282 :: cellsH b2 [sN, sN, sN, ii (0), ii (0), ii (0)] 128 :: cellsH b1 [arv, rsv] 66 :: L)
 refine ji (qE (A := [_, _, _, _])) ?_
 show XL _ _ _ _ _ _ _ (cellsH b3 [o1] 282 :: slH 22 1 o1 48 bc1 :: slH 2 1 u1 0 [] :: intsH 2 v7 ((((((rs.getD o ([], [])).1).drop 0).take (p - 0))) ++ ((awayL ((rs.getD u ([], [])).2)))) :: cellsH b4 [a1, a2] 136 :: cellsH b2 [sN, sN, sN, ii (0), ii (0), ii (0)] 128 :: cellsH b1 [arv, rsv] 66 :: L)
 refine cX (qt (args := [ptr b3 0, a1]) call224 rfl (full_spec k9 hs1 hb1 hbo ha1 hσ hρ9 (fun m hm _ => hk9 m hm) (fun i hi => by have := hglo i hi; omega) (by omega)) ?_)
 rintro v8 _ _ _ ⟨hs5, rfl, rfl⟩
 refine qg (v8) rfl (jY [] _ _ rfl (fun F4 le4 hz2 => ?_))
 replace hb1 := hb1.mono le4
 replace ha1 := ha1.mono le4
 replace ha2 := ha2.mono le4
 have hf2 : IntsF F4 v8 ((fullX σ ((rs.getD o ([], [])).1))) := intsH.fz (xs := (fullX σ ((rs.getD o ([], [])).1))) hz2.fz
 have hfl15 : (fullX σ ((rs.getD o ([], [])).1)).length ≤ 60 := fullX_len
 skip
 refine qb (qc (qa (qf (ptr b3 0) rfl (qf (v7) rfl (cX (qn (0) qQ rfl qr (by decide) rfl rfl (cX (qi qP rfl (Rd.own [_, _, _, _] rfl rfl) (qf (ii (((endN ar ((rs.getD o ([], [])).1) p : Nat) : Int))) rfl (cX (jX (endN ar ((rs.getD o ([], [])).1) p) (((rs.getD o ([], [])).1).length) qd qo rfl ha1 ⟨_, rfl⟩ rfl (by omega) (by omega) ?_)))))))))))
 intro v9 hv5 hn5
 refine cX (XOp.appendI [_, _, _] _ qd typeInfo2 rfl rfl rfl rfl rfl rfl hv5 (by (try simp only [List.length_append, List.length_nil, List.length_cons, List.length_singleton, List.length_take, List.length_drop]); omega) ?_)
 intro v10 hs6 hn6 hm2
 refine jY [_, _, _] _ _ rfl (fun F5 le5 hz3 => ?_)
 replace hb1 := hb1.mono le5
 replace ha2 := ha2.mono le5
 replace hf2 := hf2.mono le5
 have hf3 : IntsF F5 v10 (((((((rs.getD o ([], [])).1).drop 0).take (p - 0))) ++ ((awayL ((rs.getD u ([], [])).2)))) ++ (((((rs.getD o ([], [])).1).drop (endN ar ((rs.getD o ([], [])).1) p)).take ((((rs.getD o ([], [])).1).length) - (endN ar ((rs.getD o ([], [])).1) p))))) := intsH.fz (xs := ((((((rs.getD o ([], [])).1).drop 0).take (p - 0))) ++ ((awayL ((rs.getD u ([], [])).2)))) ++ (((((rs.getD o ([], [])).1).drop (endN ar ((rs.getD o ([], [])).1) p)).take ((((rs.getD o ([], [])).1).length) - (endN ar ((rs.getD o ([], [])).1) p))))) hz3.fz
 skip
 obtain ⟨ρ9, hρ9⟩ := hbo.acyc
 obtain ⟨k9, hk9⟩ := maxRank (((((((rs.getD o ([], [])).1).drop 0).take (p - 0))) ++ ((awayL ((rs.getD u ([], [])).2)))) ++ (((((rs.getD o ([], [])).1).drop (endN ar ((rs.getD o ([], [])).1) p)).take ((((rs.getD o ([], [])).1).length) - (endN ar ((rs.getD o ([], [])).1) p))))) ρ9
 have hLE9 : ((((((rs.getD o ([], [])).1).drop 0).take (p - 0))) ++ ((awayL ((rs.getD u ([], [])).2)))) ++ (((((rs.getD o ([], [])).1).drop (endN ar ((rs.getD o ([], [])).1) p)).take ((((rs.getD o ([], [])).1).length) - (endN ar ((rs.getD o ([], [])).1) p)))) = leftT ar rs o p u := left_eq
 refine ji (qE (A := [_])) ?_
 show XL _ _ _ _ _ _ _ (slH 22 1 o1 48 bc1 :: cellsH b3 [o1] 282 :: slH 2 1 u1 0 [] :: cellsH b4 [a1, a2] 136 :: cellsH b2 [sN, sN, sN, ii (0), ii (0), ii (0)] 128 :: cellsH b1 [arv, rsv] 66 :: L)
 refine ji (qE (A := [_])) ?_
 show XL _ _ _ _ _ _ _ (cellsH b3 [o1] 282 :: slH 22 1 o1 48 bc1 :: slH 2 1 u1 0 [] :: cellsH b4 [a1, a2] 136 :: cellsH b2 [sN, sN, sN, ii (0), ii (0), ii (0)] 128 :: cellsH b1 [arv, rsv] 66 :: L)
 refine cX (qt (args := [ptr b3 0, v10]) call224 rfl (full_spec k9 hs1 hb1 hbo hf3 hσ hρ9 (fun m hm _ => hk9 m hm) (by rw [hLE9]; exact hLg) (by rw [hLE9]; exact hLl)) ?_)
 rintro v11 _ _ _ ⟨hs7, rfl, rfl⟩
 refine qg (v11) rfl (jY [] _ _ rfl (fun F6 le6 hz4 => ?_))
 replace hb1 := hb1.mono le6
 replace ha2 := ha2.mono le6
 replace hf2 := hf2.mono le6
 have hf4 : IntsF F6 v11 ((fullX σ (((((((rs.getD o ([], [])).1).drop 0).take (p - 0))) ++ ((awayL ((rs.getD u ([], [])).2)))) ++ (((((rs.getD o ([], [])).1).drop (endN ar ((rs.getD o ([], [])).1) p)).take ((((rs.getD o ([], [])).1).length) - (endN ar ((rs.getD o ([], [])).1) p))))))) := intsH.fz (xs := (fullX σ (((((((rs.getD o ([], [])).1).drop 0).take (p - 0))) ++ ((awayL ((rs.getD u ([], [])).2)))) ++ (((((rs.getD o ([], [])).1).drop (endN ar ((rs.getD o ([], [])).1) p)).take ((((rs.getD o ([], [])).1).length) - (endN ar ((rs.getD o ([], [])).1) p))))))) hz4.fz
 rw [hLE9] at hf4
 have hfl16 : (fullX σ (leftT ar rs o p u)).length ≤ 60 := fullX_len
 skip
 refine qb (qc (qa (qf (ptr b3 0) rfl (cX (qn (1) qQ rfl qr (by decide) rfl rfl (cX (qi qP rfl (Rd.own [_, _, _] rfl rfl) ?_)))))))
 obtain ⟨ρ9, hρ9⟩ := hbo.acyc
 obtain ⟨k9, hk9⟩ := maxRank ((rs.getD o ([], [])).2) ρ9
 refine ji (qE (A := [_])) ?_
 show XL _ _ _ _ _ _ _ (slH 22 1 o1 48 bc1 :: cellsH b3 [o1] 282 :: slH 2 1 u1 0 [] :: cellsH b4 [a1, a2] 136 :: cellsH b2 [sN, sN, sN, ii (0), ii (0), ii (0)] 128 :: cellsH b1 [arv, rsv] 66 :: L)
 refine ji (qE (A := [_])) ?_
 show XL _ _ _ _ _ _ _ (cellsH b3 [o1] 282 :: slH 22 1 o1 48 bc1 :: slH 2 1 u1 0 [] :: cellsH b4 [a1, a2] 136 :: cellsH b2 [sN, sN, sN, ii (0), ii (0), ii (0)] 128 :: cellsH b1 [arv, rsv] 66 :: L)
 refine cX (qt (args := [ptr b3 0, a2]) call224 rfl (full_spec k9 hs1 hb1 hbo ha2 hσ hρ9 (fun m hm _ => hk9 m hm) (fun i hi => by have := hgro i hi; omega) (by omega)) ?_)
 rintro v12 _ _ _ ⟨hs8, rfl, rfl⟩
 refine qg (v12) rfl (jY [] _ _ rfl (fun F7 le7 hz5 => ?_))
 replace hf2 := hf2.mono le7
 replace hf4 := hf4.mono le7
 have hf5 : IntsF F7 v12 ((fullX σ ((rs.getD o ([], [])).2))) := intsH.fz (xs := (fullX σ ((rs.getD o ([], [])).2))) hz5.fz
 have hfl17 : (fullX σ ((rs.getD o ([], [])).2)).length ≤ 60 := fullX_len
 skip
 refine qb (qc (qa (qf (v8) rfl (cX (jK <| qt (args := [v8]) call205 rfl (l2OrderL_spec hf2 (hlt := (by omega))) ?_)))))
 rintro v13 _ _ _ ⟨rfl, hs9, rfl⟩
 refine ⟨_, _, rfl, fun F8 le8 hz6 => ?_⟩
 replace hf2 := hf2.mono le8
 replace hf4 := hf4.mono le8
 replace hf5 := hf5.mono le8
 have hf6 : IntsF F8 v13 ((orderL ((fullX σ ((rs.getD o ([], [])).1))))) := intsH.fz (xs := (orderL ((fullX σ ((rs.getD o ([], [])).1))))) hz6.fz
 refine qg (v13) rfl ?_
 have hol18 := ord_len (t := (fullX σ ((rs.getD o ([], [])).1)))
 skip
 refine qb (qc (qc (qa (qf (v8) rfl (cX (qC qd rfl hf2.slv (cX (jI rfl rfl (qf (.bool (decide ((((((fullX σ ((rs.getD o ([], [])).1))).length : Nat) : Int) : Int) = 0))) rfl ?_)))))))))
 by_cases h1 : (((((fullX σ ((rs.getD o ([], [])).1))).length : Nat) : Int) : Int) = 0
 ·have hnil : fullX σ (Lr rs o) = [] ∨ fullX σ (leftT ar rs o p u) = [] ∨ fullX σ (Rr rs o) = [] := .inl (List.eq_nil_of_length_eq_zero (show ((fullX σ ((rs.getD o ([], [])).1))).length = 0 from by omega))
  refine qp (t := 73) rfl (vT h1) (qp (t := 73) rfl (vT h1) (qp (t := 73) rfl (vT h1) (cX (qR (.bool (true)) (vT h1) rfl (qf (.bool (true)) rfl (qp (t := 78) rfl rfl (qp (t := 78) rfl rfl (qp (t := 78) rfl rfl (cX (qR (.bool (true)) rfl rfl (qf (.bool (true)) rfl ?_)))))))))))
  refine qp (t := 83) rfl rfl (qp (t := 83) rfl rfl (qp (t := 83) rfl rfl (cX (qR (.bool (true)) rfl rfl (qb (jB rfl (qc (qa (cX (jw [sN, sN, sN, ii (0), ii (0), ii (0)] [sN, sN, sN, ii (0), ii (0), ii (0)] [(0, 1), (1, 1), (2, 1), (3, 1), (4, 1), (5, 1)] [] jv jr rfl (.cons rfl qr (.cons rfl qr (.cons rfl qr (.cons rfl qo (.cons rfl qo (.cons rfl qo PlacesAre.nil)))))) rfl CellsAre.nil (cX (jb [_, _, _, _] _ [sN, sN, sN, ii (0), ii (0), ii (0)] jl rfl rfl rfl (qv rfl (qv rfl (qv rfl (qv rfl (qv rfl (qv rfl jf)))))) rfl rfl rfl (qg (.bool (false)) rfl ?_)))))))))))))
  refine qb (qy (qk (qs (L' := L) [.agg #[sN, sN, sN, ii (0), ii (0), ii (0)], .bool (false)] (.tuple #[.agg #[sN, sN, sN, ii (0), ii (0), ii (0)], .bool (false)]) (.cell rfl (jP [sN, sN, sN, ii (0), ii (0), ii (0)] isAgg128 jl rfl (Rd.ownN [_, _, _, _] rfl rfl)) (.tmp rfl .nil)) rfl (qm (qm (qm (qm (qm (qm (qm le1 le2) le3) le4) le5) le6) le7) le8) rF (sD (sD (sD (sD (sD (sD sR)))))) ?_)))
  have e : pkF ar rs o p u = none := by first | exact pk_nil hsys ho hu hmt hmg hσ hnil | exact pk_order hsys ho hu hmt hmg hσ h24
  exact ⟨_, _, _, by rw [e]; rfl, by rw [e]; exact IntsF.nilV, by rw [e]; exact IntsF.nilV, by rw [e]; exact IntsF.nilV, rfl⟩
 have eL : fullX σ (rs.getD o ([], [])).1 = ap σ (rs.getD o ([], [])).1 := fullX_yes (fun e => by (have e9 : ((fullX σ ((rs.getD o ([], [])).1))).length = 0 := (congrArg List.length e :)); omega)
 have lL : (ap σ (rs.getD o ([], [])).1).length ≤ 60 := by rw [← eL]; exact fullX_len
 refine qq (t := 73) rfl (vF h1) (qj (v11) rfl (qq (t := 73) rfl (vF h1) (qC qd rfl hf4.slv (qq (t := 73) rfl (vF h1) (jI rfl rfl (cX (qS (.bool (decide ((((((fullX σ (leftT ar rs o p u))).length : Nat) : Int) : Int) = 0))) (vF h1) rfl (qf (.bool (decide ((((((fullX σ (leftT ar rs o p u))).length : Nat) : Int) : Int) = 0))) rfl ?_))))))))
 by_cases h2 : (((((fullX σ (leftT ar rs o p u))).length : Nat) : Int) : Int) = 0
 ·have hnil : fullX σ (Lr rs o) = [] ∨ fullX σ (leftT ar rs o p u) = [] ∨ fullX σ (Rr rs o) = [] := .inr <| .inl (List.eq_nil_of_length_eq_zero (show ((fullX σ (leftT ar rs o p u))).length = 0 from by omega))
  refine qp (t := 78) rfl (vT h2) (qp (t := 78) rfl (vT h2) (qp (t := 78) rfl (vT h2) (cX (qR (.bool (true)) (vT h2) rfl (qf (.bool (true)) rfl (qp (t := 83) rfl rfl (qp (t := 83) rfl rfl (qp (t := 83) rfl rfl (cX (qR (.bool (true)) rfl rfl (qb ?_)))))))))))
  refine jB rfl (qc (qa (cX (jw [sN, sN, sN, ii (0), ii (0), ii (0)] [sN, sN, sN, ii (0), ii (0), ii (0)] [(0, 1), (1, 1), (2, 1), (3, 1), (4, 1), (5, 1)] [] jv jr rfl (.cons rfl qr (.cons rfl qr (.cons rfl qr (.cons rfl qo (.cons rfl qo (.cons rfl qo PlacesAre.nil)))))) rfl CellsAre.nil (cX (jb [_, _, _, _] _ [sN, sN, sN, ii (0), ii (0), ii (0)] jl rfl rfl rfl (qv rfl (qv rfl (qv rfl (qv rfl (qv rfl (qv rfl jf)))))) rfl rfl rfl (qg (.bool (false)) rfl (qb (qy (qk (qs (L' := L) [.agg #[sN, sN, sN, ii (0), ii (0), ii (0)], .bool (false)] (.tuple #[.agg #[sN, sN, sN, ii (0), ii (0), ii (0)], .bool (false)]) (.cell rfl (jP [sN, sN, sN, ii (0), ii (0), ii (0)] isAgg128 jl rfl (Rd.ownN [_, _, _, _] rfl rfl)) (.tmp rfl .nil)) rfl (qm (qm (qm (qm (qm (qm (qm le1 le2) le3) le4) le5) le6) le7) le8) rF (sD (sD (sD (sD (sD (sD sR)))))) ?_)))))))))))
  have e : pkF ar rs o p u = none := by first | exact pk_nil hsys ho hu hmt hmg hσ hnil | exact pk_order hsys ho hu hmt hmg hσ h24
  exact ⟨_, _, _, by rw [e]; rfl, by rw [e]; exact IntsF.nilV, by rw [e]; exact IntsF.nilV, by rw [e]; exact IntsF.nilV, rfl⟩
 have eM : fullX σ (leftT ar rs o p u) = ap σ (leftT ar rs o p u) := fullX_yes (fun e => by (have e9 : ((fullX σ (leftT ar rs o p u))).length = 0 := (congrArg List.length e :)); omega)
 have lM : (ap σ (leftT ar rs o p u)).length ≤ 60 := by rw [← eM]; exact fullX_len
 refine qq (t := 78) rfl (vF h2) (qj (v12) rfl (qq (t := 78) rfl (vF h2) (qC qd rfl hf5.slv (qq (t := 78) rfl (vF h2) (jI rfl rfl (cX (qS (.bool (decide ((((((fullX σ ((rs.getD o ([], [])).2))).length : Nat) : Int) : Int) = 0))) (vF h2) rfl (qf (.bool (decide ((((((fullX σ ((rs.getD o ([], [])).2))).length : Nat) : Int) : Int) = 0))) rfl ?_))))))))
 by_cases h3 : (((((fullX σ ((rs.getD o ([], [])).2))).length : Nat) : Int) : Int) = 0
 ·have hnil : fullX σ (Lr rs o) = [] ∨ fullX σ (leftT ar rs o p u) = [] ∨ fullX σ (Rr rs o) = [] := .inr <| .inr (List.eq_nil_of_length_eq_zero (show ((fullX σ ((rs.getD o ([], [])).2))).length = 0 from by omega))
  refine qp (t := 83) rfl (vT h3) (qp (t := 83) rfl (vT h3) (qp (t := 83) rfl (vT h3) (cX (qR (.bool (true)) (vT h3) rfl (qb (jB rfl (qc (qa (cX (jw [sN, sN, sN, ii (0), ii (0), ii (0)] [sN, sN, sN, ii (0), ii (0), ii (0)] [(0, 1), (1, 1), (2, 1), (3, 1), (4, 1), (5, 1)] [] jv jr rfl (.cons rfl qr (.cons rfl qr (.cons rfl qr (.cons rfl qo (.cons rfl qo (.cons rfl qo PlacesAre.nil)))))) rfl CellsAre.nil (cX (jb [_, _, _, _] _ [sN, sN, sN, ii (0), ii (0), ii (0)] jl rfl rfl rfl (qv rfl (qv rfl (qv rfl (qv rfl (qv rfl (qv rfl jf)))))) rfl rfl rfl (qg (.bool (false)) rfl ?_)))))))))))))
  refine qb (qy (qk (qs (L' := L) [.agg #[sN, sN, sN, ii (0), ii (0), ii (0)], .bool (false)] (.tuple #[.agg #[sN, sN, sN, ii (0), ii (0), ii (0)], .bool (false)]) (.cell rfl (jP [sN, sN, sN, ii (0), ii (0), ii (0)] isAgg128 jl rfl (Rd.ownN [_, _, _, _] rfl rfl)) (.tmp rfl .nil)) rfl (qm (qm (qm (qm (qm (qm (qm le1 le2) le3) le4) le5) le6) le7) le8) rF (sD (sD (sD (sD (sD (sD sR)))))) ?_)))
  have e : pkF ar rs o p u = none := by first | exact pk_nil hsys ho hu hmt hmg hσ hnil | exact pk_order hsys ho hu hmt hmg hσ h24
  exact ⟨_, _, _, by rw [e]; rfl, by rw [e]; exact IntsF.nilV, by rw [e]; exact IntsF.nilV, by rw [e]; exact IntsF.nilV, rfl⟩
 have eR : fullX σ (rs.getD o ([], [])).2 = ap σ (rs.getD o ([], [])).2 := fullX_yes (fun e => by (have e9 : ((fullX σ ((rs.getD o ([], [])).2))).length = 0 := (congrArg List.length e :)); omega)
 have lR : (ap σ (rs.getD o ([], [])).2).length ≤ 60 := by rw [← eR]; exact fullX_len
 refine qq (t := 83) rfl (vF h3) (qj (v13) rfl (qq (t := 83) rfl (vF h3) (qC qd rfl hf6.slv (qq (t := 83) rfl (vF h3) (jH rfl rfl (cX (qS (.bool (decide ((((((orderL ((fullX σ ((rs.getD o ([], [])).1))))).length : Nat) : Int) : Int) > 24))) (vF h3) rfl (qb ?_))))))))
 refine qx (p := (((((orderL ((fullX σ ((rs.getD o ([], [])).1))))).length : Nat) : Int) : Int) > 24) rfl (fun h4 => ?_) (fun h4 => ?_)
 ·have h24 : 24 < (orderL (ap σ (rs.getD o ([], [])).1)).length := by rw [← eL]; omega
  refine qc (qa (cX (jw [sN, sN, sN, ii (0), ii (0), ii (0)] [sN, sN, sN, ii (0), ii (0), ii (0)] [(0, 1), (1, 1), (2, 1), (3, 1), (4, 1), (5, 1)] [] jv jr rfl (.cons rfl qr (.cons rfl qr (.cons rfl qr (.cons rfl qo (.cons rfl qo (.cons rfl qo PlacesAre.nil)))))) rfl CellsAre.nil (cX (jb [_, _, _, _] _ [sN, sN, sN, ii (0), ii (0), ii (0)] jl rfl rfl rfl (qv rfl (qv rfl (qv rfl (qv rfl (qv rfl (qv rfl jf)))))) rfl rfl rfl (qg (.bool (false)) rfl (qb (qy (qk (qs (L' := L) [.agg #[sN, sN, sN, ii (0), ii (0), ii (0)], .bool (false)] (.tuple #[.agg #[sN, sN, sN, ii (0), ii (0), ii (0)], .bool (false)]) (.cell rfl (jP [sN, sN, sN, ii (0), ii (0), ii (0)] isAgg128 jl rfl (Rd.ownN [_, _, _, _] rfl rfl)) (.tmp rfl .nil)) rfl (qm (qm (qm (qm (qm (qm (qm le1 le2) le3) le4) le5) le6) le7) le8) rF (sD (sD (sD (sD (sD (sD sR)))))) ?_))))))))))
  have e : pkF ar rs o p u = none := by first | exact pk_nil hsys ho hu hmt hmg hσ hnil | exact pk_order hsys ho hu hmt hmg hσ h24
  exact ⟨_, _, _, by rw [e]; rfl, by rw [e]; exact IntsF.nilV, by rw [e]; exact IntsF.nilV, by rw [e]; exact IntsF.nilV, rfl⟩
 have h24 : (orderL (ap σ (rs.getD o ([], [])).1)).length ≤ 24 := by rw [← eL]; omega
 refine qw (qc (qa (qf (v13) rfl (qf (v8) rfl (cX (jK <| qt (args := [v13, v8]) call225 rfl (l2ByL_spec hf6 hf2 (hno := (ord_nodup)) (hlo := (by omega)) (hlt := (by first | omega | (have := fullX_len (σ := σ) (t := (rs.getD o ([], [])).1); omega)))) ?_))))))
 rintro v14 _ _ _ ⟨rfl, hs10, rfl⟩
 refine ⟨_, _, rfl, fun F9 le9 hz7 => ?_⟩
 replace hf4 := hf4.mono le9
 replace hf5 := hf5.mono le9
 replace hf6 := hf6.mono le9
 have hf7 : IntsF F9 v14 ((byL ((orderL ((fullX σ ((rs.getD o ([], [])).1))))) ((fullX σ ((rs.getD o ([], [])).1))))) := intsH.fz (xs := (byL ((orderL ((fullX σ ((rs.getD o ([], [])).1))))) ((fullX σ ((rs.getD o ([], [])).1))))) hz7.fz
 skip
 refine qf (v13) rfl (qf (v11) rfl (cX (jK <| qt (args := [v13, v11]) call225 rfl (l2ByL_spec hf6 hf4 (hno := (ord_nodup)) (hlo := (by omega)) (hlt := (by first | omega | (have := fullX_len (σ := σ) (t := (rs.getD o ([], [])).1); omega)))) ?_)))
 rintro v15 _ _ _ ⟨rfl, hs11, rfl⟩
 refine ⟨_, _, rfl, fun F10 le10 hz8 => ?_⟩
 replace hf5 := hf5.mono le10
 replace hf6 := hf6.mono le10
 replace hf7 := hf7.mono le10
 have hf8 : IntsF F10 v15 ((byL ((orderL ((fullX σ ((rs.getD o ([], [])).1))))) ((fullX σ (leftT ar rs o p u))))) := intsH.fz (xs := (byL ((orderL ((fullX σ ((rs.getD o ([], [])).1))))) ((fullX σ (leftT ar rs o p u))))) hz8.fz
 skip
 refine qf (v13) rfl (qf (v12) rfl (cX (jK <| qt (args := [v13, v12]) call225 rfl (l2ByL_spec hf6 hf5 (hno := (ord_nodup)) (hlo := (by omega)) (hlt := (by first | omega | (have := fullX_len (σ := σ) (t := (rs.getD o ([], [])).1); omega)))) ?_)))
 rintro v16 _ _ _ ⟨rfl, hs12, rfl⟩
 refine ⟨_, _, rfl, fun F11 le11 hz9 => ?_⟩
 replace hf7 := hf7.mono le11
 replace hf8 := hf8.mono le11
 have hf9 : IntsF F11 v16 ((byL ((orderL ((fullX σ ((rs.getD o ([], [])).1))))) ((fullX σ ((rs.getD o ([], [])).2))))) := intsH.fz (xs := (byL ((orderL ((fullX σ ((rs.getD o ([], [])).1))))) ((fullX σ ((rs.getD o ([], [])).2))))) hz9.fz
 skip
 refine qf (ii ((p : Int))) rfl (qf (ii ((u : Int))) rfl (qf (ii ((o : Int))) rfl (cX (jw [v14, v15, v16, ii ((p : Int)), ii ((u : Int)), ii ((o : Int))] [sN, sN, sN, ii (0), ii (0), ii (0)] [(0, 1), (1, 1), (2, 1), (3, 1), (4, 1), (5, 1)] [(0, [v14]), (1, [v15]), (2, [v16]), (3, [ii ((p : Int))]), (4, [ii ((u : Int))]), (5, [ii ((o : Int))])] jv jr rfl (.cons rfl qr (.cons rfl qr (.cons rfl qr (.cons rfl qo (.cons rfl qo (.cons rfl qo PlacesAre.nil)))))) rfl (.cons (cells_one (qG hf7)) (.cons (cells_one (qG hf8)) (.cons (cells_one (qG hf9)) (.cons rfl (.cons rfl (.cons rfl CellsAre.nil)))))) (cX (jb [_, _, _, _] _ [v14, v15, v16, ii ((p : Int)), ii ((u : Int)), ii ((o : Int))] jl rfl rfl rfl (qv (qZ (qG hf7)) (qv (qZ (qG hf8)) (qv (qZ (qG hf9)) (qv rfl (qv rfl (qv rfl jf)))))) rfl rfl rfl (qg (.bool (true)) rfl (qb (qy (qs (L' := L) [.agg #[v14, v15, v16, ii ((p : Int)), ii ((u : Int)), ii ((o : Int))], .bool (true)] (.tuple #[.agg #[v14, v15, v16, ii ((p : Int)), ii ((u : Int)), ii ((o : Int))], .bool (true)]) (.cell rfl (jP [v14, v15, v16, ii ((p : Int)), ii ((u : Int)), ii ((o : Int))] isAgg128 jl rfl (Rd.ownN [_, _, _, _] rfl rfl)) (.tmp rfl .nil)) rfl (qm (qm (qm (qm (qm (qm (qm (qm (qm (qm le1 le2) le3) le4) le5) le6) le7) le8) le9) le10) le11) rF (sD (sD (sD (sD (sD (sD sR)))))) ?_))))))))))
 have e := pk_yes hsys ho hu hmt hmg hσ lL lM lR h24
 rw [← eL, ← eM, ← eR] at e
 exact ⟨_, _, _, by rw [e]; rfl, by rw [e]; exact hf7, by rw [e]; exact hf8, by rw [e]; exact hf9, rfl⟩

/- spec.l11All -/
set_option maxHeartbeats 2000000 in
set_option maxRecDepth 20000 in
theorem all2_spec {F : FH} {L : List HP} {arv : Value} {ar : List Int} (har : IntsF F arv ar) {rsv : Value} {rs : List (List Int × List Int)} (hrs : PairsF F rsv rs) (hsys : sysOk ar rs = true) :
    Does prog 146 [.agg #[arv, rsv]] F (L) (fun v F' L' => ∃ (a : Value), (.tuple #[a, .bool ((peaksF ar rs).isSome)] : Value) = v ∧ (PeaksF F' a ((peaksF ar rs).getD [])) ∧ L = L') := by
 refine qD func146 rfl rfl rfl ?_
 have hrl := (sysOk_iff.1 hsys).2.1
 refine qc (qa (cX (qV [arv, rsv] rfl rfl ?_)))
 intro b1
 refine qg (sN) rfl (qg (.bool (false)) rfl (qb (qc (qa (cX (qM (s := 6) [] [sN, sN, sN, ii (0), ii (0), ii (0)] [] jy jl jr rfl (by decide) rfl CellsAre.nil rfl ?_))))))
 intro v1 hv1
 refine qg (v1) rfl (qb (qc (qa (cX (qn (1) qH rfl jx (by decide) rfl rfl (cX (qi jG rfl (Rd.own [_] rfl rfl) (cX (qC qU rfl hrs.slv (qg (ii ((rs.length : Int))) rfl (qb (qc (qc (qa (qg (ii (0)) rfl (qb (qF ?_)))))))))))))))))
 have hc1 : PeaksC F [] ([] : List PeakT) := (CO.nil : PeaksC F [] [])
 refine jj (α := Nat × Value × List PkT × List Value × Nat × FH) (fun xQ => [(1, ptr b1 0), (4, xQ.2.1), (5, ii ((rs.length : Int))), (6, ii (((xQ.1 : Nat) : Int)))]) (fun xQ => slH 128 6 xQ.2.1 xQ.2.2.2.2.1 xQ.2.2.2.1 :: cellsH b1 [arv, rsv] 66 :: L) (fun xQ F' => xQ.2.2.2.2.2 = F' ∧ F ≤ xQ.2.2.2.2.2 ∧ (IsSl xQ.2.1) ∧ (PeaksC xQ.2.2.2.2.2 xQ.2.2.2.1 xQ.2.2.1) ∧ (xQ.2.2.2.2.1 = xQ.2.2.1.length) ∧ (xQ.1 ≤ rs.length) ∧ (PkI ar rs (mO ar rs xQ.1) xQ.2.2.1)) (fun xQ => rs.length - xQ.1) (0, v1, [], [], 0, F) ⟨rfl, rfl, rfl, rfl, ⟨⟩⟩ (sC (sC sR)) ⟨rfl, FLe.refl _, ((jJ hv1)), (hc1), (rfl), (by (try dsimp only) <;> omega), (PkI.start)⟩ ?_
 rintro ⟨o, ova, osa, csa, ma, G1⟩ rE _ _ ⟨rfl, leG, hova, hCa, hma, hbo, hIa⟩
 show X _ _ _ _ (envs [(1, ptr b1 0), (4, ova), (5, ii ((rs.length : Int))), (6, ii ((o : Int)))] rE) _ (slH 128 6 ova ma csa :: cellsH b1 [arv, rsv] 66 :: L)
 replace leG : F ≤ G1 := leG
 dsimp only at hova hCa hma hbo hIa
 have hlna := hIa.len
 have leG1 := leG
 replace har := har.mono leG1
 replace hrs := hrs.mono leG1
 refine qc (qc (qa (qf (ii ((o : Int))) rfl (qf (ii ((rs.length : Int))) rfl (cX (qL rfl rfl (qb ?_)))))))
 refine qx (p := (o : Int) < (rs.length : Int)) rfl (fun h1 => ?_) (fun h1 => ?_)
 ·refine qw (qc (qF (qc (qa (qg (ii (0)) rfl (qb (qF (jj (α := Nat × Value × List PkT × List Value × Nat × FH) (fun xQ => [(1, ptr b1 0), (4, xQ.2.1), (5, ii ((rs.length : Int))), (6, ii ((o : Int))), (7, ii (((xQ.1 : Nat) : Int)))]) (fun xQ => slH 128 6 xQ.2.1 xQ.2.2.2.2.1 xQ.2.2.2.1 :: cellsH b1 [arv, rsv] 66 :: L) (fun xQ F' => xQ.2.2.2.2.2 = F' ∧ G1 ≤ xQ.2.2.2.2.2 ∧ (IsSl xQ.2.1) ∧ (PeaksC xQ.2.2.2.2.2 xQ.2.2.2.1 xQ.2.2.1) ∧ (xQ.2.2.2.2.1 = xQ.2.2.1.length) ∧ (xQ.1 ≤ (rs.getD o ([], [])).1.length) ∧ (PkI ar rs (mO ar rs o ++ mP ar rs o xQ.1) xQ.2.2.1)) (fun xQ => (rs.getD o ([], [])).1.length - xQ.1) (0, ova, osa, csa, ma, G1) ⟨rfl, rfl, rfl, rfl, rfl, ⟨⟩⟩ (sC (sC sR)) ⟨rfl, FLe.refl _, (hova), (hCa), (by (try dsimp only); omega), (by (try dsimp only) <;> omega), (by (try dsimp only); simpa only [mP, List.append_nil] using hIa)⟩ ?_))))))))
  rintro ⟨p, ovb, osb, csb, mb, G2⟩ rE _ _ ⟨rfl, leG, hovb, hCb, hmb, hbp, hIb⟩
  show X _ _ _ _ (envs [(1, ptr b1 0), (4, ovb), (5, ii ((rs.length : Int))), (6, ii ((o : Int))), (7, ii ((p : Int)))] rE) _ (slH 128 6 ovb mb csb :: cellsH b1 [arv, rsv] 66 :: L)
  replace leG : G1 ≤ G2 := leG
  dsimp only at hovb hCb hmb hbp hIb
  have hlnb := hIb.len
  have hlo9 : 1 ≤ (rs.getD o ([], [])).1.length ∧ (rs.getD o ([], [])).1.length ≤ 60 := termOk_len (rule_L hsys (show o < rs.length by omega))
  have leG2 := leG
  replace har := har.mono leG2
  replace hrs := hrs.mono leG2
  replace hCa := hCa.mono leG2
  refine qc (qc (qa (qf (ii ((p : Int))) rfl (cX (qn (1) qH rfl jx (by decide) rfl rfl (cX (qi jG rfl (Rd.own [_] rfl rfl) (qf (ii ((o : Int))) rfl (cX (ql o qU jh rfl rfl rfl hrs.slv (by omega) rfl (cX (jZ (o * 2) qQ rfl qr (by decide) rfl rfl ?_))))))))))))
  obtain ⟨a1, a2, ha1, ha2, hr1, hr2⟩ := hrs.rd (i := o) (by omega)
  refine cX (qi qP rfl (hr1 _) (cX (qC qd rfl ha1.slv (cX (qL rfl rfl (qb ?_))))))
  refine qx (p := (p : Int) < ((((rs.getD o ([], [])).1).length : Nat) : Int)) rfl (fun h2 => ?_) (fun h2 => ?_)
  ·refine qw (qc (qF (qc (qa (qg (ii (0)) rfl (qb (qF (jj (α := Nat × Value × List PkT × List Value × Nat × FH) (fun xQ => [(1, ptr b1 0), (4, xQ.2.1), (5, ii ((rs.length : Int))), (6, ii ((o : Int))), (7, ii ((p : Int))), (8, ii (((xQ.1 : Nat) : Int)))]) (fun xQ => slH 128 6 xQ.2.1 xQ.2.2.2.2.1 xQ.2.2.2.1 :: cellsH b1 [arv, rsv] 66 :: L) (fun xQ F' => xQ.2.2.2.2.2 = F' ∧ G2 ≤ xQ.2.2.2.2.2 ∧ (IsSl xQ.2.1) ∧ (PeaksC xQ.2.2.2.2.2 xQ.2.2.2.1 xQ.2.2.1) ∧ (xQ.2.2.2.2.1 = xQ.2.2.1.length) ∧ (xQ.1 ≤ rs.length) ∧ (PkI ar rs (mO ar rs o ++ mP ar rs o p ++ mU ar rs o p xQ.1) xQ.2.2.1)) (fun xQ => rs.length - xQ.1) (0, ovb, osb, csb, mb, G2) ⟨rfl, rfl, rfl, rfl, rfl, rfl, ⟨⟩⟩ (sC (sC sR)) ⟨rfl, FLe.refl _, (hovb), (hCb), (by (try dsimp only); omega), (by (try dsimp only) <;> omega), (by (try dsimp only); simpa only [mU, List.append_nil] using hIb)⟩ ?_))))))))
   rintro ⟨u, ovc, osc, csc, mc, G3⟩ rE _ _ ⟨rfl, leG, hovc, hCc, hmc, hbu, hIc⟩
   show X _ _ _ _ (envs [(1, ptr b1 0), (4, ovc), (5, ii ((rs.length : Int))), (6, ii ((o : Int))), (7, ii ((p : Int))), (8, ii ((u : Int)))] rE) _ (slH 128 6 ovc mc csc :: cellsH b1 [arv, rsv] 66 :: L)
   replace leG : G2 ≤ G3 := leG
   dsimp only at hovc hCc hmc hbu hIc
   have hlnc := hIc.len
   have leG3 := leG
   replace har := har.mono leG3
   replace hrs := hrs.mono leG3
   replace hCa := hCa.mono leG3
   replace hCb := hCb.mono leG3
   refine qc (qc (qa (qf (ii ((u : Int))) rfl (qf (ii ((rs.length : Int))) rfl (cX (qL rfl rfl (qb ?_)))))))
   refine qx (p := (u : Int) < (rs.length : Int)) rfl (fun h3 => ?_) (fun h3 => ?_)
   ·refine qw (qc (qF (qc (qc (qa (cX (qB [arv, rsv] jF jt rfl rfl (Rd.ownN [_] rfl rfl) (qf (ii ((o : Int))) rfl (qf (ii ((p : Int))) rfl (qf (ii ((u : Int))) rfl (cX (qt (args := [.agg #[arv, rsv], ii (o : Int), ii (p : Int), ii (u : Int)]) call193 rfl (meets2_spec (o := o) (p := p) (u := u) har hrs (hsys := (hsys)) (ho := (by omega)) (hu := (by omega)) (hp := (by omega))) ?_))))))))))))
    rintro _ F1 _ le1 ⟨rfl, rfl⟩
    replace har := har.mono le1
    replace hrs := hrs.mono le1
    replace hCa := hCa.mono le1
    replace hCb := hCb.mono le1
    replace hCc := hCc.mono le1
    refine cX (jN rfl (qb ?_))
    refine qx (p := ¬(0 ≤ (rs.getD o ([], [])).1.getD p 0 ∧ meetB ar rs o p u = true)) rfl (fun h4 => ?_) (fun h4 => ?_)
    ·have hmt : ¬ (0 ≤ (rs.getD o ([], [])).1.getD p 0 ∧ meetB ar rs o p u = true) := h4
     refine ja (qu (qJ (qa (qf (ii ((u : Int))) rfl (cX (qI (((u + 1 : Nat) : Int)) rfl rfl (by omega) (by omega) (qg (ii (((u + 1 : Nat) : Int))) rfl (qb ?_))))))))
     exact ⟨(u + 1, ovc, osc, csc, mc, F1), _, (qm leG3 le1), rF, ⟨rfl, rfl, rfl, rfl, rfl, rfl, ⟨⟩⟩, (sC (sC sR)), ⟨rfl, (qm leG3 le1), (hovc), (hCc), (by (try dsimp only); (try rw [List.length_append, List.length_singleton]); omega), (by (try dsimp only) <;> omega), (by (try dsimp only); first | (rw [mU_no hmt]; exact hIc) | (have h9 := hIc.next hpk hpl; rw [mU_yes hmt.1 hmt.2, ← List.append_assoc]; exact h9))⟩, (by omega)⟩
    have hmt : 0 ≤ (rs.getD o ([], [])).1.getD p 0 ∧ meetB ar rs o p u = true := (Classical.not_not.1 h4)
    refine qw (qc (qa (cX (qB [arv, rsv] jF jt rfl rfl (Rd.ownN [_] rfl rfl) (qf (ii ((o : Int))) rfl (qf (ii ((p : Int))) rfl (qf (ii ((u : Int))) rfl (cX (qt (args := [.agg #[arv, rsv], ii (o : Int), ii (p : Int), ii (u : Int)]) call194 rfl (peak2_spec (o := o) (p := p) (u := u) har hrs (hsys := (hsys)) (ho := (by omega)) (hu := (by omega)) (hp := (by omega)) (hmt := (hmt.2))) ?_)))))))))
    rintro _ F2 _ le2 ⟨x1, x2, x3, rfl, hr3, hr4, hr5, rfl⟩
    replace hCa := hCa.mono le2
    replace hCb := hCb.mono le2
    replace hCc := hCc.mono le2
    refine qf (.tuple #[.agg #[x1, x2, x3, ii (((pkF ar rs o p u).getD P0).2.2.2.1), ii (((pkF ar rs o p u).getD P0).2.2.2.2.1), ii (((pkF ar rs o p u).getD P0).2.2.2.2.2)], .bool ((pkF ar rs o p u).isSome)]) rfl (cX (qT (.agg #[x1, x2, x3, ii (((pkF ar rs o p u).getD P0).2.2.2.1), ii (((pkF ar rs o p u).getD P0).2.2.2.2.1), ii (((pkF ar rs o p u).getD P0).2.2.2.2.2)]) rfl rfl (cX (qT (.bool ((pkF ar rs o p u).isSome)) rfl rfl (cX (jo [sN, sN, sN, ii (0), ii (0), ii (0)] jr rfl ?_))))))
    intro b2
    refine cX (jb [] _ [x1, x2, x3, ii (((pkF ar rs o p u).getD P0).2.2.2.1), ii (((pkF ar rs o p u).getD P0).2.2.2.2.1), ii (((pkF ar rs o p u).getD P0).2.2.2.2.2)] jl rfl rfl rfl (qv (qZ (qG hr3)) (qv (qZ (qG hr4)) (qv (qZ (qG hr5)) (qv rfl (qv rfl (qv rfl jf)))))) rfl rfl rfl (qg (.bool ((pkF ar rs o p u).isSome)) rfl (qb (qc (qc (qa (qf (.bool ((pkF ar rs o p u).isSome)) rfl (cX (jp rfl (qf (.bool (!((pkF ar rs o p u).isSome))) rfl ?_))))))))))
    by_cases h5 : (!((pkF ar rs o p u).isSome)) = true
    ·have hpk : (pkF ar rs o p u).isSome = false := Bool.not_inj (y := false) h5
     refine qp (t := 52) rfl (vB h5) (qp (t := 52) rfl (vB h5) (qp (t := 52) rfl (vB h5) (cX (qR (.bool (true)) (vB h5) rfl (qb (jB rfl (qc (qa (cX (qM (s := 6) [] [sN, sN, sN, ii (0), ii (0), ii (0)] [] jy jl jr rfl (by decide) rfl CellsAre.nil rfl ?_))))))))))
     intro v2 hv2
     refine qg (v2) rfl (qg (.bool (false)) rfl (qb ?_))
     have hc2 : PeaksC F2 [] ([] : List PeakT) := (CO.nil : PeaksC F2 [] [])
     refine jA [] _ _ rfl (fun F3 le3 hz1 => ?_)
     replace hCa := hCa.mono le3
     replace hCb := hCb.mono le3
     replace hCc := hCc.mono le3
     replace hr3 := hr3.mono le3
     replace hr4 := hr4.mono le3
     replace hr5 := hr5.mono le3
     replace hc2 := hc2.mono le3
     have hf1 : PeaksF F3 v2 (([] : List PeakT)) := CO.fz hc2 (by first | rfl | omega | (rw [List.length_set]; omega) | (simp; done)) hz1.fz
     refine qy (qk (qz (qk (qk (qz (qz (qk (qk (qz (qz (qk (qk (qz (qk (qs (L' := L) [v2, .bool (false)] (.tuple #[v2, .bool (false)]) (.tmp rfl (.tmp rfl .nil)) rfl (qm (qm (qm (qm (qm leG1 leG2) leG3) le1) le2) le3) rF (sD (sD (sD sR))) ?_)))))))))))))))
     have e : peaksF ar rs = none := peaks_no (ms := mO ar rs o ++ mP ar rs o p ++ mU ar rs o p u) (by have h9 := meets_pre (ar := ar) (rs := rs) (o := o) (p := p) (u := u) (by omega) (by show p < (rs.getD o ([], [])).1.length; omega) (by omega); rw [mU_yes hmt.1 hmt.2, ← List.append_assoc] at h9; exact h9) hIc (by first | exact .inl hpk | exact .inr hpl)
     exact ⟨_, by rw [e]; rfl, by rw [e]; exact hf1, rfl⟩
    rw [Bool.not_eq_true] at h5
    have hpk : (pkF ar rs o p u).isSome = true := Bool.not_inj (y := true) h5
    refine qq (t := 52) rfl (vB h5) (qj (ovc) rfl (qq (t := 52) rfl (vB h5) (qC jy rfl (SlV.own [_] rfl) (qq (t := 52) rfl (vB h5) (jI rfl rfl (cX (qS (.bool (decide ((((mc : Nat) : Int) : Int) = 64))) (vB h5) rfl (qb ?_))))))))
    refine qx (p := (((mc : Nat) : Int) : Int) = 64) rfl (fun h6 => ?_) (fun h6 => ?_)
    ·have hpl : osc.length = 64 := by omega
     refine qc (qa (cX (qM (s := 6) [] [sN, sN, sN, ii (0), ii (0), ii (0)] [] jy jl jr rfl (by decide) rfl CellsAre.nil rfl ?_)))
     intro v3 hv3
     refine qg (v3) rfl (qg (.bool (false)) rfl (qb ?_))
     have hc3 : PeaksC F2 [] ([] : List PeakT) := (CO.nil : PeaksC F2 [] [])
     refine jA [] _ _ rfl (fun F4 le4 hz2 => ?_)
     replace hCa := hCa.mono le4
     replace hCb := hCb.mono le4
     replace hCc := hCc.mono le4
     replace hr3 := hr3.mono le4
     replace hr4 := hr4.mono le4
     replace hr5 := hr5.mono le4
     replace hc3 := hc3.mono le4
     have hf2 : PeaksF F4 v3 (([] : List PeakT)) := CO.fz hc3 (by first | rfl | omega | (rw [List.length_set]; omega) | (simp; done)) hz2.fz
     refine qy (qk (qz (qk (qk (qz (qz (qk (qk (qz (qz (qk (qk (qz (qk (qs (L' := L) [v3, .bool (false)] (.tuple #[v3, .bool (false)]) (.tmp rfl (.tmp rfl .nil)) rfl (qm (qm (qm (qm (qm leG1 leG2) leG3) le1) le2) le4) rF (sD (sD (sD sR))) ?_)))))))))))))))
     have e : peaksF ar rs = none := peaks_no (ms := mO ar rs o ++ mP ar rs o p ++ mU ar rs o p u) (by have h9 := meets_pre (ar := ar) (rs := rs) (o := o) (p := p) (u := u) (by omega) (by show p < (rs.getD o ([], [])).1.length; omega) (by omega); rw [mU_yes hmt.1 hmt.2, ← List.append_assoc] at h9; exact h9) hIc (by first | exact .inl hpk | exact .inr hpl)
     exact ⟨_, by rw [e]; rfl, by rw [e]; exact hf2, rfl⟩
    have hpl : osc.length ≠ 64 := by omega
    refine qw (qa (qf (ovc) rfl (cX (qB [x1, x2, x3, ii (((pkF ar rs o p u).getD P0).2.2.2.1), ii (((pkF ar rs o p u).getD P0).2.2.2.2.1), ii (((pkF ar rs o p u).getD P0).2.2.2.2.2)] isAgg128 jl rfl rfl (Rd.ownN [] rfl rfl) (cX (qM (s := 6) [x1, x2, x3, ii (((pkF ar rs o p u).getD P0).2.2.2.1), ii (((pkF ar rs o p u).getD P0).2.2.2.2.1), ii (((pkF ar rs o p u).getD P0).2.2.2.2.2)] [sN, sN, sN, ii (0), ii (0), ii (0)] [(0, [x1, x2, x3, ii (((pkF ar rs o p u).getD P0).2.2.2.1), ii (((pkF ar rs o p u).getD P0).2.2.2.2.1), ii (((pkF ar rs o p u).getD P0).2.2.2.2.2)])] jy jl jr rfl (by decide) rfl (.cons rfl CellsAre.nil) rfl ?_))))))
    intro v4 hv4
    refine cX (XOp.append (m := 1) (bytes := 96) (cs := csc) [_, _] _ [x1, x2, x3, ii (((pkF ar rs o p u).getD P0).2.2.2.1), ii (((pkF ar rs o p u).getD P0).2.2.2.2.1), ii (((pkF ar rs o p u).getD P0).2.2.2.2.2)] jy typeInfo128 rfl rfl rfl rfl rfl rfl rfl (SlV.own [] rfl) rfl (Rd.lit [] rfl) (qv (qZ (qG hr3)) (qv (qZ (qG hr4)) (qv (qZ (qG hr5)) (qv rfl (qv rfl (qv rfl jf)))))) (by (try simp only [List.length_append, List.length_nil, List.length_cons, List.length_singleton]); omega) (by (try simp only [List.length_append, List.length_nil, List.length_cons, List.length_singleton]); omega) ?_)
    intro v5 hs1 hn1 hm1
    have hc4 := PeaksC.snoc hCc (y0 := ((pkF ar rs o p u).getD P0).1) (y1 := ((pkF ar rs o p u).getD P0).2.1) (y2 := ((pkF ar rs o p u).getD P0).2.2.1) (y3 := ((pkF ar rs o p u).getD P0).2.2.2.1) (y4 := ((pkF ar rs o p u).getD P0).2.2.2.2.1) (y5 := ((pkF ar rs o p u).getD P0).2.2.2.2.2) hr3 hr4 hr5
    refine qg (v5) rfl (qb (qa (qf (ii ((u : Int))) rfl (cX (qI (((u + 1 : Nat) : Int)) rfl rfl (by omega) (by omega) (qg (ii (((u + 1 : Nat) : Int))) rfl (qb ?_)))))))
    exact ⟨(u + 1, v5, osc ++ [(((pkF ar rs o p u).getD P0).1, ((pkF ar rs o p u).getD P0).2.1, ((pkF ar rs o p u).getD P0).2.2.1, ((pkF ar rs o p u).getD P0).2.2.2.1, ((pkF ar rs o p u).getD P0).2.2.2.2.1, ((pkF ar rs o p u).getD P0).2.2.2.2.2)], csc ++ [x1, x2, x3, ii (((pkF ar rs o p u).getD P0).2.2.2.1), ii (((pkF ar rs o p u).getD P0).2.2.2.2.1), ii (((pkF ar rs o p u).getD P0).2.2.2.2.2)], (mc) + 1, F2), _, (qm (qm leG3 le1) le2), rF, ⟨rfl, rfl, rfl, rfl, rfl, rfl, ⟨⟩⟩, (sD (sD (sC (sC sR)))), ⟨rfl, (qm (qm leG3 le1) le2), (hs1), (hc4), (by (try dsimp only); (try rw [List.length_append, List.length_singleton]); omega), (by (try dsimp only) <;> omega), (by (try dsimp only); first | (rw [mU_no hmt]; exact hIc) | (have h9 := hIc.next hpk hpl; rw [mU_yes hmt.1 hmt.2, ← List.append_assoc]; exact h9))⟩, (by omega)⟩
   refine ja (qu (qu (qJ (qa (qf (ii ((p : Int))) rfl (cX (qI (((p + 1 : Nat) : Int)) rfl rfl (by omega) (by omega) (qg (ii (((p + 1 : Nat) : Int))) rfl (qb ?_)))))))))
   exact ⟨(p + 1, ovc, osc, csc, mc, G3), _, (qm leG2 leG3), rF, ⟨rfl, rfl, rfl, rfl, rfl, ⟨⟩⟩, (sC (sC sR)), ⟨rfl, (qm leG2 leG3), (hovc), (hCc), (by (try dsimp only); (try rw [List.length_append, List.length_singleton]); omega), (by (try dsimp only) <;> omega), (by (try dsimp only); have e9 : u = rs.length := (by omega); rw [e9] at hIc; simpa only [mP, List.append_assoc] using hIc)⟩, (by omega)⟩
  refine ja (qu (qu (qJ (qa (qf (ii ((o : Int))) rfl (cX (qI (((o + 1 : Nat) : Int)) rfl rfl (by omega) (by omega) (qg (ii (((o + 1 : Nat) : Int))) rfl (qb ?_)))))))))
  exact ⟨(o + 1, ovb, osb, csb, mb, G2), _, (qm leG1 leG2), rF, ⟨rfl, rfl, rfl, rfl, ⟨⟩⟩, (sC (sC sR)), ⟨rfl, (qm leG1 leG2), (hovb), (hCb), (by (try dsimp only); (try rw [List.length_append, List.length_singleton]); omega), (by (try dsimp only) <;> omega), (by (try dsimp only); have e9 : p = (rs.getD o ([], [])).1.length := (by omega); rw [e9] at hIb; simpa only [mO, List.append_assoc] using hIb)⟩, (by omega)⟩
 refine ja (qu (qu (qJ (qc (qa (qf (ova) rfl (qg (ova) rfl (qg (.bool (true)) rfl (qb (jA [] _ _ rfl (fun F5 le5 hz3 => ?_)))))))))))
 replace hCa := hCa.mono le5
 have hf3 : PeaksF F5 ova osa := CO.fz hCa (by first | rfl | omega | (rw [List.length_set]; omega) | (simp; done)) hz3.fz
 refine qy (qs (L' := L) [ova, .bool (true)] (.tuple #[ova, .bool (true)]) (.tmp rfl (.tmp rfl .nil)) rfl (qm leG1 le5) rF (sD sR) ?_)
 have e9 : o = rs.length := by omega
 rw [e9] at hIa
 have e := peaks_yes hIa
 exact ⟨_, by rw [e]; rfl, by rw [e]; exact hf3, rfl⟩

/- spec.PeaksOf -/
theorem sPeaksOf_spec {F : FH} {L : List HP} {arv : Value} {ar : List Int} (har : IntsF F arv ar) {rsv : Value} {rs : List (List Int × List Int)} (hrs : PairsF F rsv rs) (hla : ar.length ≤ 4000000) (hlr : rs.length ≤ 4000000) (hrb : ∀ i, i < rs.length → (rs.getD i ([], [])).1.length ≤ 4000000 ∧ (rs.getD i ([], [])).2.length ≤ 4000000) :
    Does prog 78 [.agg #[arv, rsv]] F (L) (fun v F' L' => ∃ (a : Value), (.tuple #[a, .bool ((psO ar rs).isSome)] : Value) = v ∧ (PeaksF F' a ((psO ar rs).getD [])) ∧ L = L') := by
 refine qD func78 rfl rfl rfl (qc (qa (cX (qV [arv, rsv] rfl rfl ?_))))
 intro b1
 refine qg (sN) rfl (qg (.bool (false)) rfl (qb (qc (qc (qa (cX (qB [arv, rsv] jF jt rfl rfl (Rd.ownN [] rfl rfl) (cX (qt (args := [.agg #[arv, rsv]]) call145 rfl (sSystemOk_spec har hrs (hla := (by first | assumption | rfl | omega | simp)) (hlr := (by first | assumption | rfl | omega | simp)) (hrb := (by first | assumption | rfl | omega | simp))) ?_)))))))))
 rintro _ _ _ _ ⟨rfl, rfl, rfl⟩
 refine cX (jp rfl (qb ?_))
 refine X.cond (t := !(sysOk ar rs)) rfl (fun h1 => ?_) (fun h1 => ?_)
 ·have hsys : sysOk ar rs = false := Bool.not_inj (y := false) h1
  refine qc (qa (cX (qM (s := 6) [] [sN, sN, sN, ii (0), ii (0), ii (0)] [] jy jl jr rfl (by decide) rfl CellsAre.nil rfl ?_)))
  intro v1 hv1
  refine qg (v1) rfl (qg (.bool (false)) rfl (qb ?_))
  have hc1 : PeaksC F [] ([] : List PeakT) := (CO.nil : PeaksC F [] [])
  refine jA [] _ _ rfl (fun F1 le1 hz1 => ?_)
  replace har := har.mono le1
  replace hrs := hrs.mono le1
  replace hc1 := hc1.mono le1
  have hf1 : PeaksF F1 v1 (([] : List PeakT)) := CO.fz hc1 (by first | rfl | omega | (rw [List.length_set]; omega) | (simp; done)) hz1.fz
  refine qy (qk (qs (L' := L) [v1, .bool (false)] (.tuple #[v1, .bool (false)]) (.tmp rfl (.tmp rfl .nil)) rfl le1 rF (sD sR) ?_))
  have e := ps_no hsys
  exact ⟨_, by rw [e]; rfl, by rw [e]; exact hf1, rfl⟩
 have hsys : sysOk ar rs = true := Bool.not_inj (y := true) h1
 refine qw (qc (qa (cX (qB [arv, rsv] jF jt rfl rfl (Rd.ownN [] rfl rfl) (cX (qt (args := [.agg #[arv, rsv]]) call146 rfl (all2_spec har hrs (hsys := (hsys))) ?_))))))
 rintro _ F2 _ le2 ⟨x1, rfl, hr1, rfl⟩
 refine cX (qT (x1) rfl rfl (cX (qT (.bool ((peaksF ar rs).isSome)) rfl rfl (qg (x1) rfl (qg (.bool ((peaksF ar rs).isSome)) rfl (qb (qy (qs (L' := L) [x1, .bool ((peaksF ar rs).isSome)] (.tuple #[x1, .bool ((peaksF ar rs).isSome)]) (.tmp rfl (.tmp rfl .nil)) rfl le2 rF (sD sR) ?_))))))))
 have e := ps_yes hsys
 exact ⟨_, by rw [e], by rw [e]; exact hr1, rfl⟩

/- impl.linear -/
theorem linear_spec {F : FH} {L : List HP} {tv : Value} {t : List Int} (ht : IntsF F tv t) (hlt : t.length ≤ 4000000) :
    Does prog 166 [tv] F (L) (fun v F' L' => (.bool (decide (LinT t)) : Value) = v ∧ F = F' ∧ L = L') := by
 refine qD func166 rfl rfl rfl (qc (qa (qg (.bool (false)) rfl (qb (qc (qc (qa (qf (tv) rfl (cX (qC qd rfl ht.slv (qf (ii (0)) rfl (qb (qF (jj (α := Nat) (fun k => [(0, tv), (5, tv), (6, ii ((t.length : Int))), (7, ii ((k : Int)))]) (fun k => L) (fun k F' => F = F' ∧ (k ≤ t.length) ∧ (LinAt t k)) (fun k => t.length - k) 0 ⟨rfl, rfl, rfl, rfl, ⟨⟩⟩ sR ⟨rfl, (by (try dsimp only) <;> omega), (fun i hi => absurd hi (by omega))⟩ ?_))))))))))))))
 rintro k rE _ _ ⟨rfl, hk, hL⟩
 show X _ _ _ _ (envs [(0, tv), (5, tv), (6, ii ((t.length : Int))), (7, ii ((k : Int)))] rE) _ (L)
 refine qc (qa (cX (qL rfl rfl (qb (qc ?_)))))
 refine qx (p := (k : Int) < (t.length : Int)) rfl (fun h1 => ?_) (fun h1 => ?_)
 ·refine qw (qc (qF (qc (qa (qf (ii ((k : Int))) rfl (cX (ql k qd qo rfl rfl rfl ht.slv (by omega) (Nat.mul_one _) (cX (qi qK rfl (ht.rd (by omega)) (qg (ii ((k : Int))) rfl (qg (ii (t.getD k 0)) rfl (qb (qc (qa (qf (ii (t.getD k 0)) rfl (cX (qL rfl rfl (qf (.bool (decide ((t.getD k 0 : Int) < 0))) rfl ?_))))))))))))))))))
  by_cases h2 : (t.getD k 0 : Int) < 0
  ·refine qq (t := 14) rfl (vT h2) (qj (tv) rfl (qq (t := 14) rfl (vT h2) (qj (ii ((k : Int))) rfl (qq (t := 14) rfl (vT h2) (jX 0 k qd qo rfl ht rfl ⟨_, rfl⟩ (by omega) (by omega) ?_)))))
   intro v1 hv1 hn1
   refine qq (t := 14) rfl (vT h2) (qj (ii (t.getD k 0)) rfl (qq (t := 14) rfl (vT h2) (qt (args := [v1, ii (t.getD k 0)]) call131 rfl (Contains_spec (n := t.getD k 0) hv1 (hbd := (by simp; omega))) ?_)))
   rintro _ _ _ _ ⟨rfl, rfl, rfl⟩
   refine cX (qR (.bool (decide ((t.getD k 0) ∈ (((t.drop 0).take (k - 0)))))) (vT h2) rfl (qb ?_))
   refine qx (p := (t.getD k 0) ∈ (((t.drop 0).take (k - 0)))) rfl (fun h3 => ?_) (fun h3 => ?_)
   ·have hmm : t.getD k 0 ∈ t.take k := by simpa using h3
    refine qc (qa (qg (.bool (false)) rfl (qb (qy (qz (qk (qk (qz (qk (qs (L' := L) [.bool (false)] (.bool (false)) (.tmp rfl .nil) rfl rF rF sR ?_))))))))))
    exact ⟨(vB (decide_eq_false (lin_no (k := k) (by omega) (by omega) hmm))), rfl, rfl⟩
   have hmm : t.getD k 0 ∉ t.take k := by simpa using h3
   refine qw (qa (cX (qI (((k + 1 : Nat) : Int)) rfl rfl (by omega) (by omega) (qf (ii (((k + 1 : Nat) : Int))) rfl (qb ?_)))))
   exact ⟨k + 1, _, FLe.refl _, rF, ⟨rfl, rfl, rfl, rfl, ⟨⟩⟩, sR, ⟨rfl, (by (try dsimp only) <;> omega), (lin_next hL (by first | (left; omega) | (right; exact hmm)))⟩, (by omega)⟩
  refine qp (t := 14) rfl (vF h2) (qp (t := 14) rfl (vF h2) (qp (t := 14) rfl (vF h2) (qp (t := 14) rfl (vF h2) (qp (t := 14) rfl (vF h2) (cX (qS (.bool (false)) (vF h2) rfl (qb (jz rfl (qw (qa (cX (qI (((k + 1 : Nat) : Int)) rfl rfl (by omega) (by omega) ?_))))))))))))
  refine qf (ii (((k + 1 : Nat) : Int))) rfl (qb ?_)
  exact ⟨k + 1, _, FLe.refl _, rF, ⟨rfl, rfl, rfl, rfl, ⟨⟩⟩, sR, ⟨rfl, (by (try dsimp only) <;> omega), (lin_next hL (by first | (left; omega) | (right; exact hmm)))⟩, (by omega)⟩
 refine ja (qu (qu (qJ (qc (qa (qg (.bool (true)) rfl (qb (qy (qs (L' := L) [.bool (true)] (.bool (true)) (.tmp rfl .nil) rfl rF rF sR ?_)))))))))
 exact ⟨(vB (decide_eq_true (lin_done hL (by omega)))), rfl, rfl⟩

/- impl.leftLinear -/
theorem leftLinear_spec {F : FH} {L : List HP} {rsv : Value} {rs : List (List Int × List Int)} (hrs : PairsF F rsv rs) (hlr : rs.length ≤ 4000000) (hrb : ∀ i, i < rs.length → (rs.getD i ([], [])).1.length ≤ 4000000) :
    Does prog 198 [rsv] F (L) (fun v F' L' => (.bool (decide (LinS rs)) : Value) = v ∧ F = F' ∧ L = L') := by
 refine qD func198 rfl rfl rfl (qc (qa (qg (.bool (false)) rfl (qb (qc (qc (qa (qf (rsv) rfl (cX (qC qU rfl hrs.slv (qf (ii (0)) rfl (qb (qF (jj (α := Nat) (fun k => [(5, rsv), (6, ii ((rs.length : Int))), (7, ii ((k : Int)))]) (fun k => L) (fun k F' => F = F' ∧ (k ≤ rs.length) ∧ (∀ i, i < k → LinT (rs.getD i ([], [])).1)) (fun k => rs.length - k) 0 ⟨rfl, rfl, rfl, ⟨⟩⟩ sR ⟨rfl, (by (try dsimp only) <;> omega), (fun i hi => absurd hi (by omega))⟩ ?_))))))))))))))
 rintro k rE _ _ ⟨rfl, hk, hall⟩
 show X _ _ _ _ (envs [(5, rsv), (6, ii ((rs.length : Int))), (7, ii ((k : Int)))] rE) _ (L)
 refine qc (qa (cX (qL rfl rfl (qb (qc ?_)))))
 refine qx (p := (k : Int) < (rs.length : Int)) rfl (fun h1 => ?_) (fun h1 => ?_)
 ·refine qw (qc (qF (qc (qa (cX (ql k qU jh rfl rfl rfl hrs.slv (by omega) rfl ?_))))))
  obtain ⟨a1, a2, ha1, ha2, hr1, hr2⟩ := hrs.rd (i := k) (by omega)
  refine cX (qB [a1, a2] isAgg136 jh rfl rfl (Rd.two (hr1 _) (hr2 _)) (cX (jo [sN, sN] zeroValue136 rfl ?_)))
  intro b1
  refine cX (jb [] _ [a1, a2] jh rfl rfl rfl (qv (qZ (qG ha1)) (qv (qZ (qG ha2)) jf)) rfl rfl rfl (qb (qc (qa (cX (qn (0) qQ rfl qr (by decide) rfl rfl (cX (qi qP rfl (Rd.own [] rfl rfl) (cX (qt (args := [a1]) call166 rfl (linear_spec ha1 (hlt := (hrb k (by omega)))) ?_))))))))))
  rintro _ _ _ _ ⟨rfl, rfl, rfl⟩
  refine cX (jN rfl (qb ?_))
  refine qx (p := ¬(LinT ((rs.getD k ([], [])).1))) rfl (fun h2 => ?_) (fun h2 => ?_)
  ·refine qc (qa (qg (.bool (false)) rfl (qb (qy (qz (qk (qk (qz (qk (qs (L' := L) [.bool (false)] (.bool (false)) (.tmp rfl .nil) rfl rF rF (sD sR) ?_))))))))))
   exact ⟨(vB (decide_eq_false (fun h9 => absurd (h9 k (by omega)) (by first | assumption | simp_all)))), rfl, rfl⟩
  refine qw (qa (cX (qI (((k + 1 : Nat) : Int)) rfl rfl (by omega) (by omega) (qf (ii (((k + 1 : Nat) : Int))) rfl (qb ?_)))))
  exact ⟨k + 1, _, FLe.refl _, rF, ⟨rfl, rfl, rfl, ⟨⟩⟩, (sD sR), ⟨rfl, (by (try dsimp only) <;> omega), (fun i hi => (Nat.lt_or_ge i k).elim (fun h => hall i h) (fun h => by obtain rfl : i = k := (by omega); first | assumption | exact Classical.not_not.1 (by assumption)))⟩, (by omega)⟩
 refine ja (qu (qu (qJ (qc (qa (qg (.bool (true)) rfl (qb (qy (qs (L' := L) [.bool (true)] (.bool (true)) (.tmp rfl .nil) rfl rF rF sR ?_)))))))))
 exact ⟨(vB (decide_eq_true (fun i hi => hall i (by omega)))), rfl, rfl⟩

/- impl.LeftLinearIn -/
theorem LeftLinearIn_spec {F : FH} {L : List HP} {arv : Value} {ar : List Int} (har : IntsF F arv ar) {rsv : Value} {rs : List (List Int × List Int)} (hrs : PairsF F rsv rs) :
    Does prog 151 [.agg #[arv, rsv]] F (L) (fun v F' L' => (.bool (decide (sysOk ar rs = true ∧ LinS rs)) : Value) = v ∧ F = F' ∧ L = L') := by
 refine qD func151 rfl rfl rfl (qc (qa (cX (qV [arv, rsv] rfl rfl ?_))))
 intro b1
 refine qg (.bool (false)) rfl (qb (qc (qa (cX (qB [arv, rsv] jF jt rfl rfl (Rd.ownN [] rfl rfl) (cX (qt (args := [.agg #[arv, rsv]]) call134 rfl (SystemOk_spec har hrs) ?_)))))))
 rintro _ _ _ _ ⟨rfl, rfl, rfl⟩
 refine qf (.bool (sysOk ar rs)) rfl ?_
 by_cases h1 : (sysOk ar rs) = true
 ·have hsys : sysOk ar rs = true := by simpa using h1
  have hrl := (sysOk_iff.1 hsys).2.1
  have hrb9 : ∀ i, i < rs.length → 1 ≤ (rs.getD i ([], [])).1.length ∧ (rs.getD i ([], [])).1.length ≤ 60 := fun i hi => termOk_len (rule_L hsys hi)
  refine qq (t := 5) rfl (vB h1) (qn (1) qH rfl jx (by decide) rfl rfl (qq (t := 5) rfl (vB h1) (qi jG rfl (Rd.own [] rfl rfl) (qq (t := 5) rfl (vB h1) (qt (args := [rsv]) call198 rfl (leftLinear_spec hrs (hlr := (by omega)) (hrb := (fun i hi => by have := hrb9 i hi; omega))) ?_)))))
  rintro _ _ _ _ ⟨rfl, rfl, rfl⟩
  refine cX (qR (.bool (decide (LinS rs))) (vB h1) rfl (qg (.bool (decide (LinS rs))) rfl (qb (qy (qs (L' := L) [.bool (decide (LinS rs))] (.bool (decide (LinS rs))) (.tmp rfl .nil) rfl rF rF (sD sR) ?_)))))
  exact ⟨(vB (by simp_all)), rfl, rfl⟩
 rw [Bool.not_eq_true] at h1
 have hsys : sysOk ar rs = false := by simpa using h1
 refine qp (t := 5) rfl (vB h1) (qp (t := 5) rfl (vB h1) (qp (t := 5) rfl (vB h1) (cX (qS (.bool (false)) (vB h1) rfl (qg (.bool (false)) rfl (qb (qy (qs (L' := L) [.bool (false)] (.bool (false)) (.tmp rfl .nil) rfl rF rF (sD sR) ?_))))))))
 exact ⟨(vB (by simp_all)), rfl, rfl⟩

/- spec.l1Count -/
theorem l1Count_spec {F : FH} {L : List HP} {tv : Value} {t : List Int} (ht : IntsF F tv t) {n : Int} (hlt : t.length ≤ 4000000) :
    Does prog 195 [tv, ii (n)] F (L) (fun v F' L' => (ii (((t.count n : Nat) : Int)) : Value) = v ∧ F = F' ∧ L = L') := by
 refine qD func195 rfl rfl rfl (qc (qa (qg (ii (0)) rfl (qb (qc (qa (qg (ii (0)) rfl (qb (qc (qc (qa (qg (ii (0)) rfl (qb (qF (jj (α := Nat × Nat) (fun xQ => [(0, tv), (1, ii (n)), (5, ii (((xQ.2 : Nat) : Int))), (6, ii (((xQ.1 : Nat) : Int)))]) (fun xQ => L) (fun xQ F' => F = F' ∧ (xQ.1 ≤ t.length) ∧ (xQ.2 = (t.take xQ.1).count n) ∧ (xQ.2 ≤ xQ.1)) (fun xQ => t.length - xQ.1) (0, 0) ⟨rfl, rfl, rfl, rfl, ⟨⟩⟩ sR ⟨rfl, (by (try dsimp only) <;> omega), (rfl), (by (try dsimp only) <;> omega)⟩ ?_)))))))))))))))
 rintro ⟨k, m⟩ rE _ _ ⟨rfl, hk, hm, hmk⟩
 show X _ _ _ _ (envs [(0, tv), (1, ii (n)), (5, ii ((m : Int))), (6, ii ((k : Int)))] rE) _ (L)
 dsimp only at hk hm hmk
 refine qc (qc (qa (qf (ii ((k : Int))) rfl (qf (tv) rfl (cX (qC qd rfl ht.slv (cX (qL rfl rfl (qb ?_)))))))))
 refine qx (p := (k : Int) < (t.length : Int)) rfl (fun h1 => ?_) (fun h1 => ?_)
 ·refine qw (qc (qF (qc (qa (qf (tv) rfl (qf (ii ((k : Int))) rfl (cX (ql k qd qo rfl rfl rfl ht.slv (by omega) (Nat.mul_one _) (cX (qi qK rfl (ht.rd (by omega)) (qf (ii (n)) rfl (cX (jI rfl rfl (qb ?_))))))))))))))
  refine qx (p := (t.getD k 0 : Int) = n) rfl (fun h2 => ?_) (fun h2 => ?_)
  ·refine qa (qf (ii ((m : Int))) rfl (cX (qI (((m + 1 : Nat) : Int)) rfl rfl (by omega) (by omega) (qg (ii (((m + 1 : Nat) : Int))) rfl (qb (qa (qf (ii ((k : Int))) rfl (cX (qI (((k + 1 : Nat) : Int)) rfl rfl (by omega) (by omega) (qg (ii (((k + 1 : Nat) : Int))) rfl (qb ?_)))))))))))
   exact ⟨(k + 1, m + 1), _, FLe.refl _, rF, ⟨rfl, rfl, (vI (by omega)), rfl, ⟨⟩⟩, sR, ⟨rfl, (by (try dsimp only) <;> omega), (by (try dsimp only); rw [count_take (by omega), ← hm]; rw [if_pos (by omega)]), (by (try dsimp only) <;> omega)⟩, (by omega)⟩
  refine qw (qa (qf (ii ((k : Int))) rfl (cX (qI (((k + 1 : Nat) : Int)) rfl rfl (by omega) (by omega) (qg (ii (((k + 1 : Nat) : Int))) rfl (qb ?_))))))
  exact ⟨(k + 1, m), _, FLe.refl _, rF, ⟨rfl, rfl, (vI (by omega)), rfl, ⟨⟩⟩, sR, ⟨rfl, (by (try dsimp only) <;> omega), (by (try dsimp only); rw [count_take (by omega), ← hm]; rw [if_neg (by omega)]; rfl), (by (try dsimp only) <;> omega)⟩, (by omega)⟩
 refine ja (qu (qu (qJ (qc (qa (qf (ii ((m : Int))) rfl (qg (ii ((m : Int))) rfl (qb (qy (qs (L' := L) [ii ((m : Int))] (ii ((m : Int))) (.tmp rfl .nil) rfl rF rF sR ?_))))))))))
 exact ⟨(congrArg (fun n : Nat => Value.int .i64 (n : Int)) (by rw [hm, show k = t.length from by omega, List.take_length])), rfl, rfl⟩

/- spec.l2Linear -/
theorem l2Linear_spec {F : FH} {L : List HP} {tv : Value} {t : List Int} (ht : IntsF F tv t) (hlt : t.length ≤ 4000000) :
    Does prog 147 [tv] F (L) (fun v F' L' => (.bool (decide (LinT t)) : Value) = v ∧ F = F' ∧ L = L') := by
 refine qD func147 rfl rfl rfl (qc (qa (qg (.bool (false)) rfl (qb (qc (qc (qa (qg (ii (0)) rfl (qb (qF (jj (α := Nat) (fun k => [(0, tv), (3, ii ((k : Int)))]) (fun k => L) (fun k F' => F = F' ∧ (k ≤ t.length) ∧ (∀ i, i < k → t.getD i 0 < 0 → t.count (t.getD i 0) ≤ 1)) (fun k => t.length - k) 0 ⟨rfl, rfl, ⟨⟩⟩ sR ⟨rfl, (by (try dsimp only) <;> omega), (fun i hi => absurd hi (by omega))⟩ ?_)))))))))))
 rintro k rE _ _ ⟨rfl, hk, hL⟩
 show X _ _ _ _ (envs [(0, tv), (3, ii ((k : Int)))] rE) _ (L)
 refine qc (qc (qa (qf (ii ((k : Int))) rfl (qf (tv) rfl (cX (qC qd rfl ht.slv (cX (qL rfl rfl (qb ?_)))))))))
 refine qx (p := (k : Int) < (t.length : Int)) rfl (fun h1 => ?_) (fun h1 => ?_)
 ·refine qw (qc (qF (qc (qa (qf (tv) rfl (qf (ii ((k : Int))) rfl (cX (ql k qd qo rfl rfl rfl ht.slv (by omega) (Nat.mul_one _) (cX (qi qK rfl (ht.rd (by omega)) (cX (qL rfl rfl (qf (.bool (decide ((t.getD k 0 : Int) < 0))) rfl ?_)))))))))))))
  by_cases h2 : (t.getD k 0 : Int) < 0
  ·refine qq (t := 15) rfl (vT h2) (qj (tv) rfl (qq (t := 15) rfl (vT h2) (qj (tv) rfl (qq (t := 15) rfl (vT h2) (qj (ii ((k : Int))) rfl (qq (t := 15) rfl (vT h2) (ql k qd qo rfl rfl rfl ht.slv (by omega) (Nat.mul_one _) (qq (t := 15) rfl (vT h2) (qi qK rfl (ht.rd (by omega)) (qq (t := 15) rfl (vT h2) (qt (args := [tv, ii (t.getD k 0)]) call195 rfl (l1Count_spec (n := t.getD k 0) ht (hlt := (hlt))) ?_)))))))))))
   rintro _ _ _ _ ⟨rfl, rfl, rfl⟩
   refine qq (t := 15) rfl (vT h2) (jH rfl rfl (cX (qR (.bool (decide ((((t.count (t.getD k 0) : Nat) : Int) : Int) > 1))) (vT h2) rfl (qb ?_))))
   refine qx (p := (((t.count (t.getD k 0) : Nat) : Int) : Int) > 1) rfl (fun h3 => ?_) (fun h3 => ?_)
   ·refine qc (qa (qg (.bool (false)) rfl (qb (qy (qz (qk (qk (qz (qk (qs (L' := L) [.bool (false)] (.bool (false)) (.tmp rfl .nil) rfl rF rF sR ?_))))))))))
    exact ⟨(vB (decide_eq_false (fun h9 => by have := lin_count.1 h9 k (by omega) (by omega); omega))), rfl, rfl⟩
   refine qw (qa (qf (ii ((k : Int))) rfl (cX (qI (((k + 1 : Nat) : Int)) rfl rfl (by omega) (by omega) (qg (ii (((k + 1 : Nat) : Int))) rfl (qb ?_))))))
   exact ⟨k + 1, _, FLe.refl _, rF, ⟨rfl, rfl, ⟨⟩⟩, sR, ⟨rfl, (by (try dsimp only) <;> omega), (fun i hi h0 => (Nat.lt_or_ge i k).elim (fun h => hL i h h0) (fun h => by obtain rfl : i = k := (by omega); omega))⟩, (by omega)⟩
  refine qp (t := 15) rfl (vF h2) (qp (t := 15) rfl (vF h2) (qp (t := 15) rfl (vF h2) (qp (t := 15) rfl (vF h2) (qp (t := 15) rfl (vF h2) (qp (t := 15) rfl (vF h2) (qp (t := 15) rfl (vF h2) (cX (qS (.bool (false)) (vF h2) rfl (qb (jz rfl ?_))))))))))
  refine qw (qa (qf (ii ((k : Int))) rfl (cX (qI (((k + 1 : Nat) : Int)) rfl rfl (by omega) (by omega) (qg (ii (((k + 1 : Nat) : Int))) rfl (qb ?_))))))
  exact ⟨k + 1, _, FLe.refl _, rF, ⟨rfl, rfl, ⟨⟩⟩, sR, ⟨rfl, (by (try dsimp only) <;> omega), (fun i hi h0 => (Nat.lt_or_ge i k).elim (fun h => hL i h h0) (fun h => by obtain rfl : i = k := (by omega); omega))⟩, (by omega)⟩
 refine ja (qu (qu (qJ (qc (qa (qg (.bool (true)) rfl (qb (qy (qs (L' := L) [.bool (true)] (.bool (true)) (.tmp rfl .nil) rfl rF rF sR ?_)))))))))
 exact ⟨(vB (decide_eq_true (lin_count.2 (fun i hi => hL i (by omega))))), rfl, rfl⟩

/- spec.LeftLinearIn -/
theorem sLeftLinearIn_spec {F : FH} {L : List HP} {arv : Value} {ar : List Int} (har : IntsF F arv ar) {rsv : Value} {rs : List (List Int × List Int)} (hrs : PairsF F rsv rs) (hla : ar.length ≤ 4000000) (hlr : rs.length ≤ 4000000) (hrb : ∀ i, i < rs.length → (rs.getD i ([], [])).1.length ≤ 4000000 ∧ (rs.getD i ([], [])).2.length ≤ 4000000) :
    Does prog 79 [.agg #[arv, rsv]] F (L) (fun v F' L' => (.bool (decide (sysOk ar rs = true ∧ LinS rs)) : Value) = v ∧ F = F' ∧ L = L') := by
 refine qD func79 rfl rfl rfl (qc (qa (cX (qV [arv, rsv] rfl rfl ?_))))
 intro b1
 refine qg (.bool (false)) rfl (qb (qc (qc (qa (cX (qB [arv, rsv] jF jt rfl rfl (Rd.ownN [] rfl rfl) (cX (qt (args := [.agg #[arv, rsv]]) call145 rfl (sSystemOk_spec har hrs (hla := (by first | assumption | rfl | omega | simp)) (hlr := (by first | assumption | rfl | omega | simp)) (hrb := (by first | assumption | rfl | omega | simp))) ?_))))))))
 rintro _ _ _ _ ⟨rfl, rfl, rfl⟩
 refine cX (jp rfl (qb ?_))
 refine X.cond (t := !(sysOk ar rs)) rfl (fun h1 => ?_) (fun h1 => ?_)
 ·have hsys : sysOk ar rs = false := by simpa using h1
  refine qc (qa (qg (.bool (false)) rfl (qb (qy (qk (qs (L' := L) [.bool (false)] (.bool (false)) (.tmp rfl .nil) rfl rF rF (sD sR) ?_))))))
  exact ⟨(vB (decide_eq_false (fun h9 => by simp_all))), rfl, rfl⟩
 have hsys : sysOk ar rs = true := by simpa using h1
 have hrl := (sysOk_iff.1 hsys).2.1
 have hrb9 : ∀ i, i < rs.length → 1 ≤ (rs.getD i ([], [])).1.length ∧ (rs.getD i ([], [])).1.length ≤ 60 := fun i hi => termOk_len (rule_L hsys hi)
 refine qw (qc (qc (qa (qg (ii (0)) rfl (qb (qF (jj (α := Nat) (fun k => [(1, ptr b1 0), (3, ii ((k : Int)))]) (fun k => cellsH b1 [arv, rsv] 66 :: L) (fun k F' => F = F' ∧ (k ≤ rs.length) ∧ (∀ i, i < k → LinT (rs.getD i ([], [])).1)) (fun k => rs.length - k) 0 ⟨rfl, rfl, ⟨⟩⟩ (sC sR) ⟨rfl, (by (try dsimp only) <;> omega), (fun i hi => absurd hi (by omega))⟩ ?_)))))))
 rintro k rE _ _ ⟨rfl, hk, hall⟩
 show X _ _ _ _ (envs [(1, ptr b1 0), (3, ii ((k : Int)))] rE) _ (cellsH b1 [arv, rsv] 66 :: L)
 refine qc (qc (qa (qf (ii ((k : Int))) rfl (cX (qn (1) qH rfl jx (by decide) rfl rfl (cX (qi jG rfl (Rd.own [] rfl rfl) (cX (qC qU rfl hrs.slv (cX (qL rfl rfl (qb ?_))))))))))))
 refine qx (p := (k : Int) < (rs.length : Int)) rfl (fun h2 => ?_) (fun h2 => ?_)
 ·refine qw (qc (qF (qc (qa (cX (qn (1) qH rfl jx (by decide) rfl rfl (cX (qi jG rfl (Rd.own [] rfl rfl) (qf (ii ((k : Int))) rfl (cX (ql k qU jh rfl rfl rfl hrs.slv (by omega) rfl (cX (jZ (k * 2) qQ rfl qr (by decide) rfl rfl ?_)))))))))))))
  obtain ⟨a1, a2, ha1, ha2, hr1, hr2⟩ := hrs.rd (i := k) (by omega)
  refine cX (qi qP rfl (hr1 _) (cX (qt (args := [a1]) call147 rfl (l2Linear_spec ha1 (hlt := ((hrb k (by omega)).1))) ?_)))
  rintro _ _ _ _ ⟨rfl, rfl, rfl⟩
  refine cX (jN rfl (qb ?_))
  refine qx (p := ¬(LinT ((rs.getD k ([], [])).1))) rfl (fun h3 => ?_) (fun h3 => ?_)
  ·refine qc (qa (qg (.bool (false)) rfl (qb (qy (qz (qk (qk (qz (qk (qs (L' := L) [.bool (false)] (.bool (false)) (.tmp rfl .nil) rfl rF rF (sD sR) ?_))))))))))
   exact ⟨(vB (decide_eq_false (fun h9 => absurd (h9.2 k (by omega)) (by first | assumption | simp_all)))), rfl, rfl⟩
  refine qw (qa (qf (ii ((k : Int))) rfl (cX (qI (((k + 1 : Nat) : Int)) rfl rfl (by omega) (by omega) (qg (ii (((k + 1 : Nat) : Int))) rfl (qb ?_))))))
  exact ⟨k + 1, _, FLe.refl _, rF, ⟨rfl, rfl, ⟨⟩⟩, (sC sR), ⟨rfl, (by (try dsimp only) <;> omega), (fun i hi => (Nat.lt_or_ge i k).elim (fun h => hall i h) (fun h => by obtain rfl : i = k := (by omega); first | assumption | exact Classical.not_not.1 (by assumption)))⟩, (by omega)⟩
 refine ja (qu (qu (qJ (qc (qa (qg (.bool (true)) rfl (qb (qy (qs (L' := L) [.bool (true)] (.bool (true)) (.tmp rfl .nil) rfl rF rF (sD sR) ?_)))))))))
 exact ⟨(vB (decide_eq_true ⟨hsys, fun i hi => hall i (by omega)⟩)), rfl, rfl⟩

/- spec.l12Root -/
theorem l12Root_spec {F : FH} {L : List HP} {arv : Value} {ar : List Int} (har : IntsF F arv ar) {rsv : Value} {rs : List (List Int × List Int)} (hrs : PairsF F rsv rs) {av : Value} {a : List Int} (ha : IntsF F av a) {bv : Value} {b : List Int} (hb : IntsF F bv b) (hsys : sysOk ar rs = true) (hoa : termOk ar a = true) (hob : termOk ar b = true) :
    Does prog 148 [.agg #[arv, rsv], av, bv] F (L) (fun v F' L' => (.bool (rootB ar rs a b) : Value) = v ∧ F = F' ∧ L = L') := by
 refine qD func148 rfl rfl rfl ?_
 have hrl := (sysOk_iff.1 hsys).2.1
 have hrb9 : ∀ i, i < rs.length → (rs.getD i ([], [])).1.length ≤ 60 ∧ (rs.getD i ([], [])).2.length ≤ 60 := fun i hi => ⟨(termOk_len (rule_L hsys hi)).2, (termOk_len (rule_R hsys hi)).2⟩
 have hla := termOk_len hoa
 have hlb := termOk_len hob
 have hsg := sigOk_spec (termOk_sig hoa)
 refine qc (qa (cX (qV [arv, rsv] rfl rfl ?_)))
 intro b1
 refine qg (.bool (false)) rfl (qb (qc (qc (qa (qg (ii (0)) rfl (qb (qF (jj (α := Nat × FH) (fun xQ => [(1, av), (2, bv), (3, ptr b1 0), (7, ii (((xQ.1 : Nat) : Int)))]) (fun xQ => cellsH b1 [arv, rsv] 66 :: L) (fun xQ F' => xQ.2 = F' ∧ F ≤ xQ.2 ∧ (xQ.1 ≤ rs.length) ∧ (∀ i, i < xQ.1 → stepL ar rs a 0 i ≠ some b)) (fun xQ => rs.length - xQ.1) (0, F) ⟨rfl, rfl, rfl, rfl, ⟨⟩⟩ (sC sR) ⟨rfl, FLe.refl _, (by (try dsimp only) <;> omega), (fun i hi => absurd hi (by omega))⟩ ?_))))))))
 rintro ⟨k, G1⟩ rE _ _ ⟨rfl, leG, hk, hall⟩
 show X _ _ _ _ (envs [(1, av), (2, bv), (3, ptr b1 0), (7, ii ((k : Int)))] rE) _ (cellsH b1 [arv, rsv] 66 :: L)
 replace leG : F ≤ G1 := leG
 dsimp only at hk hall
 have leG1 := leG
 replace har := har.mono leG1
 replace hrs := hrs.mono leG1
 replace ha := ha.mono leG1
 replace hb := hb.mono leG1
 refine qc (qc (qa (qf (ii ((k : Int))) rfl (cX (qn (1) qH rfl jx (by decide) rfl rfl (cX (qi jG rfl (Rd.own [] rfl rfl) (cX (qC qU rfl hrs.slv (cX (qL rfl rfl (qb ?_))))))))))))
 refine qx (p := (k : Int) < (rs.length : Int)) rfl (fun h1 => ?_) (fun h1 => ?_)
 ·refine qw (qc (qF (qc (qa (cX (qB [arv, rsv] jF jt rfl rfl (Rd.ownN [] rfl rfl) (qf (av) rfl (qf (ii ((k : Int))) rfl (cX (qt (args := [.agg #[arv, rsv], av, ii (0), ii ((k : Int))]) call196 rfl (sStepAt_spec (p := 0) (r := (k : Int)) har hrs ha (hla := (by omega)) (hlr := (by omega)) (hrb := (fun i hi => by have := hrb9 i hi; omega)) (hlt := (by omega))) ?_))))))))))
  rintro _ F1 _ le1 ⟨x1, rfl, hr1, rfl⟩
  replace hb := hb.mono le1
  refine qf (.tuple #[x1, .bool ((stepAtL ar rs a 0 ((k : Int))).isSome)]) rfl (cX (qT (x1) rfl rfl (cX (qT (.bool ((stepAtL ar rs a 0 ((k : Int))).isSome)) rfl rfl (qg (x1) rfl (qg (.bool ((stepAtL ar rs a 0 ((k : Int))).isSome)) rfl (qb (qc (qa (qf (.bool ((stepAtL ar rs a 0 ((k : Int))).isSome)) rfl (qf (.bool ((stepAtL ar rs a 0 ((k : Int))).isSome)) rfl ?_)))))))))))
  by_cases h2 : ((stepAtL ar rs a 0 ((k : Int))).isSome) = true
  ·have hso := h2
   rw [step_at0 hsys hoa (by omega)] at hso
   refine qq (t := 25) rfl (vB h2) (qj (x1) rfl (qq (t := 25) rfl (vB h2) (qj (bv) rfl (qq (t := 25) rfl (vB h2) (qt (args := [x1, bv]) call32 rfl (SameTerm_spec hr1 hb (hbd := (.inr (by omega)))) ?_)))))
   rintro _ _ _ _ ⟨rfl, rfl, rfl⟩
   refine cX (qR (.bool (decide (((stepAtL ar rs a 0 ((k : Int))).getD []) = b))) (vB h2) rfl (qb ?_))
   refine qx (p := ((stepAtL ar rs a 0 ((k : Int))).getD []) = b) rfl (fun h3 => ?_) (fun h3 => ?_)
   ·have hsb := h3
    rw [step_at0 hsys hoa (by omega)] at hsb
    refine qc (qa (qg (.bool (true)) rfl (qb (qy (qz (qk (qk (qz (qk (qs (L' := L) [.bool (true)] (.bool (true)) (.tmp rfl .nil) rfl rF (qm leG1 le1) (sD sR) ?_))))))))))
    exact ⟨(vB (root_at (r := k) (by omega) ((getD_some hso).2 hsb))), rfl, rfl⟩
   have hno := opt_no2 (v := b) h3
   rw [step_at0 hsys hoa (by omega)] at hno
   refine qw (qa (qf (ii ((k : Int))) rfl (cX (qI (((k + 1 : Nat) : Int)) rfl rfl (by omega) (by omega) (qg (ii (((k + 1 : Nat) : Int))) rfl (qb ?_))))))
   exact ⟨(k + 1, F1), _, (qm leG1 le1), rF, ⟨rfl, rfl, rfl, rfl, ⟨⟩⟩, (sC sR), ⟨rfl, (qm leG1 le1), (by (try dsimp only) <;> omega), (fun i hi => (Nat.lt_or_ge i k).elim (fun h => hall i h) (fun h => by obtain rfl : i = k := (by omega); exact hno))⟩, (by omega)⟩
  rw [Bool.not_eq_true] at h2
  have hno := opt_no1 (v := b) h2
  rw [step_at0 hsys hoa (by omega)] at hno
  refine qp (t := 25) rfl (vB h2) (qp (t := 25) rfl (vB h2) (qp (t := 25) rfl (vB h2) (cX (qS (.bool (false)) (vB h2) rfl (qb (jz rfl (qw (qa (qf (ii ((k : Int))) rfl (cX (qI (((k + 1 : Nat) : Int)) rfl rfl (by omega) (by omega) (qg (ii (((k + 1 : Nat) : Int))) rfl ?_))))))))))))
  refine qb ?_
  exact ⟨(k + 1, F1), _, (qm leG1 le1), rF, ⟨rfl, rfl, rfl, rfl, ⟨⟩⟩, (sC sR), ⟨rfl, (qm leG1 le1), (by (try dsimp only) <;> omega), (fun i hi => (Nat.lt_or_ge i k).elim (fun h => hall i h) (fun h => by obtain rfl : i = k := (by omega); exact hno))⟩, (by omega)⟩
 refine ja (qu (qu (qJ (qc (qa (qg (.bool (false)) rfl (qb (qy (qs (L' := L) [.bool (false)] (.bool (false)) (.tmp rfl .nil) rfl rF leG1 (sD sR) ?_)))))))))
 exact ⟨(vB (root_no (fun r hr => hall r (by omega)))), rfl, rfl⟩

/- spec.l12Parallel -/
set_option maxRecDepth 20000 in
theorem l12Par_spec_step {n : Nat} (ih : ∀ m : Nat, m < n → ∀ {F : FH} {L : List HP}  {arv : Value} {ar : List Int} (har : IntsF F arv ar) {rsv : Value} {rs : List (List Int × List Int)} (hrs : PairsF F rsv rs) {av : Value} {a : List Int} (ha : IntsF F av a) {bv : Value} {b : List Int} (hb : IntsF F bv b) (hsys : sysOk ar rs = true) (hoa : termOk ar a = true) (hob : termOk ar b = true) (hn : a.length = m), Does prog 80 [.agg #[arv, rsv], av, bv] F L (fun v F' L' => ((.bool (parB ar rs a b) : Value) = v) ∧ L = L')) {F : FH} {L : List HP}  {arv : Value} {ar : List Int} (har : IntsF F arv ar) {rsv : Value} {rs : List (List Int × List Int)} (hrs : PairsF F rsv rs) {av : Value} {a : List Int} (ha : IntsF F av a) {bv : Value} {b : List Int} (hb : IntsF F bv b) (hsys : sysOk ar rs = true) (hoa : termOk ar a = true) (hob : termOk ar b = true) (hn : a.length = n) :
    Does prog 80 [.agg #[arv, rsv], av, bv] F (L) (fun v F' L' => ((.bool (parB ar rs a b) : Value) = v) ∧ L = L') := by
 refine qD func80 rfl rfl rfl ?_
 have hrl := (sysOk_iff.1 hsys).2.1
 have hrb9 : ∀ i, i < rs.length → (rs.getD i ([], [])).1.length ≤ 60 ∧ (rs.getD i ([], [])).2.length ≤ 60 := fun i hi => ⟨(termOk_len (rule_L hsys hi)).2, (termOk_len (rule_R hsys hi)).2⟩
 have hla := termOk_len hoa
 have hlb := termOk_len hob
 have hsg := sigOk_spec (termOk_sig hoa)
 have hal : ∀ i, i < (partsL ar a).length → ((partsL ar a).getD i []).length < a.length := fun i hi => part_len (termW_of hoa) hi
 have hpo : ∀ i, i < (partsL ar a).length → termOk ar ((partsL ar a).getD i []) = true := fun i hi => part_ok hoa hi
 have hpo2 : ∀ i, i < (partsL ar b).length → termOk ar ((partsL ar b).getD i []) = true := fun i hi => part_ok hob hi
 have hq3 := (termW_of hoa).args_le (p := 0) (by omega)
 have hq4 := (termW_of hob).args_le (p := 0) (by omega)
 have hqa : (partsL ar a).length = (argsL ar a 0).length := parts_args
 have hqb : (partsL ar b).length = (argsL ar b 0).length := parts_args
 refine qc (qa (cX (qV [arv, rsv] rfl rfl ?_)))
 intro b1
 refine qg (.bool (false)) rfl (qb (qc (qc (qa (qf (av) rfl (qf (bv) rfl (cX (qt (args := [av, bv]) call32 rfl (SameTerm_spec ha hb (hbd := (.inr (by omega)))) ?_))))))))
 rintro _ _ _ _ ⟨rfl, rfl, rfl⟩
 refine qf (.bool (decide (a = b))) rfl ?_
 by_cases h1 : a = b
 ·have hab := h1
  refine qp (t := 13) rfl (vT h1) (qp (t := 13) rfl (vT h1) (qp (t := 13) rfl (vT h1) (qp (t := 13) rfl (vT h1) (cX (qR (.bool (true)) (vT h1) rfl (qb (jB rfl (qc (qa (qg (.bool (true)) rfl (qb ?_)))))))))))
  refine qy (qk (qs (L' := L) [.bool (true)] (.bool (true)) (.tmp rfl .nil) rfl rF rF (sD sR) ?_))
  exact ⟨congrArg Value.bool (by first | exact par_same hoa hab | exact par_root hoa hrt), rfl⟩
 have hab := h1
 refine qq (t := 13) rfl (vF h1) (qB [arv, rsv] jF jt rfl rfl (Rd.ownN [] rfl rfl) (qq (t := 13) rfl (vF h1) (qj (av) rfl (qq (t := 13) rfl (vF h1) (qj (bv) rfl (qq (t := 13) rfl (vF h1) (qt (args := [.agg #[arv, rsv], av, bv]) call148 rfl (l12Root_spec har hrs ha hb (hsys := (by first | assumption | rfl | omega | simp)) (hoa := (by first | assumption | rfl | omega | simp)) (hob := (by first | assumption | rfl | omega | simp))) ?_)))))))
 rintro _ _ _ _ ⟨rfl, rfl, rfl⟩
 refine cX (qS (.bool (rootB ar rs a b)) (vF h1) rfl (qb ?_))
 refine X.cond (t := rootB ar rs a b) rfl (fun h2 => ?_) (fun h2 => ?_)
 ·have hrt : rootB ar rs a b = true := by simpa using h2
  refine qc (qa (qg (.bool (true)) rfl (qb (qy (qk (qs (L' := L) [.bool (true)] (.bool (true)) (.tmp rfl .nil) rfl rF rF (sD sR) ?_))))))
  exact ⟨congrArg Value.bool (by first | exact par_same hoa hab | exact par_root hoa hrt), rfl⟩
 have hrt : rootB ar rs a b = false := by simpa using h2
 refine qw (qc (qc ?_))
 refine jn [cellsH b1 [arv, rsv] 66] L 6 [] [[], [0], [1], [], [3], [4]] (phiL [qe av, qe (.pointer (some (elemA av (0)))), qe (ii (a.getD 0 0)), qe bv, qe (.pointer (some (elemA bv (0)))), qe (ii (b.getD 0 0))]) (ownL []) mixed rfl rfl (by kernel_rfl) ?_ ?_
 ·refine pD (fun W R z9 => ?_) ?_
  ·refine qh (qj (av) rfl ?_)
   exact ⟨rfl, rfl, rfl⟩
  refine pD (fun W R z9 => ?_) ?_
  ·rw [eS (l := [(0, _)]) ⟨z9 0 rfl, ⟨⟩⟩]
   refine qh (ql 0 qd qo rfl rfl rfl ha.slv (by omega) (Nat.mul_one _) ?_)
   exact ⟨rfl, rfl, rfl⟩
  refine pD (fun W R z9 => ?_) ?_
  ·rw [eS (l := [(1, _)]) ⟨z9 1 rfl, ⟨⟩⟩]
   refine qh (qi qK rfl (ha.rd (by omega)) ?_)
   exact ⟨rfl, rfl, rfl⟩
  refine pD (fun W R z9 => ?_) ?_
  ·refine qh (qj (bv) rfl ?_)
   exact ⟨rfl, rfl, rfl⟩
  refine pD (fun W R z9 => ?_) ?_
  ·rw [eS (l := [(3, _)]) ⟨z9 3 rfl, ⟨⟩⟩]
   refine qh (ql 0 qd qo rfl rfl rfl hb.slv (by omega) (Nat.mul_one _) ?_)
   exact ⟨rfl, rfl, rfl⟩
  refine pD (fun W R z9 => ?_) ?_
  ·rw [eS (l := [(4, _)]) ⟨z9 4 rfl, ⟨⟩⟩]
   refine qh (qi qK rfl (hb.rd (by omega)) ?_)
   exact ⟨rfl, rfl, rfl⟩
  exact stepsP.nil
 intro W hphi
 rw [eS (l := [(2, _), (5, _)]) ⟨(hphi 2 (by decide)), (hphi 5 (by decide)), ⟨⟩⟩]
 show XL _ _ _ _ _ _ _ (cellsH b1 [arv, rsv] 66 :: L)
 refine cX (XOp.neq rfl rfl (qf (.bool (decide ((a.getD 0 0 : Int) ≠ b.getD 0 0))) rfl ?_))
 by_cases h3 : (a.getD 0 0 : Int) ≠ b.getD 0 0
 ·refine qp (t := 26) rfl (vT h3) (qp (t := 26) rfl (vT h3) (qp (t := 26) rfl (vT h3) (qp (t := 26) rfl (vT h3) (cX (qR (.bool (true)) (vT h3) rfl (qb (jB rfl (qc (qa (qg (.bool (false)) rfl (qb ?_)))))))))))
  refine qy (qk (qs (L' := L) [.bool (false)] (.bool (false)) (.tmp rfl .nil) rfl rF rF (sD sR) ?_))
  exact ⟨congrArg Value.bool (par_heads hoa hab hrt (by omega)), rfl⟩
 refine qq (t := 26) rfl (vF h3) (qj (av) rfl (qq (t := 26) rfl (vF h3) (ql 0 qd qo rfl rfl rfl ha.slv (by omega) (Nat.mul_one _) (qq (t := 26) rfl (vF h3) (qi qK rfl (ha.rd (by omega)) (qq (t := 26) rfl (vF h3) (qL rfl rfl (cX (qS (.bool (decide ((a.getD 0 0 : Int) < 0))) (vF h3) rfl (qb ?_))))))))))
 refine qx (p := (a.getD 0 0 : Int) < 0) rfl (fun h4 => ?_) (fun h4 => ?_)
 ·refine qc (qa (qg (.bool (false)) rfl (qb (qy (qk (qs (L' := L) [.bool (false)] (.bool (false)) (.tmp rfl .nil) rfl rF rF (sD sR) ?_))))))
  exact ⟨congrArg Value.bool (par_heads hoa hab hrt (by omega)), rfl⟩
 refine qw (qc (qa (cX (qn (0) qH rfl qN (by decide) rfl rfl (cX (qB [arv] je qN rfl rfl (Rd.ownN [] rfl rfl) (qf (av) rfl (cX (qt (args := [.agg #[arv], av]) call149 rfl (l13Parts_spec har ha (ho := (by first | exact termW_of hoa | exact termW_of hob))) ?_)))))))))
 rintro _ F1 _ le1 ⟨x1, rfl, hr1, rfl⟩
 replace har := har.mono le1
 replace hrs := hrs.mono le1
 replace hb := hb.mono le1
 refine qg (x1) rfl (qb (qc (qa (cX (qn (0) qH rfl qN (by decide) rfl rfl (cX (qB [arv] je qN rfl rfl (Rd.ownN [] rfl rfl) (qf (bv) rfl (cX (qt (args := [.agg #[arv], bv]) call149 rfl (l13Parts_spec har hb (ho := (by first | exact termW_of hoa | exact termW_of hob))) ?_))))))))))
 rintro _ F2 _ le2 ⟨x2, rfl, hr2, rfl⟩
 replace har := har.mono le2
 replace hrs := hrs.mono le2
 replace hr1 := hr1.mono le2
 refine qg (x2) rfl (qb (qc (qc (qa (qg (ii (0)) rfl (qb (qF (jj (α := Nat × FH) (fun xQ => [(3, ptr b1 0), (7, x1), (8, x2), (9, ii (((xQ.1 : Nat) : Int)))]) (fun xQ => cellsH b1 [arv, rsv] 66 :: L) (fun xQ F' => xQ.2 = F' ∧ F2 ≤ xQ.2 ∧ (xQ.1 ≤ (partsL ar a).length) ∧ (∀ j, j < xQ.1 → parB ar rs ((partsL ar a).getD j []) ((partsL ar b).getD j []) = true)) (fun xQ => (partsL ar a).length - xQ.1) (0, F2) ⟨rfl, rfl, rfl, rfl, ⟨⟩⟩ (sC sR) ⟨rfl, FLe.refl _, (by (try dsimp only) <;> omega), (fun j hj => absurd hj (by omega))⟩ ?_))))))))
 rintro ⟨i, G1⟩ rE _ _ ⟨rfl, leG, hi, hall⟩
 show X _ _ _ _ (envs [(3, ptr b1 0), (7, x1), (8, x2), (9, ii ((i : Int)))] rE) _ (cellsH b1 [arv, rsv] 66 :: L)
 replace leG : F2 ≤ G1 := leG
 dsimp only at hi hall
 have hps := parts_same (ar := ar) (a := a) (b := b) (by omega)
 have hali := hal i
 have leG1 := leG
 replace har := har.mono leG1
 replace hrs := hrs.mono leG1
 replace hr1 := hr1.mono leG1
 replace hr2 := hr2.mono leG1
 refine qc (qc (qa (qf (ii ((i : Int))) rfl (qf (x1) rfl (cX (qC qA rfl hr1.slv (cX (qL rfl rfl (qb ?_)))))))))
 refine qx (p := (i : Int) < (((partsL ar a).length : Nat) : Int)) rfl (fun h5 => ?_) (fun h5 => ?_)
 ·refine qw (qc (qF (qc ?_)))
  obtain ⟨a1, ha1, hr3⟩ := hr1.rd (i := i) (by omega)
  obtain ⟨a2, ha2, hr4⟩ := hr2.rd (i := i) (by omega)
  refine jn [cellsH b1 [arv, rsv] 66] L 9 [] [[], [], [], [1, 2], [3], [], [], [5, 6], [7]] (phiL [qe (.agg #[arv, rsv]), qe x1, qe (ii ((i : Int)) : Value), qe (.pointer (some (elemA x1 (i)))), qe a1, qe x2, qe (ii ((i : Int)) : Value), qe (.pointer (some (elemA x2 (i)))), qe a2]) (ownL []) mixed rfl rfl (by kernel_rfl) ?_ ?_
  ·refine pD (fun W R z9 => ?_) ?_
   ·refine qh (qB [arv, rsv] jF jt rfl rfl (Rd.ownN [] rfl rfl) ?_)
    exact ⟨rfl, rfl, rfl⟩
   refine pD (fun W R z9 => ?_) ?_
   ·refine qh (qj (x1) rfl ?_)
    exact ⟨rfl, rfl, rfl⟩
   refine pD (fun W R z9 => ?_) ?_
   ·refine qh (qj (ii ((i : Int))) rfl ?_)
    exact ⟨rfl, rfl, rfl⟩
   refine pD (fun W R z9 => ?_) ?_
   ·rw [eS (l := [(1, _), (2, _)]) ⟨z9 1 rfl, z9 2 rfl, ⟨⟩⟩]
    refine qh (ql i qA qr rfl rfl rfl hr1.slv (by omega) (Nat.mul_one _) ?_)
    exact ⟨rfl, rfl, rfl⟩
   refine pD (fun W R z9 => ?_) ?_
   ·rw [eS (l := [(3, _)]) ⟨z9 3 rfl, ⟨⟩⟩]
    refine qh (qi qP rfl (hr3 _) ?_)
    exact ⟨rfl, rfl, rfl⟩
   refine pD (fun W R z9 => ?_) ?_
   ·refine qh (qj (x2) rfl ?_)
    exact ⟨rfl, rfl, rfl⟩
   refine pD (fun W R z9 => ?_) ?_
   ·refine qh (qj (ii ((i : Int))) rfl ?_)
    exact ⟨rfl, rfl, rfl⟩
   refine pD (fun W R z9 => ?_) ?_
   ·rw [eS (l := [(5, _), (6, _)]) ⟨z9 5 rfl, z9 6 rfl, ⟨⟩⟩]
    refine qh (ql i qA qr rfl rfl rfl hr2.slv (by omega) (Nat.mul_one _) ?_)
    exact ⟨rfl, rfl, rfl⟩
   refine pD (fun W R z9 => ?_) ?_
   ·rw [eS (l := [(7, _)]) ⟨z9 7 rfl, ⟨⟩⟩]
    refine qh (qi qP rfl (hr4 _) ?_)
    exact ⟨rfl, rfl, rfl⟩
   exact stepsP.nil
  intro W hphi
  rw [eS (l := [(0, _), (4, _), (8, _)]) ⟨(hphi 0 (by decide)), (hphi 4 (by decide)), (hphi 8 (by decide)), ⟨⟩⟩]
  show XL _ _ _ _ _ _ _ (cellsH b1 [arv, rsv] 66 :: L)
  refine cX (qt (args := [.agg #[arv, rsv], a1, a2]) call80 rfl (ih (((((partsL ar a).getD i []))).length) (by omega) har hrs ha1 ha2 (hsys := (by first | assumption | rfl | omega | simp)) (hoa := (hpo i (by omega))) (hob := (hpo2 i (by omega))) (hn := (by first | assumption | rfl | omega | simp))) ?_)
  rintro _ F3 _ le3 ⟨⟨rfl⟩, rfl⟩
  show XL _ _ _ _ _ _ _ (cellsH b1 [arv, rsv] 66 :: L)
  refine cX (jp rfl (qb ?_))
  refine X.cond (t := !(parB ar rs (((partsL ar a).getD i [])) (((partsL ar b).getD i [])))) rfl (fun h6 => ?_) (fun h6 => ?_)
  ·have hpb := Bool.not_inj (y := false) h6
   refine qc (qa (qg (.bool (false)) rfl (qb (qy (qz (qk (qk (qz (qk (qs (L' := L) [.bool (false)] (.bool (false)) (.tmp rfl .nil) rfl (qm (qm (qm le1 le2) leG1) le3) rF (sD sR) ?_))))))))))
   exact ⟨congrArg Value.bool (par_part hoa hab hrt (i := i) (by omega) hpb), rfl⟩
  have hpb := Bool.not_inj (y := true) h6
  refine qw (qa (qf (ii ((i : Int))) rfl (cX (qI (((i + 1 : Nat) : Int)) rfl rfl (by omega) (by omega) (qg (ii (((i + 1 : Nat) : Int))) rfl (qb ?_))))))
  exact ⟨(i + 1, F3), _, (qm leG1 le3), rF, ⟨rfl, rfl, rfl, rfl, ⟨⟩⟩, (sC sR), ⟨rfl, (qm leG1 le3), (by (try dsimp only) <;> omega), (fun j hj => (Nat.lt_or_ge j i).elim (fun h => hall j h) (fun h => by obtain rfl : j = i := (by omega); exact hpb))⟩, (by omega)⟩
 refine ja (qu (qu (qJ (qc (qa (qg (.bool (true)) rfl (qb (qy (qs (L' := L) [.bool (true)] (.bool (true)) (.tmp rfl .nil) rfl (qm (qm le1 le2) leG1) rF (sD sR) ?_)))))))))
 exact ⟨congrArg Value.bool (par_all hoa (by omega) (fun j hj => hall j (by omega))), rfl⟩

theorem l12Par_spec (n : Nat) : ∀ {F : FH} {L : List HP}  {arv : Value} {ar : List Int} (har : IntsF F arv ar) {rsv : Value} {rs : List (List Int × List Int)} (hrs : PairsF F rsv rs) {av : Value} {a : List Int} (ha : IntsF F av a) {bv : Value} {b : List Int} (hb : IntsF F bv b) (hsys : sysOk ar rs = true) (hoa : termOk ar a = true) (hob : termOk ar b = true) (hn : a.length = n), Does prog 80 [.agg #[arv, rsv], av, bv] F L (fun v F' L' => ((.bool (parB ar rs a b) : Value) = v) ∧ L = L') := by
  induction n using Nat.strongRecOn with
  | _ n ih =>
    intros
    exact l12Par_spec_step ih (by assumption) (by assumption) (by assumption) (by assumption) (by assumption) (by assumption) (by assumption) (by assumption)

/- impl.parallel -/
set_option maxRecDepth 20000 in
theorem parallel_spec_step {n : Nat} (ih : ∀ m : Nat, m < n → ∀ {F : FH} {L : List HP}  {arv : Value} {ar : List Int} (har : IntsF F arv ar) {rsv : Value} {rs : List (List Int × List Int)} (hrs : PairsF F rsv rs) {av : Value} {a : List Int} (ha : IntsF F av a) {bv : Value} {b : List Int} (hb : IntsF F bv b) (hsys : sysOk ar rs = true) (hoa : termOk ar a = true) (hob : termOk ar b = true) (hn : a.length = m), Does prog 84 [.agg #[arv, rsv], av, bv] F L (fun v F' L' => ((.bool (parB ar rs a b) : Value) = v) ∧ L = L')) {F : FH} {L : List HP}  {arv : Value} {ar : List Int} (har : IntsF F arv ar) {rsv : Value} {rs : List (List Int × List Int)} (hrs : PairsF F rsv rs) {av : Value} {a : List Int} (ha : IntsF F av a) {bv : Value} {b : List Int} (hb : IntsF F bv b) (hsys : sysOk ar rs = true) (hoa : termOk ar a = true) (hob : termOk ar b = true) (hn : a.length = n) :
    Does prog 84 [.agg #[arv, rsv], av, bv] F (L) (fun v F' L' => ((.bool (parB ar rs a b) : Value) = v) ∧ L = L') := by
 refine qD func84 rfl rfl rfl ?_
 have hrl := (sysOk_iff.1 hsys).2.1
 have hrb9 : ∀ i, i < rs.length → (rs.getD i ([], [])).1.length ≤ 60 ∧ (rs.getD i ([], [])).2.length ≤ 60 := fun i hi => ⟨(termOk_len (rule_L hsys hi)).2, (termOk_len (rule_R hsys hi)).2⟩
 have hla := termOk_len hoa
 have hlb := termOk_len hob
 have hsg := sigOk_spec (termOk_sig hoa)
 have hal : ∀ i, i < (partsL ar a).length → ((partsL ar a).getD i []).length < a.length := fun i hi => part_len (termW_of hoa) hi
 have hpo : ∀ i, i < (partsL ar a).length → termOk ar ((partsL ar a).getD i []) = true := fun i hi => part_ok hoa hi
 have hpo2 : ∀ i, i < (partsL ar b).length → termOk ar ((partsL ar b).getD i []) = true := fun i hi => part_ok hob hi
 have hq3 := (termW_of hoa).args_le (p := 0) (by omega)
 have hq4 := (termW_of hob).args_le (p := 0) (by omega)
 have hqa : (partsL ar a).length = (argsL ar a 0).length := parts_args
 have hqb : (partsL ar b).length = (argsL ar b 0).length := parts_args
 have hna := jO ha (by omega)
 have hnb := jO hb (by omega)
 refine qc (qa (cX (qV [arv, rsv] rfl rfl ?_)))
 intro b1
 refine qg (.bool (false)) rfl (qb (qc (qc (qa (qf (av) rfl (qf (bv) rfl (cX (qt (args := [av, bv]) call141 rfl (Equal_spec ha hb (hbd := (by first | assumption | rfl | omega | (left; simp; done) | (right; simp; done)))) ?_))))))))
 rintro _ _ _ _ ⟨rfl, rfl, rfl⟩
 refine qb ?_
 refine qx (p := a = b) rfl (fun h1 => ?_) (fun h1 => ?_)
 ·have hab := h1
  refine qc (qa (qg (.bool (true)) rfl (qb (qy (qk (qs (L' := L) [.bool (true)] (.bool (true)) (.tmp rfl .nil) rfl rF rF (sD sR) ?_))))))
  exact ⟨congrArg Value.bool (par_same hoa hab), rfl⟩
 have hab := h1
 refine qw (qc (qc (qa (qf (av) rfl (cX (ql 0 qd qo rfl rfl rfl ha.slv (by omega) (Nat.mul_one _) (cX (qi qK rfl (ha.rd (by omega)) (cX (qL rfl rfl (qb ?_)))))))))))
 refine qx (p := (a.getD 0 0 : Int) < 0) rfl (fun h2 => ?_) (fun h2 => ?_)
 ·refine qc (qa (qg (.bool (false)) rfl (qb (qy (qk (qs (L' := L) [.bool (false)] (.bool (false)) (.tmp rfl .nil) rfl rF rF (sD sR) ?_))))))
  exact ⟨congrArg Value.bool (par_var hsys hoa hab (by omega)), rfl⟩
 refine qw (qc (qc (qa (cX (qn (1) qH rfl jx (by decide) rfl rfl (cX (qi jG rfl (Rd.own [] rfl rfl) (cX (qC qU rfl hrs.slv (qf (ii (0)) rfl (qb (qF (jj (α := Nat × FH) (fun xQ => [(1, av), (2, bv), (3, ptr b1 0), (22, ii ((rs.length : Int))), (23, ii (((xQ.1 : Nat) : Int)))]) (fun xQ => cellsH b1 [arv, rsv] 66 :: L) (fun xQ F' => xQ.2 = F' ∧ F ≤ xQ.2 ∧ (xQ.1 ≤ rs.length) ∧ (∀ i, i < xQ.1 → stepL ar rs a 0 i ≠ some b)) (fun xQ => rs.length - xQ.1) (0, F) ⟨rfl, rfl, rfl, rfl, rfl, ⟨⟩⟩ (sC sR) ⟨rfl, FLe.refl _, (by (try dsimp only) <;> omega), (fun i hi => absurd hi (by omega))⟩ ?_)))))))))))))
 rintro ⟨k, G1⟩ rE _ _ ⟨rfl, leG, hk, hall⟩
 show X _ _ _ _ (envs [(1, av), (2, bv), (3, ptr b1 0), (22, ii ((rs.length : Int))), (23, ii ((k : Int)))] rE) _ (cellsH b1 [arv, rsv] 66 :: L)
 replace leG : F ≤ G1 := leG
 dsimp only at hk hall
 have leG1 := leG
 replace har := har.mono leG1
 replace hrs := hrs.mono leG1
 replace ha := ha.mono leG1
 replace hb := hb.mono leG1
 refine qc (qa (cX (qL rfl rfl (qb (qc ?_)))))
 refine qx (p := (k : Int) < (rs.length : Int)) rfl (fun h3 => ?_) (fun h3 => ?_)
 ·refine qw (qc (qF (qc (qa (qf (ii ((k : Int))) rfl (qg (ii ((k : Int))) rfl (qb (qc (qa (cX (qB [arv, rsv] jF jt rfl rfl (Rd.ownN [] rfl rfl) (qf (av) rfl (qf (ii ((k : Int))) rfl (cX (qt (args := [.agg #[arv, rsv], av, ii ((0 : Nat) : Int), ii (k : Int)]) call155 rfl (step_spec (p := 0) (r := k) har hrs ha (hsys := (by first | assumption | rfl | omega | simp)) (ho := (by first | assumption | rfl | omega | simp)) (hp := (by omega)) (hr := (by omega))) ?_)))))))))))))))
  rintro _ F1 _ le1 ⟨x1, rfl, hr1, hr2, hr3, rfl⟩
  replace har := har.mono le1
  replace hrs := hrs.mono le1
  replace ha := ha.mono le1
  replace hb := hb.mono le1
  refine qf (.tuple #[x1, .bool ((stepL ar rs a 0 k).isSome)]) rfl (cX (qT (x1) rfl rfl (cX (qT (.bool ((stepL ar rs a 0 k).isSome)) rfl rfl (qg (x1) rfl (qg (.bool ((stepL ar rs a 0 k).isSome)) rfl (qb (qc (qa (qf (.bool ((stepL ar rs a 0 k).isSome)) rfl (qf (.bool ((stepL ar rs a 0 k).isSome)) rfl ?_)))))))))))
  by_cases h4 : ((stepL ar rs a 0 k).isSome) = true
  ·have hso := h4
   refine qq (t := 34) rfl (vB h4) (qj (x1) rfl (qq (t := 34) rfl (vB h4) (qj (bv) rfl (qq (t := 34) rfl (vB h4) (qt (args := [x1, bv]) call141 rfl (Equal_spec hr1 hb (hbd := (by first | assumption | rfl | omega | (left; simp; done) | (right; simp; done)))) ?_)))))
   rintro _ _ _ _ ⟨rfl, rfl, rfl⟩
   refine cX (qR (.bool (decide (((stepL ar rs a 0 k).getD []) = b))) (vB h4) rfl (qb ?_))
   refine qx (p := ((stepL ar rs a 0 k).getD []) = b) rfl (fun h5 => ?_) (fun h5 => ?_)
   ·have hsb := h5
    refine qc (qa (qg (.bool (true)) rfl (qb (qy (qz (qk (qk (qz (qk (qs (L' := L) [.bool (true)] (.bool (true)) (.tmp rfl .nil) rfl (qm leG1 le1) rF (sD sR) ?_))))))))))
    exact ⟨congrArg Value.bool (par_root hoa (root_at (r := k) (by omega) ((getD_some hso).2 hsb))), rfl⟩
   have hno := opt_no2 (v := b) h5
   refine qw (qa (cX (qI (((k + 1 : Nat) : Int)) rfl rfl (by omega) (by omega) (qf (ii (((k + 1 : Nat) : Int))) rfl (qb ?_)))))
   exact ⟨(k + 1, F1), _, (qm leG1 le1), rF, ⟨rfl, rfl, rfl, rfl, rfl, ⟨⟩⟩, (sC sR), ⟨rfl, (qm leG1 le1), (by (try dsimp only) <;> omega), (fun i hi => (Nat.lt_or_ge i k).elim (fun h => hall i h) (fun h => by obtain rfl : i = k := (by omega); exact hno))⟩, (by omega)⟩
  rw [Bool.not_eq_true] at h4
  have hno := opt_no1 (v := b) h4
  refine qp (t := 34) rfl (vB h4) (qp (t := 34) rfl (vB h4) (qp (t := 34) rfl (vB h4) (cX (qS (.bool (false)) (vB h4) rfl (qb (jz rfl (qw (qa (cX (qI (((k + 1 : Nat) : Int)) rfl rfl (by omega) (by omega) (qf (ii (((k + 1 : Nat) : Int))) rfl (qb ?_))))))))))))
  exact ⟨(k + 1, F1), _, (qm leG1 le1), rF, ⟨rfl, rfl, rfl, rfl, rfl, ⟨⟩⟩, (sC sR), ⟨rfl, (qm leG1 le1), (by (try dsimp only) <;> omega), (fun i hi => (Nat.lt_or_ge i k).elim (fun h => hall i h) (fun h => by obtain rfl : i = k := (by omega); exact hno))⟩, (by omega)⟩
 refine ja (qu (qu (qJ (qc (qc ?_)))))
 refine jn [cellsH b1 [arv, rsv] 66] L 6 [] [[], [0], [1], [], [3], [4]] (phiL [qe av, qe (.pointer (some (elemA av (0)))), qe (ii (a.getD 0 0)), qe bv, qe (.pointer (some (elemA bv (0)))), qe (ii (b.getD 0 0))]) (ownL []) mixed rfl rfl (by kernel_rfl) ?_ ?_
 ·refine pD (fun W R z9 => ?_) ?_
  ·refine qh (qj (av) rfl ?_)
   exact ⟨rfl, rfl, rfl⟩
  refine pD (fun W R z9 => ?_) ?_
  ·rw [eS (l := [(0, _)]) ⟨z9 0 rfl, ⟨⟩⟩]
   refine qh (ql 0 qd qo rfl rfl rfl ha.slv (by omega) (Nat.mul_one _) ?_)
   exact ⟨rfl, rfl, rfl⟩
  refine pD (fun W R z9 => ?_) ?_
  ·rw [eS (l := [(1, _)]) ⟨z9 1 rfl, ⟨⟩⟩]
   refine qh (qi qK rfl (ha.rd (by omega)) ?_)
   exact ⟨rfl, rfl, rfl⟩
  refine pD (fun W R z9 => ?_) ?_
  ·refine qh (qj (bv) rfl ?_)
   exact ⟨rfl, rfl, rfl⟩
  refine pD (fun W R z9 => ?_) ?_
  ·rw [eS (l := [(3, _)]) ⟨z9 3 rfl, ⟨⟩⟩]
   refine qh (ql 0 qd qo rfl rfl rfl hb.slv (by omega) (Nat.mul_one _) ?_)
   exact ⟨rfl, rfl, rfl⟩
  refine pD (fun W R z9 => ?_) ?_
  ·rw [eS (l := [(4, _)]) ⟨z9 4 rfl, ⟨⟩⟩]
   refine qh (qi qK rfl (hb.rd (by omega)) ?_)
   exact ⟨rfl, rfl, rfl⟩
  exact stepsP.nil
 intro W hphi
 rw [eS (l := [(2, _), (5, _)]) ⟨(hphi 2 (by decide)), (hphi 5 (by decide)), ⟨⟩⟩]
 show XL _ _ _ _ _ _ _ (cellsH b1 [arv, rsv] 66 :: L)
 refine cX (XOp.neq rfl rfl (qb ?_))
 refine qx (p := (a.getD 0 0 : Int) ≠ b.getD 0 0) rfl (fun h6 => ?_) (fun h6 => ?_)
 ·refine qc (qa (qg (.bool (false)) rfl (qb (qy (qk (qs (L' := L) [.bool (false)] (.bool (false)) (.tmp rfl .nil) rfl leG1 rF (sD sR) ?_))))))
  exact ⟨congrArg Value.bool (par_heads hoa hab (root_no (fun r hr => hall r (by omega))) (by omega)), rfl⟩
 refine qw (qc ?_)
 refine X.drawG [cellsH b1 [arv, rsv] 66] L 7 [] [[], [0], [], [1, 2], [], [4]] [] (phiG [pe (ptr b1 0), pe (.agg #[arv]), pe av, fun FF us v => ((v) : Value) = v ∧ (IntsF FF (v) (argsL ar a 0)), pe (ptr b1 0), pe (.agg #[arv]), pe bv]) (ownL []) mixed rfl rfl (by kernel_rfl) (by kernel_rfl) (MonoG.get (m1 (m1 (m1 (mC (fun le h => ⟨h.1, h.2.mono le⟩) (m1 (m1 (m1 MonoG.nil)))))))) ?_ ?_
 ·refine gD (fun W Fs R lF z9 => ?_) ?_
  ·refine qh (qn (0) qH rfl qN (by decide) rfl rfl ?_)
   exact ⟨rfl, rfl⟩
  refine gD (fun W Fs R lF z9 => ?_) ?_
  ·replace har := har.mono lF
   replace hrs := hrs.mono lF
   replace ha := ha.mono lF
   replace hb := hb.mono lF
   rw [eS (l := [(0, _)]) ⟨z9 0 rfl, ⟨⟩⟩]
   refine qh (qB [arv] je qN rfl rfl (Rd.ownN [] rfl rfl) ?_)
   exact ⟨rfl, rfl⟩
  refine gD (fun W Fs R lF z9 => ?_) ?_
  ·refine qh (qj (av) rfl ?_)
   exact ⟨rfl, rfl⟩
  refine gD (fun W Fs R lF z9 => ?_) ?_
  ·replace har := har.mono lF
   replace hrs := hrs.mono lF
   replace ha := ha.mono lF
   replace hb := hb.mono lF
   rw [eS (l := [(1, _), (2, _)]) ⟨z9 1 rfl, z9 2 rfl, ⟨⟩⟩]
   refine qh (jK <| qt (args := [.agg #[arv], av, ii ((0 : Nat) : Int)]) call156 rfl (argsAtW_spec (p := 0) har ha (ho := (by first | exact termW_of hoa | exact termW_of hob)) (hp := (by omega))) ?_)
   rintro v2 _ _ _ ⟨rfl, hs2, rfl⟩
   refine ⟨_, _, rfl, fun F2 le2 hz1 => ?_⟩
   replace har := har.mono le2
   replace hrs := hrs.mono le2
   replace ha := ha.mono le2
   replace hb := hb.mono le2
   have hf1 : IntsF F2 v2 ((argsL ar a 0)) := intsH.fz (xs := (argsL ar a 0)) hz1.fz
   exact ⟨⟨rfl, hf1⟩, rfl⟩
  refine gD (fun W Fs R lF z9 => ?_) ?_
  ·refine qh (qn (0) qH rfl qN (by decide) rfl rfl ?_)
   exact ⟨rfl, rfl⟩
  refine gD (fun W Fs R lF z9 => ?_) ?_
  ·replace har := har.mono lF
   replace hrs := hrs.mono lF
   replace ha := ha.mono lF
   replace hb := hb.mono lF
   rw [eS (l := [(4, _)]) ⟨z9 4 rfl, ⟨⟩⟩]
   refine qh (qB [arv] je qN rfl rfl (Rd.ownN [] rfl rfl) ?_)
   exact ⟨rfl, rfl⟩
  refine gD (fun W Fs R lF z9 => ?_) ?_
  ·refine qh (qj (bv) rfl ?_)
   exact ⟨rfl, rfl⟩
  exact stepsG.nil
 intro W F3 le3 hphi
 obtain ⟨e3, f3_2ha⟩ := hphi 3 (by decide)
 generalize hu1 : ((W 3)) = u1 at e3 f3_2ha
 rw [eS (l := [(3, u1), (5, _), (6, _)]) ⟨hu1, (hphi 5 (by decide)), (hphi 6 (by decide)), ⟨⟩⟩]
 replace har := har.mono le3
 replace hrs := hrs.mono le3
 replace ha := ha.mono le3
 replace hb := hb.mono le3
 show XL _ _ _ _ _ _ _ (cellsH b1 [arv, rsv] 66 :: L)
 refine cX (jK <| qt (args := [.agg #[arv], bv, ii ((0 : Nat) : Int)]) call156 rfl (argsAtW_spec (p := 0) har hb (ho := (by first | exact termW_of hoa | exact termW_of hob)) (hp := (by omega))) ?_)
 rintro v3 _ _ _ ⟨rfl, hs3, rfl⟩
 refine ⟨_, _, rfl, fun F4 le4 hz2 => ?_⟩
 replace har := har.mono le4
 replace hrs := hrs.mono le4
 replace ha := ha.mono le4
 replace hb := hb.mono le4
 replace f3_2ha := f3_2ha.mono le4
 have hf2 : IntsF F4 v3 ((argsL ar b 0)) := intsH.fz (xs := (argsL ar b 0)) hz2.fz
 refine qg (u1) rfl (qg (v3) rfl (qb (qc (qc (qa (qf (u1) rfl (cX (qC jV rfl f3_2ha.slv (qf (ii (0)) rfl (qb (qF ?_)))))))))))
 have hroot : ∀ r, r < rs.length → stepL ar rs a 0 r ≠ some b := fun r hr => hall r (by omega)
 refine jj (α := Nat × FH) (fun xQ => [(1, av), (2, bv), (3, ptr b1 0), (10, u1), (11, v3), (56, ii (((((argsL ar a 0)).length : Nat) : Int))), (57, ii (((xQ.1 : Nat) : Int)))]) (fun xQ => cellsH b1 [arv, rsv] 66 :: L) (fun xQ F' => xQ.2 = F' ∧ F4 ≤ xQ.2 ∧ (xQ.1 ≤ (argsL ar a 0).length) ∧ (∀ j, j < xQ.1 → parB ar rs ((partsL ar a).getD j []) ((partsL ar b).getD j []) = true)) (fun xQ => (argsL ar a 0).length - xQ.1) (0, F4) ⟨rfl, rfl, rfl, rfl, rfl, rfl, rfl, ⟨⟩⟩ (sC sR) ⟨rfl, FLe.refl _, (by (try dsimp only) <;> omega), (fun j hj => absurd hj (by omega))⟩ ?_
 rintro ⟨i, G2⟩ rE _ _ ⟨rfl, leG, hi, hall⟩
 show X _ _ _ _ (envs [(1, av), (2, bv), (3, ptr b1 0), (10, u1), (11, v3), (56, ii (((((argsL ar a 0)).length : Nat) : Int))), (57, ii ((i : Int)))] rE) _ (cellsH b1 [arv, rsv] 66 :: L)
 replace leG : F4 ≤ G2 := leG
 dsimp only at hi hall
 have hpl : (partsL ar a).length = (argsL ar a 0).length := by unfold partsL; rw [List.length_map]
 have hpl2 : (partsL ar b).length = (argsL ar b 0).length := by unfold partsL; rw [List.length_map]
 have hps := parts_same (ar := ar) (a := a) (b := b) (by omega)
 have hali := hal i
 have hia := fun h : i < (argsL ar a 0).length => (termW_of hoa).args_in (p := 0) (by omega) h
 have hib := fun h : i < (argsL ar b 0).length => (termW_of hob).args_in (p := 0) (by omega) h
 have hea := (termW_of hoa).end0
 have heb := (termW_of hob).end0
 have hge := fun h : i < (argsL ar a 0).length => congrArg List.length (parts_get (ar := ar) (t := a) h)
 have leG2 := leG
 replace har := har.mono leG2
 replace hrs := hrs.mono leG2
 replace ha := ha.mono leG2
 replace hb := hb.mono leG2
 replace f3_2ha := f3_2ha.mono leG2
 replace hf2 := hf2.mono leG2
 refine qc (qa (cX (qL rfl rfl (qb (qc ?_)))))
 refine qx (p := (i : Int) < ((((argsL ar a 0)).length : Nat) : Int)) rfl (fun h7 => ?_) (fun h7 => ?_)
 ·refine qw (qc (qF (qc (qa (qf (ii ((i : Int))) rfl (qg (ii ((i : Int))) rfl (qb (qc ?_))))))))
  refine X.drawG [cellsH b1 [arv, rsv] 66] L 17 [] [[], [], [1], [], [], [], [4, 5], [6], [2, 3, 7], [], [9], [], [], [], [12, 13], [14], [10, 11, 15]] [] (phiG [pe (.agg #[arv, rsv]), pe (ptr b1 0), pe (.agg #[arv]), pe av, pe u1, pe (ii ((i : Int)) : Value), pe (.pointer (some (elemA u1 (i)))), pe (ii (((argsL ar a 0)).getD i 0)), fun FF us v => ((v) : Value) = v ∧ (IntsF FF (v) (sub ar a ((((argsL ar a 0)).getD i 0).toNat))) ∧ (isNil (v) = false), pe (ptr b1 0), pe (.agg #[arv]), pe bv, pe v3, pe (ii ((i : Int)) : Value), pe (.pointer (some (elemA v3 (i)))), pe (ii (((argsL ar b 0)).getD i 0)), fun FF us v => ((v) : Value) = v ∧ (IntsF FF (v) (sub ar b ((((argsL ar b 0)).getD i 0).toNat))) ∧ (isNil (v) = false)]) (ownL []) mixed rfl rfl (by kernel_rfl) (by kernel_rfl) (MonoG.get (m1 (m1 (m1 (m1 (m1 (m1 (m1 (m1 (mC (fun le h => ⟨h.1, h.2.1.mono le, h.2.2⟩) (m1 (m1 (m1 (m1 (m1 (m1 (m1 (mC (fun le h => ⟨h.1, h.2.1.mono le, h.2.2⟩) MonoG.nil)))))))))))))))))) ?_ ?_
  ·refine gD (fun W Fs R lF z9 => ?_) ?_
   ·replace har := har.mono lF
    replace hrs := hrs.mono lF
    replace ha := ha.mono lF
    replace hb := hb.mono lF
    replace f3_2ha := f3_2ha.mono lF
    replace hf2 := hf2.mono lF
    refine qh (qB [arv, rsv] jF jt rfl rfl (Rd.ownN [] rfl rfl) ?_)
    exact ⟨rfl, rfl⟩
   refine gD (fun W Fs R lF z9 => ?_) ?_
   ·refine qh (qn (0) qH rfl qN (by decide) rfl rfl ?_)
    exact ⟨rfl, rfl⟩
   refine gD (fun W Fs R lF z9 => ?_) ?_
   ·replace har := har.mono lF
    replace hrs := hrs.mono lF
    replace ha := ha.mono lF
    replace hb := hb.mono lF
    replace f3_2ha := f3_2ha.mono lF
    replace hf2 := hf2.mono lF
    rw [eS (l := [(1, _)]) ⟨z9 1 rfl, ⟨⟩⟩]
    refine qh (qB [arv] je qN rfl rfl (Rd.ownN [] rfl rfl) ?_)
    exact ⟨rfl, rfl⟩
   refine gD (fun W Fs R lF z9 => ?_) ?_
   ·refine qh (qj (av) rfl ?_)
    exact ⟨rfl, rfl⟩
   refine gD (fun W Fs R lF z9 => ?_) ?_
   ·refine qh (qj (u1) rfl ?_)
    exact ⟨rfl, rfl⟩
   refine gD (fun W Fs R lF z9 => ?_) ?_
   ·refine qh (qj (ii ((i : Int))) rfl ?_)
    exact ⟨rfl, rfl⟩
   refine gD (fun W Fs R lF z9 => ?_) ?_
   ·replace har := har.mono lF
    replace hrs := hrs.mono lF
    replace ha := ha.mono lF
    replace hb := hb.mono lF
    replace f3_2ha := f3_2ha.mono lF
    replace hf2 := hf2.mono lF
    rw [eS (l := [(4, _), (5, _)]) ⟨z9 4 rfl, z9 5 rfl, ⟨⟩⟩]
    refine qh (ql i jV ya rfl rfl rfl f3_2ha.slv (by omega) (Nat.mul_one _) ?_)
    exact ⟨rfl, rfl⟩
   refine gD (fun W Fs R lF z9 => ?_) ?_
   ·replace har := har.mono lF
    replace hrs := hrs.mono lF
    replace ha := ha.mono lF
    replace hb := hb.mono lF
    replace f3_2ha := f3_2ha.mono lF
    replace hf2 := hf2.mono lF
    rw [eS (l := [(6, _)]) ⟨z9 6 rfl, ⟨⟩⟩]
    refine qh (qi isAgg3 rfl (f3_2ha.rd (by omega)) ?_)
    exact ⟨rfl, rfl⟩
   refine gD (fun W Fs R lF z9 => ?_) ?_
   ·replace har := har.mono lF
    replace hrs := hrs.mono lF
    replace ha := ha.mono lF
    replace hb := hb.mono lF
    replace hf2 := hf2.mono lF
    rw [eS (l := [(2, _), (3, _), (7, _)]) ⟨z9 2 rfl, z9 3 rfl, z9 7 rfl, ⟨⟩⟩]
    refine qh (qt (args := [.agg #[arv], av, ii (((((argsL ar a 0)).getD i 0).toNat : Nat) : Int)]) call55 (by rw [show (((((argsL ar a 0)).getD i 0).toNat : Nat) : Int) = ((argsL ar a 0)).getD i 0 from by omega]; rfl) (subAtW_spec (p := (((argsL ar a 0)).getD i 0).toNat) har ha (ho := (termW_of hoa)) (hp := (by have := hia (by omega); omega)) (hnn := (hna))) ?_)
    rintro v6 _ _ _ ⟨rfl, rfl, hv3, hn3⟩
    exact ⟨⟨rfl, hv3, hn3⟩, rfl⟩
   refine gD (fun W Fs R lF z9 => ?_) ?_
   ·refine qh (qn (0) qH rfl qN (by decide) rfl rfl ?_)
    exact ⟨rfl, rfl⟩
   refine gD (fun W Fs R lF z9 => ?_) ?_
   ·replace har := har.mono lF
    replace hrs := hrs.mono lF
    replace hb := hb.mono lF
    replace hf2 := hf2.mono lF
    rw [eS (l := [(9, _)]) ⟨z9 9 rfl, ⟨⟩⟩]
    refine qh (qB [arv] je qN rfl rfl (Rd.ownN [] rfl rfl) ?_)
    exact ⟨rfl, rfl⟩
   refine gD (fun W Fs R lF z9 => ?_) ?_
   ·refine qh (qj (bv) rfl ?_)
    exact ⟨rfl, rfl⟩
   refine gD (fun W Fs R lF z9 => ?_) ?_
   ·refine qh (qj (v3) rfl ?_)
    exact ⟨rfl, rfl⟩
   refine gD (fun W Fs R lF z9 => ?_) ?_
   ·refine qh (qj (ii ((i : Int))) rfl ?_)
    exact ⟨rfl, rfl⟩
   refine gD (fun W Fs R lF z9 => ?_) ?_
   ·replace har := har.mono lF
    replace hrs := hrs.mono lF
    replace hb := hb.mono lF
    replace hf2 := hf2.mono lF
    rw [eS (l := [(12, _), (13, _)]) ⟨z9 12 rfl, z9 13 rfl, ⟨⟩⟩]
    refine qh (ql i jV ya rfl rfl rfl hf2.slv (by omega) (Nat.mul_one _) ?_)
    exact ⟨rfl, rfl⟩
   refine gD (fun W Fs R lF z9 => ?_) ?_
   ·replace har := har.mono lF
    replace hrs := hrs.mono lF
    replace hb := hb.mono lF
    replace hf2 := hf2.mono lF
    rw [eS (l := [(14, _)]) ⟨z9 14 rfl, ⟨⟩⟩]
    refine qh (qi isAgg3 rfl (hf2.rd (by omega)) ?_)
    exact ⟨rfl, rfl⟩
   refine gD (fun W Fs R lF z9 => ?_) ?_
   ·replace har := har.mono lF
    replace hrs := hrs.mono lF
    replace hb := hb.mono lF
    rw [eS (l := [(10, _), (11, _), (15, _)]) ⟨z9 10 rfl, z9 11 rfl, z9 15 rfl, ⟨⟩⟩]
    refine qh (qt (args := [.agg #[arv], bv, ii (((((argsL ar b 0)).getD i 0).toNat : Nat) : Int)]) call55 (by rw [show (((((argsL ar b 0)).getD i 0).toNat : Nat) : Int) = ((argsL ar b 0)).getD i 0 from by omega]; rfl) (subAtW_spec (p := (((argsL ar b 0)).getD i 0).toNat) har hb (ho := (termW_of hob)) (hp := (by have := hib (by omega); omega)) (hnn := (hnb))) ?_)
    rintro v7 _ _ _ ⟨rfl, rfl, hv4, hn4⟩
    exact ⟨⟨rfl, hv4, hn4⟩, rfl⟩
   exact stepsG.nil
  intro W F5 le5 hphi
  obtain ⟨e8, f8_3ha, f8_3hn⟩ := hphi 8 (by decide)
  obtain ⟨e16, f16_3ha, f16_3hn⟩ := hphi 16 (by decide)
  generalize hu2 : ((W 8)) = u2 at e8 f8_3ha f8_3hn e16 f16_3ha f16_3hn
  generalize hu3 : ((W 16)) = u3 at e8 f8_3ha f8_3hn e16 f16_3ha f16_3hn
  rw [eS (l := [(0, _), (8, u2), (16, u3)]) ⟨(hphi 0 (by decide)), hu2, hu3, ⟨⟩⟩]
  replace har := har.mono le5
  replace hrs := hrs.mono le5
  show XL _ _ _ _ _ _ _ (cellsH b1 [arv, rsv] 66 :: L)
  refine cX (qt (args := [.agg #[arv, rsv], u2, u3]) call84 rfl (ih ((((sub ar a ((((argsL ar a 0)).getD i 0).toNat)))).length) (by omega) har hrs f8_3ha f16_3ha (hsys := (by first | assumption | rfl | omega | simp)) (hoa := (by have h9 := hpo i (by omega); rw [parts_get (by omega)] at h9; exact h9)) (hob := (by have h9 := hpo2 i (by omega); rw [parts_get (by omega)] at h9; exact h9)) (hn := (by first | assumption | rfl | omega | simp))) ?_)
  rintro _ F6 _ le6 ⟨⟨rfl⟩, rfl⟩
  show XL _ _ _ _ _ _ _ (cellsH b1 [arv, rsv] 66 :: L)
  refine cX (jp rfl (qb ?_))
  refine X.cond (t := !(parB ar rs ((sub ar a ((((argsL ar a 0)).getD i 0).toNat))) ((sub ar b ((((argsL ar b 0)).getD i 0).toNat))))) rfl (fun h8 => ?_) (fun h8 => ?_)
  ·have hpb := Bool.not_inj (y := false) h8
   rw [← parts_get (by omega), ← parts_get (by omega)] at hpb
   refine qc (qa (qg (.bool (false)) rfl (qb (qy (qz (qk (qk (qz (qk (qs (L' := L) [.bool (false)] (.bool (false)) (.tmp rfl .nil) rfl (qm (qm (qm (qm (qm leG1 le3) le4) leG2) le5) le6) rF (sD sR) ?_))))))))))
   exact ⟨congrArg Value.bool (par_part hoa hab (root_no (fun r hr => hroot r hr)) (i := i) (by omega) hpb), rfl⟩
  have hpb := Bool.not_inj (y := true) h8
  rw [← parts_get (by omega), ← parts_get (by omega)] at hpb
  refine qw (qa (cX (qI (((i + 1 : Nat) : Int)) rfl rfl (by omega) (by omega) (qf (ii (((i + 1 : Nat) : Int))) rfl (qb ?_)))))
  exact ⟨(i + 1, F6), _, (qm (qm leG2 le5) le6), rF, ⟨rfl, rfl, rfl, rfl, rfl, rfl, rfl, ⟨⟩⟩, (sC sR), ⟨rfl, (qm (qm leG2 le5) le6), (by (try dsimp only) <;> omega), (fun j hj => (Nat.lt_or_ge j i).elim (fun h => hall j h) (fun h => by obtain rfl : j = i := (by omega); exact hpb))⟩, (by omega)⟩
 refine ja (qu (qu (qJ (qc (qa (qg (.bool (true)) rfl (qb (qy (qs (L' := L) [.bool (true)] (.bool (true)) (.tmp rfl .nil) rfl (qm (qm (qm leG1 le3) le4) leG2) rF (sD sR) ?_)))))))))
 exact ⟨congrArg Value.bool (par_all hoa (by omega) (fun j hj => hall j (by omega))), rfl⟩

theorem parallel_spec (n : Nat) : ∀ {F : FH} {L : List HP}  {arv : Value} {ar : List Int} (har : IntsF F arv ar) {rsv : Value} {rs : List (List Int × List Int)} (hrs : PairsF F rsv rs) {av : Value} {a : List Int} (ha : IntsF F av a) {bv : Value} {b : List Int} (hb : IntsF F bv b) (hsys : sysOk ar rs = true) (hoa : termOk ar a = true) (hob : termOk ar b = true) (hn : a.length = n), Does prog 84 [.agg #[arv, rsv], av, bv] F L (fun v F' L' => ((.bool (parB ar rs a b) : Value) = v) ∧ L = L') := by
  induction n using Nat.strongRecOn with
  | _ n ih =>
    intros
    exact parallel_spec_step ih (by assumption) (by assumption) (by assumption) (by assumption) (by assumption) (by assumption) (by assumption) (by assumption)

/- impl.ClosedIn$1 -/
theorem ClosedIn1_spec {F : FH} {L : List HP} {tpv : Value} {tp : List Int} (htp : IntsF F tpv tp) {lfv : Value} {lf : List Int} (hlf : IntsF F lfv lf) {rtv : Value} {rt : List Int} (hrt : IntsF F rtv rt) {i1 : Int} {i2 : Int} {i3 : Int} {arv : Value} {ar : List Int} (har : IntsF F arv ar) {rsv : Value} {rs : List (List Int × List Int)} (hrs : PairsF F rsv rs) {c : Nat} (hzc : FzC F c [arv, rsv]) (hsys : sysOk ar rs = true) (hol : termOk ar lf = true) (hor : termOk ar rt = true) :
    Does prog 83 [.agg #[tpv, lfv, rtv, ii (i1), ii (i2), ii (i3)], ptr c 0] F (L) (fun v F' L' => (.bool (parB ar rs lf rt) : Value) = v ∧ F = F' ∧ L = L') := by
 refine qD func83 rfl rfl rfl (qc (qa (cX (qV [tpv, lfv, rtv, ii (i1), ii (i2), ii (i3)] rfl rfl ?_))))
 intro b1
 refine qg (.bool (false)) rfl (qb (qc (qa (cX (qB [arv, rsv] jF jt rfl rfl (FzC.rd hzc rfl) (cX (qn (1) jv rfl qr (by decide) rfl rfl (cX (qi qP rfl (Rd.own [] rfl rfl) (cX (qn (2) jv rfl qr (by decide) rfl rfl (cX (qi qP rfl (Rd.own [] rfl rfl) (cX (qt (args := [.agg #[arv, rsv], lfv, rtv]) call84 rfl (parallel_spec ((lf).length) har hrs hlf hrt (hsys := (by first | assumption | rfl | omega | simp)) (hoa := (hol)) (hob := (hor)) (hn := (by first | assumption | rfl | omega | simp))) ?_)))))))))))))))
 rintro _ F1 _ le1 ⟨⟨rfl⟩, rfl⟩
 show XL _ _ _ _ _ _ _ (cellsH b1 [tpv, lfv, rtv, ii (i1), ii (i2), ii (i3)] 128 :: L)
 refine qg (.bool (parB ar rs lf rt)) rfl (qb (qy (qs (L' := L) [.bool (parB ar rs lf rt)] (.bool (parB ar rs lf rt)) (.tmp rfl .nil) rfl rF le1 (sD sR) ?_)))
 exact ⟨rfl, rfl, rfl⟩

/- impl.allPeaks$1 -/
theorem allPeaks1C_spec {F : FH} {L : List HP} {tpv : Value} {tp : List Int} (htp : IntsF F tpv tp) {lfv : Value} {lf : List Int} (hlf : IntsF F lfv lf) {rtv : Value} {rt : List Int} (hrt : IntsF F rtv rt) {i1 : Int} {i2 : Int} {i3 : Int} {arv : Value} {ar : List Int} (har : IntsF F arv ar) {rsv : Value} {rs : List (List Int × List Int)} (hrs : PairsF F rsv rs) {c : Nat} (hzc : FzC F c [arv, rsv]) {b : Nat} (hzb : FzC F b [.func (.func 83) #[] #[ptr c 0]]) (hsys : sysOk ar rs = true) (hol : termOk ar lf = true) (hor : termOk ar rt = true) :
    Does prog 154 [.agg #[tpv, lfv, rtv, ii (i1), ii (i2), ii (i3)], ptr b 0] F (L) (fun v F' L' => (.bool (!((fun x : PkT => parB ar rs x.2.1 x.2.2.1) (tp, lf, rt, i1, i2, i3))) : Value) = v ∧ F = F' ∧ L = L') := by
 refine qD func154 rfl rfl rfl (qc (qa (cX (qV [tpv, lfv, rtv, ii (i1), ii (i2), ii (i3)] rfl rfl ?_))))
 intro b1
 refine qg (.bool (false)) rfl (qb (qc (qa (cX (qi isAgg131 rfl (FzC.rd1 hzb rfl) (cX (qB [tpv, lfv, rtv, ii (i1), ii (i2), ii (i3)] isAgg128 jl rfl rfl (Rd.ownN [] rfl rfl) (cX (XOp.callV (first := []) (captured := [ptr c 0]) (args := [.agg #[tpv, lfv, rtv, ii (i1), ii (i2), ii (i3)], ptr c 0]) call83 rfl rfl (ClosedIn1_spec htp hlf hrt har hrs hzc (hsys := (by first | assumption | rfl | omega | simp)) (hol := (by first | assumption | rfl | omega | simp)) (hor := (by first | assumption | rfl | omega | simp))) ?_)))))))))
 rintro _ _ _ _ ⟨rfl, rfl, rfl⟩
 refine cX (jp rfl (qg (.bool (!(parB ar rs lf rt))) rfl (qb (qy (qs (L' := L) [.bool (!(parB ar rs lf rt))] (.bool (!(parB ar rs lf rt))) (.tmp rfl .nil) rfl rF rF (sD sR) ?_)))))
 exact ⟨(vB (by skip; simp_all)), rfl, rfl⟩

/- slices.IndexFunc[[]impl.Peak,impl.Peak] -/
theorem IndexFuncC_spec {F : FH} {L : List HP} {ksv : Value} {ks : List PkT} (hks : PeaksF F ksv ks) {arv : Value} {ar : List Int} (har : IntsF F arv ar) {rsv : Value} {rs : List (List Int × List Int)} (hrs : PairsF F rsv rs) {c : Nat} (hzc : FzC F c [arv, rsv]) {b : Nat} (hzb : FzC F b [.func (.func 83) #[] #[ptr c 0]]) (hlt : ks.length ≤ 4000000) (hsys : sysOk ar rs = true) (hbd : ∀ i, i < ks.length → termOk ar (ks.getD i ([], [], [], 0, 0, 0)).2.1 = true ∧ termOk ar (ks.getD i ([], [], [], 0, 0, 0)).2.2.1 = true) :
    Does prog 201 [ksv, .func (.func 154) #[] #[ptr b 0]] F (L) (fun v F' L' => (ii (badG ((fun x : PkT => parB ar rs x.2.1 x.2.2.1)) ks) : Value) = v ∧ F = F' ∧ L = L') := by
 refine qD func201 rfl rfl rfl (qc (qa (qg (ii (0)) rfl (qb (qc (qc (qa (qf (ksv) rfl (cX (qC jy rfl hks.slv (qf (ii (0)) rfl (qb (qF (jj (α := Nat) (fun k => [(0, ksv), (1, .func (.func 154) #[] #[ptr b 0]), (7, ii ((ks.length : Int))), (8, ii ((k : Int)))]) (fun k => L) (fun k F' => F = F' ∧ (k ≤ ks.length) ∧ (∀ i, i < k → ((fun x : PkT => parB ar rs x.2.1 x.2.2.1)) (ks.getD i ([], [], [], 0, 0, 0)) = true)) (fun k => ks.length - k) 0 ⟨rfl, rfl, rfl, rfl, ⟨⟩⟩ sR ⟨rfl, (by (try dsimp only) <;> omega), (fun i hi => absurd hi (by omega))⟩ ?_))))))))))))))
 rintro k rE _ _ ⟨rfl, hk, hall⟩
 show X _ _ _ _ (envs [(0, ksv), (1, .func (.func 154) #[] #[ptr b 0]), (7, ii ((ks.length : Int))), (8, ii ((k : Int)))] rE) _ (L)
 refine qc (qa (cX (qL rfl rfl (qb (qc ?_)))))
 refine qx (p := (k : Int) < (ks.length : Int)) rfl (fun h1 => ?_) (fun h1 => ?_)
 ·refine qw (qc (qF (qc (qa (qf (ii ((k : Int))) rfl (qg (ii ((k : Int))) rfl (qb (qc (qa (qf (.func (.func 154) #[] #[ptr b 0]) rfl (qf (ksv) rfl (qf (ii ((k : Int))) rfl (cX (ql k jy jl rfl rfl rfl hks.slv (by omega) rfl ?_))))))))))))))
  obtain ⟨a1, a2, a3, ha1, ha2, ha3, hrg1, hq1⟩ := hks.rd (i := k) (by omega)
  refine cX (qB [a1, a2, a3, ii ((ks.getD k ([], [], [], 0, 0, 0)).2.2.2.1), ii ((ks.getD k ([], [], [], 0, 0, 0)).2.2.2.2.1), ii ((ks.getD k ([], [], [], 0, 0, 0)).2.2.2.2.2)] isAgg128 jl rfl rfl (Rd.all (hrg1 _)) (cX (XOp.callV (first := []) (captured := [ptr b 0]) (args := [.agg #[a1, a2, a3, ii ((ks.getD k ([], [], [], 0, 0, 0)).2.2.2.1), ii ((ks.getD k ([], [], [], 0, 0, 0)).2.2.2.2.1), ii ((ks.getD k ([], [], [], 0, 0, 0)).2.2.2.2.2)], ptr b 0]) call154 rfl rfl (allPeaks1C_spec ha1 ha2 ha3 har hrs hzc hzb (hsys := (hsys)) (hol := ((hbd k (by omega)).1)) (hor := ((hbd k (by omega)).2))) ?_)))
  rintro _ _ _ _ ⟨rfl, rfl, rfl⟩
  refine qb ?_
  refine X.cond (t := !((fun x : PkT => parB ar rs x.2.1 x.2.2.1) (((ks.getD k ([], [], [], 0, 0, 0)).1), ((ks.getD k ([], [], [], 0, 0, 0)).2.1), ((ks.getD k ([], [], [], 0, 0, 0)).2.2.1), ((ks.getD k ([], [], [], 0, 0, 0)).2.2.2.1), ((ks.getD k ([], [], [], 0, 0, 0)).2.2.2.2.1), ((ks.getD k ([], [], [], 0, 0, 0)).2.2.2.2.2)))) rfl (fun h2 => ?_) (fun h2 => ?_)
  ·refine qc (qa (qf (ii ((k : Int))) rfl (qg (ii ((k : Int))) rfl (qb (qy (qz (qk (qk (qz (qk (qs (L' := L) [ii ((k : Int))] (ii ((k : Int))) (.tmp rfl .nil) rfl rF rF sR ?_)))))))))))
   exact ⟨(vI (badG_at (([], [], [], 0, 0, 0) : PkT) (by omega) (by simp_all) hall)), rfl, rfl⟩
  refine qw (qa (cX (qI (((k + 1 : Nat) : Int)) rfl rfl (by omega) (by omega) (qf (ii (((k + 1 : Nat) : Int))) rfl (qb ?_)))))
  exact ⟨k + 1, _, FLe.refl _, rF, ⟨rfl, rfl, rfl, rfl, ⟨⟩⟩, sR, ⟨rfl, (by (try dsimp only) <;> omega), (fun i hi => (Nat.lt_or_ge i k).elim (fun h => hall i h) (fun h => by obtain rfl : i = k := (by omega); simp_all))⟩, (by omega)⟩
 refine ja (qu (qu (qJ (qc (qa (qg (ii (-1)) rfl (qb (qy (qs (L' := L) [ii (-1)] (ii (-1)) (.tmp rfl .nil) rfl rF rF sR ?_)))))))))
 exact ⟨(vI (badG_none (([], [], [], 0, 0, 0) : PkT) (fun i hi => hall i (by omega)))), rfl, rfl⟩

/- slices.ContainsFunc[[]impl.Peak,impl.Peak] -/
theorem ContainsFuncC_spec {F : FH} {L : List HP} {ksv : Value} {ks : List PkT} (hks : PeaksF F ksv ks) {arv : Value} {ar : List Int} (har : IntsF F arv ar) {rsv : Value} {rs : List (List Int × List Int)} (hrs : PairsF F rsv rs) {c : Nat} (hzc : FzC F c [arv, rsv]) {b : Nat} (hzb : FzC F b [.func (.func 83) #[] #[ptr c 0]]) (hlt : ks.length ≤ 4000000) (hsys : sysOk ar rs = true) (hbd : ∀ i, i < ks.length → termOk ar (ks.getD i ([], [], [], 0, 0, 0)).2.1 = true ∧ termOk ar (ks.getD i ([], [], [], 0, 0, 0)).2.2.1 = true) :
    Does prog 153 [ksv, .func (.func 154) #[] #[ptr b 0]] F (L) (fun v F' L' => (.bool (decide (badG ((fun x : PkT => parB ar rs x.2.1 x.2.2.1)) ks ≥ 0)) : Value) = v ∧ F = F' ∧ L = L') := by
 refine qD func153 rfl rfl rfl (qc (qa (qg (.bool (false)) rfl (qb (qc (qa (qf (ksv) rfl (qf (.func (.func 154) #[] #[ptr b 0]) rfl (cX (qt (args := [ksv, .func (.func 154) #[] #[ptr b 0]]) call201 rfl (IndexFuncC_spec hks har hrs hzc hzb (hlt := (by first | assumption | rfl | omega | simp)) (hsys := (by first | assumption | rfl | omega | simp)) (hbd := (by first | assumption | rfl | omega | simp))) ?_))))))))))
 rintro _ _ _ _ ⟨rfl, rfl, rfl⟩
 refine cX (jT rfl rfl (qg (.bool (decide ((badG ((fun x : PkT => parB ar rs x.2.1 x.2.2.1)) ks : Int) ≥ 0))) rfl (qb (qy (qs (L' := L) [.bool (decide ((badG ((fun x : PkT => parB ar rs x.2.1 x.2.2.1)) ks : Int) ≥ 0))] (.bool (decide ((badG ((fun x : PkT => parB ar rs x.2.1 x.2.2.1)) ks : Int) ≥ 0))) (.tmp rfl .nil) rfl rF rF sR ?_)))))
 exact ⟨rfl, rfl, rfl⟩

/- impl.allPeaks -/
set_option maxRecDepth 20000 in
theorem allPeaksC_spec {F : FH} {L : List HP} {arv : Value} {ar : List Int} (har : IntsF F arv ar) {rsv : Value} {rs : List (List Int × List Int)} (hrs : PairsF F rsv rs) {c : Nat} (hzc : FzC F c [arv, rsv]) :
    Does prog 82 [.agg #[arv, rsv], .func (.func 83) #[] #[ptr c 0]] F (L) (fun v F' L' => (.bool (decide ((psO ar rs).isSome = true ∧ LinS rs ∧ ((psO ar rs).getD []).all ((fun x : PkT => parB ar rs x.2.1 x.2.2.1)) = true)) : Value) = v ∧ L = L') := by
 refine qD func82 rfl rfl rfl (qc (qa (cX (qV [arv, rsv] rfl rfl ?_))))
 intro b1
 refine cX (qV [.func (.func 83) #[] #[ptr c 0]] rfl rfl ?_)
 intro b2
 refine qg (.bool (false)) rfl (qb (qc (qc (qa (cX (qB [arv, rsv] jF jt rfl rfl (Rd.ownN [_] rfl rfl) (cX (qt (args := [.agg #[arv, rsv]]) call151 rfl (LeftLinearIn_spec har hrs) ?_))))))))
 rintro _ _ _ _ ⟨rfl, rfl, rfl⟩
 refine cX (jN rfl (qb ?_))
 refine qx (p := ¬(sysOk ar rs = true ∧ LinS rs)) rfl (fun h1 => ?_) (fun h1 => ?_)
 ·have hll9 : ¬ (sysOk ar rs = true ∧ LinS rs) := by simpa using h1
  refine qc (qa (qg (.bool (false)) rfl (qb (qy (qk (qs (L' := L) [.bool (false)] (.bool (false)) (.tmp rfl .nil) rfl rF rF (sD (sD sR)) ?_))))))
  have e9 : ¬ ((psO ar rs).isSome = true ∧ LinS rs ∧ ((psO ar rs).getD []).all ((fun x : PkT => parB ar rs x.2.1 x.2.2.1)) = true) := fun h9 => hll9 ⟨psO_sys h9.1, h9.2.1⟩
  exact ⟨congrArg Value.bool (decide_eq_false e9), rfl⟩
 have hll9 : sysOk ar rs = true ∧ LinS rs := by simpa using h1
 have hsys := hll9.1
 have hps := ps_yes hsys
 have hnl := psO_len (ar := ar) (rs := rs)
 have hnb := psO_at (ar := ar) (rs := rs)
 have hno := psO_okAt (ar := ar) (rs := rs)
 rw [hps] at hnl hnb hno
 refine qw (qc (qa (cX (qB [arv, rsv] jF jt rfl rfl (Rd.ownN [_] rfl rfl) (cX (qt (args := [.agg #[arv, rsv]]) call152 rfl (peaks_spec har hrs (hsys := (hsys))) ?_))))))
 rintro _ F1 _ le1 ⟨x1, rfl, hr1, hr2, rfl⟩
 replace har := har.mono le1
 replace hrs := hrs.mono le1
 replace hzc := hzc.mono le1
 refine qf (.tuple #[x1, .bool ((peaksF ar rs).isSome)]) rfl (cX (qT (x1) rfl rfl (cX (qT (.bool ((peaksF ar rs).isSome)) rfl rfl (qg (x1) rfl (qg (.bool ((peaksF ar rs).isSome)) rfl (qb (qc (qa (qf (.bool ((peaksF ar rs).isSome)) rfl (qf (.bool ((peaksF ar rs).isSome)) rfl ?_)))))))))))
 by_cases h2 : ((peaksF ar rs).isSome) = true
 ·refine qq (t := 16) rfl (vB h2) (qj (x1) rfl (qq (t := 16) rfl (vB h2) (XOp.makeFuncL [] [ptr b2 0] rfl rfl (XL.freeze [] _ _ rfl (fun F2 le2 hz1 => ?_)))))
  replace har := har.mono le2
  replace hrs := hrs.mono le2
  replace hzc := hzc.mono le2
  replace hr1 := hr1.mono le2
  have hf1 : FzC F2 b2 [.func (.func 83) #[] #[ptr c 0]] := Fz.cells hz1
  refine qq (t := 16) rfl (vB h2) (qt (args := [x1, .func (.func 154) #[] #[ptr b2 0]]) call153 rfl (ContainsFuncC_spec hr1 har hrs hzc hf1 (hlt := (by omega)) (hsys := (hsys)) (hbd := (fun i hi => by have h7 := hnb i hi; have h6 := hno i hi; exact ⟨h6.2.1, h6.2.2⟩))) ?_)
  rintro _ _ _ _ ⟨rfl, rfl, rfl⟩
  refine qq (t := 16) rfl (vB h2) (jN rfl (cX (qR (.bool (decide (¬(badG ((fun x : PkT => parB ar rs x.2.1 x.2.2.1)) (((peaksF ar rs).getD [])) ≥ 0)))) (vB h2) rfl (qg (.bool (decide (¬(badG ((fun x : PkT => parB ar rs x.2.1 x.2.2.1)) (((peaksF ar rs).getD [])) ≥ 0)))) rfl (qb (qy (qs (L' := L) [.bool (decide (¬(badG ((fun x : PkT => parB ar rs x.2.1 x.2.2.1)) (((peaksF ar rs).getD [])) ≥ 0)))] (.bool (decide (¬(badG ((fun x : PkT => parB ar rs x.2.1 x.2.2.1)) (((peaksF ar rs).getD [])) ≥ 0)))) (.tmp rfl .nil) rfl (qm le1 le2) rF (sD sR) ?_)))))))
  rw [hps]
  exact ⟨congrArg Value.bool (by have h9 := hll9.2; have h8 := badG_iff (q := (fun x : PkT => parB ar rs x.2.1 x.2.2.1)) (l := (peaksF ar rs).getD []); cases hA : ((peaksF ar rs).getD []).all ((fun x : PkT => parB ar rs x.2.1 x.2.2.1)) <;> simp_all <;> omega), rfl⟩
 rw [Bool.not_eq_true] at h2
 refine qp (t := 16) rfl (vB h2) (qp (t := 16) rfl (vB h2) (qp (t := 16) rfl (vB h2) (qp (t := 16) rfl (vB h2) (cX (qS (.bool (false)) (vB h2) rfl (qg (.bool (false)) rfl (qb (qy (qs (L' := L) [.bool (false)] (.bool (false)) (.tmp rfl .nil) rfl le1 rF (sD (sD sR)) ?_)))))))))
 rw [hps]
 exact ⟨congrArg Value.bool (by have h9 := hll9.2; have h8 := badG_iff (q := (fun x : PkT => parB ar rs x.2.1 x.2.2.1)) (l := (peaksF ar rs).getD []); cases hA : ((peaksF ar rs).getD []).all ((fun x : PkT => parB ar rs x.2.1 x.2.2.1)) <;> simp_all <;> omega), rfl⟩

/- impl.ClosedIn -/
theorem ClosedIn_spec {F : FH} {L : List HP} {arv : Value} {ar : List Int} (har : IntsF F arv ar) {rsv : Value} {rs : List (List Int × List Int)} (hrs : PairsF F rsv rs) :
    Does prog 28 [.agg #[arv, rsv]] F (L) (fun v F' L' => (.bool (decide ((psO ar rs).isSome = true ∧ LinS rs ∧ ((psO ar rs).getD []).all ((fun x : PkT => parB ar rs x.2.1 x.2.2.1)) = true)) : Value) = v ∧ L = L') := by
 refine qD func28 rfl rfl rfl (qc (qa (cX (qV [arv, rsv] rfl rfl ?_))))
 intro b1
 refine qg (.bool (false)) rfl (qb (qc (qa (cX (qB [arv, rsv] jF jt rfl rfl (Rd.ownN [] rfl rfl) (cX (XOp.makeFuncL [] [ptr b1 0] rfl rfl (XL.freeze [] _ _ rfl (fun F1 le1 hz1 => ?_)))))))))
 replace har := har.mono le1
 replace hrs := hrs.mono le1
 have hf1 : FzC F1 b1 [arv, rsv] := Fz.cells hz1
 refine cX (qt (args := [.agg #[arv, rsv], .func (.func 83) #[] #[ptr b1 0]]) call82 rfl (allPeaksC_spec har hrs hf1) ?_)
 rintro _ F2 _ le2 ⟨rfl, rfl⟩
 refine qg (.bool (decide ((psO ar rs).isSome = true ∧ LinS rs ∧ ((psO ar rs).getD []).all ((fun x : PkT => parB ar rs x.2.1 x.2.2.1)) = true))) rfl (qb (qy (qs (L' := L) [.bool (decide ((psO ar rs).isSome = true ∧ LinS rs ∧ ((psO ar rs).getD []).all ((fun x : PkT => parB ar rs x.2.1 x.2.2.1)) = true))] (.bool (decide ((psO ar rs).isSome = true ∧ LinS rs ∧ ((psO ar rs).getD []).all ((fun x : PkT => parB ar rs x.2.1 x.2.2.1)) = true))) (.tmp rfl .nil) rfl (qm le1 le2) rF sR ?_)))
 exact ⟨rfl, rfl⟩

/- spec.ClosedIn -/
set_option maxRecDepth 20000 in
theorem sClosedIn_spec {F : FH} {L : List HP} {arv : Value} {ar : List Int} (har : IntsF F arv ar) {rsv : Value} {rs : List (List Int × List Int)} (hrs : PairsF F rsv rs) (hla : ar.length ≤ 4000000) (hlr : rs.length ≤ 4000000) (hrb : ∀ i, i < rs.length → (rs.getD i ([], [])).1.length ≤ 4000000 ∧ (rs.getD i ([], [])).2.length ≤ 4000000) :
    Does prog 26 [.agg #[arv, rsv]] F (L) (fun v F' L' => (.bool (decide ((psO ar rs).isSome = true ∧ LinS rs ∧ ((psO ar rs).getD []).all ((fun x : PkT => parB ar rs x.2.1 x.2.2.1)) = true)) : Value) = v ∧ L = L') := by
 refine qD func26 rfl rfl rfl ?_
 have hnl := psO_len (ar := ar) (rs := rs)
 have hno := psO_okAt (ar := ar) (rs := rs)
 have hss := psO_sys (ar := ar) (rs := rs)
 refine qc (qa (cX (qV [arv, rsv] rfl rfl ?_)))
 intro b1
 refine qg (.bool (false)) rfl (qb (qc (qa (cX (qB [arv, rsv] jF jt rfl rfl (Rd.ownN [] rfl rfl) (cX (qt (args := [.agg #[arv, rsv]]) call78 rfl (sPeaksOf_spec har hrs (hla := (by first | assumption | rfl | omega | simp)) (hlr := (by first | assumption | rfl | omega | simp)) (hrb := (by first | assumption | rfl | omega | simp))) ?_)))))))
 rintro _ F1 _ le1 ⟨x1, rfl, hr1, rfl⟩
 replace har := har.mono le1
 replace hrs := hrs.mono le1
 refine qf (.tuple #[x1, .bool ((psO ar rs).isSome)]) rfl (cX (qT (x1) rfl rfl (cX (qT (.bool ((psO ar rs).isSome)) rfl rfl (qg (x1) rfl (qg (.bool ((psO ar rs).isSome)) rfl (qb (qc (qc (qa (qf (.bool ((psO ar rs).isSome)) rfl (cX (jp rfl (qf (.bool (!((psO ar rs).isSome))) rfl ?_))))))))))))))
 by_cases h1 : (!((psO ar rs).isSome)) = true
 ·have hpo : (psO ar rs).isSome = false := Bool.not_inj (y := false) h1
  refine qp (t := 13) rfl (vB h1) (qp (t := 13) rfl (vB h1) (qp (t := 13) rfl (vB h1) (cX (qR (.bool (true)) (vB h1) rfl (qb (jB rfl (qc (qa (qg (.bool (false)) rfl (qb (qy (qk (qs (L' := L) [.bool (false)] (.bool (false)) (.tmp rfl .nil) rfl le1 rF (sD sR) ?_)))))))))))))
  exact ⟨congrArg Value.bool (decide_eq_false (by simp_all)), rfl⟩
 rw [Bool.not_eq_true] at h1
 have hpo : (psO ar rs).isSome = true := Bool.not_inj (y := true) h1
 have hsys := psO_sys hpo
 refine qq (t := 13) rfl (vB h1) (qB [arv, rsv] jF jt rfl rfl (Rd.ownN [] rfl rfl) (qq (t := 13) rfl (vB h1) (qt (args := [.agg #[arv, rsv]]) call79 rfl (sLeftLinearIn_spec har hrs (hla := (by first | assumption | rfl | omega | simp)) (hlr := (by first | assumption | rfl | omega | simp)) (hrb := (by first | assumption | rfl | omega | simp))) ?_)))
 rintro _ _ _ _ ⟨rfl, rfl, rfl⟩
 refine qq (t := 13) rfl (vB h1) (jN rfl (cX (qS (.bool (decide (¬(sysOk ar rs = true ∧ LinS rs)))) (vB h1) rfl (qb ?_))))
 refine qx (p := ¬(sysOk ar rs = true ∧ LinS rs)) rfl (fun h2 => ?_) (fun h2 => ?_)
 ·refine qc (qa (qg (.bool (false)) rfl (qb (qy (qk (qs (L' := L) [.bool (false)] (.bool (false)) (.tmp rfl .nil) rfl le1 rF (sD sR) ?_))))))
  exact ⟨congrArg Value.bool (decide_eq_false (by simp_all)), rfl⟩
 refine qw (qc (qc (qa (qg (ii (0)) rfl (qb (qF (jj (α := Nat × FH) (fun xQ => [(1, ptr b1 0), (3, x1), (5, ii (((xQ.1 : Nat) : Int)))]) (fun xQ => cellsH b1 [arv, rsv] 66 :: L) (fun xQ F' => xQ.2 = F' ∧ F1 ≤ xQ.2 ∧ (xQ.1 ≤ ((psO ar rs).getD []).length) ∧ (∀ i, i < xQ.1 → (fun x : PkT => parB ar rs x.2.1 x.2.2.1) (((psO ar rs).getD []).getD i ([], [], [], 0, 0, 0)) = true)) (fun xQ => ((psO ar rs).getD []).length - xQ.1) (0, F1) ⟨rfl, rfl, rfl, ⟨⟩⟩ (sC sR) ⟨rfl, FLe.refl _, (by (try dsimp only) <;> omega), (fun i hi => absurd hi (by omega))⟩ ?_)))))))
 rintro ⟨k, G1⟩ rE _ _ ⟨rfl, leG, hk, hall⟩
 show X _ _ _ _ (envs [(1, ptr b1 0), (3, x1), (5, ii ((k : Int)))] rE) _ (cellsH b1 [arv, rsv] 66 :: L)
 replace leG : F1 ≤ G1 := leG
 dsimp only at hk hall
 have hnok := hno k
 have leG1 := leG
 replace har := har.mono leG1
 replace hrs := hrs.mono leG1
 replace hr1 := hr1.mono leG1
 refine qc (qc (qa (qf (ii ((k : Int))) rfl (qf (x1) rfl (cX (qC jy rfl hr1.slv (cX (qL rfl rfl (qb ?_)))))))))
 refine qx (p := (k : Int) < (((((psO ar rs).getD [])).length : Nat) : Int)) rfl (fun h3 => ?_) (fun h3 => ?_)
 ·refine qw (qc (qF (qc ?_)))
  obtain ⟨a1, a2, a3, ha1, ha2, ha3, hrg1, hq1⟩ := hr1.rd (i := k) (by omega)
  refine jn [cellsH b1 [arv, rsv] 66] L 11 [] [[], [], [], [1, 2], [3], [4], [], [], [6, 7], [8], [9]] (phiL [qe (.agg #[arv, rsv]), qe x1, qe (ii ((k : Int)) : Value), qe (.pointer (some (elemA x1 (k * 6)))), qe (.pointer (some (elemA x1 (k * 6 + 1)))), qe a2, qe x1, qe (ii ((k : Int)) : Value), qe (.pointer (some (elemA x1 (k * 6)))), qe (.pointer (some (elemA x1 (k * 6 + 2)))), qe a3]) (ownL []) mixed rfl rfl (by kernel_rfl) ?_ ?_
  ·refine pD (fun W R z9 => ?_) ?_
   ·refine qh (qB [arv, rsv] jF jt rfl rfl (Rd.ownN [] rfl rfl) ?_)
    exact ⟨rfl, rfl, rfl⟩
   refine pD (fun W R z9 => ?_) ?_
   ·refine qh (qj (x1) rfl ?_)
    exact ⟨rfl, rfl, rfl⟩
   refine pD (fun W R z9 => ?_) ?_
   ·refine qh (qj (ii ((k : Int))) rfl ?_)
    exact ⟨rfl, rfl, rfl⟩
   refine pD (fun W R z9 => ?_) ?_
   ·rw [eS (l := [(1, _), (2, _)]) ⟨z9 1 rfl, z9 2 rfl, ⟨⟩⟩]
    refine qh (ql k jy jl rfl rfl rfl hr1.slv (by omega) rfl ?_)
    exact ⟨rfl, rfl, rfl⟩
   refine pD (fun W R z9 => ?_) ?_
   ·rw [eS (l := [(3, _)]) ⟨z9 3 rfl, ⟨⟩⟩]
    refine qh (jZ (k * 6 + 1) jv rfl qr (by decide) rfl rfl ?_)
    exact ⟨rfl, rfl, rfl⟩
   refine pD (fun W R z9 => ?_) ?_
   ·rw [eS (l := [(4, _)]) ⟨z9 4 rfl, ⟨⟩⟩]
    refine qh (qi qP rfl (hrg1 _ 1 _ rfl) ?_)
    exact ⟨rfl, rfl, rfl⟩
   refine pD (fun W R z9 => ?_) ?_
   ·refine qh (qj (x1) rfl ?_)
    exact ⟨rfl, rfl, rfl⟩
   refine pD (fun W R z9 => ?_) ?_
   ·refine qh (qj (ii ((k : Int))) rfl ?_)
    exact ⟨rfl, rfl, rfl⟩
   refine pD (fun W R z9 => ?_) ?_
   ·rw [eS (l := [(6, _), (7, _)]) ⟨z9 6 rfl, z9 7 rfl, ⟨⟩⟩]
    refine qh (ql k jy jl rfl rfl rfl hr1.slv (by omega) rfl ?_)
    exact ⟨rfl, rfl, rfl⟩
   refine pD (fun W R z9 => ?_) ?_
   ·rw [eS (l := [(8, _)]) ⟨z9 8 rfl, ⟨⟩⟩]
    refine qh (jZ (k * 6 + 2) jv rfl qr (by decide) rfl rfl ?_)
    exact ⟨rfl, rfl, rfl⟩
   refine pD (fun W R z9 => ?_) ?_
   ·rw [eS (l := [(9, _)]) ⟨z9 9 rfl, ⟨⟩⟩]
    refine qh (qi qP rfl (hrg1 _ 2 _ rfl) ?_)
    exact ⟨rfl, rfl, rfl⟩
   exact stepsP.nil
  intro W hphi
  rw [eS (l := [(0, _), (5, _), (10, _)]) ⟨(hphi 0 (by decide)), (hphi 5 (by decide)), (hphi 10 (by decide)), ⟨⟩⟩]
  show XL _ _ _ _ _ _ _ (cellsH b1 [arv, rsv] 66 :: L)
  refine cX (qt (args := [.agg #[arv, rsv], a2, a3]) call80 rfl (l12Par_spec (((((((psO ar rs).getD [])).getD k ([], [], [], 0, 0, 0)).2.1)).length) har hrs ha2 ha3 (hsys := (hsys)) (hoa := ((hnok (by omega)).2.1)) (hob := ((hnok (by omega)).2.2)) (hn := (by first | assumption | rfl | omega | simp))) ?_)
  rintro _ F2 _ le2 ⟨⟨rfl⟩, rfl⟩
  show XL _ _ _ _ _ _ _ (cellsH b1 [arv, rsv] 66 :: L)
  refine cX (jp rfl (qb ?_))
  refine X.cond (t := !(parB ar rs (((((psO ar rs).getD [])).getD k ([], [], [], 0, 0, 0)).2.1) (((((psO ar rs).getD [])).getD k ([], [], [], 0, 0, 0)).2.2.1))) rfl (fun h4 => ?_) (fun h4 => ?_)
  ·have hpb := Bool.not_inj (y := false) h4
   refine qc (qa (qg (.bool (false)) rfl (qb (qy (qz (qk (qk (qz (qk (qs (L' := L) [.bool (false)] (.bool (false)) (.tmp rfl .nil) rfl (qm (qm le1 leG1) le2) rF (sD sR) ?_))))))))))
   exact ⟨congrArg Value.bool (decide_eq_false (fun h9 => by have h8 := (all_getD_iff (([], [], [], 0, 0, 0) : PkT)).1 h9.2.2 k (by omega); rw [hpb] at h8; cases h8)), rfl⟩
  have hpb := Bool.not_inj (y := true) h4
  refine qw (qa (qf (ii ((k : Int))) rfl (cX (qI (((k + 1 : Nat) : Int)) rfl rfl (by omega) (by omega) (qg (ii (((k + 1 : Nat) : Int))) rfl (qb ?_))))))
  exact ⟨(k + 1, F2), _, (qm leG1 le2), rF, ⟨rfl, rfl, rfl, ⟨⟩⟩, (sC sR), ⟨rfl, (qm leG1 le2), (by (try dsimp only) <;> omega), (fun i hi => (Nat.lt_or_ge i k).elim (fun h => hall i h) (fun h => by obtain rfl : i = k := (by omega); exact hpb))⟩, (by omega)⟩
 refine ja (qu (qu (qJ (qc (qa (qg (.bool (true)) rfl (qb (qy (qs (L' := L) [.bool (true)] (.bool (true)) (.tmp rfl .nil) rfl (qm le1 leG1) rF (sD sR) ?_)))))))))
 exact ⟨congrArg Value.bool (decide_eq_true ⟨hpo, by simp_all, (all_getD_iff (([], [], [], 0, 0, 0) : PkT)).2 (fun i hi => hall i (by omega))⟩), rfl⟩

/- laws.FnExactClosedIn -/
set_option maxRecDepth 20000 in
theorem FnExactClosedIn_does {F : FH} {L : List HP} {arv : Value} {ar : List Int} (har : IntsF F arv ar) {rsv : Value} {rs : List (List Int × List Int)} (hrs : PairsF F rsv rs) (hlar : ar.length ≤ 9223372036854775807) (hlrs : rs.length ≤ 9223372036854775807) (hbrs : ∀ i, i < rs.length → (rs.getD i ([], [])).1.length ≤ 9223372036854775807 ∧ (rs.getD i ([], [])).2.length ≤ 9223372036854775807) :
    Does prog 5 [.agg #[arv, rsv]] F (L) (fun v F' L' => (.bool (true) : Value) = v ∧ F = F' ∧ L = L') := by
 refine qD func5 rfl rfl rfl (qc (qa (cX (qV [arv, rsv] rfl rfl ?_))))
 intro b1
 refine qg (.bool (false)) rfl (qb (qc (qa (qg (ii (1048576)) rfl (qb (qc (qa (cX (qB [arv, rsv] isAgg62 sizeOf62 rfl rfl (Rd.ownN [] rfl rfl) (qf (ii (1048576)) rfl (cX (qt (args := [.agg #[arv, rsv], ii (1048576)]) call25 rfl (szSystem_spec (z := 1048576) har hrs (hz := (by first | assumption | rfl | omega | simp)) (hal := (by first | assumption | rfl | omega | simp)) (hrl := (by first | assumption | rfl | omega | simp)) (hrb := (by first | assumption | rfl | omega | simp))) ?_))))))))))))
 rintro _ _ _ _ ⟨rfl, rfl, rfl⟩
 refine qg (ii (dec 1048576 (ar.length + szR rs))) rfl (qb (qc (qc (qa (qf (ii (dec 1048576 (ar.length + szR rs))) rfl (cX (qL rfl rfl (qb ?_))))))))
 refine qx (p := (dec 1048576 (ar.length + szR rs) : Int) < 0) rfl (fun h1 => ?_) (fun h1 => ?_)
 ·refine qc (qa (qg (.bool (true)) rfl (qb (qy (qk (qs (L' := L) [.bool (true)] (.bool (true)) (.tmp rfl .nil) rfl rF rF (sD sR) ?_))))))
  exact ⟨rfl, rfl, rfl⟩
 have hd1 := dec_le2 h1 (by omega)
 have hzrs := szR_le (rs := rs)
 have hirs := hzrs.2
 have hcrs : ∀ i, i < rs.length → (rs.getD i ([], [])).1.length ≤ 4000000 ∧ (rs.getD i ([], [])).2.length ≤ 4000000 := fun i hi => by have := hirs i hi; omega
 have hfrs := flatPair_len rs
 refine qw (qc (qa (cX (qB [arv, rsv] isAgg62 sizeOf62 rfl rfl (Rd.ownN [] rfl rfl) (cX (XOp.thawL (id (qt (args := [.agg #[arv, rsv]]) call27 rfl (toSystem_spec har hrs (hla := (by first | assumption | rfl | omega | simp)) (hrl := (by first | assumption | rfl | omega | simp)) (hrb := (by first | assumption | rfl | omega | simp))) ?_))))))))
 rintro _ F1 _ le1 ⟨x1, x2, rfl, hr1, hr2, hr3, rfl⟩
 refine ⟨[intsH 2 x1 ar, pairsD 2 136 x2 rs], hr3, ?_⟩
 show XL _ _ _ _ _ _ _ (intsH 2 x1 ar :: pairsD 2 136 x2 rs :: cellsH b1 [arv, rsv] 62 :: L)
 refine jY [] _ _ rfl (fun F2 le2 hz1 => ?_)
 replace har := har.mono le2
 replace hrs := hrs.mono le2
 have hf1 : IntsF F2 x1 ar := intsH.fz (xs := ar) hz1.fz
 refine jY [] _ _ rfl (fun F3 le3 hz2 => ?_)
 replace har := har.mono le3
 replace hrs := hrs.mono le3
 replace hf1 := hf1.mono le3
 have hf2 : PairsF F3 x2 rs := pairsD.fz hz2.fz
 refine cX (qt (args := [.agg #[x1, x2]]) call26 rfl (sClosedIn_spec hf1 hf2 (hla := (by first | assumption | rfl | omega | simp)) (hlr := (by first | assumption | rfl | omega | simp)) (hrb := (by first | assumption | rfl | omega | simp))) ?_)
 rintro _ F4 _ le4 ⟨rfl, rfl⟩
 replace har := har.mono le4
 replace hrs := hrs.mono le4
 refine qg (.bool (decide ((psO ar rs).isSome = true ∧ LinS rs ∧ ((psO ar rs).getD []).all ((fun x : PkT => parB ar rs x.2.1 x.2.2.1)) = true))) rfl (qb (qc (qa (cX (qB [arv, rsv] isAgg62 sizeOf62 rfl rfl (Rd.ownN [] rfl rfl) (cX (XOp.thawL (id (qt (args := [.agg #[arv, rsv]]) call27 rfl (toSystem_spec har hrs (hla := (by first | assumption | rfl | omega | simp)) (hrl := (by first | assumption | rfl | omega | simp)) (hrb := (by first | assumption | rfl | omega | simp))) ?_)))))))))
 rintro _ F5 _ le5 ⟨x3, x4, rfl, hr4, hr5, hr6, rfl⟩
 refine ⟨[intsH 2 x3 ar, pairsD 2 136 x4 rs], hr6, ?_⟩
 show XL _ _ _ _ _ _ _ (intsH 2 x3 ar :: pairsD 2 136 x4 rs :: cellsH b1 [arv, rsv] 62 :: L)
 refine cX (jo [sN, sN] zeroValue66 rfl ?_)
 intro b2
 refine cX (jb [] _ [x3, x4] jt rfl rfl rfl (qv (qZ (qG hr4)) (qv (qZ (PairsF.isSl hr5)) jf)) rfl rfl rfl (qb (qc (qa (cX (qB [x3, x4] jF jt rfl rfl (Rd.ownN [] rfl rfl) (jY [_] _ _ rfl (fun F6 le6 hz3 => ?_))))))))
 replace har := har.mono le6
 replace hrs := hrs.mono le6
 have hf3 : IntsF F6 x3 ar := intsH.fz (xs := ar) hz3.fz
 refine jY [_] _ _ rfl (fun F7 le7 hz4 => ?_)
 replace har := har.mono le7
 replace hrs := hrs.mono le7
 replace hf3 := hf3.mono le7
 have hf4 : PairsF F7 x4 rs := pairsD.fz hz4.fz
 refine cX (qt (args := [.agg #[x3, x4]]) call28 rfl (ClosedIn_spec hf3 hf4) ?_)
 rintro _ F8 _ le8 ⟨rfl, rfl⟩
 replace har := har.mono le8
 replace hrs := hrs.mono le8
 replace hf3 := hf3.mono le8
 replace hf4 := hf4.mono le8
 refine qg (.bool (decide ((psO ar rs).isSome = true ∧ LinS rs ∧ ((psO ar rs).getD []).all ((fun x : PkT => parB ar rs x.2.1 x.2.2.1)) = true))) rfl (qb (qc (qc (qa (qf (.bool (decide ((psO ar rs).isSome = true ∧ LinS rs ∧ ((psO ar rs).getD []).all ((fun x : PkT => parB ar rs x.2.1 x.2.2.1)) = true))) rfl (qf (.bool (decide ((psO ar rs).isSome = true ∧ LinS rs ∧ ((psO ar rs).getD []).all ((fun x : PkT => parB ar rs x.2.1 x.2.2.1)) = true))) rfl (cX (XOp.neB (a := decide ((psO ar rs).isSome = true ∧ LinS rs ∧ ((psO ar rs).getD []).all ((fun x : PkT => parB ar rs x.2.1 x.2.2.1)) = true)) (b := decide ((psO ar rs).isSome = true ∧ LinS rs ∧ ((psO ar rs).getD []).all ((fun x : PkT => parB ar rs x.2.1 x.2.2.1)) = true)) runUnderlying4 rfl rfl (qb ?_)))))))))
 refine qx (p := (decide ((psO ar rs).isSome = true ∧ LinS rs ∧ ((psO ar rs).getD []).all ((fun x : PkT => parB ar rs x.2.1 x.2.2.1)) = true)) ≠ (decide ((psO ar rs).isSome = true ∧ LinS rs ∧ ((psO ar rs).getD []).all ((fun x : PkT => parB ar rs x.2.1 x.2.2.1)) = true))) rfl (fun h2 => ?_) (fun h2 => ?_)
 ·exact absurd rfl h2
 refine qw (qc (qc ?_))
 refine X.drawG [cellsH b2 [x3, x4] 66, cellsH b1 [arv, rsv] 62] L 3 [] [[], [], [1]] [] (phiG [pe (.agg #[x3, x4]), pe (.agg #[arv, rsv]), fun FF us v => (.agg #[((aggAt v 0)), ((aggAt v 1))] : Value) = v ∧ (IntsF FF ((aggAt v 0)) ar) ∧ (PairsF FF ((aggAt v 1)) rs)]) (ownL []) mixed rfl rfl (by kernel_rfl) (by kernel_rfl) (MonoG.get (m1 (m1 (mC (fun le h => ⟨h.1, h.2.1.mono le, h.2.2.mono le⟩) MonoG.nil)))) ?_ ?_
 ·refine gD (fun W Fs R lF z9 => ?_) ?_
  ·replace har := har.mono lF
   replace hrs := hrs.mono lF
   replace hf3 := hf3.mono lF
   replace hf4 := hf4.mono lF
   refine qh (qB [x3, x4] jF jt rfl rfl (Rd.ownN [] rfl rfl) ?_)
   exact ⟨rfl, rfl⟩
  refine gD (fun W Fs R lF z9 => ?_) ?_
  ·replace har := har.mono lF
   replace hrs := hrs.mono lF
   replace hf3 := hf3.mono lF
   replace hf4 := hf4.mono lF
   refine qh (qB [arv, rsv] isAgg62 sizeOf62 rfl rfl (Rd.ownN [_] rfl rfl) ?_)
   exact ⟨rfl, rfl⟩
  refine gD (fun W Fs R lF z9 => ?_) ?_
  ·replace har := har.mono lF
   replace hrs := hrs.mono lF
   replace hf3 := hf3.mono lF
   replace hf4 := hf4.mono lF
   rw [eS (l := [(1, _)]) ⟨z9 1 rfl, ⟨⟩⟩]
   refine qh (qt (args := [.agg #[arv, rsv]]) call27 rfl (toSystem_spec har hrs (hla := (by first | assumption | rfl | omega | simp)) (hrl := (by first | assumption | rfl | omega | simp)) (hrb := (by first | assumption | rfl | omega | simp))) ?_)
   rintro _ F10 _ le10 ⟨x7, x8, rfl, hr10, hr11, hr12, rfl⟩
   replace hf3 := hf3.mono le10
   replace hf4 := hf4.mono le10
   exact ⟨⟨rfl, hr10, hr11⟩, rfl⟩
  exact stepsG.nil
 intro W F11 le11 hphi
 obtain ⟨e2, f2_1hr1, f2_1hr2⟩ := hphi 2 (by decide)
 generalize hu1 : ((aggAt (W 2) 0)) = u1 at e2 f2_1hr1 f2_1hr2
 generalize hu2 : ((aggAt (W 2) 1)) = u2 at e2 f2_1hr1 f2_1hr2
 rw [eS (l := [(0, _), (2, (.agg #[u1, u2]))]) ⟨(hphi 0 (by decide)), (e2).symm, ⟨⟩⟩]
 replace hf3 := hf3.mono le11
 replace hf4 := hf4.mono le11
 show XL _ _ _ _ _ _ _ (cellsH b2 [x3, x4] 66 :: cellsH b1 [arv, rsv] 62 :: L)
 refine cX (qt (args := [.agg #[x3, x4], .agg #[u1, u2]]) call29 rfl (eqSystem_spec hf3 hf4 f2_1hr1 f2_1hr2 (hcl := (by first | assumption | rfl | omega | simp)) (hal := (by first | assumption | rfl | omega | simp)) (hbd := (by first | assumption | rfl | omega | simp))) ?_)
 rintro _ _ _ _ ⟨rfl, rfl, rfl⟩
 refine cX (jN rfl (qb ?_))
 refine qx (p := ¬(ar = ar ∧ rs = rs)) rfl (fun h3 => ?_) (fun h3 => ?_)
 ·exact absurd (by first | rfl | exact ⟨rfl, rfl⟩ | exact ⟨⟨rfl, rfl⟩, rfl, rfl⟩ | simp) h3
 refine qw (qc (qa (qg (.bool (true)) rfl (qb (qy (qs (L' := L) [.bool (true)] (.bool (true)) (.tmp rfl .nil) rfl rF (qm (qm (qm (qm (qm (qm le2 le3) le4) le6) le7) le8) le11) (sD (sD sR)) ?_))))))
 exact ⟨rfl, rfl, rfl⟩
end Go.Proofs.YtcdjpapjjoldeaaGreat
