/-
  Walks, one after the other (part 4).
-/
import Derived.Test.YtcdjpapjjoldeaaQOL1
import Derived.Test.YtcdjpapjjoldeaaQOB2
import Derived.Test.YtcdjpapjjoldeaaQOB0
set_option linter.unusedSimpArgs false
set_option linter.unusedVariables false
namespace Go.Proofs.Ytcdjpapjjoldeaa
open Go X M Try

/- spec.l11Away -/
theorem away2_spec {F : FH} {L : List HP} {tv : Value} {t : List Int} (ht : IntsF F tv t) {k : Int} (hk24 : k = 24) (hlt : t.length ≤ 4000000) (htg : ∀ i, i < t.length → -4000000 ≤ t.getD i 0) :
    Does prog 216 [tv, ii (k)] F (L) (fun v F' L' => F = F' ∧ IsSl v ∧ intsH 2 v (awayL t) :: L = L') := by
 refine qM func216 rfl rfl rfl (qc (qa (qh (sN) rfl (qb (qc (qa (cX (qW (s := 1) [] [ii (0)] [] qd qn jx rfl (by decide) rfl CellsAre.nil rfl ?_))))))))
 intro v1 hv1
 refine qh (v1) rfl (qb (qc (qc (qa (qh (ii (0)) rfl (qb (qJ (jk (α := Nat × Value × List Int) (fun xQ => [(0, tv), (1, ii (k)), (5, xQ.2.1), (6, ii (((xQ.1 : Nat) : Int)))]) (fun xQ => intsH 2 xQ.2.1 xQ.2.2 :: L) (fun xQ F' => F = F' ∧ (IsSl xQ.2.1) ∧ (xQ.1 ≤ t.length) ∧ (xQ.2.2 = awayL (t.take xQ.1)) ∧ (xQ.2.2.length = xQ.1)) (fun xQ => t.length - xQ.1) (0, v1, []) ⟨rfl, rfl, rfl, rfl, ⟨⟩⟩ (sC sR) ⟨rfl, ((isSl_lit hv1)), (by (try dsimp only) <;> omega), (rfl), (rfl)⟩ ?_))))))))
 rintro ⟨j, ov, os⟩ rE _ _ ⟨rfl, hov, hj, hos, hol⟩
 show X _ _ _ _ (envs [(0, tv), (1, ii (k)), (5, ov), (6, ii ((j : Int)))] rE) _ (intsH 2 ov os :: L)
 dsimp only at hov hj hos hol
 have hgj := htg j
 refine qc (qc (qa (qf (ii ((j : Int))) rfl (qf (tv) rfl (cX (qE qd rfl ht.slv (cX (qF rfl rfl (qb ?_)))))))))
 refine qw (p := (j : Int) < (t.length : Int)) rfl (fun h1 => ?_) (fun h1 => ?_)
 ·refine qu (qc (qJ (qc (qa (qf (tv) rfl (qf (ii ((j : Int))) rfl (cX (ql j qd qn rfl rfl rfl ht.slv (by omega) (Nat.mul_one _) (cX (qi qB rfl (ht.rd (by omega)) (cX (qF rfl rfl (qb ?_)))))))))))))
  refine qw (p := (t.getD j 0 : Int) < 0) rfl (fun h2 => ?_) (fun h2 => ?_)
  ·refine qa (qf (ov) rfl (qf (tv) rfl (qf (ii ((j : Int))) rfl (cX (ql j qd qn rfl rfl rfl ht.slv (by omega) (Nat.mul_one _) (cX (qi qB rfl (ht.rd (by omega)) (qf (ii (k)) rfl (cX (je ((t.getD j 0) - k) rfl rfl (by omega) (by omega) (cX (qW (s := 1) [ii ((t.getD j 0) - k)] [ii (0)] [(0, [ii ((t.getD j 0) - k)])] qd qn jx rfl (by decide) rfl (.cons rfl CellsAre.nil) rfl ?_))))))))))))
   intro v2 hv2
   refine cX (XOp.append1 (u := (t.getD j 0) - k) [_] _ qd typeInfo2 rfl rfl rfl rfl rfl rfl (SlV.own [] rfl) (Rd.sl [] rfl rfl) (by (try simp only [List.length_append, List.length_nil, List.length_cons, List.length_singleton, List.length_take, List.length_drop]); omega) ?_)
   intro v3 hs1 hn1
   refine qh (v3) rfl (qb (qa (qf (ii ((j : Int))) rfl (cX (qN (((j + 1 : Nat) : Int)) rfl rfl (by omega) (by omega) (qh (ii (((j + 1 : Nat) : Int))) rfl (qb ?_)))))))
   exact ⟨(j + 1, v3, os ++ [(t.getD j 0) - k]), _, FLe.refl _, rF, ⟨rfl, rfl, rfl, rfl, ⟨⟩⟩, (sD (sC sR)), ⟨rfl, (hs1), (by (try dsimp only) <;> omega), (by (try dsimp only); rw [hos]; exact (away_take (by omega) (by first | (left; constructor <;> omega) | (right; constructor <;> omega))).symm), (by (try dsimp only); rw [List.length_append, List.length_singleton]; omega)⟩, (by omega)⟩
  refine qa (qf (ov) rfl (qf (tv) rfl (qf (ii ((j : Int))) rfl (cX (ql j qd qn rfl rfl rfl ht.slv (by omega) (Nat.mul_one _) (cX (qi qB rfl (ht.rd (by omega)) (cX (qW (s := 1) [ii (t.getD j 0)] [ii (0)] [(0, [ii (t.getD j 0)])] qd qn jx rfl (by decide) rfl (.cons rfl CellsAre.nil) rfl ?_)))))))))
  intro v4 hv3
  refine cX (XOp.append1 (u := t.getD j 0) [_] _ qd typeInfo2 rfl rfl rfl rfl rfl rfl (SlV.own [] rfl) (Rd.sl [] rfl rfl) (by (try simp only [List.length_append, List.length_nil, List.length_cons, List.length_singleton, List.length_take, List.length_drop]); omega) ?_)
  intro v5 hs2 hn2
  refine qh (v5) rfl (qb (qa (qf (ii ((j : Int))) rfl (cX (qN (((j + 1 : Nat) : Int)) rfl rfl (by omega) (by omega) (qh (ii (((j + 1 : Nat) : Int))) rfl (qb ?_)))))))
  exact ⟨(j + 1, v5, os ++ [t.getD j 0]), _, FLe.refl _, rF, ⟨rfl, rfl, rfl, rfl, ⟨⟩⟩, (sD (sC sR)), ⟨rfl, (hs2), (by (try dsimp only) <;> omega), (by (try dsimp only); rw [hos]; exact (away_take (by omega) (by first | (left; constructor <;> omega) | (right; constructor <;> omega))).symm), (by (try dsimp only); rw [List.length_append, List.length_singleton]; omega)⟩, (by omega)⟩
 refine jg (qv (qv (qO (qc (qa (qf (ov) rfl (qh (ov) rfl (qb (qA (qt (L' := intsH 2 ov os :: L) [ov] (ov) (.tmp rfl .nil) rfl rF rF (sC sR) ?_))))))))))
 refine ⟨rfl, hov, ?_⟩
 have hxs : (awayL t : List Int) = os := by rw [hos, show j = t.length from by omega, List.take_length]
 exact congrArg (fun z => intsH 2 _ z :: L) hxs

/- spec.l11Full -/
set_option maxHeartbeats 1000000 in
theorem full_step {k : Nat} (ih : ∀ k9 : Nat, k9 < k → ∀ {F : FH} {L : List HP} {ub : Nat} {ov : Value} {ocs : List Value} {ar : List Int} {bl : RowL} (hov : IsSl ov) (hC : RowsC F ocs bl) (hb : BOk ar bl) {σ : Sbs} {ρ : Int → Nat} {tv : Value} {t : List Int} (ht : IntsF F tv t) (hσ : Sol bl σ) (hρ : Acyc bl ρ) (htk : ∀ m ∈ t, m < 0 → ρ m < k9) (htg : ∀ i, i < t.length → -48 ≤ t.getD i 0) (htl : t.length ≤ 200), Does prog 217 [ptr ub 0, tv] F (cellsH ub [ov] 234 :: slH 27 1 ov 48 ocs :: L) (fun v F' L' => IsSl v ∧ F = F' ∧ intsH 2 v ((fullX σ t)) :: cellsH ub [ov] 234 :: slH 27 1 ov 48 ocs :: L = L')) {F : FH} {L : List HP} {ub : Nat} {ov : Value} {ocs : List Value} {ar : List Int} {bl : RowL} (hov : IsSl ov) (hC : RowsC F ocs bl) (hb : BOk ar bl) {σ : Sbs} {ρ : Int → Nat} {tv : Value} {t : List Int} (ht : IntsF F tv t) (hσ : Sol bl σ) (hρ : Acyc bl ρ) (htk : ∀ m ∈ t, m < 0 → ρ m < k) (htg : ∀ i, i < t.length → -48 ≤ t.getD i 0) (htl : t.length ≤ 200) :
    Does prog 217 [ptr ub 0, tv] F (cellsH ub [ov] 234 :: slH 27 1 ov 48 ocs :: L) (fun v F' L' => IsSl v ∧ F = F' ∧ intsH 2 v ((fullX σ t)) :: cellsH ub [ov] 234 :: slH 27 1 ov 48 ocs :: L = L') := by
 refine qM func217 rfl rfl rfl ?_
 have hbl := hb.len
 refine qc (qa (qh (sN) rfl (qb (qc (qa (cX (qW (s := 1) [] [ii (0)] [] qd qn jx rfl (by decide) rfl CellsAre.nil rfl ?_)))))))
 intro v1 hv1
 refine qh (v1) rfl (qb (qc (qc (qa (qh (ii (0)) rfl (qb (qJ (jk (α := Nat × Value × List Int) (fun xQ => [(0, ptr ub 0), (1, tv), (5, xQ.2.1), (6, ii (((xQ.1 : Nat) : Int)))]) (fun xQ => intsH 2 xQ.2.1 xQ.2.2 :: cellsH ub [ov] 234 :: slH 27 1 ov 48 ocs :: L) (fun xQ F' => F = F' ∧ (IsSl xQ.2.1) ∧ (xQ.1 ≤ t.length) ∧ (xQ.2.2 = ap σ (t.take xQ.1)) ∧ (xQ.2.2.length ≤ 60)) (fun xQ => t.length - xQ.1) (0, v1, []) ⟨rfl, rfl, rfl, rfl, ⟨⟩⟩ (sC (sC (sC sR))) ⟨rfl, ((isSl_lit hv1)), (by (try dsimp only) <;> omega), (by simp [ap]), (Nat.zero_le _)⟩ ?_))))))))
 rintro ⟨j, wv, ws⟩ rE _ _ ⟨rfl, hwv, hj, hws, hwl⟩
 show X _ _ _ _ (envs [(0, ptr ub 0), (1, tv), (5, wv), (6, ii ((j : Int)))] rE) _ (intsH 2 wv ws :: cellsH ub [ov] 234 :: slH 27 1 ov 48 ocs :: L)
 dsimp only at hwv hj hws hwl
 have hgj := fun h : j < t.length => htg j h
 have hwl2 : ws.length = (ap σ (t.take j)).length := congrArg List.length hws
 refine qc (qc (qa (qf (ii ((j : Int))) rfl (qf (tv) rfl (cX (qE qd rfl ht.slv (cX (qF rfl rfl (qb ?_)))))))))
 refine qw (p := (j : Int) < (t.length : Int)) rfl (fun h1 => ?_) (fun h1 => ?_)
 ·refine qu (qc (qJ (qc (qc ?_))))
  by_cases h2 : (t.getD j 0 : Int) ≥ 0
  ·have hsj : σ (t.getD j 0) = [(t.getD j 0)] := hσ.sym (by omega)
   refine jj [intsH 2 wv ws, cellsH ub [ov] 234, slH 27 1 ov 48 ocs] L 15 [] [[], [], [0, 1], [2], [3], [4], [5], [5, 6], [5, 7], [5, 8], [5], [5], [5, 10, 11], [5, 12], [5, 13]] (phiL [qe tv, qe (ii ((j : Int)) : Value), qe (.pointer (some (elemA tv (j)))), qe (ii (t.getD j 0)), qe (.bool (decide ((t.getD j 0 : Int) ≥ 0)) : Value), qe (.bool (decide ((t.getD j 0 : Int) ≥ 0)) : Value), qe undef, qe undef, qe undef, qe undef, qe undef, qe undef, qe undef, qe undef, qe undef]) (ownL []) mixed rfl rfl (by kernel_rfl) ?_ ?_
   ·refine pD (fun W R z9 => ?_) ?_
    ·refine qg (qj (tv) rfl ?_)
     exact ⟨rfl, rfl, rfl⟩
    refine pD (fun W R z9 => ?_) ?_
    ·refine qg (qj (ii ((j : Int))) rfl ?_)
     exact ⟨rfl, rfl, rfl⟩
    refine pD (fun W R z9 => ?_) ?_
    ·rw [eS (l := [(0, _), (1, _)]) ⟨z9 0 rfl, z9 1 rfl, ⟨⟩⟩]
     refine qg (ql j qd qn rfl rfl rfl ht.slv (by omega) (Nat.mul_one _) ?_)
     exact ⟨rfl, rfl, rfl⟩
    refine pD (fun W R z9 => ?_) ?_
    ·rw [eS (l := [(2, _)]) ⟨z9 2 rfl, ⟨⟩⟩]
     refine qg (qi qB rfl (ht.rd (by omega)) ?_)
     exact ⟨rfl, rfl, rfl⟩
    refine pD (fun W R z9 => ?_) ?_
    ·rw [eS (l := [(3, _)]) ⟨z9 3 rfl, ⟨⟩⟩]
     refine qg (jM rfl rfl ?_)
     exact ⟨rfl, rfl, rfl⟩
    refine pD (fun W R z9 => ?_) ?_
    ·rw [eS (l := [(4, _)]) ⟨z9 4 rfl, ⟨⟩⟩]
     refine qg (qj (.bool (decide ((t.getD j 0 : Int) ≥ 0))) rfl ?_)
     exact ⟨rfl, rfl, rfl⟩
    refine pD (fun W R z9 => ?_) ?_
    ·rw [eS (l := [(5, _)]) ⟨z9 5 rfl, ⟨⟩⟩]
     exact qZ (t := 20) rfl (vT h2) ⟨rfl, rfl, rfl⟩
    refine pD (fun W R z9 => ?_) ?_
    ·rw [eS (l := [(5, _), (6, undef)]) ⟨z9 5 rfl, z9 6 rfl, ⟨⟩⟩]
     exact qZ (t := 20) rfl (vT h2) ⟨rfl, rfl, rfl⟩
    refine pD (fun W R z9 => ?_) ?_
    ·rw [eS (l := [(5, _), (7, undef)]) ⟨z9 5 rfl, z9 7 rfl, ⟨⟩⟩]
     exact qZ (t := 20) rfl (vT h2) ⟨rfl, rfl, rfl⟩
    refine pD (fun W R z9 => ?_) ?_
    ·rw [eS (l := [(5, _), (8, undef)]) ⟨z9 5 rfl, z9 8 rfl, ⟨⟩⟩]
     exact qZ (t := 20) rfl (vT h2) ⟨rfl, rfl, rfl⟩
    refine pD (fun W R z9 => ?_) ?_
    ·rw [eS (l := [(5, _)]) ⟨z9 5 rfl, ⟨⟩⟩]
     exact qZ (t := 20) rfl (vT h2) ⟨rfl, rfl, rfl⟩
    refine pD (fun W R z9 => ?_) ?_
    ·rw [eS (l := [(5, _)]) ⟨z9 5 rfl, ⟨⟩⟩]
     exact qZ (t := 20) rfl (vT h2) ⟨rfl, rfl, rfl⟩
    refine pD (fun W R z9 => ?_) ?_
    ·rw [eS (l := [(5, _), (10, undef), (11, undef)]) ⟨z9 5 rfl, z9 10 rfl, z9 11 rfl, ⟨⟩⟩]
     exact qZ (t := 20) rfl (vT h2) ⟨rfl, rfl, rfl⟩
    refine pD (fun W R z9 => ?_) ?_
    ·rw [eS (l := [(5, _), (12, undef)]) ⟨z9 5 rfl, z9 12 rfl, ⟨⟩⟩]
     exact qZ (t := 20) rfl (vT h2) ⟨rfl, rfl, rfl⟩
    refine pD (fun W R z9 => ?_) ?_
    ·rw [eS (l := [(5, _), (13, undef)]) ⟨z9 5 rfl, z9 13 rfl, ⟨⟩⟩]
     exact qZ (t := 20) rfl (vT h2) ⟨rfl, rfl, rfl⟩
    exact stepsP.nil
   intro W hphi
   rw [eS (l := [(5, _), (9, undef), (14, undef)]) ⟨(hphi 5 (by decide)), (hphi 9 (by decide)), (hphi 14 (by decide)), ⟨⟩⟩]
   show XL _ _ _ _ _ _ _ (intsH 2 wv ws :: cellsH ub [ov] 234 :: slH 27 1 ov 48 ocs :: L)
   refine qr (t := 20) rfl (vT h2) (qr (t := 20) rfl (vT h2) (qr (t := 20) rfl (vT h2) (qr (t := 20) rfl (vT h2) (cX (qV (.bool (true)) (vT h2) rfl (qb (jA rfl (qa (qf (wv) rfl (qf (tv) rfl ?_))))))))))
   refine qf (ii ((j : Int))) rfl (cX (ql j qd qn rfl rfl rfl ht.slv (by omega) (Nat.mul_one _) (cX (qi qB rfl (ht.rd (by omega)) (cX (qW (s := 1) [ii (t.getD j 0)] [ii (0)] [(0, [ii (t.getD j 0)])] qd qn jx rfl (by decide) rfl (.cons rfl CellsAre.nil) rfl ?_))))))
   intro v2 hv2
   refine cX (XOp.append1 (u := t.getD j 0) [_] _ qd typeInfo2 rfl rfl rfl rfl rfl rfl (SlV.own [] rfl) (Rd.sl [] rfl rfl) (by (try simp only [List.length_append, List.length_nil, List.length_cons, List.length_singleton, List.length_take, List.length_drop]); omega) ?_)
   intro v3 hs1 hn1
   refine qh (v3) rfl (qb (qc (qa (qf (v3) rfl (cX (qE qd rfl (intsH.slv [_] rfl) (cX (XOp.gtr rfl rfl (qb ?_)))))))))
   refine qw (p := ((((ws ++ [t.getD j 0]).length : Nat) : Int) : Int) > 60) rfl (fun h3 => ?_) (fun h3 => ?_)
   ·have hnext : ws ++ [t.getD j 0] = ws ++ σ (t.getD j 0) := by rw [hsj]
    have hbig2 : 60 < (ws ++ σ (t.getD j 0)).length := by rw [← hnext]; omega
    refine qc (qa (cX (qW (s := 1) [] [ii (0)] [] qd qn jx rfl (by decide) rfl CellsAre.nil rfl ?_)))
    intro v4 hv3
    refine qh (v4) rfl (qb (qA (qz (qk (qk (qz (qk (qt (L' := intsH 2 v4 ([]) :: cellsH ub [ov] 234 :: slH 27 1 ov 48 ocs :: L) [v4] (v4) (.tmp rfl .nil) rfl rF rF (sC (sD (sD (sC (sC sR))))) ?_))))))))
    have e9 : fullX σ t = [] := full_no (σ := σ) (j := j) (by omega) (by rw [List.length_append] at hbig2; omega)
    rw [e9]
    exact ⟨(isSl_lit hv3), rfl, rfl⟩
   have hnext : ws ++ [t.getD j 0] = ws ++ σ (t.getD j 0) := by rw [hsj]
   have hnlen : (ws ++ [t.getD j 0]).length ≤ 60 := by omega
   refine qu (qa (qf (ii ((j : Int))) rfl (cX (qN (((j + 1 : Nat) : Int)) rfl rfl (by omega) (by omega) (qh (ii (((j + 1 : Nat) : Int))) rfl (qb ?_))))))
   exact ⟨(j + 1, v3, ws ++ [t.getD j 0]), _, FLe.refl _, rF, ⟨rfl, rfl, rfl, rfl, ⟨⟩⟩, (sD (sC (sC (sC sR)))), ⟨rfl, (hs1), (by (try dsimp only) <;> omega), (by (try dsimp only); rw [ap_take (by omega), ← hws]; exact hnext), (by (try dsimp only); exact hnlen)⟩, (by omega)⟩
  have hj0 : t.getD j 0 < 0 := by omega
  have hgj2 := hgj (by omega)
  have hrj := htk _ (mem_of_getD (k := j) (by omega) rfl) hj0
  refine jj [intsH 2 wv ws, cellsH ub [ov] 234, slH 27 1 ov 48 ocs] L 15 [] [[], [], [0, 1], [2], [3], [4], [5], [5, 6], [5, 7], [5, 8], [5], [5], [5, 10, 11], [5, 12], [5, 13]] (phiL [qe tv, qe (ii ((j : Int)) : Value), qe (.pointer (some (elemA tv (j)))), qe (ii (t.getD j 0)), qe (.bool (decide ((t.getD j 0 : Int) ≥ 0)) : Value), qe (.bool (decide ((t.getD j 0 : Int) ≥ 0)) : Value), qe (ptr ub 0), qe (ptr ub 0), qe (ptr ub 0), qe ov, qe tv, qe (ii ((j : Int)) : Value), qe (.pointer (some (elemA tv (j)))), qe (ii (t.getD j 0)), qe (ii ((-1) - (t.getD j 0)))]) (ownL []) mixed rfl rfl (by kernel_rfl) ?_ ?_
  ·refine pD (fun W R z9 => ?_) ?_
   ·refine qg (qj (tv) rfl ?_)
    exact ⟨rfl, rfl, rfl⟩
   refine pD (fun W R z9 => ?_) ?_
   ·refine qg (qj (ii ((j : Int))) rfl ?_)
    exact ⟨rfl, rfl, rfl⟩
   refine pD (fun W R z9 => ?_) ?_
   ·rw [eS (l := [(0, _), (1, _)]) ⟨z9 0 rfl, z9 1 rfl, ⟨⟩⟩]
    refine qg (ql j qd qn rfl rfl rfl ht.slv (by omega) (Nat.mul_one _) ?_)
    exact ⟨rfl, rfl, rfl⟩
   refine pD (fun W R z9 => ?_) ?_
   ·rw [eS (l := [(2, _)]) ⟨z9 2 rfl, ⟨⟩⟩]
    refine qg (qi qB rfl (ht.rd (by omega)) ?_)
    exact ⟨rfl, rfl, rfl⟩
   refine pD (fun W R z9 => ?_) ?_
   ·rw [eS (l := [(3, _)]) ⟨z9 3 rfl, ⟨⟩⟩]
    refine qg (jM rfl rfl ?_)
    exact ⟨rfl, rfl, rfl⟩
   refine pD (fun W R z9 => ?_) ?_
   ·rw [eS (l := [(4, _)]) ⟨z9 4 rfl, ⟨⟩⟩]
    refine qg (qj (.bool (decide ((t.getD j 0 : Int) ≥ 0))) rfl ?_)
    exact ⟨rfl, rfl, rfl⟩
   refine pD (fun W R z9 => ?_) ?_
   ·rw [eS (l := [(5, _)]) ⟨z9 5 rfl, ⟨⟩⟩]
    refine qQ (t := 20) rfl (vF h2) (qj (ptr ub 0) rfl ?_)
    exact ⟨rfl, rfl, rfl⟩
   refine pD (fun W R z9 => ?_) ?_
   ·rw [eS (l := [(5, _), (6, _)]) ⟨z9 5 rfl, z9 6 rfl, ⟨⟩⟩]
    refine qQ (t := 20) rfl (vF h2) (qP rfl ?_)
    exact ⟨rfl, rfl, rfl⟩
   refine pD (fun W R z9 => ?_) ?_
   ·rw [eS (l := [(5, _), (7, _)]) ⟨z9 5 rfl, z9 7 rfl, ⟨⟩⟩]
    refine qQ (t := 20) rfl (vF h2) (qm (0) jF rfl sizeOf34 (by decide) rfl rfl ?_)
    exact ⟨rfl, rfl, rfl⟩
   refine pD (fun W R z9 => ?_) ?_
   ·rw [eS (l := [(5, _), (8, _)]) ⟨z9 5 rfl, z9 8 rfl, ⟨⟩⟩]
    refine qQ (t := 20) rfl (vF h2) (qi isAgg34 rfl (Rd.own [_] rfl rfl) ?_)
    exact ⟨rfl, rfl, rfl⟩
   refine pD (fun W R z9 => ?_) ?_
   ·rw [eS (l := [(5, _)]) ⟨z9 5 rfl, ⟨⟩⟩]
    refine qQ (t := 20) rfl (vF h2) (qj (tv) rfl ?_)
    exact ⟨rfl, rfl, rfl⟩
   refine pD (fun W R z9 => ?_) ?_
   ·rw [eS (l := [(5, _)]) ⟨z9 5 rfl, ⟨⟩⟩]
    refine qQ (t := 20) rfl (vF h2) (qj (ii ((j : Int))) rfl ?_)
    exact ⟨rfl, rfl, rfl⟩
   refine pD (fun W R z9 => ?_) ?_
   ·rw [eS (l := [(5, _), (10, _), (11, _)]) ⟨z9 5 rfl, z9 10 rfl, z9 11 rfl, ⟨⟩⟩]
    refine qQ (t := 20) rfl (vF h2) (ql j qd qn rfl rfl rfl ht.slv (by omega) (Nat.mul_one _) ?_)
    exact ⟨rfl, rfl, rfl⟩
   refine pD (fun W R z9 => ?_) ?_
   ·rw [eS (l := [(5, _), (12, _)]) ⟨z9 5 rfl, z9 12 rfl, ⟨⟩⟩]
    refine qQ (t := 20) rfl (vF h2) (qi qB rfl (ht.rd (by omega)) ?_)
    exact ⟨rfl, rfl, rfl⟩
   refine pD (fun W R z9 => ?_) ?_
   ·rw [eS (l := [(5, _), (13, _)]) ⟨z9 5 rfl, z9 13 rfl, ⟨⟩⟩]
    refine qQ (t := 20) rfl (vF h2) (je ((-1) - (t.getD j 0)) rfl rfl (by omega) (by omega) ?_)
    exact ⟨rfl, rfl, rfl⟩
   exact stepsP.nil
  intro W hphi
  rw [eS (l := [(5, _), (9, _), (14, _)]) ⟨(hphi 5 (by decide)), (hphi 9 (by decide)), (hphi 14 (by decide)), ⟨⟩⟩]
  show XL _ _ _ _ _ _ _ (intsH 2 wv ws :: cellsH ub [ov] 234 :: slH 27 1 ov 48 ocs :: L)
  refine qs (t := 20) rfl (vF h2) (ql (((-1) - (t.getD j 0)).toNat) qH qp rfl rfl (by omega) (SlV.own [_, _] rfl) (by omega) (Nat.mul_one _) ?_)
  obtain ⟨a1, ha1, he1⟩ := hC.get (i := ((-1) - (t.getD j 0)).toNat) (by omega)
  refine qs (t := 20) rfl (vF h2) (qi qL rfl (Rd.sl [_, _] rfl he1) (qs (t := 20) rfl (vF h2) (qE qd rfl ha1.slv (qs (t := 20) rfl (vF h2) (jH rfl rfl (cX (qT (.bool (decide ((((((bl.getD (((-1) - (t.getD j 0)).toNat) [])).length : Nat) : Int) : Int) = 0))) (vF h2) rfl (qb ?_))))))))
  refine qw (p := (((((bl.getD (((-1) - (t.getD j 0)).toNat) [])).length : Nat) : Int) : Int) = 0) rfl (fun h4 => ?_) (fun h4 => ?_)
  ·have hsj : σ (t.getD j 0) = [(t.getD j 0)] := hσ.free (by rw [lkN_get hj0]; exact List.eq_nil_of_length_eq_zero (by unfold varIx; omega))
   refine qa (qf (wv) rfl (qf (tv) rfl (qf (ii ((j : Int))) rfl (cX (ql j qd qn rfl rfl rfl ht.slv (by omega) (Nat.mul_one _) (cX (qi qB rfl (ht.rd (by omega)) (cX (qW (s := 1) [ii (t.getD j 0)] [ii (0)] [(0, [ii (t.getD j 0)])] qd qn jx rfl (by decide) rfl (.cons rfl CellsAre.nil) rfl ?_)))))))))
   intro v5 hv4
   refine cX (XOp.append1 (u := t.getD j 0) [_] _ qd typeInfo2 rfl rfl rfl rfl rfl rfl (SlV.own [] rfl) (Rd.sl [] rfl rfl) (by (try simp only [List.length_append, List.length_nil, List.length_cons, List.length_singleton, List.length_take, List.length_drop]); omega) ?_)
   intro v6 hs2 hn2
   refine qh (v6) rfl (qb (qc (qa (qf (v6) rfl (cX (qE qd rfl (intsH.slv [_] rfl) (cX (XOp.gtr rfl rfl (qb ?_)))))))))
   refine qw (p := ((((ws ++ [t.getD j 0]).length : Nat) : Int) : Int) > 60) rfl (fun h5 => ?_) (fun h5 => ?_)
   ·have hnext : ws ++ [t.getD j 0] = ws ++ σ (t.getD j 0) := by rw [hsj]
    have hbig2 : 60 < (ws ++ σ (t.getD j 0)).length := by rw [← hnext]; omega
    refine qc (qa (cX (qW (s := 1) [] [ii (0)] [] qd qn jx rfl (by decide) rfl CellsAre.nil rfl ?_)))
    intro v7 hv5
    refine qh (v7) rfl (qb (qA (qz (qk (qk (qz (qk (qt (L' := intsH 2 v7 ([]) :: cellsH ub [ov] 234 :: slH 27 1 ov 48 ocs :: L) [v7] (v7) (.tmp rfl .nil) rfl rF rF (sC (sD (sD (sC (sC sR))))) ?_))))))))
    have e9 : fullX σ t = [] := full_no (σ := σ) (j := j) (by omega) (by rw [List.length_append] at hbig2; omega)
    rw [e9]
    exact ⟨(isSl_lit hv5), rfl, rfl⟩
   have hnext : ws ++ [t.getD j 0] = ws ++ σ (t.getD j 0) := by rw [hsj]
   have hnlen : (ws ++ [t.getD j 0]).length ≤ 60 := by omega
   refine qu (qa (qf (ii ((j : Int))) rfl (cX (qN (((j + 1 : Nat) : Int)) rfl rfl (by omega) (by omega) (qh (ii (((j + 1 : Nat) : Int))) rfl (qb ?_))))))
   exact ⟨(j + 1, v6, ws ++ [t.getD j 0]), _, FLe.refl _, rF, ⟨rfl, rfl, rfl, rfl, ⟨⟩⟩, (sD (sC (sC (sC sR)))), ⟨rfl, (hs2), (by (try dsimp only) <;> omega), (by (try dsimp only); rw [ap_take (by omega), ← hws]; exact hnext), (by (try dsimp only); exact hnlen)⟩, (by omega)⟩
  have hlj : lkN bl (t.getD j 0) ≠ [] := fun e => by (have e9 : (bl.getD (varIx (t.getD j 0)) []).length = 0 := by rw [← lkN_get hj0, e]; rfl); unfold varIx at e9; omega
  have hwj := hb.wt _ hj0 hlj
  rw [lkN_get hj0] at hwj
  have hsj : σ (t.getD j 0) = ap σ (bl.getD (varIx (t.getD j 0)) []) := by rw [hσ.bound hlj, lkN_get hj0]
  have hfl : (fullX σ (bl.getD (-1 - (t.getD j 0)).toNat [])).length ≤ 60 := fullX_len
  refine qc ?_
  refine jj [intsH 2 wv ws, cellsH ub [ov] 234, slH 27 1 ov 48 ocs] L 12 [] [[], [], [1], [2], [3], [], [], [5, 6], [7], [8], [4, 9], [10]] (phiL [qe (ptr ub 0), qe (ptr ub 0), qe (ptr ub 0), qe (ptr ub 0), qe ov, qe tv, qe (ii ((j : Int)) : Value), qe (.pointer (some (elemA tv (j)))), qe (ii (t.getD j 0)), qe (ii ((-1) - (t.getD j 0))), qe (.pointer (some (elemA ov (((-1) - (t.getD j 0)).toNat)))), qe a1]) (ownL []) mixed rfl rfl (by kernel_rfl) ?_ ?_
  ·refine pD (fun W R z9 => ?_) ?_
   ·refine qg (qj (ptr ub 0) rfl ?_)
    exact ⟨rfl, rfl, rfl⟩
   refine pD (fun W R z9 => ?_) ?_
   ·refine qg (qj (ptr ub 0) rfl ?_)
    exact ⟨rfl, rfl, rfl⟩
   refine pD (fun W R z9 => ?_) ?_
   ·rw [eS (l := [(1, _)]) ⟨z9 1 rfl, ⟨⟩⟩]
    refine qg (qP rfl ?_)
    exact ⟨rfl, rfl, rfl⟩
   refine pD (fun W R z9 => ?_) ?_
   ·rw [eS (l := [(2, _)]) ⟨z9 2 rfl, ⟨⟩⟩]
    refine qg (qm (0) jF rfl sizeOf34 (by decide) rfl rfl ?_)
    exact ⟨rfl, rfl, rfl⟩
   refine pD (fun W R z9 => ?_) ?_
   ·rw [eS (l := [(3, _)]) ⟨z9 3 rfl, ⟨⟩⟩]
    refine qg (qi isAgg34 rfl (Rd.own [_] rfl rfl) ?_)
    exact ⟨rfl, rfl, rfl⟩
   refine pD (fun W R z9 => ?_) ?_
   ·refine qg (qj (tv) rfl ?_)
    exact ⟨rfl, rfl, rfl⟩
   refine pD (fun W R z9 => ?_) ?_
   ·refine qg (qj (ii ((j : Int))) rfl ?_)
    exact ⟨rfl, rfl, rfl⟩
   refine pD (fun W R z9 => ?_) ?_
   ·rw [eS (l := [(5, _), (6, _)]) ⟨z9 5 rfl, z9 6 rfl, ⟨⟩⟩]
    refine qg (ql j qd qn rfl rfl rfl ht.slv (by omega) (Nat.mul_one _) ?_)
    exact ⟨rfl, rfl, rfl⟩
   refine pD (fun W R z9 => ?_) ?_
   ·rw [eS (l := [(7, _)]) ⟨z9 7 rfl, ⟨⟩⟩]
    refine qg (qi qB rfl (ht.rd (by omega)) ?_)
    exact ⟨rfl, rfl, rfl⟩
   refine pD (fun W R z9 => ?_) ?_
   ·rw [eS (l := [(8, _)]) ⟨z9 8 rfl, ⟨⟩⟩]
    refine qg (je ((-1) - (t.getD j 0)) rfl rfl (by omega) (by omega) ?_)
    exact ⟨rfl, rfl, rfl⟩
   refine pD (fun W R z9 => ?_) ?_
   ·rw [eS (l := [(4, _), (9, _)]) ⟨z9 4 rfl, z9 9 rfl, ⟨⟩⟩]
    refine qg (ql (((-1) - (t.getD j 0)).toNat) qH qp rfl rfl (by omega) (SlV.own [_, _] rfl) (by omega) (Nat.mul_one _) ?_)
    exact ⟨rfl, rfl, rfl⟩
   refine pD (fun W R z9 => ?_) ?_
   ·rw [eS (l := [(10, _)]) ⟨z9 10 rfl, ⟨⟩⟩]
    refine qg (qi qL rfl (Rd.sl [_, _] rfl he1) ?_)
    exact ⟨rfl, rfl, rfl⟩
   exact stepsP.nil
  intro W hphi
  rw [eS (l := [(0, _), (11, _)]) ⟨(hphi 0 (by decide)), (hphi 11 (by decide)), ⟨⟩⟩]
  show XL _ _ _ _ _ _ _ (intsH 2 wv ws :: cellsH ub [ov] 234 :: slH 27 1 ov 48 ocs :: L)
  refine qU (qx (A := [_, _])) ?_
  show XL _ _ _ _ _ _ _ (slH 27 1 ov 48 ocs :: intsH 2 wv ws :: cellsH ub [ov] 234 :: L)
  refine qU (qx (A := [_, _])) ?_
  show XL _ _ _ _ _ _ _ (cellsH ub [ov] 234 :: slH 27 1 ov 48 ocs :: intsH 2 wv ws :: L)
  refine cX (qq (args := [ptr ub 0, a1]) call217 rfl (ih _ hrj hov hC hb ha1 hσ hρ (fun m hm h0 => hρ _ hj0 m (by rw [lkN_get hj0]; exact hm) h0) (fun i hi => hwj.geD hi) (by have := hwj.len; unfold varIx at this; omega)) ?_)
  rintro v8 _ _ _ ⟨hs3, rfl, rfl⟩
  refine qh (v8) rfl (qb (qc (qc (qa (qf (v8) rfl (cX (qE qd rfl (intsH.slv [] rfl) (cX (jH rfl rfl (qb ?_))))))))))
  refine qw (p := (((((fullX σ ((bl.getD (((-1) - (t.getD j 0)).toNat) [])))).length : Nat) : Int) : Int) = 0) rfl (fun h6 => ?_) (fun h6 => ?_)
  ·have hbig := (fullX_nil hwj.len.1 (hσ.good hb)).1 (List.eq_nil_of_length_eq_zero (by unfold varIx; omega))
   refine qc (qa (cX (qW (s := 1) [] [ii (0)] [] qd qn jx rfl (by decide) rfl CellsAre.nil rfl ?_)))
   intro v9 hv6
   refine qh (v9) rfl (qb (qA (qk (qk (qz (qk (qk (qz (qk (qt (L' := intsH 2 v9 ([]) :: cellsH ub [ov] 234 :: slH 27 1 ov 48 ocs :: L) [v9] (v9) (.tmp rfl .nil) rfl rF rF (sC (sD (sC (sC (sD sR))))) ?_))))))))))
   have e9 : fullX σ t = [] := full_no (σ := σ) (j := j) (by omega) (by rw [hsj]; omega)
   rw [e9]
   exact ⟨(isSl_lit hv6), rfl, rfl⟩
  have hfx : fullX σ (bl.getD (varIx (t.getD j 0)) []) = ap σ (bl.getD (varIx (t.getD j 0)) []) := fullX_yes (fun e => by (have e9 : (fullX σ (bl.getD (varIx (t.getD j 0)) [])).length = 0 := by rw [e]; rfl); unfold varIx at e9; omega)
  refine qu (qa (qf (wv) rfl (qf (v8) rfl (XL.freezeF [] _ _ rfl (fun F1 le1 hz1 => ?_)))))
  have hf1 : IntsF F1 v8 ((fullX σ ((bl.getD (((-1) - (t.getD j 0)).toNat) [])))) := intsH.fz (xs := (fullX σ ((bl.getD (((-1) - (t.getD j 0)).toNat) [])))) hz1.fz
  refine cX (XOp.appendI [_, _] _ qd typeInfo2 rfl rfl rfl rfl rfl rfl hf1 (by (try simp only [List.length_append, List.length_nil, List.length_cons, List.length_singleton, List.length_take, List.length_drop]); omega) ?_)
  intro v10 hs4 hn3 hm1
  refine qh (v10) rfl (qb (qc (qa (qf (v10) rfl (cX (qE qd rfl (intsH.slv [_, _] rfl) (cX (XOp.gtr rfl rfl (qb ?_)))))))))
  refine qw (p := ((((ws ++ ((fullX σ ((bl.getD (((-1) - (t.getD j 0)).toNat) []))))).length : Nat) : Int) : Int) > 60) rfl (fun h7 => ?_) (fun h7 => ?_)
  ·have hnext : ws ++ ((fullX σ ((bl.getD (((-1) - (t.getD j 0)).toNat) [])))) = ws ++ σ (t.getD j 0) := by rw [hsj, ← hfx]; rfl
   have hbig2 : 60 < (ws ++ σ (t.getD j 0)).length := by rw [← hnext]; omega
   refine qc (qa (cX (qW (s := 1) [] [ii (0)] [] qd qn jx rfl (by decide) rfl CellsAre.nil rfl ?_)))
   intro v11 hv7
   refine qh (v11) rfl (qb (qA (qz (qk (qk (qz (qk (qt (L' := intsH 2 v11 ([]) :: cellsH ub [ov] 234 :: slH 27 1 ov 48 ocs :: L) [v11] (v11) (.tmp rfl .nil) rfl rF le1 (sC (sC (sC (sD sR)))) ?_))))))))
   have e9 : fullX σ t = [] := full_no (σ := σ) (j := j) (by omega) (by rw [List.length_append] at hbig2; omega)
   rw [e9]
   exact ⟨(isSl_lit hv7), rfl, rfl⟩
  have hnext : ws ++ ((fullX σ ((bl.getD (((-1) - (t.getD j 0)).toNat) [])))) = ws ++ σ (t.getD j 0) := by rw [hsj, ← hfx]; rfl
  have hnlen : (ws ++ ((fullX σ ((bl.getD (((-1) - (t.getD j 0)).toNat) []))))).length ≤ 60 := by omega
  refine qu (qa (qf (ii ((j : Int))) rfl (cX (qN (((j + 1 : Nat) : Int)) rfl rfl (by omega) (by omega) (qh (ii (((j + 1 : Nat) : Int))) rfl (qb ?_))))))
  exact ⟨(j + 1, v10, ws ++ ((fullX σ ((bl.getD (((-1) - (t.getD j 0)).toNat) []))))), _, FLe.refl _, le1, ⟨rfl, rfl, rfl, rfl, ⟨⟩⟩, (qD (qx (A := [_])) (qD (qx (A := [_])) (qD (qx (A := [_, _])) (sC (sC (sC sR)))))), ⟨rfl, (hs4), (by (try dsimp only) <;> omega), (by (try dsimp only); rw [ap_take (by omega), ← hws]; exact hnext), (by (try dsimp only); exact hnlen)⟩, (by omega)⟩
 refine jg (qv (qv (qO (qc (qa (qf (wv) rfl (qh (wv) rfl (qb (qA (qt (L' := intsH 2 wv ws :: cellsH ub [ov] 234 :: slH 27 1 ov 48 ocs :: L) [wv] (wv) (.tmp rfl .nil) rfl rF rF (sC (sC (sC sR))) ?_))))))))))
 have e9 : fullX σ t = ws := (full_end (by omega) (by omega)).trans hws.symm
 rw [e9]
 exact ⟨hwv, rfl, rfl⟩

theorem full_spec (k : Nat) : ∀ {F : FH} {L : List HP} {ub : Nat} {ov : Value} {ocs : List Value} {ar : List Int} {bl : RowL} (hov : IsSl ov) (hC : RowsC F ocs bl) (hb : BOk ar bl) {σ : Sbs} {ρ : Int → Nat} {tv : Value} {t : List Int} (ht : IntsF F tv t) (hσ : Sol bl σ) (hρ : Acyc bl ρ) (htk : ∀ m ∈ t, m < 0 → ρ m < k) (htg : ∀ i, i < t.length → -48 ≤ t.getD i 0) (htl : t.length ≤ 200), Does prog 217 [ptr ub 0, tv] F (cellsH ub [ov] 234 :: slH 27 1 ov 48 ocs :: L) (fun v F' L' => IsSl v ∧ F = F' ∧ intsH 2 v ((fullX σ t)) :: cellsH ub [ov] 234 :: slH 27 1 ov 48 ocs :: L = L') := by
  induction k using Nat.strongRecOn with
  | _ k ih =>
    intros
    exact full_step ih (by assumption) (by assumption) (by assumption) (by assumption) (by assumption) (by assumption) (by assumption) (by assumption) (by assumption)


/- spec.l11Try -/
set_option maxHeartbeats 1000000 in
set_option maxRecDepth 20000 in
theorem try_spec {F : FH} {L : List HP} {arv : Value} {ar : List Int} (har : IntsF F arv ar) {rsv : Value} {rs : List (List Int × List Int)} (hrs : PairsF F rsv rs) {o : Nat} {p : Nat} {u : Nat} (hsys : sysOk ar rs = true) (ho : o < rs.length) (hu : u < rs.length) (hp : p < (rs.getD o ([], [])).1.length) :
    Does prog 214 [.agg #[arv, rsv], ii ((o : Int)), ii ((p : Int)), ii ((u : Int))] F (L) (fun v F' L' => ∃ (x : Bool) (b7 : Nat) (o7 : Value) (bc : List Value) (l9 : RowL), (.tuple #[ptr b7 0, .bool x] : Value) = v ∧ IsSl o7 ∧ RowsC F' bc l9 ∧ (x = true → MguP ar rs o p u l9) ∧ (x = false → ∀ θ, GoodS ar θ → ap θ (sub ar (rs.getD o ([], [])).1 p) ≠ ap θ (awayL (rs.getD u ([], [])).1)) ∧ cellsH b7 [o7] 234 :: slH 27 1 o7 48 bc :: L = L') := by
 refine qM func214 rfl rfl rfl ?_
 have hlo : termOk ar (rs.getD o ([], [])).1 = true := rule_L hsys ho
 have hllo : 1 ≤ (rs.getD o ([], [])).1.length ∧ (rs.getD o ([], [])).1.length ≤ 60 := termOk_len hlo
 have hglo : ∀ k, k < (rs.getD o ([], [])).1.length → -24 ≤ (rs.getD o ([], [])).1.getD k 0 := fun k h => termOk_ge hlo h
 have hlu : termOk ar (rs.getD u ([], [])).1 = true := rule_L hsys hu
 have hllu : 1 ≤ (rs.getD u ([], [])).1.length ∧ (rs.getD u ([], [])).1.length ≤ 60 := termOk_len hlu
 have hglu : ∀ k, k < (rs.getD u ([], [])).1.length → -24 ≤ (rs.getD u ([], [])).1.getD k 0 := fun k h => termOk_ge hlu h
 have hro : termOk ar (rs.getD o ([], [])).2 = true := rule_R hsys ho
 have hlro : 1 ≤ (rs.getD o ([], [])).2.length ∧ (rs.getD o ([], [])).2.length ≤ 60 := termOk_len hro
 have hgro : ∀ k, k < (rs.getD o ([], [])).2.length → -24 ≤ (rs.getD o ([], [])).2.getD k 0 := fun k h => termOk_ge hro h
 have hru : termOk ar (rs.getD u ([], [])).2 = true := rule_R hsys hu
 have hlru : 1 ≤ (rs.getD u ([], [])).2.length ∧ (rs.getD u ([], [])).2.length ≤ 60 := termOk_len hru
 have hgru : ∀ k, k < (rs.getD u ([], [])).2.length → -24 ≤ (rs.getD u ([], [])).2.getD k 0 := fun k h => termOk_ge hru h
 have hrl := (sysOk_iff.1 hsys).2.1
 have hsig := (sysOk_iff.1 hsys).1
 have hsl := sigOk_spec hsig
 have hee := (termW_of hlo).endN hp
 refine qc (qa (cX (jd [arv, rsv] rfl rfl ?_)))
 intro b1
 refine qh ((.pointer none)) rfl (qh (.bool (false)) rfl (qb (qc (qa (cX (XOp.makeSlice (n := 48) (bytes := 24) [sN] qH qp typeInfo27 rfl zeroValue27 rfl rfl rfl rfl (by omega) (by omega) ?_))))))
 intro v1 hv1
 rw [nils]
 have hc1 : RowsC F _ _ := RowsC.nils 48
 refine cX (jt [v1] [sN] [(0, 1)] [(0, [v1])] jF zeroValue234 rfl (.cons rfl sizeOf34 PlacesAre.nil) rfl (.cons (cells_one (isSl_lit hv1)) CellsAre.nil) (cX (jd [v1] rfl rfl ?_)))
 intro b2
 refine qh (ptr b2 0) rfl (qb (qc (qa (cX (qm (1) qS rfl jB (by decide) rfl rfl (cX (qi jI rfl (Rd.own [_, _] rfl rfl) (qf (ii ((o : Int))) rfl (cX (ql o ja jl rfl rfl rfl hrs.slv (by omega) rfl (cX (js (o * 2) qR rfl qp (by decide) rfl rfl ?_))))))))))))
 obtain ⟨a1, a2, ha1, ha2, hr1, hr2⟩ := hrs.rd (i := o) (by omega)
 refine cX (qi qL rfl (hr1 _) (qh (a1) rfl (qb (qc (qa (cX (qm (0) qS rfl qI (by decide) rfl rfl (cX (qC [arv] jf qI rfl rfl (Rd.ownN [_, _] rfl rfl) (qf (a1) rfl (qf (ii ((p : Int))) rfl (cX (qq (args := [.agg #[arv], a1, ii (p : Int)]) call215 rfl (l13End_spec (q := p) har ha1 (ho := (termW_of hlo)) (hp := (hp))) ?_)))))))))))))
 rintro _ _ _ _ ⟨rfl, rfl, rfl⟩
 refine qh (ii (((endN ar ((rs.getD o ([], [])).1) p : Nat) : Int))) rfl (qb (qc (X.free0 mixed (by kernel_rfl) (by kernel_rfl) (fun _ _ _ _ _ h => by obtain ⟨h1 | h1, _⟩ := h <;> cases h1) (fun _ _ _ h => by obtain ⟨h1 | h1, _⟩ := h <;> cases h1) ?_)))
 obtain ⟨a3, a4, ha3, ha4, hr3, hr4⟩ := hrs.rd (i := u) (by omega)
 refine XA.drawG [cellsH b2 [v1] 234, slH 27 1 v1 48 ((List.replicate 48 (sN))), cellsH b1 [arv, rsv] 32] L 15 [[], [], [], [], [], [], [], [], [], [], [], [], [], [], []] [[], [], [1], [], [], [], [], [4, 5, 6], [], [8], [], [9, 10], [11], [12], [13]] [[], [], [], [], [], [], [], [], [], [], [], [], [], [], []] (phiG [fun FF us v => v = ptr b2 0, fun FF us v => v = ptr b1 0, fun FF us v => v = (.agg #[arv] : Value), fun FF us v => v = ptr b2 0, fun FF us v => v = a1, fun FF us v => v = (ii ((p : Int)) : Value), fun FF us v => v = (ii (((endN ar ((rs.getD o ([], [])).1) p : Nat) : Int)) : Value), fun FF us v => (v : Value) = v ∧ (IntsF FF v ((((rs.getD o ([], [])).1).drop p).take ((endN ar ((rs.getD o ([], [])).1) p) - p))) ∧ (isNil v = isNil a1), fun FF us v => v = ptr b1 1, fun FF us v => v = rsv, fun FF us v => v = (ii ((u : Int)) : Value), fun FF us v => v = (.pointer (some (elemA rsv (u * 2))) : Value), fun FF us v => v = (.pointer (some (elemA rsv (u * 2))) : Value), fun FF us v => v = a3, fun FF us v => ((v) : Value) = v ∧ (IntsF FF (v) (awayL ((rs.getD u ([], [])).1)))]) (ownL [fun us v => [], fun us v => [], fun us v => [], fun us v => [], fun us v => [], fun us v => [], fun us v => [], fun us v => [], fun us v => [], fun us v => [], fun us v => [], fun us v => [], fun us v => [], fun us v => [], fun us v => []]) rfl rfl (by kernel_rfl) (by kernel_rfl) (MonoG.get (mC (fun le h => h) (mC (fun le h => h) (mC (fun le h => h) (mC (fun le h => h) (mC (fun le h => h) (mC (fun le h => h) (mC (fun le h => h) (mC (fun le h => ⟨h.1, h.2.1.mono le, h.2.2⟩) (mC (fun le h => h) (mC (fun le h => h) (mC (fun le h => h) (mC (fun le h => h) (mC (fun le h => h) (mC (fun le h => h) (mC (fun le h => ⟨h.1, h.2.mono le⟩) MonoG.nil)))))))))))))))) ?_ ?_
 ·refine gD (fun W Fs R lF z9 => ?_) ?_
  ·refine qg (qj (ptr b2 0) rfl ?_)
   exact ⟨rfl, rfl⟩
  refine gD (fun W Fs R lF z9 => ?_) ?_
  ·refine qg (qm (0) qS rfl qI (by decide) rfl rfl ?_)
   exact ⟨rfl, rfl⟩
  refine gD (fun W Fs R lF z9 => ?_) ?_
  ·replace har := har.mono lF
   replace hrs := hrs.mono lF
   replace hc1 := hc1.mono lF
   replace ha1 := ha1.mono lF
   replace ha3 := ha3.mono lF
   replace hr3 := Rd.monoA hr3 lF
   rw [eS (l := [(1, _)]) ⟨z9 1 rfl, ⟨⟩⟩]
   refine qg (qC [arv] jf qI rfl rfl (Rd.ownN [_, _] rfl rfl) ?_)
   exact ⟨rfl, rfl⟩
  refine gD (fun W Fs R lF z9 => ?_) ?_
  ·refine qg (qj (ptr b2 0) rfl ?_)
   exact ⟨rfl, rfl⟩
  refine gD (fun W Fs R lF z9 => ?_) ?_
  ·refine qg (qj (a1) rfl ?_)
   exact ⟨rfl, rfl⟩
  refine gD (fun W Fs R lF z9 => ?_) ?_
  ·refine qg (qj (ii ((p : Int))) rfl ?_)
   exact ⟨rfl, rfl⟩
  refine gD (fun W Fs R lF z9 => ?_) ?_
  ·refine qg (qj (ii (((endN ar ((rs.getD o ([], [])).1) p : Nat) : Int))) rfl ?_)
   exact ⟨rfl, rfl⟩
  refine gD (fun W Fs R lF z9 => ?_) ?_
  ·replace har := har.mono lF
   replace hrs := hrs.mono lF
   replace hc1 := hc1.mono lF
   replace ha1 := ha1.mono lF
   replace ha3 := ha3.mono lF
   replace hr3 := Rd.monoA hr3 lF
   rw [eS (l := [(4, _), (5, _), (6, _)]) ⟨z9 4 rfl, z9 5 rfl, z9 6 rfl, ⟨⟩⟩]
   refine qg (XOp.sliceI p (endN ar ((rs.getD o ([], [])).1) p) qd qn rfl ha1 ⟨_, rfl⟩ ⟨_, rfl⟩ (by omega) (by omega) ?_)
   intro v4 hv3 hn2
   exact ⟨⟨rfl, hv3, hn2⟩, rfl⟩
  refine gD (fun W Fs R lF z9 => ?_) ?_
  ·refine qg (qm (1) qS rfl jB (by decide) rfl rfl ?_)
   exact ⟨rfl, rfl⟩
  refine gD (fun W Fs R lF z9 => ?_) ?_
  ·replace har := har.mono lF
   replace hrs := hrs.mono lF
   replace hc1 := hc1.mono lF
   replace ha3 := ha3.mono lF
   replace hr3 := Rd.monoA hr3 lF
   rw [eS (l := [(8, _)]) ⟨z9 8 rfl, ⟨⟩⟩]
   refine qg (qi jI rfl (Rd.own [_, _] rfl rfl) ?_)
   exact ⟨rfl, rfl⟩
  refine gD (fun W Fs R lF z9 => ?_) ?_
  ·refine qg (qj (ii ((u : Int))) rfl ?_)
   exact ⟨rfl, rfl⟩
  refine gD (fun W Fs R lF z9 => ?_) ?_
  ·replace har := har.mono lF
   replace hrs := hrs.mono lF
   replace hc1 := hc1.mono lF
   replace ha3 := ha3.mono lF
   replace hr3 := Rd.monoA hr3 lF
   rw [eS (l := [(9, _), (10, _)]) ⟨z9 9 rfl, z9 10 rfl, ⟨⟩⟩]
   refine qg (ql u ja jl rfl rfl rfl hrs.slv (by omega) rfl ?_)
   exact ⟨rfl, rfl⟩
  refine gD (fun W Fs R lF z9 => ?_) ?_
  ·rw [eS (l := [(11, _)]) ⟨z9 11 rfl, ⟨⟩⟩]
   refine qg (js (u * 2) qR rfl qp (by decide) rfl rfl ?_)
   exact ⟨rfl, rfl⟩
  refine gD (fun W Fs R lF z9 => ?_) ?_
  ·replace har := har.mono lF
   replace hc1 := hc1.mono lF
   replace ha3 := ha3.mono lF
   replace hr3 := Rd.monoA hr3 lF
   rw [eS (l := [(12, _)]) ⟨z9 12 rfl, ⟨⟩⟩]
   refine qg (qi qL rfl (hr3 _) ?_)
   exact ⟨rfl, rfl⟩
  refine gD (fun W Fs R lF z9 => ?_) ?_
  ·replace har := har.mono lF
   replace hc1 := hc1.mono lF
   replace ha3 := ha3.mono lF
   rw [eS (l := [(13, _)]) ⟨z9 13 rfl, ⟨⟩⟩]
   refine qg (jE <| qq (args := [a3, ii (24)]) call216 rfl (away2_spec (k := 24) ha3 (hk24 := (rfl)) (hlt := (by omega)) (htg := (fun i hi => by have := hglu i hi; omega))) ?_)
   rintro v5 _ _ _ ⟨rfl, hs2, rfl⟩
   refine ⟨_, _, rfl, fun F1 le1 hz1 => ?_⟩
   replace har := har.mono le1
   replace hc1 := hc1.mono le1
   have hf1 : IntsF F1 v5 ((awayL ((rs.getD u ([], [])).1))) := intsH.fz (xs := (awayL ((rs.getD u ([], [])).1))) hz1.fz
   exact ⟨⟨rfl, hf1⟩, rfl⟩
  exact stepsG.nil
 intro W F2 le2 hphi
 obtain ⟨e7, f7_1hv, f7_1hn⟩ := hphi 7 (by decide)
 obtain ⟨e14, f14_1ha⟩ := hphi 14 (by decide)
 generalize hu1 : (W 7) = u1 at e7 f7_1hv f7_1hn e14 f14_1ha
 generalize hu2 : ((W 14)) = u2 at e7 f7_1hv f7_1hn e14 f14_1ha
 rw [eS (l := [(0, _), (2, _), (3, _), (7, u1), (14, u2)]) ⟨(hphi 0 (by decide)), (hphi 2 (by decide)), (hphi 3 (by decide)), hu1, hu2, ⟨⟩⟩]
 replace har := har.mono le2
 replace hc1 := hc1.mono le2
 show XL _ _ _ _ _ _ _ (cellsH b2 [v1] 234 :: slH 27 1 v1 48 ((List.replicate 48 (sN))) :: cellsH b1 [arv, rsv] 32 :: L)
 refine qU (qx (A := [_])) ?_
 show XL _ _ _ _ _ _ _ (slH 27 1 v1 48 ((List.replicate 48 (sN))) :: cellsH b2 [v1] 234 :: cellsH b1 [arv, rsv] 32 :: L)
 refine qU (qx (A := [_])) ?_
 show XL _ _ _ _ _ _ _ (cellsH b2 [v1] 234 :: slH 27 1 v1 48 ((List.replicate 48 (sN))) :: cellsH b1 [arv, rsv] 32 :: L)
 refine cX (qq (args := [.agg #[arv], ptr b2 0, u1, u2]) call240 rfl (meet_spec har ((isSl_lit hv1)) hc1 f7_1hv f14_1ha (termW_of (sub_ok hlo hp)) (away_W hlu)) ?_)
 rintro _ F3 _ le3 ⟨x1, bc1, l1, rfl, hb1, hy1, hn3, rfl⟩
 refine qh (ptr b2 0) rfl (qh (.bool (x1)) rfl (qb (qA (qt (L' := cellsH b2 [v1] 234 :: slH 27 1 v1 48 bc1 :: L) [ptr b2 0, .bool (x1)] (.tuple #[ptr b2 0, .bool (x1)]) (.tmp rfl (.tmp rfl .nil)) rfl (qo le2 le3) rF (sC (sC (sD sR))) ?_))))
 exact ⟨_, _, _, _, _, rfl, (isSl_lit hv1), hb1, hy1, hn3, rfl⟩
end Go.Proofs.Ytcdjpapjjoldeaa
set_option linter.unusedSimpArgs false
set_option linter.unusedVariables false
namespace Go.Proofs.Ytcdjpapjjoldeaa
open Go X M Try

/- spec.l2Order -/
theorem l2OrderL_spec {F : FH} {L : List HP} {tv : Value} {t : List Int} (ht : IntsF F tv t) (hlt : t.length ≤ 4000000) :
    Does prog 147 [tv] F (L) (fun v F' L' => F = F' ∧ IsSl v ∧ intsH 2 v (orderL t) :: L = L') := by
 refine qM func147 rfl rfl rfl (qc (qa (qh (sN) rfl (qb (qc (qa (cX (qW (s := 1) [] [ii (0)] [] qd qn jx rfl (by decide) rfl CellsAre.nil rfl ?_))))))))
 intro v1 hv1
 refine qh (v1) rfl (qb (qc (qc (qa (qh (ii (0)) rfl (qb (qJ (jk (α := Nat × Value × List Int × FH) (fun xQ => [(0, tv), (3, xQ.2.1), (4, ii (((xQ.1 : Nat) : Int)))]) (fun xQ => intsH 2 xQ.2.1 xQ.2.2.1 :: L) (fun xQ F' => xQ.2.2.2 = F' ∧ F ≤ xQ.2.2.2 ∧ (IsSl xQ.2.1) ∧ (xQ.1 ≤ t.length) ∧ (xQ.2.2.1 = orderL (t.take xQ.1)) ∧ (xQ.2.2.1.length ≤ xQ.1)) (fun xQ => t.length - xQ.1) (0, v1, [], F) ⟨rfl, rfl, rfl, ⟨⟩⟩ (sC sR) ⟨rfl, FLe.refl _, ((isSl_lit hv1)), (by (try dsimp only) <;> omega), (rfl), (Nat.le_refl _)⟩ ?_))))))))
 rintro ⟨j, ov, os, G1⟩ rE _ _ ⟨rfl, leG, hov, hj, hos, hol⟩
 show X _ _ _ _ (envs [(0, tv), (3, ov), (4, ii ((j : Int)))] rE) _ (intsH 2 ov os :: L)
 replace leG : F ≤ G1 := leG
 dsimp only at hov hj hos hol
 have leG1 := leG
 replace ht := ht.mono leG1
 refine qc (qc (qa (qf (ii ((j : Int))) rfl (qf (tv) rfl (cX (qE qd rfl ht.slv (cX (qF rfl rfl (qb ?_)))))))))
 refine qw (p := (j : Int) < (t.length : Int)) rfl (fun h1 => ?_) (fun h1 => ?_)
 ·refine qu (qc (qJ (qc (qa (qf (tv) rfl (qf (ii ((j : Int))) rfl (cX (ql j qd qn rfl rfl rfl ht.slv (by omega) (Nat.mul_one _) (cX (qi qB rfl (ht.rd (by omega)) (cX (qF rfl rfl (qf (.bool (decide ((t.getD j 0 : Int) < 0))) rfl ?_)))))))))))))
  by_cases h2 : (t.getD j 0 : Int) < 0
  ·refine qs (t := 17) rfl (vT h2) (qj (ov) rfl (qs (t := 17) rfl (vT h2) (qj (tv) rfl (qs (t := 17) rfl (vT h2) (qj (ii ((j : Int))) rfl (qs (t := 17) rfl (vT h2) (ql j qd qn rfl rfl rfl ht.slv (by omega) (Nat.mul_one _) (qs (t := 17) rfl (vT h2) (qi qB rfl (ht.rd (by omega)) (qs (t := 17) rfl (vT h2) (XOp.lend [] _ _ rfl (fun F1 le1 hz1 => ?_))))))))))))
   have hf1 : IntsF _ ov os := intsH.fz (xs := os) hz1
   refine id (qq (args := [ov, ii (t.getD j 0)]) call206 rfl (l1Has_spec (n := t.getD j 0) hf1 (hbd := (by first | assumption | rfl | omega | simp))) ?_)
   rintro _ _ _ _ ⟨rfl, rfl, rfl⟩
   show XL _ _ _ _ _ _ _ (intsH 2 ov os :: L)
   refine qs (t := 17) rfl (vT h2) (jC rfl (cX (qV (.bool (decide (¬((t.getD j 0) ∈ os)))) (vT h2) rfl (qb ?_))))
   refine qw (p := ¬((t.getD j 0) ∈ os)) rfl (fun h3 => ?_) (fun h3 => ?_)
   ·have hor := h3
    refine qa (qf (ov) rfl (qf (tv) rfl (qf (ii ((j : Int))) rfl (cX (ql j qd qn rfl rfl rfl ht.slv (by omega) (Nat.mul_one _) (cX (qi qB rfl (ht.rd (by omega)) (cX (qW (s := 1) [ii (t.getD j 0)] [ii (0)] [(0, [ii (t.getD j 0)])] qd qn jx rfl (by decide) rfl (.cons rfl CellsAre.nil) rfl ?_)))))))))
    intro v2 hv2
    refine cX (XOp.append1 (u := t.getD j 0) [_] _ qd typeInfo2 rfl rfl rfl rfl rfl rfl (SlV.own [] rfl) (Rd.sl [] rfl rfl) (by (try simp only [List.length_append, List.length_nil, List.length_cons, List.length_singleton, List.length_take, List.length_drop]); omega) ?_)
    intro v3 hs1 hn1
    refine qh (v3) rfl (qb (qa (qf (ii ((j : Int))) rfl (cX (qN (((j + 1 : Nat) : Int)) rfl rfl (by omega) (by omega) (qh (ii (((j + 1 : Nat) : Int))) rfl (qb ?_)))))))
    exact ⟨(j + 1, v3, os ++ [t.getD j 0], G1), _, leG1, rF, ⟨rfl, rfl, rfl, ⟨⟩⟩, (sD (sC sR)), ⟨rfl, leG1, (hs1), (by (try dsimp only) <;> omega), (by (try dsimp only); first | exact ord_skip (by omega) hos (.inl (by omega)) | exact ord_skip (by omega) hos (.inr (by simpa using hor)) | exact ord_add (by omega) hos (by omega) (by simpa using hor)), (by (try dsimp only); (try rw [List.length_append, List.length_singleton]); omega)⟩, (by omega)⟩
   have hor := h3
   refine qu (qa (qf (ii ((j : Int))) rfl (cX (qN (((j + 1 : Nat) : Int)) rfl rfl (by omega) (by omega) (qh (ii (((j + 1 : Nat) : Int))) rfl (qb ?_))))))
   exact ⟨(j + 1, ov, os, G1), _, leG1, rF, ⟨rfl, rfl, rfl, ⟨⟩⟩, (sC sR), ⟨rfl, leG1, (hov), (by (try dsimp only) <;> omega), (by (try dsimp only); first | exact ord_skip (by omega) hos (.inl (by omega)) | exact ord_skip (by omega) hos (.inr (by simpa using hor)) | exact ord_add (by omega) hos (by omega) (by simpa using hor)), (by (try dsimp only); (try rw [List.length_append, List.length_singleton]); omega)⟩, (by omega)⟩
  refine qr (t := 17) rfl (vF h2) (qr (t := 17) rfl (vF h2) (qr (t := 17) rfl (vF h2) (qr (t := 17) rfl (vF h2) (qr (t := 17) rfl (vF h2) (qr (t := 17) rfl (vF h2) (qr (t := 17) rfl (vF h2) (cX (qT (.bool (false)) (vF h2) rfl (qb (jw rfl ?_))))))))))
  refine qu (qa (qf (ii ((j : Int))) rfl (cX (qN (((j + 1 : Nat) : Int)) rfl rfl (by omega) (by omega) (qh (ii (((j + 1 : Nat) : Int))) rfl (qb ?_))))))
  exact ⟨(j + 1, ov, os, G1), _, leG1, rF, ⟨rfl, rfl, rfl, ⟨⟩⟩, (sC sR), ⟨rfl, leG1, (hov), (by (try dsimp only) <;> omega), (by (try dsimp only); first | exact ord_skip (by omega) hos (.inl (by omega)) | exact ord_skip (by omega) hos (.inr (by simpa using hor)) | exact ord_add (by omega) hos (by omega) (by simpa using hor)), (by (try dsimp only); (try rw [List.length_append, List.length_singleton]); omega)⟩, (by omega)⟩
 refine jg (qv (qv (qO (qc (qa (qf (ov) rfl (qh (ov) rfl (qb (qA (qt (L' := intsH 2 ov os :: L) [ov] (ov) (.tmp rfl .nil) rfl rF leG1 (sC sR) ?_))))))))))
 refine ⟨rfl, hov, ?_⟩
 have hxs : (orderL t : List Int) = os := by rw [hos, show j = t.length from by omega, List.take_length]
 exact congrArg (fun z => intsH 2 _ z :: L) hxs

/- spec.l2By -/
theorem l2ByL_spec {F : FH} {L : List HP} {wv : Value} {w : List Int} (hw : IntsF F wv w) {tv : Value} {t : List Int} (ht : IntsF F tv t) (hno : w.Nodup) (hlo : w.length ≤ 4000000) (hlt : t.length ≤ 4000000) :
    Does prog 146 [wv, tv] F (L) (fun v F' L' => F = F' ∧ IsSl v ∧ intsH 2 v (byL w t) :: L = L') := by
 refine qM func146 rfl rfl rfl (qc (qa (qh (sN) rfl (qb (qc (qa (cX (qW (s := 1) [] [ii (0)] [] qd qn jx rfl (by decide) rfl CellsAre.nil rfl ?_))))))))
 intro v1 hv1
 refine qh (v1) rfl (qb (qc (qc (qa (qh (ii (0)) rfl (qb (qJ (jk (α := Nat × Value × List Int) (fun xQ => [(0, wv), (1, tv), (5, xQ.2.1), (6, ii (((xQ.1 : Nat) : Int)))]) (fun xQ => intsH 2 xQ.2.1 xQ.2.2 :: L) (fun xQ F' => F = F' ∧ (IsSl xQ.2.1) ∧ (xQ.1 ≤ t.length) ∧ (xQ.2.2 = byL w (t.take xQ.1)) ∧ (xQ.2.2.length = xQ.1)) (fun xQ => t.length - xQ.1) (0, v1, []) ⟨rfl, rfl, rfl, rfl, ⟨⟩⟩ (sC sR) ⟨rfl, ((isSl_lit hv1)), (by (try dsimp only) <;> omega), (rfl), (rfl)⟩ ?_))))))))
 rintro ⟨j, ov, os⟩ rE _ _ ⟨rfl, hov, hj, hos, hol⟩
 show X _ _ _ _ (envs [(0, wv), (1, tv), (5, ov), (6, ii ((j : Int)))] rE) _ (intsH 2 ov os :: L)
 dsimp only at hov hj hos hol
 refine qc (qc (qa (qf (ii ((j : Int))) rfl (qf (tv) rfl (cX (qE qd rfl ht.slv (cX (qF rfl rfl (qb ?_)))))))))
 refine qw (p := (j : Int) < (t.length : Int)) rfl (fun h1 => ?_) (fun h1 => ?_)
 ·refine qu (qc (qJ (qc (qa (qf (tv) rfl (qf (ii ((j : Int))) rfl (cX (ql j qd qn rfl rfl rfl ht.slv (by omega) (Nat.mul_one _) (cX (qi qB rfl (ht.rd (by omega)) (qh (ii (t.getD j 0)) rfl (qb (qc (qc (qa (qh (ii (0)) rfl (qb (qJ (jk (α := Nat × Int) (fun xQ => [(0, wv), (1, tv), (5, ov), (6, ii ((j : Int))), (7, ii (xQ.2)), (8, ii (((xQ.1 : Nat) : Int)))]) (fun xQ => intsH 2 ov os :: L) (fun xQ F' => F = F' ∧ (xQ.1 ≤ w.length) ∧ (xQ.2 = byN w xQ.1 (t.getD j 0))) (fun xQ => w.length - xQ.1) (0, (t.getD j 0)) ⟨rfl, rfl, rfl, rfl, rfl, rfl, ⟨⟩⟩ (sC sR) ⟨rfl, (by (try dsimp only) <;> omega), (by_start)⟩ ?_)))))))))))))))))))
  rintro ⟨k, n⟩ rE _ _ ⟨rfl, hk, hn⟩
  show X _ _ _ _ (envs [(0, wv), (1, tv), (5, ov), (6, ii ((j : Int))), (7, ii (n)), (8, ii ((k : Int)))] rE) _ (intsH 2 ov os :: L)
  dsimp only at hk hn
  refine qc (qc (qa (qf (ii ((k : Int))) rfl (qf (wv) rfl (cX (qE qd rfl hw.slv (cX (qF rfl rfl (qf (.bool (decide ((k : Int) < (w.length : Int)))) rfl ?_)))))))))
  by_cases h2 : (k : Int) < (w.length : Int)
  ·refine qs (t := 24) rfl (vT h2) (qj (tv) rfl (qs (t := 24) rfl (vT h2) (qj (ii ((j : Int))) rfl (qs (t := 24) rfl (vT h2) (ql j qd qn rfl rfl rfl ht.slv (by omega) (Nat.mul_one _) (qs (t := 24) rfl (vT h2) (qi qB rfl (ht.rd (by omega)) (qs (t := 24) rfl (vT h2) (qF rfl rfl (cX (qV (.bool (decide ((t.getD j 0 : Int) < 0))) (vT h2) rfl (qb ?_))))))))))))
   refine qw (p := (t.getD j 0 : Int) < 0) rfl (fun h3 => ?_) (fun h3 => ?_)
   ·refine qu (qc (qJ (qc ?_)))
    refine jj [intsH 2 ov os] L 8 [] [[], [], [0, 1], [2], [], [], [4, 5], [6]] (phiL [qe wv, qe (ii ((k : Int)) : Value), qe (.pointer (some (elemA wv (k)))), qe (ii (w.getD k 0)), qe tv, qe (ii ((j : Int)) : Value), qe (.pointer (some (elemA tv (j)))), qe (ii (t.getD j 0))]) (ownL []) mixed rfl rfl (by kernel_rfl) ?_ ?_
    ·refine pD (fun W R z9 => ?_) ?_
     ·refine qg (qj (wv) rfl ?_)
      exact ⟨rfl, rfl, rfl⟩
     refine pD (fun W R z9 => ?_) ?_
     ·refine qg (qj (ii ((k : Int))) rfl ?_)
      exact ⟨rfl, rfl, rfl⟩
     refine pD (fun W R z9 => ?_) ?_
     ·rw [eS (l := [(0, _), (1, _)]) ⟨z9 0 rfl, z9 1 rfl, ⟨⟩⟩]
      refine qg (ql k qd qn rfl rfl rfl hw.slv (by omega) (Nat.mul_one _) ?_)
      exact ⟨rfl, rfl, rfl⟩
     refine pD (fun W R z9 => ?_) ?_
     ·rw [eS (l := [(2, _)]) ⟨z9 2 rfl, ⟨⟩⟩]
      refine qg (qi qB rfl (hw.rd (by omega)) ?_)
      exact ⟨rfl, rfl, rfl⟩
     refine pD (fun W R z9 => ?_) ?_
     ·refine qg (qj (tv) rfl ?_)
      exact ⟨rfl, rfl, rfl⟩
     refine pD (fun W R z9 => ?_) ?_
     ·refine qg (qj (ii ((j : Int))) rfl ?_)
      exact ⟨rfl, rfl, rfl⟩
     refine pD (fun W R z9 => ?_) ?_
     ·rw [eS (l := [(4, _), (5, _)]) ⟨z9 4 rfl, z9 5 rfl, ⟨⟩⟩]
      refine qg (ql j qd qn rfl rfl rfl ht.slv (by omega) (Nat.mul_one _) ?_)
      exact ⟨rfl, rfl, rfl⟩
     refine pD (fun W R z9 => ?_) ?_
     ·rw [eS (l := [(6, _)]) ⟨z9 6 rfl, ⟨⟩⟩]
      refine qg (qi qB rfl (ht.rd (by omega)) ?_)
      exact ⟨rfl, rfl, rfl⟩
     exact stepsP.nil
    intro W hphi
    rw [eS (l := [(3, _), (7, _)]) ⟨(hphi 3 (by decide)), (hphi 7 (by decide)), ⟨⟩⟩]
    show XL _ _ _ _ _ _ _ (intsH 2 ov os :: L)
    refine cX (jH rfl rfl (qb ?_))
    refine qw (p := (w.getD k 0 : Int) = t.getD j 0) rfl (fun h4 => ?_) (fun h4 => ?_)
    ·refine qa (qf (ii ((k : Int))) rfl (cX (je ((-1) - ((k : Int))) rfl rfl (by omega) (by omega) (qh (ii ((-1) - ((k : Int)))) rfl (qb (qa (qf (ii ((k : Int))) rfl (cX (qN (((k + 1 : Nat) : Int)) rfl rfl (by omega) (by omega) (qh (ii (((k + 1 : Nat) : Int))) rfl (qb ?_)))))))))))
     exact ⟨(k + 1, (-1) - ((k : Int))), _, FLe.refl _, rF, ⟨rfl, rfl, rfl, rfl, rfl, rfl, ⟨⟩⟩, (sC sR), ⟨rfl, (by (try dsimp only) <;> omega), (by (try dsimp only); exact by_hit hno (by omega) (by omega) (by omega))⟩, (by omega)⟩
    refine qu (qa (qf (ii ((k : Int))) rfl (cX (qN (((k + 1 : Nat) : Int)) rfl rfl (by omega) (by omega) (qh (ii (((k + 1 : Nat) : Int))) rfl (qb ?_))))))
    exact ⟨(k + 1, n), _, FLe.refl _, rF, ⟨rfl, rfl, rfl, rfl, rfl, rfl, ⟨⟩⟩, (sC sR), ⟨rfl, (by (try dsimp only) <;> omega), (by (try dsimp only); rw [hn]; exact by_miss (by omega) (by omega))⟩, (by omega)⟩
   refine jg (qv (qv (qO (qa (qf (ov) rfl (qf (ii (n)) rfl (cX (qW (s := 1) [ii (n)] [ii (0)] [(0, [ii (n)])] qd qn jx rfl (by decide) rfl (.cons rfl CellsAre.nil) rfl ?_))))))))
   intro v2 hv2
   refine cX (XOp.append1 (u := n) [_] _ qd typeInfo2 rfl rfl rfl rfl rfl rfl (SlV.own [] rfl) (Rd.sl [] rfl rfl) (by (try simp only [List.length_append, List.length_nil, List.length_cons, List.length_singleton, List.length_take, List.length_drop]); omega) ?_)
   intro v3 hs1 hn1
   refine qh (v3) rfl (qb (qa (qf (ii ((j : Int))) rfl (cX (qN (((j + 1 : Nat) : Int)) rfl rfl (by omega) (by omega) (qh (ii (((j + 1 : Nat) : Int))) rfl (qb ?_)))))))
   exact ⟨(j + 1, v3, os ++ [n]), _, FLe.refl _, rF, ⟨rfl, rfl, rfl, rfl, ⟨⟩⟩, (sD (sC sR)), ⟨rfl, (hs1), (by (try dsimp only) <;> omega), (by (try dsimp only); rw [hos]; exact by_take (by omega) (by_done hn (by omega))), (by (try dsimp only); rw [List.length_append, List.length_singleton]; omega)⟩, (by omega)⟩
  refine qr (t := 24) rfl (vF h2) (qr (t := 24) rfl (vF h2) (qr (t := 24) rfl (vF h2) (qr (t := 24) rfl (vF h2) (qr (t := 24) rfl (vF h2) (cX (qT (.bool (false)) (vF h2) rfl (qb (jw rfl (jg (qv (qv (qO (qa ?_)))))))))))))
  refine qf (ov) rfl (qf (ii (n)) rfl (cX (qW (s := 1) [ii (n)] [ii (0)] [(0, [ii (n)])] qd qn jx rfl (by decide) rfl (.cons rfl CellsAre.nil) rfl ?_)))
  intro v4 hv3
  refine cX (XOp.append1 (u := n) [_] _ qd typeInfo2 rfl rfl rfl rfl rfl rfl (SlV.own [] rfl) (Rd.sl [] rfl rfl) (by (try simp only [List.length_append, List.length_nil, List.length_cons, List.length_singleton, List.length_take, List.length_drop]); omega) ?_)
  intro v5 hs2 hn2
  refine qh (v5) rfl (qb (qa (qf (ii ((j : Int))) rfl (cX (qN (((j + 1 : Nat) : Int)) rfl rfl (by omega) (by omega) (qh (ii (((j + 1 : Nat) : Int))) rfl (qb ?_)))))))
  exact ⟨(j + 1, v5, os ++ [n]), _, FLe.refl _, rF, ⟨rfl, rfl, rfl, rfl, ⟨⟩⟩, (sD (sC sR)), ⟨rfl, (hs2), (by (try dsimp only) <;> omega), (by (try dsimp only); rw [hos]; exact by_take (by omega) (by_done hn (by omega))), (by (try dsimp only); rw [List.length_append, List.length_singleton]; omega)⟩, (by omega)⟩
 refine jg (qv (qv (qO (qc (qa (qf (ov) rfl (qh (ov) rfl (qb (qA (qt (L' := intsH 2 ov os :: L) [ov] (ov) (.tmp rfl .nil) rfl rF rF (sC sR) ?_))))))))))
 refine ⟨rfl, hov, ?_⟩
 have hxs : (byL w t : List Int) = os := by rw [hos, show j = t.length from by omega, List.take_length]
 exact congrArg (fun z => intsH 2 _ z :: L) hxs

/- spec.l11Meets -/
theorem meets2_spec {F : FH} {L : List HP} {arv : Value} {ar : List Int} (har : IntsF F arv ar) {rsv : Value} {rs : List (List Int × List Int)} (hrs : PairsF F rsv rs) {o : Nat} {p : Nat} {u : Nat} (hsys : sysOk ar rs = true) (ho : o < rs.length) (hu : u < rs.length) (hp : p < (rs.getD o ([], [])).1.length) :
    Does prog 168 [.agg #[arv, rsv], ii ((o : Int)), ii ((p : Int)), ii ((u : Int))] F (L) (fun v F' L' => (.bool (decide (0 ≤ (rs.getD o ([], [])).1.getD p 0 ∧ meetB ar rs o p u = true)) : Value) = v ∧ L = L') := by
 refine qM func168 rfl rfl rfl ?_
 have hlo : termOk ar (rs.getD o ([], [])).1 = true := rule_L hsys ho
 have hllo : 1 ≤ (rs.getD o ([], [])).1.length ∧ (rs.getD o ([], [])).1.length ≤ 60 := termOk_len hlo
 have hglo : ∀ k, k < (rs.getD o ([], [])).1.length → -24 ≤ (rs.getD o ([], [])).1.getD k 0 := fun k h => termOk_ge hlo h
 have hlu : termOk ar (rs.getD u ([], [])).1 = true := rule_L hsys hu
 have hllu : 1 ≤ (rs.getD u ([], [])).1.length ∧ (rs.getD u ([], [])).1.length ≤ 60 := termOk_len hlu
 have hglu : ∀ k, k < (rs.getD u ([], [])).1.length → -24 ≤ (rs.getD u ([], [])).1.getD k 0 := fun k h => termOk_ge hlu h
 have hro : termOk ar (rs.getD o ([], [])).2 = true := rule_R hsys ho
 have hlro : 1 ≤ (rs.getD o ([], [])).2.length ∧ (rs.getD o ([], [])).2.length ≤ 60 := termOk_len hro
 have hgro : ∀ k, k < (rs.getD o ([], [])).2.length → -24 ≤ (rs.getD o ([], [])).2.getD k 0 := fun k h => termOk_ge hro h
 have hru : termOk ar (rs.getD u ([], [])).2 = true := rule_R hsys hu
 have hlru : 1 ≤ (rs.getD u ([], [])).2.length ∧ (rs.getD u ([], [])).2.length ≤ 60 := termOk_len hru
 have hgru : ∀ k, k < (rs.getD u ([], [])).2.length → -24 ≤ (rs.getD u ([], [])).2.getD k 0 := fun k h => termOk_ge hru h
 have hrl := (sysOk_iff.1 hsys).2.1
 have hsig := (sysOk_iff.1 hsys).1
 have hsl := sigOk_spec hsig
 have hee := (termW_of hlo).endN hp
 refine qc (qa (cX (jd [arv, rsv] rfl rfl ?_)))
 intro b1
 refine qh (.bool (false)) rfl (qb (qc (qa (cX (qm (1) qS rfl jB (by decide) rfl rfl (cX (qi jI rfl (Rd.own [] rfl rfl) (qf (ii ((o : Int))) rfl (cX (ql o ja jl rfl rfl rfl hrs.slv (by omega) rfl (cX (js (o * 2) qR rfl qp (by decide) rfl rfl ?_))))))))))))
 obtain ⟨a1, a2, ha1, ha2, hr1, hr2⟩ := hrs.rd (i := o) (by omega)
 refine cX (qi qL rfl (hr1 _) (qh (a1) rfl (qb (qc (qc (qa (qf (ii ((p : Int))) rfl (qf (a1) rfl (cX (qE qd rfl ha1.slv (cX (je ((((((rs.getD o ([], [])).1).length : Nat) : Int)) - 1) rfl rfl (by omega) (by omega) (cX (qq (args := [ii ((p : Int)), ii (0), ii ((((((rs.getD o ([], [])).1).length : Nat) : Int)) - 1)]) call112 rfl (l1In_spec (n := (p : Int)) (a := 0) (b := (((((rs.getD o ([], [])).1).length : Nat) : Int)) - 1)) ?_))))))))))))))
 rintro _ _ _ _ ⟨rfl, rfl, rfl⟩
 refine cX (jC rfl (qf (.bool (decide (¬(0 ≤ ((p : Int)) ∧ ((p : Int)) ≤ ((((((rs.getD o ([], [])).1).length : Nat) : Int)) - 1))))) rfl ?_))
 by_cases h1 : ¬(0 ≤ ((p : Int)) ∧ ((p : Int)) ≤ ((((((rs.getD o ([], [])).1).length : Nat) : Int)) - 1))
 ·refine qr (t := 24) rfl (vT h1) (qr (t := 24) rfl (vT h1) (qr (t := 24) rfl (vT h1) (qr (t := 24) rfl (vT h1) (qr (t := 24) rfl (vT h1) (cX (qV (.bool (true)) (vT h1) rfl (qf (.bool (true)) rfl (qr (t := 31) rfl rfl (qr (t := 31) rfl rfl (qr (t := 31) rfl rfl ?_))))))))))
  refine XL.noU (t := 34) rfl rfl (XL.noU (t := 34) rfl rfl (XL.noU (t := 34) rfl rfl (qr (t := 31) rfl rfl (cX (qV (.bool (true)) rfl rfl (qb (jA rfl (qc (qa (qh (.bool (false)) rfl (qb ?_)))))))))))
  refine qA (qk (qt (L' := L) [.bool (false)] (.bool (false)) (.tmp rfl .nil) rfl rF rF (sD sR) ?_))
  have e9 : ¬ (0 ≤ (rs.getD o ([], [])).1.getD p 0 ∧ meetB ar rs o p u = true) := by first | (rintro ⟨h8, h9⟩; omega) | (rintro ⟨h8, h9⟩; rw [meet_self (by omega)] at h9; cases h9)
  exact ⟨congrArg Value.bool (decide_eq_false e9), rfl⟩
 refine qs (t := 24) rfl (vF h1) (qj (a1) rfl (qs (t := 24) rfl (vF h1) (qj (ii ((p : Int))) rfl (qs (t := 24) rfl (vF h1) (ql p qd qn rfl rfl rfl ha1.slv (by omega) (Nat.mul_one _) (qs (t := 24) rfl (vF h1) (qi qB rfl (ha1.rd (by omega)) (qs (t := 24) rfl (vF h1) (qF rfl rfl (cX (qT (.bool (decide ((((rs.getD o ([], [])).1).getD p 0 : Int) < 0))) (vF h1) rfl (qf (.bool (decide ((((rs.getD o ([], [])).1).getD p 0 : Int) < 0))) rfl ?_))))))))))))
 by_cases h2 : (((rs.getD o ([], [])).1).getD p 0 : Int) < 0
 ·refine qr (t := 31) rfl (vT h2) (qr (t := 31) rfl (vT h2) (qr (t := 31) rfl (vT h2) (XL.noU (t := 34) rfl rfl (XL.noU (t := 34) rfl rfl (XL.noU (t := 34) rfl rfl (qr (t := 31) rfl (vT h2) (cX (qV (.bool (true)) (vT h2) rfl (qb (jA rfl ?_))))))))))
  refine qc (qa (qh (.bool (false)) rfl (qb (qA (qk (qt (L' := L) [.bool (false)] (.bool (false)) (.tmp rfl .nil) rfl rF rF (sD sR) ?_))))))
  have e9 : ¬ (0 ≤ (rs.getD o ([], [])).1.getD p 0 ∧ meetB ar rs o p u = true) := by first | (rintro ⟨h8, h9⟩; omega) | (rintro ⟨h8, h9⟩; rw [meet_self (by omega)] at h9; cases h9)
  exact ⟨congrArg Value.bool (decide_eq_false e9), rfl⟩
 refine qs (t := 31) rfl (vF h2) (qj (ii ((p : Int))) rfl (qs (t := 31) rfl (vF h2) (jH rfl rfl (qs (t := 31) rfl (vF h2) (qj (.bool (decide ((p : Int) = 0))) rfl ?_)))))
 by_cases h3 : (p : Int) = 0
 ·refine qs (t := 34) rfl (vT h3) (qj (ii ((o : Int))) rfl (qs (t := 34) rfl (vT h3) (qj (ii ((u : Int))) rfl (qs (t := 34) rfl (vT h3) (jH rfl rfl (qs (t := 31) rfl (vF h2) (qV (.bool (decide ((o : Int) = (u : Int)))) (vT h3) rfl (cX (qT (.bool (decide ((o : Int) = (u : Int)))) (vF h2) rfl (qb ?_))))))))))
  refine qw (p := (o : Int) = (u : Int)) rfl (fun h4 => ?_) (fun h4 => ?_)
  ·refine qc (qa (qh (.bool (false)) rfl (qb (qA (qk (qt (L' := L) [.bool (false)] (.bool (false)) (.tmp rfl .nil) rfl rF rF (sD sR) ?_))))))
   have e9 : ¬ (0 ≤ (rs.getD o ([], [])).1.getD p 0 ∧ meetB ar rs o p u = true) := by first | (rintro ⟨h8, h9⟩; omega) | (rintro ⟨h8, h9⟩; rw [meet_self (by omega)] at h9; cases h9)
   exact ⟨congrArg Value.bool (decide_eq_false e9), rfl⟩
  refine qu (qc (qa (cX (qC [arv, rsv] isAgg32 jJ rfl rfl (Rd.ownN [] rfl rfl) (qf (ii ((o : Int))) rfl (qf (ii ((p : Int))) rfl (qf (ii ((u : Int))) rfl (cX (qq (args := [.agg #[arv, rsv], ii (o : Int), ii (p : Int), ii (u : Int)]) call214 rfl (try_spec (o := o) (p := p) (u := u) har hrs hsys (by omega) (by omega) (by first | assumption | omega)) ?_)))))))))
  rintro _ F1 _ le1 ⟨x1, b2, o1, bc1, l1, rfl, hs1, hb1, hy1, hn1, rfl⟩
  replace har := har.mono le1
  replace hrs := hrs.mono le1
  refine qf (.tuple #[ptr b2 0, .bool (x1)]) rfl (cX (qX (ptr b2 0) rfl rfl (cX (qX (.bool (x1)) rfl rfl (qh (ptr b2 0) rfl (qh (.bool (x1)) rfl (qb (qc (qa (qf (.bool (x1)) rfl (qh (.bool (x1)) rfl (qb (qA (qt (L' := L) [.bool (x1)] (.bool (x1)) (.tmp rfl .nil) rfl le1 rF (sD (sD (sD sR))) ?_))))))))))))))
  have e9 : x1 = decide (0 ≤ (rs.getD o ([], [])).1.getD p 0 ∧ meetB ar rs o p u = true) := by
    cases h9 : x1 with
    | true => exact (decide_eq_true ⟨by omega, meet_yes (by omega) (hy1 h9)⟩).symm
    | false => exact (decide_eq_false (fun h => by rw [meet_no (hn1 h9)] at h; cases h.2)).symm
  exact ⟨congrArg Value.bool e9.symm, rfl⟩
 refine qr (t := 34) rfl (vF h3) (qr (t := 34) rfl (vF h3) (qr (t := 34) rfl (vF h3) (qs (t := 31) rfl (vF h2) (qT (.bool (false)) (vF h3) rfl (cX (qT (.bool (false)) (vF h2) rfl (qb (jw rfl (qu (qc (qa (cX (qC [arv, rsv] isAgg32 jJ rfl rfl (Rd.ownN [] rfl rfl) (qf (ii ((o : Int))) rfl ?_))))))))))))))
 refine qf (ii ((p : Int))) rfl (qf (ii ((u : Int))) rfl (cX (qq (args := [.agg #[arv, rsv], ii (o : Int), ii (p : Int), ii (u : Int)]) call214 rfl (try_spec (o := o) (p := p) (u := u) har hrs hsys (by omega) (by omega) (by first | assumption | omega)) ?_)))
 rintro _ F2 _ le2 ⟨x2, b3, o2, bc2, l2, rfl, hs2, hb2, hy2, hn2, rfl⟩
 refine qf (.tuple #[ptr b3 0, .bool (x2)]) rfl (cX (qX (ptr b3 0) rfl rfl (cX (qX (.bool (x2)) rfl rfl (qh (ptr b3 0) rfl (qh (.bool (x2)) rfl (qb (qc (qa (qf (.bool (x2)) rfl (qh (.bool (x2)) rfl (qb (qA (qt (L' := L) [.bool (x2)] (.bool (x2)) (.tmp rfl .nil) rfl le2 rF (sD (sD (sD sR))) ?_))))))))))))))
 have e9 : x2 = decide (0 ≤ (rs.getD o ([], [])).1.getD p 0 ∧ meetB ar rs o p u = true) := by
   cases h9 : x2 with
   | true => exact (decide_eq_true ⟨by omega, meet_yes (by omega) (hy2 h9)⟩).symm
   | false => exact (decide_eq_false (fun h => by rw [meet_no (hn2 h9)] at h; cases h.2)).symm
 exact ⟨congrArg Value.bool e9.symm, rfl⟩

/- spec.l11Peak -/
set_option maxHeartbeats 2000000 in
set_option maxRecDepth 20000 in
theorem peak2_spec {F : FH} {L : List HP} {arv : Value} {ar : List Int} (har : IntsF F arv ar) {rsv : Value} {rs : List (List Int × List Int)} (hrs : PairsF F rsv rs) {o : Nat} {p : Nat} {u : Nat} (hsys : sysOk ar rs = true) (ho : o < rs.length) (hu : u < rs.length) (hp : p < (rs.getD o ([], [])).1.length) (hmt : meetB ar rs o p u = true) :
    Does prog 169 [.agg #[arv, rsv], ii ((o : Int)), ii ((p : Int)), ii ((u : Int))] F (L) (fun v F' L' => ∃ (a : Value), ∃ (b : Value), ∃ (c : Value), (.tuple #[.agg #[a, b, c, ii (((pkF ar rs o p u).getD P0).2.2.2.1), ii (((pkF ar rs o p u).getD P0).2.2.2.2.1), ii (((pkF ar rs o p u).getD P0).2.2.2.2.2)], .bool ((pkF ar rs o p u).isSome)] : Value) = v ∧ (IntsF F' a ((pkF ar rs o p u).getD P0).1) ∧ (IntsF F' b ((pkF ar rs o p u).getD P0).2.1) ∧ (IntsF F' c ((pkF ar rs o p u).getD P0).2.2.1) ∧ L = L') := by
 refine qM func169 rfl rfl rfl ?_
 have hlo : termOk ar (rs.getD o ([], [])).1 = true := rule_L hsys ho
 have hllo : 1 ≤ (rs.getD o ([], [])).1.length ∧ (rs.getD o ([], [])).1.length ≤ 60 := termOk_len hlo
 have hglo : ∀ k, k < (rs.getD o ([], [])).1.length → -24 ≤ (rs.getD o ([], [])).1.getD k 0 := fun k h => termOk_ge hlo h
 have hlu : termOk ar (rs.getD u ([], [])).1 = true := rule_L hsys hu
 have hllu : 1 ≤ (rs.getD u ([], [])).1.length ∧ (rs.getD u ([], [])).1.length ≤ 60 := termOk_len hlu
 have hglu : ∀ k, k < (rs.getD u ([], [])).1.length → -24 ≤ (rs.getD u ([], [])).1.getD k 0 := fun k h => termOk_ge hlu h
 have hro : termOk ar (rs.getD o ([], [])).2 = true := rule_R hsys ho
 have hlro : 1 ≤ (rs.getD o ([], [])).2.length ∧ (rs.getD o ([], [])).2.length ≤ 60 := termOk_len hro
 have hgro : ∀ k, k < (rs.getD o ([], [])).2.length → -24 ≤ (rs.getD o ([], [])).2.getD k 0 := fun k h => termOk_ge hro h
 have hru : termOk ar (rs.getD u ([], [])).2 = true := rule_R hsys hu
 have hlru : 1 ≤ (rs.getD u ([], [])).2.length ∧ (rs.getD u ([], [])).2.length ≤ 60 := termOk_len hru
 have hgru : ∀ k, k < (rs.getD u ([], [])).2.length → -24 ≤ (rs.getD u ([], [])).2.getD k 0 := fun k h => termOk_ge hru h
 have hrl := (sysOk_iff.1 hsys).2.1
 have hsig := (sysOk_iff.1 hsys).1
 have hsl := sigOk_spec hsig
 have hee := (termW_of hlo).endN hp
 have hal := away_len (l := (rs.getD u ([], [])).2)
 refine qc (qa (cX (jd [arv, rsv] rfl rfl ?_)))
 intro b1
 refine cX (jD [sN, sN, sN, ii (0), ii (0), ii (0)] jq rfl ?_)
 intro b2
 refine qh (.bool (false)) rfl (qb (qc (qa (cX (qC [arv, rsv] isAgg32 jJ rfl rfl (Rd.ownN [_] rfl rfl) (qf (ii ((o : Int))) rfl (qf (ii ((p : Int))) rfl (qf (ii ((u : Int))) rfl (cX (qq (args := [.agg #[arv, rsv], ii (o : Int), ii (p : Int), ii (u : Int)]) call214 rfl (try_spec (o := o) (p := p) (u := u) har hrs hsys (by omega) (by omega) (by first | assumption | omega)) ?_))))))))))
 rintro _ F1 _ le1 ⟨x1, b3, o1, bc1, l1, rfl, hs1, hb1, hy1, hn1, rfl⟩
 replace har := har.mono le1
 replace hrs := hrs.mono le1
 refine qf (.tuple #[ptr b3 0, .bool (x1)]) rfl (cX (qX (ptr b3 0) rfl rfl (cX (qX (.bool (x1)) rfl rfl (qh (ptr b3 0) rfl (qh (.bool (x1)) rfl ?_))))))
 have hxt : x1 = true := by
   cases h9 : x1 with
   | true => rfl
   | false => have h8 := hn1 h9; rw [meet_no h8] at hmt; cases hmt
 have hmg := hy1 hxt
 have hbo := hmg.ok
 obtain ⟨σ, hσ⟩ := hbo.sol
 have hgs := hσ.good hbo
 obtain ⟨hLg, hLl, hLp⟩ := left_ok (ar := ar) (rs := rs) (o := o) (u := u) (p := p) hsys ho hu
 refine qb (qc (qa (cX (qm (1) qS rfl jB (by decide) rfl rfl (cX (qi jI rfl (Rd.own [_, _, _] rfl rfl) (qf (ii ((o : Int))) rfl (cX (ql o ja jl rfl rfl rfl hrs.slv (by omega) rfl ?_)))))))))
 obtain ⟨a1, a2, ha1, ha2, hr1, hr2⟩ := hrs.rd (i := o) (by omega)
 refine cX (qC [a1, a2] isAgg72 jl rfl rfl (Rd.two (hr1 _) (hr2 _)) (cX (jD [sN, sN] zeroValue72 rfl ?_)))
 intro b4
 refine cX (jn [] _ [a1, a2] jl rfl rfl rfl (qy (jh (qG ha1)) (qy (jh (qG ha2)) jo)) rfl rfl rfl (qb (qc (qa (cX (qm (0) qS rfl qI (by decide) rfl rfl (cX (qC [arv] jf qI rfl rfl (Rd.ownN [_, _, _, _] rfl rfl) (cX (qm (0) qR rfl qp (by decide) rfl rfl (cX (qi qL rfl (Rd.own [] rfl rfl) (qf (ii ((p : Int))) rfl (cX (qq (args := [.agg #[arv], a1, ii (p : Int)]) call215 rfl (l13End_spec (q := p) har ha1 (ho := (termW_of hlo)) (hp := (hp))) ?_)))))))))))))))
 rintro _ _ _ _ ⟨rfl, rfl, rfl⟩
 refine qh (ii (((endN ar ((rs.getD o ([], [])).1) p : Nat) : Int))) rfl (qb (qc ?_))
 obtain ⟨a3, a4, ha3, ha4, hr3, hr4⟩ := hrs.rd (i := u) (by omega)
 refine X.drawG [cellsH b4 [a1, a2] 72, cellsH b3 [o1] 234, slH 27 1 o1 48 bc1, cellsH b2 [sN, sN, sN, ii (0), ii (0), ii (0)] 76, cellsH b1 [arv, rsv] 32] L 12 [] [[], [], [1], [], [2, 3], [0, 4], [], [6], [], [7, 8], [9], [10]] [] (phiG [fun FF us v => ∃ b, v = .slice (some ⟨b, 0, none⟩) 0 0, pe (ptr b4 0), pe a1, pe (ii ((p : Int)) : Value), fun FF us v => (v : Value) = v ∧ (IntsF FF v ((((rs.getD o ([], [])).1).drop 0).take (p - 0))) ∧ (isNil v = isNil a1), fun FF us v => IsSl v, pe (ptr b1 1), pe rsv, pe (ii ((u : Int)) : Value), pe (.pointer (some (elemA rsv (u * 2)))), pe (.pointer (some (elemA rsv (u * 2 + 1)))), pe a4]) (ownL [fun us v => [slH 2 1 v 0 []], o0, o0, o0, o0, fun us v => [intsH 2 (v) (((((rs.getD o ([], [])).1).drop 0).take (p - 0)))]]) mixed rfl rfl (by kernel_rfl) (by kernel_rfl) (MonoG.get (mC (fun le h => h) (mC (fun le h => h) (m1 (m1 (mC (fun le h => ⟨h.1, h.2.1.mono le, h.2.2⟩) (mC (fun le h => h) (mC (fun le h => h) (m1 (m1 (m1 (m1 (m1 MonoG.nil))))))))))))) ?_ ?_
 ·refine gD (fun W Fs R lF z9 => ?_) ?_
  ·replace har := har.mono lF
   replace hrs := hrs.mono lF
   replace hb1 := hb1.mono lF
   replace ha1 := ha1.mono lF
   replace ha2 := ha2.mono lF
   replace ha4 := ha4.mono lF
   replace hr4 := Rd.monoA hr4 lF
   refine qg (qW (s := 1) [] [ii (0)] [] qd qn jx rfl (by decide) rfl CellsAre.nil rfl ?_)
   intro v3 hv3
   exact ⟨hv3, rfl⟩
  refine gD (fun W Fs R lF z9 => ?_) ?_
  ·refine qg (qm (0) qR rfl qp (by decide) rfl rfl ?_)
   exact ⟨rfl, rfl⟩
  refine gD (fun W Fs R lF z9 => ?_) ?_
  ·replace har := har.mono lF
   replace hrs := hrs.mono lF
   replace hb1 := hb1.mono lF
   replace ha1 := ha1.mono lF
   replace ha2 := ha2.mono lF
   replace ha4 := ha4.mono lF
   replace hr4 := Rd.monoA hr4 lF
   rw [eS (l := [(1, _)]) ⟨z9 1 rfl, ⟨⟩⟩]
   refine qg (qi qL rfl (Rd.own [] rfl rfl) ?_)
   exact ⟨rfl, rfl⟩
  refine gD (fun W Fs R lF z9 => ?_) ?_
  ·refine qg (qj (ii ((p : Int))) rfl ?_)
   exact ⟨rfl, rfl⟩
  refine gD (fun W Fs R lF z9 => ?_) ?_
  ·replace har := har.mono lF
   replace hrs := hrs.mono lF
   replace hb1 := hb1.mono lF
   replace ha1 := ha1.mono lF
   replace ha2 := ha2.mono lF
   replace ha4 := ha4.mono lF
   replace hr4 := Rd.monoA hr4 lF
   rw [eS (l := [(2, _), (3, _)]) ⟨z9 2 rfl, z9 3 rfl, ⟨⟩⟩]
   refine qg (XOp.sliceI 0 p qd qn rfl ha1 rfl ⟨_, rfl⟩ (by omega) (by omega) ?_)
   intro v4 hv4 hn3
   exact ⟨⟨rfl, hv4, hn3⟩, rfl⟩
  refine gD (fun W Fs R lF z9 => ?_) ?_
  ·have f0 : ∃ b, (W 0) = .slice (some ⟨b, 0, none⟩) 0 0 := z9 0 rfl
   obtain ⟨e4, f4_1hv, f4_1hn⟩ := z9 4 rfl
   replace har := har.mono lF
   replace hrs := hrs.mono lF
   replace hb1 := hb1.mono lF
   replace ha1 := ha1.mono lF
   replace ha2 := ha2.mono lF
   replace ha4 := ha4.mono lF
   replace hr4 := Rd.monoA hr4 lF
   rw [eS (l := [(4, (W 4))]) ⟨(e4).symm, ⟨⟩⟩]
   refine qg (XOp.appendE qd typeInfo2 rfl rfl rfl rfl rfl f0 f4_1hv (by (try simp only [List.length_append, List.length_nil, List.length_cons, List.length_singleton, List.length_take, List.length_drop]); omega) ?_)
   intro v5 hs2
   exact ⟨hs2, rfl⟩
  refine gD (fun W Fs R lF z9 => ?_) ?_
  ·refine qg (qm (1) qS rfl jB (by decide) rfl rfl ?_)
   exact ⟨rfl, rfl⟩
  refine gD (fun W Fs R lF z9 => ?_) ?_
  ·replace har := har.mono lF
   replace hrs := hrs.mono lF
   replace hb1 := hb1.mono lF
   replace ha1 := ha1.mono lF
   replace ha2 := ha2.mono lF
   replace ha4 := ha4.mono lF
   replace hr4 := Rd.monoA hr4 lF
   rw [eS (l := [(6, _)]) ⟨z9 6 rfl, ⟨⟩⟩]
   refine qg (qi jI rfl (Rd.own [_, _, _, _] rfl rfl) ?_)
   exact ⟨rfl, rfl⟩
  refine gD (fun W Fs R lF z9 => ?_) ?_
  ·refine qg (qj (ii ((u : Int))) rfl ?_)
   exact ⟨rfl, rfl⟩
  refine gD (fun W Fs R lF z9 => ?_) ?_
  ·replace har := har.mono lF
   replace hrs := hrs.mono lF
   replace hb1 := hb1.mono lF
   replace ha1 := ha1.mono lF
   replace ha2 := ha2.mono lF
   replace ha4 := ha4.mono lF
   replace hr4 := Rd.monoA hr4 lF
   rw [eS (l := [(7, _), (8, _)]) ⟨z9 7 rfl, z9 8 rfl, ⟨⟩⟩]
   refine qg (ql u ja jl rfl rfl rfl hrs.slv (by omega) rfl ?_)
   exact ⟨rfl, rfl⟩
  refine gD (fun W Fs R lF z9 => ?_) ?_
  ·rw [eS (l := [(9, _)]) ⟨z9 9 rfl, ⟨⟩⟩]
   refine qg (js (u * 2 + 1) qR rfl qp (by decide) rfl rfl ?_)
   exact ⟨rfl, rfl⟩
  refine gD (fun W Fs R lF z9 => ?_) ?_
  ·replace har := har.mono lF
   replace hb1 := hb1.mono lF
   replace ha1 := ha1.mono lF
   replace ha2 := ha2.mono lF
   replace ha4 := ha4.mono lF
   replace hr4 := Rd.monoA hr4 lF
   rw [eS (l := [(10, _)]) ⟨z9 10 rfl, ⟨⟩⟩]
   refine qg (qi qL rfl (hr4 _) ?_)
   exact ⟨rfl, rfl⟩
  exact stepsG.nil
 intro W F2 le2 hphi
 have f0 : ∃ b, (W 0) = .slice (some ⟨b, 0, none⟩) 0 0 := hphi 0 (by decide)
 obtain ⟨e4, f4_1hv, f4_1hn⟩ := hphi 4 (by decide)
 have f5 : IsSl (W 5) := hphi 5 (by decide)
 generalize hu0 : W 0 = u1 at f0 e4 f4_1hv f4_1hn f5
 generalize hu1 : (W 4) = u2 at f0 e4 f4_1hv f4_1hn f5
 generalize hu5 : W 5 = u3 at f0 e4 f4_1hv f4_1hn f5
 rw [eS (l := [(0, u1), (5, u3), (11, _)]) ⟨hu0, hu5, (hphi 11 (by decide)), ⟨⟩⟩]
 replace hb1 := hb1.mono le2
 replace ha1 := ha1.mono le2
 replace ha2 := ha2.mono le2
 replace ha4 := ha4.mono le2
 show XL _ _ _ _ _ _ _ (slH 2 1 u1 0 [] :: intsH 2 u3 (((((rs.getD o ([], [])).1).drop 0).take (p - 0))) :: cellsH b4 [a1, a2] 72 :: cellsH b3 [o1] 234 :: slH 27 1 o1 48 bc1 :: cellsH b2 [sN, sN, sN, ii (0), ii (0), ii (0)] 76 :: cellsH b1 [arv, rsv] 32 :: L)
 refine cX (jE <| qq (args := [a4, ii (24)]) call216 rfl (away2_spec (k := 24) ha4 (hk24 := (rfl)) (hlt := (by omega)) (htg := (fun i hi => by have := hgru i hi; omega))) ?_)
 rintro v6 _ _ _ ⟨rfl, hs3, rfl⟩
 refine ⟨_, _, rfl, fun F3 le3 hz1 => ?_⟩
 replace hb1 := hb1.mono le3
 replace ha1 := ha1.mono le3
 replace ha2 := ha2.mono le3
 have hf1 : IntsF F3 v6 ((awayL ((rs.getD u ([], [])).2))) := intsH.fz (xs := (awayL ((rs.getD u ([], [])).2))) hz1.fz
 refine cX (XOp.appendI [_] _ qd typeInfo2 rfl rfl rfl rfl rfl rfl hf1 (by (try simp only [List.length_append, List.length_nil, List.length_cons, List.length_singleton, List.length_take, List.length_drop]); omega) ?_)
 intro v7 hs4 hn4 hm1
 refine qh (v7) rfl (qb (qc (qa (qf (ptr b3 0) rfl (cX (qm (0) qR rfl qp (by decide) rfl rfl (cX (qi qL rfl (Rd.own [_, _] rfl rfl) ?_))))))))
 obtain ⟨ρ9, hρ9⟩ := hbo.acyc
 obtain ⟨k9, hk9⟩ := maxRank ((rs.getD o ([], [])).1) ρ9
 refine qU (qx (A := [_, _, _, _])) ?_
 show XL _ _ _ _ _ _ _ (slH 27 1 o1 48 bc1 :: slH 2 1 u1 0 [] :: intsH 2 v7 ((((((rs.getD o ([], [])).1).drop 0).take (p - 0))) ++ ((awayL ((rs.getD u ([], [])).2)))) :: cellsH b4 [a1, a2] 72 :: cellsH b3 [o1] 234 :: cellsH b2 [sN, sN, sN, ii (0), ii (0), ii (0)] 76 :: cellsH b1 [arv, rsv] 32 :: L)
 refine qU (qx (A := [_, _, _, _])) ?_
 show XL _ _ _ _ _ _ _ (cellsH b3 [o1] 234 :: slH 27 1 o1 48 bc1 :: slH 2 1 u1 0 [] :: intsH 2 v7 ((((((rs.getD o ([], [])).1).drop 0).take (p - 0))) ++ ((awayL ((rs.getD u ([], [])).2)))) :: cellsH b4 [a1, a2] 72 :: cellsH b2 [sN, sN, sN, ii (0), ii (0), ii (0)] 76 :: cellsH b1 [arv, rsv] 32 :: L)
 refine cX (qq (args := [ptr b3 0, a1]) call217 rfl (full_spec k9 hs1 hb1 hbo ha1 hσ hρ9 (fun m hm _ => hk9 m hm) (fun i hi => by have := hglo i hi; omega) (by omega)) ?_)
 rintro v8 _ _ _ ⟨hs5, rfl, rfl⟩
 refine qh (v8) rfl (XL.freezeF [] _ _ rfl (fun F4 le4 hz2 => ?_))
 replace hb1 := hb1.mono le4
 replace ha1 := ha1.mono le4
 replace ha2 := ha2.mono le4
 have hf2 : IntsF F4 v8 ((fullX σ ((rs.getD o ([], [])).1))) := intsH.fz (xs := (fullX σ ((rs.getD o ([], [])).1))) hz2.fz
 have hfl15 : (fullX σ ((rs.getD o ([], [])).1)).length ≤ 60 := fullX_len
 skip
 refine qb (qc (qa (qf (ptr b3 0) rfl (qf (v7) rfl (cX (qm (0) qR rfl qp (by decide) rfl rfl (cX (qi qL rfl (Rd.own [_, _, _, _] rfl rfl) (qf (ii (((endN ar ((rs.getD o ([], [])).1) p : Nat) : Int))) rfl (cX (XOp.sliceI (endN ar ((rs.getD o ([], [])).1) p) (((rs.getD o ([], [])).1).length) qd qn rfl ha1 ⟨_, rfl⟩ rfl (by omega) (by omega) ?_)))))))))))
 intro v9 hv5 hn5
 refine cX (XOp.appendI [_, _, _] _ qd typeInfo2 rfl rfl rfl rfl rfl rfl hv5 (by (try simp only [List.length_append, List.length_nil, List.length_cons, List.length_singleton, List.length_take, List.length_drop]); omega) ?_)
 intro v10 hs6 hn6 hm2
 refine XL.freezeF [_, _, _] _ _ rfl (fun F5 le5 hz3 => ?_)
 replace hb1 := hb1.mono le5
 replace ha2 := ha2.mono le5
 replace hf2 := hf2.mono le5
 have hf3 : IntsF F5 v10 (((((((rs.getD o ([], [])).1).drop 0).take (p - 0))) ++ ((awayL ((rs.getD u ([], [])).2)))) ++ (((((rs.getD o ([], [])).1).drop (endN ar ((rs.getD o ([], [])).1) p)).take ((((rs.getD o ([], [])).1).length) - (endN ar ((rs.getD o ([], [])).1) p))))) := intsH.fz (xs := ((((((rs.getD o ([], [])).1).drop 0).take (p - 0))) ++ ((awayL ((rs.getD u ([], [])).2)))) ++ (((((rs.getD o ([], [])).1).drop (endN ar ((rs.getD o ([], [])).1) p)).take ((((rs.getD o ([], [])).1).length) - (endN ar ((rs.getD o ([], [])).1) p))))) hz3.fz
 skip
 obtain ⟨ρ9, hρ9⟩ := hbo.acyc
 obtain ⟨k9, hk9⟩ := maxRank (((((((rs.getD o ([], [])).1).drop 0).take (p - 0))) ++ ((awayL ((rs.getD u ([], [])).2)))) ++ (((((rs.getD o ([], [])).1).drop (endN ar ((rs.getD o ([], [])).1) p)).take ((((rs.getD o ([], [])).1).length) - (endN ar ((rs.getD o ([], [])).1) p))))) ρ9
 have hLE9 : ((((((rs.getD o ([], [])).1).drop 0).take (p - 0))) ++ ((awayL ((rs.getD u ([], [])).2)))) ++ (((((rs.getD o ([], [])).1).drop (endN ar ((rs.getD o ([], [])).1) p)).take ((((rs.getD o ([], [])).1).length) - (endN ar ((rs.getD o ([], [])).1) p)))) = leftT ar rs o p u := left_eq
 refine qU (qx (A := [_])) ?_
 show XL _ _ _ _ _ _ _ (slH 27 1 o1 48 bc1 :: cellsH b3 [o1] 234 :: slH 2 1 u1 0 [] :: cellsH b4 [a1, a2] 72 :: cellsH b2 [sN, sN, sN, ii (0), ii (0), ii (0)] 76 :: cellsH b1 [arv, rsv] 32 :: L)
 refine qU (qx (A := [_])) ?_
 show XL _ _ _ _ _ _ _ (cellsH b3 [o1] 234 :: slH 27 1 o1 48 bc1 :: slH 2 1 u1 0 [] :: cellsH b4 [a1, a2] 72 :: cellsH b2 [sN, sN, sN, ii (0), ii (0), ii (0)] 76 :: cellsH b1 [arv, rsv] 32 :: L)
 refine cX (qq (args := [ptr b3 0, v10]) call217 rfl (full_spec k9 hs1 hb1 hbo hf3 hσ hρ9 (fun m hm _ => hk9 m hm) (by rw [hLE9]; exact hLg) (by rw [hLE9]; exact hLl)) ?_)
 rintro v11 _ _ _ ⟨hs7, rfl, rfl⟩
 refine qh (v11) rfl (XL.freezeF [] _ _ rfl (fun F6 le6 hz4 => ?_))
 replace hb1 := hb1.mono le6
 replace ha2 := ha2.mono le6
 replace hf2 := hf2.mono le6
 have hf4 : IntsF F6 v11 ((fullX σ (((((((rs.getD o ([], [])).1).drop 0).take (p - 0))) ++ ((awayL ((rs.getD u ([], [])).2)))) ++ (((((rs.getD o ([], [])).1).drop (endN ar ((rs.getD o ([], [])).1) p)).take ((((rs.getD o ([], [])).1).length) - (endN ar ((rs.getD o ([], [])).1) p))))))) := intsH.fz (xs := (fullX σ (((((((rs.getD o ([], [])).1).drop 0).take (p - 0))) ++ ((awayL ((rs.getD u ([], [])).2)))) ++ (((((rs.getD o ([], [])).1).drop (endN ar ((rs.getD o ([], [])).1) p)).take ((((rs.getD o ([], [])).1).length) - (endN ar ((rs.getD o ([], [])).1) p))))))) hz4.fz
 rw [hLE9] at hf4
 have hfl16 : (fullX σ (leftT ar rs o p u)).length ≤ 60 := fullX_len
 skip
 refine qb (qc (qa (qf (ptr b3 0) rfl (cX (qm (1) qR rfl qp (by decide) rfl rfl (cX (qi qL rfl (Rd.own [_, _, _] rfl rfl) ?_)))))))
 obtain ⟨ρ9, hρ9⟩ := hbo.acyc
 obtain ⟨k9, hk9⟩ := maxRank ((rs.getD o ([], [])).2) ρ9
 refine qU (qx (A := [_])) ?_
 show XL _ _ _ _ _ _ _ (slH 27 1 o1 48 bc1 :: cellsH b3 [o1] 234 :: slH 2 1 u1 0 [] :: cellsH b4 [a1, a2] 72 :: cellsH b2 [sN, sN, sN, ii (0), ii (0), ii (0)] 76 :: cellsH b1 [arv, rsv] 32 :: L)
 refine qU (qx (A := [_])) ?_
 show XL _ _ _ _ _ _ _ (cellsH b3 [o1] 234 :: slH 27 1 o1 48 bc1 :: slH 2 1 u1 0 [] :: cellsH b4 [a1, a2] 72 :: cellsH b2 [sN, sN, sN, ii (0), ii (0), ii (0)] 76 :: cellsH b1 [arv, rsv] 32 :: L)
 refine cX (qq (args := [ptr b3 0, a2]) call217 rfl (full_spec k9 hs1 hb1 hbo ha2 hσ hρ9 (fun m hm _ => hk9 m hm) (fun i hi => by have := hgro i hi; omega) (by omega)) ?_)
 rintro v12 _ _ _ ⟨hs8, rfl, rfl⟩
 refine qh (v12) rfl (XL.freezeF [] _ _ rfl (fun F7 le7 hz5 => ?_))
 replace hf2 := hf2.mono le7
 replace hf4 := hf4.mono le7
 have hf5 : IntsF F7 v12 ((fullX σ ((rs.getD o ([], [])).2))) := intsH.fz (xs := (fullX σ ((rs.getD o ([], [])).2))) hz5.fz
 have hfl17 : (fullX σ ((rs.getD o ([], [])).2)).length ≤ 60 := fullX_len
 skip
 refine qb (qc (qa (qf (v8) rfl (cX (jE <| qq (args := [v8]) call147 rfl (l2OrderL_spec hf2 (hlt := (by omega))) ?_)))))
 rintro v13 _ _ _ ⟨rfl, hs9, rfl⟩
 refine ⟨_, _, rfl, fun F8 le8 hz6 => ?_⟩
 replace hf2 := hf2.mono le8
 replace hf4 := hf4.mono le8
 replace hf5 := hf5.mono le8
 have hf6 : IntsF F8 v13 ((orderL ((fullX σ ((rs.getD o ([], [])).1))))) := intsH.fz (xs := (orderL ((fullX σ ((rs.getD o ([], [])).1))))) hz6.fz
 refine qh (v13) rfl ?_
 have hol18 := ord_len (t := (fullX σ ((rs.getD o ([], [])).1)))
 skip
 refine qb (qc (qc (qa (qf (v8) rfl (cX (qE qd rfl hf2.slv (cX (jH rfl rfl (qf (.bool (decide ((((((fullX σ ((rs.getD o ([], [])).1))).length : Nat) : Int) : Int) = 0))) rfl ?_)))))))))
 by_cases h1 : (((((fullX σ ((rs.getD o ([], [])).1))).length : Nat) : Int) : Int) = 0
 ·have hnil : fullX σ (Lr rs o) = [] ∨ fullX σ (leftT ar rs o p u) = [] ∨ fullX σ (Rr rs o) = [] := .inl (List.eq_nil_of_length_eq_zero (show ((fullX σ ((rs.getD o ([], [])).1))).length = 0 from by omega))
  refine qr (t := 73) rfl (vT h1) (qr (t := 73) rfl (vT h1) (qr (t := 73) rfl (vT h1) (cX (qV (.bool (true)) (vT h1) rfl (qf (.bool (true)) rfl (qr (t := 78) rfl rfl (qr (t := 78) rfl rfl (qr (t := 78) rfl rfl (cX (qV (.bool (true)) rfl rfl (qf (.bool (true)) rfl ?_)))))))))))
  refine qr (t := 83) rfl rfl (qr (t := 83) rfl rfl (qr (t := 83) rfl rfl (cX (qV (.bool (true)) rfl rfl (qb (jA rfl (qc (qa (cX (jt [sN, sN, sN, ii (0), ii (0), ii (0)] [sN, sN, sN, ii (0), ii (0), ii (0)] [(0, 1), (1, 1), (2, 1), (3, 1), (4, 1), (5, 1)] [] qK jq rfl (.cons rfl qp (.cons rfl qp (.cons rfl qp (.cons rfl qn (.cons rfl qn (.cons rfl qn PlacesAre.nil)))))) rfl CellsAre.nil (cX (jn [_, _, _, _] _ [sN, sN, sN, ii (0), ii (0), ii (0)] jc rfl rfl rfl (qy rfl (qy rfl (qy rfl (qy rfl (qy rfl (qy rfl jo)))))) rfl rfl rfl (qh (.bool (false)) rfl ?_)))))))))))))
  refine qb (qA (qk (qt (L' := L) [.agg #[sN, sN, sN, ii (0), ii (0), ii (0)], .bool (false)] (.tuple #[.agg #[sN, sN, sN, ii (0), ii (0), ii (0)], .bool (false)]) (.cell rfl (loadNV [sN, sN, sN, ii (0), ii (0), ii (0)] isAgg76 jc rfl (Rd.ownN [_, _, _, _] rfl rfl)) (.tmp rfl .nil)) rfl (qo (qo (qo (qo (qo (qo (qo le1 le2) le3) le4) le5) le6) le7) le8) rF (sD (sD (sD (sD (sD (sD sR)))))) ?_)))
  have e : pkF ar rs o p u = none := by first | exact pk_nil hsys ho hu hmt hmg hσ hnil | exact pk_order hsys ho hu hmt hmg hσ h24
  exact ⟨_, _, _, by rw [e]; rfl, by rw [e]; exact IntsF.nilV, by rw [e]; exact IntsF.nilV, by rw [e]; exact IntsF.nilV, rfl⟩
 have eL : fullX σ (rs.getD o ([], [])).1 = ap σ (rs.getD o ([], [])).1 := fullX_yes (fun e => by (have e9 : ((fullX σ ((rs.getD o ([], [])).1))).length = 0 := (congrArg List.length e :)); omega)
 have lL : (ap σ (rs.getD o ([], [])).1).length ≤ 60 := by rw [← eL]; exact fullX_len
 refine qs (t := 73) rfl (vF h1) (qj (v11) rfl (qs (t := 73) rfl (vF h1) (qE qd rfl hf4.slv (qs (t := 73) rfl (vF h1) (jH rfl rfl (cX (qT (.bool (decide ((((((fullX σ (leftT ar rs o p u))).length : Nat) : Int) : Int) = 0))) (vF h1) rfl (qf (.bool (decide ((((((fullX σ (leftT ar rs o p u))).length : Nat) : Int) : Int) = 0))) rfl ?_))))))))
 by_cases h2 : (((((fullX σ (leftT ar rs o p u))).length : Nat) : Int) : Int) = 0
 ·have hnil : fullX σ (Lr rs o) = [] ∨ fullX σ (leftT ar rs o p u) = [] ∨ fullX σ (Rr rs o) = [] := .inr <| .inl (List.eq_nil_of_length_eq_zero (show ((fullX σ (leftT ar rs o p u))).length = 0 from by omega))
  refine qr (t := 78) rfl (vT h2) (qr (t := 78) rfl (vT h2) (qr (t := 78) rfl (vT h2) (cX (qV (.bool (true)) (vT h2) rfl (qf (.bool (true)) rfl (qr (t := 83) rfl rfl (qr (t := 83) rfl rfl (qr (t := 83) rfl rfl (cX (qV (.bool (true)) rfl rfl (qb ?_)))))))))))
  refine jA rfl (qc (qa (cX (jt [sN, sN, sN, ii (0), ii (0), ii (0)] [sN, sN, sN, ii (0), ii (0), ii (0)] [(0, 1), (1, 1), (2, 1), (3, 1), (4, 1), (5, 1)] [] qK jq rfl (.cons rfl qp (.cons rfl qp (.cons rfl qp (.cons rfl qn (.cons rfl qn (.cons rfl qn PlacesAre.nil)))))) rfl CellsAre.nil (cX (jn [_, _, _, _] _ [sN, sN, sN, ii (0), ii (0), ii (0)] jc rfl rfl rfl (qy rfl (qy rfl (qy rfl (qy rfl (qy rfl (qy rfl jo)))))) rfl rfl rfl (qh (.bool (false)) rfl (qb (qA (qk (qt (L' := L) [.agg #[sN, sN, sN, ii (0), ii (0), ii (0)], .bool (false)] (.tuple #[.agg #[sN, sN, sN, ii (0), ii (0), ii (0)], .bool (false)]) (.cell rfl (loadNV [sN, sN, sN, ii (0), ii (0), ii (0)] isAgg76 jc rfl (Rd.ownN [_, _, _, _] rfl rfl)) (.tmp rfl .nil)) rfl (qo (qo (qo (qo (qo (qo (qo le1 le2) le3) le4) le5) le6) le7) le8) rF (sD (sD (sD (sD (sD (sD sR)))))) ?_)))))))))))
  have e : pkF ar rs o p u = none := by first | exact pk_nil hsys ho hu hmt hmg hσ hnil | exact pk_order hsys ho hu hmt hmg hσ h24
  exact ⟨_, _, _, by rw [e]; rfl, by rw [e]; exact IntsF.nilV, by rw [e]; exact IntsF.nilV, by rw [e]; exact IntsF.nilV, rfl⟩
 have eM : fullX σ (leftT ar rs o p u) = ap σ (leftT ar rs o p u) := fullX_yes (fun e => by (have e9 : ((fullX σ (leftT ar rs o p u))).length = 0 := (congrArg List.length e :)); omega)
 have lM : (ap σ (leftT ar rs o p u)).length ≤ 60 := by rw [← eM]; exact fullX_len
 refine qs (t := 78) rfl (vF h2) (qj (v12) rfl (qs (t := 78) rfl (vF h2) (qE qd rfl hf5.slv (qs (t := 78) rfl (vF h2) (jH rfl rfl (cX (qT (.bool (decide ((((((fullX σ ((rs.getD o ([], [])).2))).length : Nat) : Int) : Int) = 0))) (vF h2) rfl (qf (.bool (decide ((((((fullX σ ((rs.getD o ([], [])).2))).length : Nat) : Int) : Int) = 0))) rfl ?_))))))))
 by_cases h3 : (((((fullX σ ((rs.getD o ([], [])).2))).length : Nat) : Int) : Int) = 0
 ·have hnil : fullX σ (Lr rs o) = [] ∨ fullX σ (leftT ar rs o p u) = [] ∨ fullX σ (Rr rs o) = [] := .inr <| .inr (List.eq_nil_of_length_eq_zero (show ((fullX σ ((rs.getD o ([], [])).2))).length = 0 from by omega))
  refine qr (t := 83) rfl (vT h3) (qr (t := 83) rfl (vT h3) (qr (t := 83) rfl (vT h3) (cX (qV (.bool (true)) (vT h3) rfl (qb (jA rfl (qc (qa (cX (jt [sN, sN, sN, ii (0), ii (0), ii (0)] [sN, sN, sN, ii (0), ii (0), ii (0)] [(0, 1), (1, 1), (2, 1), (3, 1), (4, 1), (5, 1)] [] qK jq rfl (.cons rfl qp (.cons rfl qp (.cons rfl qp (.cons rfl qn (.cons rfl qn (.cons rfl qn PlacesAre.nil)))))) rfl CellsAre.nil (cX (jn [_, _, _, _] _ [sN, sN, sN, ii (0), ii (0), ii (0)] jc rfl rfl rfl (qy rfl (qy rfl (qy rfl (qy rfl (qy rfl (qy rfl jo)))))) rfl rfl rfl (qh (.bool (false)) rfl ?_)))))))))))))
  refine qb (qA (qk (qt (L' := L) [.agg #[sN, sN, sN, ii (0), ii (0), ii (0)], .bool (false)] (.tuple #[.agg #[sN, sN, sN, ii (0), ii (0), ii (0)], .bool (false)]) (.cell rfl (loadNV [sN, sN, sN, ii (0), ii (0), ii (0)] isAgg76 jc rfl (Rd.ownN [_, _, _, _] rfl rfl)) (.tmp rfl .nil)) rfl (qo (qo (qo (qo (qo (qo (qo le1 le2) le3) le4) le5) le6) le7) le8) rF (sD (sD (sD (sD (sD (sD sR)))))) ?_)))
  have e : pkF ar rs o p u = none := by first | exact pk_nil hsys ho hu hmt hmg hσ hnil | exact pk_order hsys ho hu hmt hmg hσ h24
  exact ⟨_, _, _, by rw [e]; rfl, by rw [e]; exact IntsF.nilV, by rw [e]; exact IntsF.nilV, by rw [e]; exact IntsF.nilV, rfl⟩
 have eR : fullX σ (rs.getD o ([], [])).2 = ap σ (rs.getD o ([], [])).2 := fullX_yes (fun e => by (have e9 : ((fullX σ ((rs.getD o ([], [])).2))).length = 0 := (congrArg List.length e :)); omega)
 have lR : (ap σ (rs.getD o ([], [])).2).length ≤ 60 := by rw [← eR]; exact fullX_len
 refine qs (t := 83) rfl (vF h3) (qj (v13) rfl (qs (t := 83) rfl (vF h3) (qE qd rfl hf6.slv (qs (t := 83) rfl (vF h3) (XOp.gtr rfl rfl (cX (qT (.bool (decide ((((((orderL ((fullX σ ((rs.getD o ([], [])).1))))).length : Nat) : Int) : Int) > 24))) (vF h3) rfl (qb ?_))))))))
 refine qw (p := (((((orderL ((fullX σ ((rs.getD o ([], [])).1))))).length : Nat) : Int) : Int) > 24) rfl (fun h4 => ?_) (fun h4 => ?_)
 ·have h24 : 24 < (orderL (ap σ (rs.getD o ([], [])).1)).length := by rw [← eL]; omega
  refine qc (qa (cX (jt [sN, sN, sN, ii (0), ii (0), ii (0)] [sN, sN, sN, ii (0), ii (0), ii (0)] [(0, 1), (1, 1), (2, 1), (3, 1), (4, 1), (5, 1)] [] qK jq rfl (.cons rfl qp (.cons rfl qp (.cons rfl qp (.cons rfl qn (.cons rfl qn (.cons rfl qn PlacesAre.nil)))))) rfl CellsAre.nil (cX (jn [_, _, _, _] _ [sN, sN, sN, ii (0), ii (0), ii (0)] jc rfl rfl rfl (qy rfl (qy rfl (qy rfl (qy rfl (qy rfl (qy rfl jo)))))) rfl rfl rfl (qh (.bool (false)) rfl (qb (qA (qk (qt (L' := L) [.agg #[sN, sN, sN, ii (0), ii (0), ii (0)], .bool (false)] (.tuple #[.agg #[sN, sN, sN, ii (0), ii (0), ii (0)], .bool (false)]) (.cell rfl (loadNV [sN, sN, sN, ii (0), ii (0), ii (0)] isAgg76 jc rfl (Rd.ownN [_, _, _, _] rfl rfl)) (.tmp rfl .nil)) rfl (qo (qo (qo (qo (qo (qo (qo le1 le2) le3) le4) le5) le6) le7) le8) rF (sD (sD (sD (sD (sD (sD sR)))))) ?_))))))))))
  have e : pkF ar rs o p u = none := by first | exact pk_nil hsys ho hu hmt hmg hσ hnil | exact pk_order hsys ho hu hmt hmg hσ h24
  exact ⟨_, _, _, by rw [e]; rfl, by rw [e]; exact IntsF.nilV, by rw [e]; exact IntsF.nilV, by rw [e]; exact IntsF.nilV, rfl⟩
 have h24 : (orderL (ap σ (rs.getD o ([], [])).1)).length ≤ 24 := by rw [← eL]; omega
 refine qu (qc (qa (qf (v13) rfl (qf (v8) rfl (cX (jE <| qq (args := [v13, v8]) call146 rfl (l2ByL_spec hf6 hf2 (hno := (ord_nodup)) (hlo := (by omega)) (hlt := (by first | omega | (have := fullX_len (σ := σ) (t := (rs.getD o ([], [])).1); omega)))) ?_))))))
 rintro v14 _ _ _ ⟨rfl, hs10, rfl⟩
 refine ⟨_, _, rfl, fun F9 le9 hz7 => ?_⟩
 replace hf4 := hf4.mono le9
 replace hf5 := hf5.mono le9
 replace hf6 := hf6.mono le9
 have hf7 : IntsF F9 v14 ((byL ((orderL ((fullX σ ((rs.getD o ([], [])).1))))) ((fullX σ ((rs.getD o ([], [])).1))))) := intsH.fz (xs := (byL ((orderL ((fullX σ ((rs.getD o ([], [])).1))))) ((fullX σ ((rs.getD o ([], [])).1))))) hz7.fz
 skip
 refine qf (v13) rfl (qf (v11) rfl (cX (jE <| qq (args := [v13, v11]) call146 rfl (l2ByL_spec hf6 hf4 (hno := (ord_nodup)) (hlo := (by omega)) (hlt := (by first | omega | (have := fullX_len (σ := σ) (t := (rs.getD o ([], [])).1); omega)))) ?_)))
 rintro v15 _ _ _ ⟨rfl, hs11, rfl⟩
 refine ⟨_, _, rfl, fun F10 le10 hz8 => ?_⟩
 replace hf5 := hf5.mono le10
 replace hf6 := hf6.mono le10
 replace hf7 := hf7.mono le10
 have hf8 : IntsF F10 v15 ((byL ((orderL ((fullX σ ((rs.getD o ([], [])).1))))) ((fullX σ (leftT ar rs o p u))))) := intsH.fz (xs := (byL ((orderL ((fullX σ ((rs.getD o ([], [])).1))))) ((fullX σ (leftT ar rs o p u))))) hz8.fz
 skip
 refine qf (v13) rfl (qf (v12) rfl (cX (jE <| qq (args := [v13, v12]) call146 rfl (l2ByL_spec hf6 hf5 (hno := (ord_nodup)) (hlo := (by omega)) (hlt := (by first | omega | (have := fullX_len (σ := σ) (t := (rs.getD o ([], [])).1); omega)))) ?_)))
 rintro v16 _ _ _ ⟨rfl, hs12, rfl⟩
 refine ⟨_, _, rfl, fun F11 le11 hz9 => ?_⟩
 replace hf7 := hf7.mono le11
 replace hf8 := hf8.mono le11
 have hf9 : IntsF F11 v16 ((byL ((orderL ((fullX σ ((rs.getD o ([], [])).1))))) ((fullX σ ((rs.getD o ([], [])).2))))) := intsH.fz (xs := (byL ((orderL ((fullX σ ((rs.getD o ([], [])).1))))) ((fullX σ ((rs.getD o ([], [])).2))))) hz9.fz
 skip
 refine qf (ii ((p : Int))) rfl (qf (ii ((u : Int))) rfl (qf (ii ((o : Int))) rfl (cX (jt [v14, v15, v16, ii ((p : Int)), ii ((u : Int)), ii ((o : Int))] [sN, sN, sN, ii (0), ii (0), ii (0)] [(0, 1), (1, 1), (2, 1), (3, 1), (4, 1), (5, 1)] [(0, [v14]), (1, [v15]), (2, [v16]), (3, [ii ((p : Int))]), (4, [ii ((u : Int))]), (5, [ii ((o : Int))])] qK jq rfl (.cons rfl qp (.cons rfl qp (.cons rfl qp (.cons rfl qn (.cons rfl qn (.cons rfl qn PlacesAre.nil)))))) rfl (.cons (cells_one (qG hf7)) (.cons (cells_one (qG hf8)) (.cons (cells_one (qG hf9)) (.cons rfl (.cons rfl (.cons rfl CellsAre.nil)))))) (cX (jn [_, _, _, _] _ [v14, v15, v16, ii ((p : Int)), ii ((u : Int)), ii ((o : Int))] jc rfl rfl rfl (qy (jh (qG hf7)) (qy (jh (qG hf8)) (qy (jh (qG hf9)) (qy rfl (qy rfl (qy rfl jo)))))) rfl rfl rfl (qh (.bool (true)) rfl (qb (qA (qt (L' := L) [.agg #[v14, v15, v16, ii ((p : Int)), ii ((u : Int)), ii ((o : Int))], .bool (true)] (.tuple #[.agg #[v14, v15, v16, ii ((p : Int)), ii ((u : Int)), ii ((o : Int))], .bool (true)]) (.cell rfl (loadNV [v14, v15, v16, ii ((p : Int)), ii ((u : Int)), ii ((o : Int))] isAgg76 jc rfl (Rd.ownN [_, _, _, _] rfl rfl)) (.tmp rfl .nil)) rfl (qo (qo (qo (qo (qo (qo (qo (qo (qo (qo le1 le2) le3) le4) le5) le6) le7) le8) le9) le10) le11) rF (sD (sD (sD (sD (sD (sD sR)))))) ?_))))))))))
 have e := pk_yes hsys ho hu hmt hmg hσ lL lM lR h24
 rw [← eL, ← eM, ← eR] at e
 exact ⟨_, _, _, by rw [e]; rfl, by rw [e]; exact hf7, by rw [e]; exact hf8, by rw [e]; exact hf9, rfl⟩
end Go.Proofs.Ytcdjpapjjoldeaa
set_option linter.unusedSimpArgs false
set_option linter.unusedVariables false
namespace Go.Proofs.Ytcdjpapjjoldeaa
open Go X M Try

/- spec.l11All -/
set_option maxHeartbeats 2000000 in
set_option maxRecDepth 20000 in
theorem all2_spec {F : FH} {L : List HP} {arv : Value} {ar : List Int} (har : IntsF F arv ar) {rsv : Value} {rs : List (List Int × List Int)} (hrs : PairsF F rsv rs) (hsys : sysOk ar rs = true) :
    Does prog 96 [.agg #[arv, rsv]] F (L) (fun v F' L' => ∃ (a : Value), (.tuple #[a, .bool ((peaksF ar rs).isSome)] : Value) = v ∧ (PeaksF F' a ((peaksF ar rs).getD [])) ∧ L = L') := by
 refine qM func96 rfl rfl rfl ?_
 have hrl := (sysOk_iff.1 hsys).2.1
 refine qc (qa (cX (jd [arv, rsv] rfl rfl ?_)))
 intro b1
 refine qh (sN) rfl (qh (.bool (false)) rfl (qb (qc (qa (cX (qW (s := 6) [] [sN, sN, sN, ii (0), ii (0), ii (0)] [] jb jc jq rfl (by decide) rfl CellsAre.nil rfl ?_))))))
 intro v1 hv1
 refine qh (v1) rfl (qb (qc (qa (cX (qm (1) qS rfl jB (by decide) rfl rfl (cX (qi jI rfl (Rd.own [_] rfl rfl) (cX (qE ja rfl hrs.slv (qh (ii ((rs.length : Int))) rfl (qb (qc (qc (qa (qh (ii (0)) rfl (qb (qJ ?_)))))))))))))))))
 have hc1 : PeaksC F [] ([] : List PeakT) := (CO.nil : PeaksC F [] [])
 refine jk (α := Nat × Value × List PkT × List Value × Nat × FH) (fun xQ => [(1, ptr b1 0), (4, xQ.2.1), (5, ii ((rs.length : Int))), (6, ii (((xQ.1 : Nat) : Int)))]) (fun xQ => slH 76 6 xQ.2.1 xQ.2.2.2.2.1 xQ.2.2.2.1 :: cellsH b1 [arv, rsv] 32 :: L) (fun xQ F' => xQ.2.2.2.2.2 = F' ∧ F ≤ xQ.2.2.2.2.2 ∧ (IsSl xQ.2.1) ∧ (PeaksC xQ.2.2.2.2.2 xQ.2.2.2.1 xQ.2.2.1) ∧ (xQ.2.2.2.2.1 = xQ.2.2.1.length) ∧ (xQ.1 ≤ rs.length) ∧ (PkI ar rs (mO ar rs xQ.1) xQ.2.2.1)) (fun xQ => rs.length - xQ.1) (0, v1, [], [], 0, F) ⟨rfl, rfl, rfl, rfl, ⟨⟩⟩ (sC (sC sR)) ⟨rfl, FLe.refl _, ((isSl_lit hv1)), (hc1), (rfl), (by (try dsimp only) <;> omega), (PkI.start)⟩ ?_
 rintro ⟨o, ova, osa, csa, ma, G1⟩ rE _ _ ⟨rfl, leG, hova, hCa, hma, hbo, hIa⟩
 show X _ _ _ _ (envs [(1, ptr b1 0), (4, ova), (5, ii ((rs.length : Int))), (6, ii ((o : Int)))] rE) _ (slH 76 6 ova ma csa :: cellsH b1 [arv, rsv] 32 :: L)
 replace leG : F ≤ G1 := leG
 dsimp only at hova hCa hma hbo hIa
 have hlna := hIa.len
 have leG1 := leG
 replace har := har.mono leG1
 replace hrs := hrs.mono leG1
 refine qc (qc (qa (qf (ii ((o : Int))) rfl (qf (ii ((rs.length : Int))) rfl (cX (qF rfl rfl (qb ?_)))))))
 refine qw (p := (o : Int) < (rs.length : Int)) rfl (fun h1 => ?_) (fun h1 => ?_)
 ·refine qu (qc (qJ (qc (qa (qh (ii (0)) rfl (qb (qJ (jk (α := Nat × Value × List PkT × List Value × Nat × FH) (fun xQ => [(1, ptr b1 0), (4, xQ.2.1), (5, ii ((rs.length : Int))), (6, ii ((o : Int))), (7, ii (((xQ.1 : Nat) : Int)))]) (fun xQ => slH 76 6 xQ.2.1 xQ.2.2.2.2.1 xQ.2.2.2.1 :: cellsH b1 [arv, rsv] 32 :: L) (fun xQ F' => xQ.2.2.2.2.2 = F' ∧ G1 ≤ xQ.2.2.2.2.2 ∧ (IsSl xQ.2.1) ∧ (PeaksC xQ.2.2.2.2.2 xQ.2.2.2.1 xQ.2.2.1) ∧ (xQ.2.2.2.2.1 = xQ.2.2.1.length) ∧ (xQ.1 ≤ (rs.getD o ([], [])).1.length) ∧ (PkI ar rs (mO ar rs o ++ mP ar rs o xQ.1) xQ.2.2.1)) (fun xQ => (rs.getD o ([], [])).1.length - xQ.1) (0, ova, osa, csa, ma, G1) ⟨rfl, rfl, rfl, rfl, rfl, ⟨⟩⟩ (sC (sC sR)) ⟨rfl, FLe.refl _, (hova), (hCa), (by (try dsimp only); omega), (by (try dsimp only) <;> omega), (by (try dsimp only); simpa only [mP, List.append_nil] using hIa)⟩ ?_))))))))
  rintro ⟨p, ovb, osb, csb, mb, G2⟩ rE _ _ ⟨rfl, leG, hovb, hCb, hmb, hbp, hIb⟩
  show X _ _ _ _ (envs [(1, ptr b1 0), (4, ovb), (5, ii ((rs.length : Int))), (6, ii ((o : Int))), (7, ii ((p : Int)))] rE) _ (slH 76 6 ovb mb csb :: cellsH b1 [arv, rsv] 32 :: L)
  replace leG : G1 ≤ G2 := leG
  dsimp only at hovb hCb hmb hbp hIb
  have hlnb := hIb.len
  have hlo9 : 1 ≤ (rs.getD o ([], [])).1.length ∧ (rs.getD o ([], [])).1.length ≤ 60 := termOk_len (rule_L hsys (show o < rs.length by omega))
  have leG2 := leG
  replace har := har.mono leG2
  replace hrs := hrs.mono leG2
  replace hCa := hCa.mono leG2
  refine qc (qc (qa (qf (ii ((p : Int))) rfl (cX (qm (1) qS rfl jB (by decide) rfl rfl (cX (qi jI rfl (Rd.own [_] rfl rfl) (qf (ii ((o : Int))) rfl (cX (ql o ja jl rfl rfl rfl hrs.slv (by omega) rfl (cX (js (o * 2) qR rfl qp (by decide) rfl rfl ?_))))))))))))
  obtain ⟨a1, a2, ha1, ha2, hr1, hr2⟩ := hrs.rd (i := o) (by omega)
  refine cX (qi qL rfl (hr1 _) (cX (qE qd rfl ha1.slv (cX (qF rfl rfl (qb ?_))))))
  refine qw (p := (p : Int) < ((((rs.getD o ([], [])).1).length : Nat) : Int)) rfl (fun h2 => ?_) (fun h2 => ?_)
  ·refine qu (qc (qJ (qc (qa (qh (ii (0)) rfl (qb (qJ (jk (α := Nat × Value × List PkT × List Value × Nat × FH) (fun xQ => [(1, ptr b1 0), (4, xQ.2.1), (5, ii ((rs.length : Int))), (6, ii ((o : Int))), (7, ii ((p : Int))), (8, ii (((xQ.1 : Nat) : Int)))]) (fun xQ => slH 76 6 xQ.2.1 xQ.2.2.2.2.1 xQ.2.2.2.1 :: cellsH b1 [arv, rsv] 32 :: L) (fun xQ F' => xQ.2.2.2.2.2 = F' ∧ G2 ≤ xQ.2.2.2.2.2 ∧ (IsSl xQ.2.1) ∧ (PeaksC xQ.2.2.2.2.2 xQ.2.2.2.1 xQ.2.2.1) ∧ (xQ.2.2.2.2.1 = xQ.2.2.1.length) ∧ (xQ.1 ≤ rs.length) ∧ (PkI ar rs (mO ar rs o ++ mP ar rs o p ++ mU ar rs o p xQ.1) xQ.2.2.1)) (fun xQ => rs.length - xQ.1) (0, ovb, osb, csb, mb, G2) ⟨rfl, rfl, rfl, rfl, rfl, rfl, ⟨⟩⟩ (sC (sC sR)) ⟨rfl, FLe.refl _, (hovb), (hCb), (by (try dsimp only); omega), (by (try dsimp only) <;> omega), (by (try dsimp only); simpa only [mU, List.append_nil] using hIb)⟩ ?_))))))))
   rintro ⟨u, ovc, osc, csc, mc, G3⟩ rE _ _ ⟨rfl, leG, hovc, hCc, hmc, hbu, hIc⟩
   show X _ _ _ _ (envs [(1, ptr b1 0), (4, ovc), (5, ii ((rs.length : Int))), (6, ii ((o : Int))), (7, ii ((p : Int))), (8, ii ((u : Int)))] rE) _ (slH 76 6 ovc mc csc :: cellsH b1 [arv, rsv] 32 :: L)
   replace leG : G2 ≤ G3 := leG
   dsimp only at hovc hCc hmc hbu hIc
   have hlnc := hIc.len
   have leG3 := leG
   replace har := har.mono leG3
   replace hrs := hrs.mono leG3
   replace hCa := hCa.mono leG3
   replace hCb := hCb.mono leG3
   refine qc (qc (qa (qf (ii ((u : Int))) rfl (qf (ii ((rs.length : Int))) rfl (cX (qF rfl rfl (qb ?_)))))))
   refine qw (p := (u : Int) < (rs.length : Int)) rfl (fun h3 => ?_) (fun h3 => ?_)
   ·refine qu (qc (qJ (qc (qc (qa (cX (qC [arv, rsv] isAgg32 jJ rfl rfl (Rd.ownN [_] rfl rfl) (qf (ii ((o : Int))) rfl (qf (ii ((p : Int))) rfl (qf (ii ((u : Int))) rfl (cX (qq (args := [.agg #[arv, rsv], ii (o : Int), ii (p : Int), ii (u : Int)]) call168 rfl (meets2_spec (o := o) (p := p) (u := u) har hrs (hsys := (hsys)) (ho := (by omega)) (hu := (by omega)) (hp := (by omega))) ?_))))))))))))
    rintro _ F1 _ le1 ⟨rfl, rfl⟩
    replace har := har.mono le1
    replace hrs := hrs.mono le1
    replace hCa := hCa.mono le1
    replace hCb := hCb.mono le1
    replace hCc := hCc.mono le1
    refine cX (jC rfl (qb ?_))
    refine qw (p := ¬(0 ≤ (rs.getD o ([], [])).1.getD p 0 ∧ meetB ar rs o p u = true)) rfl (fun h4 => ?_) (fun h4 => ?_)
    ·have hmt : ¬ (0 ≤ (rs.getD o ([], [])).1.getD p 0 ∧ meetB ar rs o p u = true) := h4
     refine jg (qv (qO (qa (qf (ii ((u : Int))) rfl (cX (qN (((u + 1 : Nat) : Int)) rfl rfl (by omega) (by omega) (qh (ii (((u + 1 : Nat) : Int))) rfl (qb ?_))))))))
     exact ⟨(u + 1, ovc, osc, csc, mc, F1), _, (qo leG3 le1), rF, ⟨rfl, rfl, rfl, rfl, rfl, rfl, ⟨⟩⟩, (sC (sC sR)), ⟨rfl, (qo leG3 le1), (hovc), (hCc), (by (try dsimp only); (try rw [List.length_append, List.length_singleton]); omega), (by (try dsimp only) <;> omega), (by (try dsimp only); first | (rw [mU_no hmt]; exact hIc) | (have h9 := hIc.next hpk hpl; rw [mU_yes hmt.1 hmt.2, ← List.append_assoc]; exact h9))⟩, (by omega)⟩
    have hmt : 0 ≤ (rs.getD o ([], [])).1.getD p 0 ∧ meetB ar rs o p u = true := (Classical.not_not.1 h4)
    refine qu (qc (qa (cX (qC [arv, rsv] isAgg32 jJ rfl rfl (Rd.ownN [_] rfl rfl) (qf (ii ((o : Int))) rfl (qf (ii ((p : Int))) rfl (qf (ii ((u : Int))) rfl (cX (qq (args := [.agg #[arv, rsv], ii (o : Int), ii (p : Int), ii (u : Int)]) call169 rfl (peak2_spec (o := o) (p := p) (u := u) har hrs (hsys := (hsys)) (ho := (by omega)) (hu := (by omega)) (hp := (by omega)) (hmt := (hmt.2))) ?_)))))))))
    rintro _ F2 _ le2 ⟨x1, x2, x3, rfl, hr3, hr4, hr5, rfl⟩
    replace hCa := hCa.mono le2
    replace hCb := hCb.mono le2
    replace hCc := hCc.mono le2
    refine qf (.tuple #[.agg #[x1, x2, x3, ii (((pkF ar rs o p u).getD P0).2.2.2.1), ii (((pkF ar rs o p u).getD P0).2.2.2.2.1), ii (((pkF ar rs o p u).getD P0).2.2.2.2.2)], .bool ((pkF ar rs o p u).isSome)]) rfl (cX (qX (.agg #[x1, x2, x3, ii (((pkF ar rs o p u).getD P0).2.2.2.1), ii (((pkF ar rs o p u).getD P0).2.2.2.2.1), ii (((pkF ar rs o p u).getD P0).2.2.2.2.2)]) rfl rfl (cX (qX (.bool ((pkF ar rs o p u).isSome)) rfl rfl (cX (jD [sN, sN, sN, ii (0), ii (0), ii (0)] jq rfl ?_))))))
    intro b2
    refine cX (jn [] _ [x1, x2, x3, ii (((pkF ar rs o p u).getD P0).2.2.2.1), ii (((pkF ar rs o p u).getD P0).2.2.2.2.1), ii (((pkF ar rs o p u).getD P0).2.2.2.2.2)] jc rfl rfl rfl (qy (jh (qG hr3)) (qy (jh (qG hr4)) (qy (jh (qG hr5)) (qy rfl (qy rfl (qy rfl jo)))))) rfl rfl rfl (qh (.bool ((pkF ar rs o p u).isSome)) rfl (qb (qc (qc (qa (qf (.bool ((pkF ar rs o p u).isSome)) rfl (cX (jy rfl (qf (.bool (!((pkF ar rs o p u).isSome))) rfl ?_))))))))))
    by_cases h5 : (!((pkF ar rs o p u).isSome)) = true
    ·have hpk : (pkF ar rs o p u).isSome = false := Bool.not_inj (y := false) h5
     refine qr (t := 52) rfl (vB h5) (qr (t := 52) rfl (vB h5) (qr (t := 52) rfl (vB h5) (cX (qV (.bool (true)) (vB h5) rfl (qb (jA rfl (qc (qa (cX (qW (s := 6) [] [sN, sN, sN, ii (0), ii (0), ii (0)] [] jb jc jq rfl (by decide) rfl CellsAre.nil rfl ?_))))))))))
     intro v2 hv2
     refine qh (v2) rfl (qh (.bool (false)) rfl (qb ?_))
     have hc2 : PeaksC F2 [] ([] : List PeakT) := (CO.nil : PeaksC F2 [] [])
     refine X.freezeF [] _ _ rfl (fun F3 le3 hz1 => ?_)
     replace hCa := hCa.mono le3
     replace hCb := hCb.mono le3
     replace hCc := hCc.mono le3
     replace hr3 := hr3.mono le3
     replace hr4 := hr4.mono le3
     replace hr5 := hr5.mono le3
     replace hc2 := hc2.mono le3
     have hf1 : PeaksF F3 v2 (([] : List PeakT)) := CO.fz hc2 (by first | rfl | omega | (rw [List.length_set]; omega) | (simp; done)) hz1.fz
     refine qA (qk (qz (qk (qk (qz (qz (qk (qk (qz (qz (qk (qk (qz (qk (qt (L' := L) [v2, .bool (false)] (.tuple #[v2, .bool (false)]) (.tmp rfl (.tmp rfl .nil)) rfl (qo (qo (qo (qo (qo leG1 leG2) leG3) le1) le2) le3) rF (sD (sD (sD sR))) ?_)))))))))))))))
     have e : peaksF ar rs = none := peaks_no (ms := mO ar rs o ++ mP ar rs o p ++ mU ar rs o p u) (by have h9 := meets_pre (ar := ar) (rs := rs) (o := o) (p := p) (u := u) (by omega) (by show p < (rs.getD o ([], [])).1.length; omega) (by omega); rw [mU_yes hmt.1 hmt.2, ← List.append_assoc] at h9; exact h9) hIc (by first | exact .inl hpk | exact .inr hpl)
     exact ⟨_, by rw [e]; rfl, by rw [e]; exact hf1, rfl⟩
    rw [Bool.not_eq_true] at h5
    have hpk : (pkF ar rs o p u).isSome = true := Bool.not_inj (y := true) h5
    refine qs (t := 52) rfl (vB h5) (qj (ovc) rfl (qs (t := 52) rfl (vB h5) (qE jb rfl (SlV.own [_] rfl) (qs (t := 52) rfl (vB h5) (jH rfl rfl (cX (qT (.bool (decide ((((mc : Nat) : Int) : Int) = 64))) (vB h5) rfl (qb ?_))))))))
    refine qw (p := (((mc : Nat) : Int) : Int) = 64) rfl (fun h6 => ?_) (fun h6 => ?_)
    ·have hpl : osc.length = 64 := by omega
     refine qc (qa (cX (qW (s := 6) [] [sN, sN, sN, ii (0), ii (0), ii (0)] [] jb jc jq rfl (by decide) rfl CellsAre.nil rfl ?_)))
     intro v3 hv3
     refine qh (v3) rfl (qh (.bool (false)) rfl (qb ?_))
     have hc3 : PeaksC F2 [] ([] : List PeakT) := (CO.nil : PeaksC F2 [] [])
     refine X.freezeF [] _ _ rfl (fun F4 le4 hz2 => ?_)
     replace hCa := hCa.mono le4
     replace hCb := hCb.mono le4
     replace hCc := hCc.mono le4
     replace hr3 := hr3.mono le4
     replace hr4 := hr4.mono le4
     replace hr5 := hr5.mono le4
     replace hc3 := hc3.mono le4
     have hf2 : PeaksF F4 v3 (([] : List PeakT)) := CO.fz hc3 (by first | rfl | omega | (rw [List.length_set]; omega) | (simp; done)) hz2.fz
     refine qA (qk (qz (qk (qk (qz (qz (qk (qk (qz (qz (qk (qk (qz (qk (qt (L' := L) [v3, .bool (false)] (.tuple #[v3, .bool (false)]) (.tmp rfl (.tmp rfl .nil)) rfl (qo (qo (qo (qo (qo leG1 leG2) leG3) le1) le2) le4) rF (sD (sD (sD sR))) ?_)))))))))))))))
     have e : peaksF ar rs = none := peaks_no (ms := mO ar rs o ++ mP ar rs o p ++ mU ar rs o p u) (by have h9 := meets_pre (ar := ar) (rs := rs) (o := o) (p := p) (u := u) (by omega) (by show p < (rs.getD o ([], [])).1.length; omega) (by omega); rw [mU_yes hmt.1 hmt.2, ← List.append_assoc] at h9; exact h9) hIc (by first | exact .inl hpk | exact .inr hpl)
     exact ⟨_, by rw [e]; rfl, by rw [e]; exact hf2, rfl⟩
    have hpl : osc.length ≠ 64 := by omega
    refine qu (qa (qf (ovc) rfl (cX (qC [x1, x2, x3, ii (((pkF ar rs o p u).getD P0).2.2.2.1), ii (((pkF ar rs o p u).getD P0).2.2.2.2.1), ii (((pkF ar rs o p u).getD P0).2.2.2.2.2)] isAgg76 jc rfl rfl (Rd.ownN [] rfl rfl) (cX (qW (s := 6) [x1, x2, x3, ii (((pkF ar rs o p u).getD P0).2.2.2.1), ii (((pkF ar rs o p u).getD P0).2.2.2.2.1), ii (((pkF ar rs o p u).getD P0).2.2.2.2.2)] [sN, sN, sN, ii (0), ii (0), ii (0)] [(0, [x1, x2, x3, ii (((pkF ar rs o p u).getD P0).2.2.2.1), ii (((pkF ar rs o p u).getD P0).2.2.2.2.1), ii (((pkF ar rs o p u).getD P0).2.2.2.2.2)])] jb jc jq rfl (by decide) rfl (.cons rfl CellsAre.nil) rfl ?_))))))
    intro v4 hv4
    refine cX (XOp.append (m := 1) (bytes := 96) (cs := csc) [_, _] _ [x1, x2, x3, ii (((pkF ar rs o p u).getD P0).2.2.2.1), ii (((pkF ar rs o p u).getD P0).2.2.2.2.1), ii (((pkF ar rs o p u).getD P0).2.2.2.2.2)] jb typeInfo76 rfl rfl rfl rfl rfl rfl rfl (SlV.own [] rfl) rfl (Rd.lit [] rfl) (qy (jh (qG hr3)) (qy (jh (qG hr4)) (qy (jh (qG hr5)) (qy rfl (qy rfl (qy rfl jo)))))) (by (try simp only [List.length_append, List.length_nil, List.length_cons, List.length_singleton]); omega) (by (try simp only [List.length_append, List.length_nil, List.length_cons, List.length_singleton]); omega) ?_)
    intro v5 hs1 hn1 hm1
    have hc4 := PeaksC.snoc hCc (y0 := ((pkF ar rs o p u).getD P0).1) (y1 := ((pkF ar rs o p u).getD P0).2.1) (y2 := ((pkF ar rs o p u).getD P0).2.2.1) (y3 := ((pkF ar rs o p u).getD P0).2.2.2.1) (y4 := ((pkF ar rs o p u).getD P0).2.2.2.2.1) (y5 := ((pkF ar rs o p u).getD P0).2.2.2.2.2) hr3 hr4 hr5
    refine qh (v5) rfl (qb (qa (qf (ii ((u : Int))) rfl (cX (qN (((u + 1 : Nat) : Int)) rfl rfl (by omega) (by omega) (qh (ii (((u + 1 : Nat) : Int))) rfl (qb ?_)))))))
    exact ⟨(u + 1, v5, osc ++ [(((pkF ar rs o p u).getD P0).1, ((pkF ar rs o p u).getD P0).2.1, ((pkF ar rs o p u).getD P0).2.2.1, ((pkF ar rs o p u).getD P0).2.2.2.1, ((pkF ar rs o p u).getD P0).2.2.2.2.1, ((pkF ar rs o p u).getD P0).2.2.2.2.2)], csc ++ [x1, x2, x3, ii (((pkF ar rs o p u).getD P0).2.2.2.1), ii (((pkF ar rs o p u).getD P0).2.2.2.2.1), ii (((pkF ar rs o p u).getD P0).2.2.2.2.2)], (mc) + 1, F2), _, (qo (qo leG3 le1) le2), rF, ⟨rfl, rfl, rfl, rfl, rfl, rfl, ⟨⟩⟩, (sD (sD (sC (sC sR)))), ⟨rfl, (qo (qo leG3 le1) le2), (hs1), (hc4), (by (try dsimp only); (try rw [List.length_append, List.length_singleton]); omega), (by (try dsimp only) <;> omega), (by (try dsimp only); first | (rw [mU_no hmt]; exact hIc) | (have h9 := hIc.next hpk hpl; rw [mU_yes hmt.1 hmt.2, ← List.append_assoc]; exact h9))⟩, (by omega)⟩
   refine jg (qv (qv (qO (qa (qf (ii ((p : Int))) rfl (cX (qN (((p + 1 : Nat) : Int)) rfl rfl (by omega) (by omega) (qh (ii (((p + 1 : Nat) : Int))) rfl (qb ?_)))))))))
   exact ⟨(p + 1, ovc, osc, csc, mc, G3), _, (qo leG2 leG3), rF, ⟨rfl, rfl, rfl, rfl, rfl, ⟨⟩⟩, (sC (sC sR)), ⟨rfl, (qo leG2 leG3), (hovc), (hCc), (by (try dsimp only); (try rw [List.length_append, List.length_singleton]); omega), (by (try dsimp only) <;> omega), (by (try dsimp only); have e9 : u = rs.length := (by omega); rw [e9] at hIc; simpa only [mP, List.append_assoc] using hIc)⟩, (by omega)⟩
  refine jg (qv (qv (qO (qa (qf (ii ((o : Int))) rfl (cX (qN (((o + 1 : Nat) : Int)) rfl rfl (by omega) (by omega) (qh (ii (((o + 1 : Nat) : Int))) rfl (qb ?_)))))))))
  exact ⟨(o + 1, ovb, osb, csb, mb, G2), _, (qo leG1 leG2), rF, ⟨rfl, rfl, rfl, rfl, ⟨⟩⟩, (sC (sC sR)), ⟨rfl, (qo leG1 leG2), (hovb), (hCb), (by (try dsimp only); (try rw [List.length_append, List.length_singleton]); omega), (by (try dsimp only) <;> omega), (by (try dsimp only); have e9 : p = (rs.getD o ([], [])).1.length := (by omega); rw [e9] at hIb; simpa only [mO, List.append_assoc] using hIb)⟩, (by omega)⟩
 refine jg (qv (qv (qO (qc (qa (qf (ova) rfl (qh (ova) rfl (qh (.bool (true)) rfl (qb (X.freezeF [] _ _ rfl (fun F5 le5 hz3 => ?_)))))))))))
 replace hCa := hCa.mono le5
 have hf3 : PeaksF F5 ova osa := CO.fz hCa (by first | rfl | omega | (rw [List.length_set]; omega) | (simp; done)) hz3.fz
 refine qA (qt (L' := L) [ova, .bool (true)] (.tuple #[ova, .bool (true)]) (.tmp rfl (.tmp rfl .nil)) rfl (qo leG1 le5) rF (sD sR) ?_)
 have e9 : o = rs.length := by omega
 rw [e9] at hIa
 have e := peaks_yes hIa
 exact ⟨_, by rw [e]; rfl, by rw [e]; exact hf3, rfl⟩

/- spec.PeaksOf -/
theorem sPeaksOf_spec {F : FH} {L : List HP} {arv : Value} {ar : List Int} (har : IntsF F arv ar) {rsv : Value} {rs : List (List Int × List Int)} (hrs : PairsF F rsv rs) (hla : ar.length ≤ 4000000) (hlr : rs.length ≤ 4000000) (hrb : ∀ i, i < rs.length → (rs.getD i ([], [])).1.length ≤ 4000000 ∧ (rs.getD i ([], [])).2.length ≤ 4000000) :
    Does prog 37 [.agg #[arv, rsv]] F (L) (fun v F' L' => ∃ (a : Value), (.tuple #[a, .bool ((psO ar rs).isSome)] : Value) = v ∧ (PeaksF F' a ((psO ar rs).getD [])) ∧ L = L') := by
 refine qM func37 rfl rfl rfl (qc (qa (cX (jd [arv, rsv] rfl rfl ?_))))
 intro b1
 refine qh (sN) rfl (qh (.bool (false)) rfl (qb (qc (qc (qa (cX (qC [arv, rsv] isAgg32 jJ rfl rfl (Rd.ownN [] rfl rfl) (cX (qq (args := [.agg #[arv, rsv]]) call95 rfl (sSystemOk_spec har hrs (hla := (by first | assumption | rfl | omega | simp)) (hlr := (by first | assumption | rfl | omega | simp)) (hrb := (by first | assumption | rfl | omega | simp))) ?_)))))))))
 rintro _ _ _ _ ⟨rfl, rfl, rfl⟩
 refine cX (jy rfl (qb ?_))
 refine X.cond (t := !(sysOk ar rs)) rfl (fun h1 => ?_) (fun h1 => ?_)
 ·have hsys : sysOk ar rs = false := Bool.not_inj (y := false) h1
  refine qc (qa (cX (qW (s := 6) [] [sN, sN, sN, ii (0), ii (0), ii (0)] [] jb jc jq rfl (by decide) rfl CellsAre.nil rfl ?_)))
  intro v1 hv1
  refine qh (v1) rfl (qh (.bool (false)) rfl (qb ?_))
  have hc1 : PeaksC F [] ([] : List PeakT) := (CO.nil : PeaksC F [] [])
  refine X.freezeF [] _ _ rfl (fun F1 le1 hz1 => ?_)
  replace har := har.mono le1
  replace hrs := hrs.mono le1
  replace hc1 := hc1.mono le1
  have hf1 : PeaksF F1 v1 (([] : List PeakT)) := CO.fz hc1 (by first | rfl | omega | (rw [List.length_set]; omega) | (simp; done)) hz1.fz
  refine qA (qk (qt (L' := L) [v1, .bool (false)] (.tuple #[v1, .bool (false)]) (.tmp rfl (.tmp rfl .nil)) rfl le1 rF (sD sR) ?_))
  have e := ps_no hsys
  exact ⟨_, by rw [e]; rfl, by rw [e]; exact hf1, rfl⟩
 have hsys : sysOk ar rs = true := Bool.not_inj (y := true) h1
 refine qu (qc (qa (cX (qC [arv, rsv] isAgg32 jJ rfl rfl (Rd.ownN [] rfl rfl) (cX (qq (args := [.agg #[arv, rsv]]) call96 rfl (all2_spec har hrs (hsys := (hsys))) ?_))))))
 rintro _ F2 _ le2 ⟨x1, rfl, hr1, rfl⟩
 refine cX (qX (x1) rfl rfl (cX (qX (.bool ((peaksF ar rs).isSome)) rfl rfl (qh (x1) rfl (qh (.bool ((peaksF ar rs).isSome)) rfl (qb (qA (qt (L' := L) [x1, .bool ((peaksF ar rs).isSome)] (.tuple #[x1, .bool ((peaksF ar rs).isSome)]) (.tmp rfl (.tmp rfl .nil)) rfl le2 rF (sD sR) ?_))))))))
 have e := ps_yes hsys
 exact ⟨_, by rw [e], by rw [e]; exact hr1, rfl⟩

/- impl.PeaksOf -/
theorem PeaksOf_spec {F : FH} {L : List HP} {arv : Value} {ar : List Int} (har : IntsF F arv ar) {rsv : Value} {rs : List (List Int × List Int)} (hrs : PairsF F rsv rs) :
    Does prog 38 [.agg #[arv, rsv]] F (L) (fun v F' L' => ∃ (a : Value), (.tuple #[a, .bool ((psO ar rs).isSome)] : Value) = v ∧ (PeaksF F' a ((psO ar rs).getD [])) ∧ (Fresh F F' (star [peaksD 2 76 a ((psO ar rs).getD [])])) ∧ L = L') := by
 refine qM func38 rfl rfl rfl (qc (qa (cX (jd [arv, rsv] rfl rfl ?_))))
 intro b1
 refine qh (sN) rfl (qh (.bool (false)) rfl (qb (qc (qc (qa (cX (qC [arv, rsv] isAgg32 jJ rfl rfl (Rd.ownN [] rfl rfl) (cX (qq (args := [.agg #[arv, rsv]]) call97 rfl (SystemOk_spec har hrs) ?_)))))))))
 rintro _ _ _ _ ⟨rfl, rfl, rfl⟩
 refine cX (jy rfl (qb ?_))
 refine X.cond (t := !(sysOk ar rs)) rfl (fun h1 => ?_) (fun h1 => ?_)
 ·have hsys : sysOk ar rs = false := Bool.not_inj (y := false) h1
  refine qc (qa (qh (sN) rfl (qh (.bool (false)) rfl (qb (qA (qk (qt (L' := L) [sN, .bool (false)] (.tuple #[sN, .bool (false)]) (.tmp rfl (.tmp rfl .nil)) rfl rF rF (sD sR) ?_)))))))
  have e := ps_no hsys
  exact ⟨_, by rw [e]; rfl, by rw [e]; exact SlOf.nilV, by rw [e]; exact Fresh.empty ⟨[], [], nilPeaksD, rfl, rfl⟩, rfl⟩
 have hsys : sysOk ar rs = true := Bool.not_inj (y := true) h1
 refine qu (qc (qa (cX (qC [arv, rsv] isAgg32 jJ rfl rfl (Rd.ownN [] rfl rfl) (cX (qq (args := [.agg #[arv, rsv]]) call98 rfl (peaks_spec har hrs (hsys := (hsys))) ?_))))))
 rintro _ F1 _ le1 ⟨x1, rfl, hr1, hr2, rfl⟩
 refine cX (qX (x1) rfl rfl (cX (qX (.bool ((peaksF ar rs).isSome)) rfl rfl (qh (x1) rfl (qh (.bool ((peaksF ar rs).isSome)) rfl (qb (qA (qt (L' := L) [x1, .bool ((peaksF ar rs).isSome)] (.tuple #[x1, .bool ((peaksF ar rs).isSome)]) (.tmp rfl (.tmp rfl .nil)) rfl le1 rF (sD sR) ?_))))))))
 have e := ps_yes hsys
 exact ⟨_, by rw [e], by rw [e]; exact hr1, by rw [e]; exact hr2, rfl⟩
end Go.Proofs.Ytcdjpapjjoldeaa
set_option linter.unusedSimpArgs false
set_option linter.unusedVariables false
namespace Go.Proofs.Ytcdjpapjjoldeaa
open Go X M Try

/- laws.eqPeak -/
theorem eqPeakT_spec {F : FH} {L : List HP} {tpv : Value} {tp : List Int} (htp : IntsF F tpv tp) {lfv : Value} {lf : List Int} (hlf : IntsF F lfv lf) {rtv : Value} {rt : List Int} (hrt : IntsF F rtv rt) {i1 : Int} {i2 : Int} {i3 : Int} {tqv : Value} {tq : List Int} (htq : IntsF F tqv tq) {lgv : Value} {lg : List Int} (hlg : IntsF F lgv lg) {ruv : Value} {ru : List Int} (hru : IntsF F ruv ru) {j1 : Int} {j2 : Int} {j3 : Int} (hv1 : tp.length ≤ 9223372036854775807) (hv2 : lf.length ≤ 9223372036854775807) (hv3 : rt.length ≤ 9223372036854775807) :
    Does prog 99 [.agg #[tpv, lfv, rtv, ii (i1), ii (i2), ii (i3)], .agg #[tqv, lgv, ruv, ii (j1), ii (j2), ii (j3)]] F (L) (fun v F' L' => (.bool (decide ((tp, lf, rt, i1, i2, i3) = (tq, lg, ru, j1, j2, j3))) : Value) = v ∧ F = F' ∧ L = L') := by
 refine qM func99 rfl rfl rfl (qc (qa (cX (jd [tpv, lfv, rtv, ii (i1), ii (i2), ii (i3)] rfl rfl ?_))))
 intro b1
 refine cX (jd [tqv, lgv, ruv, ii (j1), ii (j2), ii (j3)] rfl rfl ?_)
 intro b2
 refine qh (.bool (false)) rfl (qb (qc (qc (qa (cX (qm (0) qK rfl qp (by decide) rfl rfl (cX (qi qL rfl (Rd.own [_] rfl rfl) (cX (qm (0) qK rfl qp (by decide) rfl rfl (cX (qi qL rfl (Rd.own [] rfl rfl) (cX (qq (args := [tpv, tqv]) call165 rfl (eqInt64S_spec htp htq (hbd := (by first | assumption | rfl | omega | (left; simp; done) | (right; simp; done)))) ?_))))))))))))))
 rintro _ _ _ _ ⟨rfl, rfl, rfl⟩
 refine cX (jC rfl (qb ?_))
 refine qw (p := ¬(tp = tq)) rfl (fun h1 => ?_) (fun h1 => ?_)
 ·refine qc (qa (qh (.bool (false)) rfl (qb (qA (qk (qt (L' := L) [.bool (false)] (.bool (false)) (.tmp rfl .nil) rfl rF rF (sD (sD sR)) ?_))))))
  exact ⟨(vB (decide_eq_false (by intro e; simp_all))), rfl, rfl⟩
 refine qu (qc (qc (qa (cX (qm (1) qK rfl qp (by decide) rfl rfl (cX (qi qL rfl (Rd.own [_] rfl rfl) (cX (qm (1) qK rfl qp (by decide) rfl rfl (cX (qi qL rfl (Rd.own [] rfl rfl) (cX (qq (args := [lfv, lgv]) call165 rfl (eqInt64S_spec hlf hlg (hbd := (by first | assumption | rfl | omega | (left; simp; done) | (right; simp; done)))) ?_)))))))))))))
 rintro _ _ _ _ ⟨rfl, rfl, rfl⟩
 refine cX (jC rfl (qb ?_))
 refine qw (p := ¬(lf = lg)) rfl (fun h2 => ?_) (fun h2 => ?_)
 ·refine qc (qa (qh (.bool (false)) rfl (qb (qA (qk (qt (L' := L) [.bool (false)] (.bool (false)) (.tmp rfl .nil) rfl rF rF (sD (sD sR)) ?_))))))
  exact ⟨(vB (decide_eq_false (by intro e; simp_all))), rfl, rfl⟩
 refine qu (qc (qc (qa (cX (qm (2) qK rfl qp (by decide) rfl rfl (cX (qi qL rfl (Rd.own [_] rfl rfl) (cX (qm (2) qK rfl qp (by decide) rfl rfl (cX (qi qL rfl (Rd.own [] rfl rfl) (cX (qq (args := [rtv, ruv]) call165 rfl (eqInt64S_spec hrt hru (hbd := (by first | assumption | rfl | omega | (left; simp; done) | (right; simp; done)))) ?_)))))))))))))
 rintro _ _ _ _ ⟨rfl, rfl, rfl⟩
 refine cX (jC rfl (qb ?_))
 refine qw (p := ¬(rt = ru)) rfl (fun h3 => ?_) (fun h3 => ?_)
 ·refine qc (qa (qh (.bool (false)) rfl (qb (qA (qk (qt (L' := L) [.bool (false)] (.bool (false)) (.tmp rfl .nil) rfl rF rF (sD (sD sR)) ?_))))))
  exact ⟨(vB (decide_eq_false (by intro e; simp_all))), rfl, rfl⟩
 refine qu (qc (qc (qa (cX (qm (3) qK rfl qn (by decide) rfl rfl (cX (qi qB rfl (Rd.own [_] rfl rfl) (cX (qm (3) qK rfl qn (by decide) rfl rfl (cX (qi qB rfl (Rd.own [] rfl rfl) (cX (jK rfl rfl (qb ?_))))))))))))))
 refine qw (p := (i1 : Int) ≠ j1) rfl (fun h4 => ?_) (fun h4 => ?_)
 ·refine qc (qa (qh (.bool (false)) rfl (qb (qA (qk (qt (L' := L) [.bool (false)] (.bool (false)) (.tmp rfl .nil) rfl rF rF (sD (sD sR)) ?_))))))
  exact ⟨(vB (decide_eq_false (by intro e; simp_all))), rfl, rfl⟩
 refine qu (qc (qc (qa (cX (qm (4) qK rfl qn (by decide) rfl rfl (cX (qi qB rfl (Rd.own [_] rfl rfl) (cX (qm (4) qK rfl qn (by decide) rfl rfl (cX (qi qB rfl (Rd.own [] rfl rfl) (cX (jK rfl rfl (qb ?_))))))))))))))
 refine qw (p := (i2 : Int) ≠ j2) rfl (fun h5 => ?_) (fun h5 => ?_)
 ·refine qc (qa (qh (.bool (false)) rfl (qb (qA (qk (qt (L' := L) [.bool (false)] (.bool (false)) (.tmp rfl .nil) rfl rF rF (sD (sD sR)) ?_))))))
  exact ⟨(vB (decide_eq_false (by intro e; simp_all))), rfl, rfl⟩
 refine qu (qc (qc (qa (cX (qm (5) qK rfl qn (by decide) rfl rfl (cX (qi qB rfl (Rd.own [_] rfl rfl) (cX (qm (5) qK rfl qn (by decide) rfl rfl (cX (qi qB rfl (Rd.own [] rfl rfl) (cX (jK rfl rfl (qb ?_))))))))))))))
 refine qw (p := (i3 : Int) ≠ j3) rfl (fun h6 => ?_) (fun h6 => ?_)
 ·refine qc (qa (qh (.bool (false)) rfl (qb (qA (qk (qt (L' := L) [.bool (false)] (.bool (false)) (.tmp rfl .nil) rfl rF rF (sD (sD sR)) ?_))))))
  exact ⟨(vB (decide_eq_false (by intro e; simp_all))), rfl, rfl⟩
 refine qu (qc (qa (qh (.bool (true)) rfl (qb (qA (qt (L' := L) [.bool (true)] (.bool (true)) (.tmp rfl .nil) rfl rF rF (sD (sD sR)) ?_))))))
 exact ⟨(vB (decide_eq_true (by simp_all))), rfl, rfl⟩

/- laws.eqPeakS -/
theorem eqPeakS_spec {F : FH} {L : List HP} {av : Value} {a : List PkT} (ha : PeaksF F av a) {bv : Value} {b : List PkT} (hb : PeaksF F bv b) (hal : a.length ≤ 9223372036854775807) (hbd : ∀ i, i < a.length → (a.getD i ([], [], [], 0, 0, 0)).1.length ≤ 9223372036854775807 ∧ (a.getD i ([], [], [], 0, 0, 0)).2.1.length ≤ 9223372036854775807 ∧ (a.getD i ([], [], [], 0, 0, 0)).2.2.1.length ≤ 9223372036854775807) :
    Does prog 39 [av, bv] F (L) (fun v F' L' => (.bool (decide (a = b)) : Value) = v ∧ F = F' ∧ L = L') := by
 refine qM func39 rfl rfl rfl (qc (qa (qh (.bool (false)) rfl (qb (qc (qc (qa (qf (av) rfl (cX (qE jb rfl ha.slv (qf (bv) rfl (cX (qE jb rfl hb.slv (cX (jK rfl rfl (qb ?_))))))))))))))))
 refine qw (p := ((a.length : Int) : Int) ≠ (b.length : Int)) rfl (fun h1 => ?_) (fun h1 => ?_)
 ·refine qc (qa (qh (.bool (false)) rfl (qb (qA (qk (qt (L' := L) [.bool (false)] (.bool (false)) (.tmp rfl .nil) rfl rF rF sR ?_))))))
  exact ⟨(vB (decide_eq_false (fun e => by rw [e] at h1; omega))), rfl, rfl⟩
 refine qu (qc (qc (qa (qh (ii (0)) rfl (qb (qJ (jk (α := Nat) (fun k => [(0, av), (1, bv), (5, ii ((k : Int)))]) (fun k => L) (fun k F' => F = F' ∧ (k ≤ a.length) ∧ (∀ i, i < k → a.getD i ([], [], [], 0, 0, 0) = b.getD i ([], [], [], 0, 0, 0))) (fun k => a.length - k) 0 ⟨rfl, rfl, rfl, ⟨⟩⟩ sR ⟨rfl, (by (try dsimp only) <;> omega), (fun i hi => absurd hi (by omega))⟩ ?_)))))))
 rintro k rE _ _ ⟨rfl, hk, hall⟩
 show X _ _ _ _ (envs [(0, av), (1, bv), (5, ii ((k : Int)))] rE) _ (L)
 have hbk := hbd k
 refine qc (qc (qa (qf (ii ((k : Int))) rfl (qf (av) rfl (cX (qE jb rfl ha.slv (cX (qF rfl rfl (qb ?_)))))))))
 refine qw (p := (k : Int) < (a.length : Int)) rfl (fun h2 => ?_) (fun h2 => ?_)
 ·refine qu (qc (qJ (qc ?_)))
  obtain ⟨a1, a2, a3, ha1, ha2, ha3, hrg1, hq1⟩ := ha.rd (i := k) (by omega)
  obtain ⟨a4, a5, a6, ha4, ha5, ha6, hrg2, hq2⟩ := hb.rd (i := k) (by omega)
  refine jj [] L 8 [] [[], [], [0, 1], [2], [], [], [4, 5], [6]] (phiL [qe av, qe (ii ((k : Int)) : Value), qe (.pointer (some (elemA av (k * 6)))), qe (.agg #[a1, a2, a3, ii ((a.getD k ([], [], [], 0, 0, 0)).2.2.2.1), ii ((a.getD k ([], [], [], 0, 0, 0)).2.2.2.2.1), ii ((a.getD k ([], [], [], 0, 0, 0)).2.2.2.2.2)]), qe bv, qe (ii ((k : Int)) : Value), qe (.pointer (some (elemA bv (k * 6)))), qe (.agg #[a4, a5, a6, ii ((b.getD k ([], [], [], 0, 0, 0)).2.2.2.1), ii ((b.getD k ([], [], [], 0, 0, 0)).2.2.2.2.1), ii ((b.getD k ([], [], [], 0, 0, 0)).2.2.2.2.2)])]) (ownL []) mixed rfl rfl (by kernel_rfl) ?_ ?_
  ·refine pD (fun W R z9 => ?_) ?_
   ·refine qg (qj (av) rfl ?_)
    exact ⟨rfl, rfl, rfl⟩
   refine pD (fun W R z9 => ?_) ?_
   ·refine qg (qj (ii ((k : Int))) rfl ?_)
    exact ⟨rfl, rfl, rfl⟩
   refine pD (fun W R z9 => ?_) ?_
   ·rw [eS (l := [(0, _), (1, _)]) ⟨z9 0 rfl, z9 1 rfl, ⟨⟩⟩]
    refine qg (ql k jb jc rfl rfl rfl ha.slv (by omega) rfl ?_)
    exact ⟨rfl, rfl, rfl⟩
   refine pD (fun W R z9 => ?_) ?_
   ·rw [eS (l := [(2, _)]) ⟨z9 2 rfl, ⟨⟩⟩]
    refine qg (qC [a1, a2, a3, ii ((a.getD k ([], [], [], 0, 0, 0)).2.2.2.1), ii ((a.getD k ([], [], [], 0, 0, 0)).2.2.2.2.1), ii ((a.getD k ([], [], [], 0, 0, 0)).2.2.2.2.2)] isAgg76 jc rfl rfl (Rd.all (hrg1 _)) ?_)
    exact ⟨rfl, rfl, rfl⟩
   refine pD (fun W R z9 => ?_) ?_
   ·refine qg (qj (bv) rfl ?_)
    exact ⟨rfl, rfl, rfl⟩
   refine pD (fun W R z9 => ?_) ?_
   ·refine qg (qj (ii ((k : Int))) rfl ?_)
    exact ⟨rfl, rfl, rfl⟩
   refine pD (fun W R z9 => ?_) ?_
   ·rw [eS (l := [(4, _), (5, _)]) ⟨z9 4 rfl, z9 5 rfl, ⟨⟩⟩]
    refine qg (ql k jb jc rfl rfl rfl hb.slv (by omega) rfl ?_)
    exact ⟨rfl, rfl, rfl⟩
   refine pD (fun W R z9 => ?_) ?_
   ·rw [eS (l := [(6, _)]) ⟨z9 6 rfl, ⟨⟩⟩]
    refine qg (qC [a4, a5, a6, ii ((b.getD k ([], [], [], 0, 0, 0)).2.2.2.1), ii ((b.getD k ([], [], [], 0, 0, 0)).2.2.2.2.1), ii ((b.getD k ([], [], [], 0, 0, 0)).2.2.2.2.2)] isAgg76 jc rfl rfl (Rd.all (hrg2 _)) ?_)
    exact ⟨rfl, rfl, rfl⟩
   exact stepsP.nil
  intro W hphi
  rw [eS (l := [(3, _), (7, _)]) ⟨(hphi 3 (by decide)), (hphi 7 (by decide)), ⟨⟩⟩]
  show XL _ _ _ _ _ _ _ (L)
  refine cX (qq (args := [.agg #[a1, a2, a3, ii ((a.getD k ([], [], [], 0, 0, 0)).2.2.2.1), ii ((a.getD k ([], [], [], 0, 0, 0)).2.2.2.2.1), ii ((a.getD k ([], [], [], 0, 0, 0)).2.2.2.2.2)], .agg #[a4, a5, a6, ii ((b.getD k ([], [], [], 0, 0, 0)).2.2.2.1), ii ((b.getD k ([], [], [], 0, 0, 0)).2.2.2.2.1), ii ((b.getD k ([], [], [], 0, 0, 0)).2.2.2.2.2)]]) call99 rfl (eqPeakT_spec ha1 ha2 ha3 ha4 ha5 ha6 (hv1 := ((hbk (by omega)).1)) (hv2 := ((hbk (by omega)).2.1)) (hv3 := ((hbk (by omega)).2.2))) ?_)
  rintro _ _ _ _ ⟨rfl, rfl, rfl⟩
  refine cX (jC rfl (qb ?_))
  refine qw (p := ¬((((a.getD k ([], [], [], 0, 0, 0)).1), ((a.getD k ([], [], [], 0, 0, 0)).2.1), ((a.getD k ([], [], [], 0, 0, 0)).2.2.1), ((a.getD k ([], [], [], 0, 0, 0)).2.2.2.1), ((a.getD k ([], [], [], 0, 0, 0)).2.2.2.2.1), ((a.getD k ([], [], [], 0, 0, 0)).2.2.2.2.2)) = (((b.getD k ([], [], [], 0, 0, 0)).1), ((b.getD k ([], [], [], 0, 0, 0)).2.1), ((b.getD k ([], [], [], 0, 0, 0)).2.2.1), ((b.getD k ([], [], [], 0, 0, 0)).2.2.2.1), ((b.getD k ([], [], [], 0, 0, 0)).2.2.2.2.1), ((b.getD k ([], [], [], 0, 0, 0)).2.2.2.2.2)))) rfl (fun h3 => ?_) (fun h3 => ?_)
  ·refine qc (qa (qh (.bool (false)) rfl (qb (qA (qz (qk (qk (qz (qk (qt (L' := L) [.bool (false)] (.bool (false)) (.tmp rfl .nil) rfl rF rF sR ?_))))))))))
   exact ⟨(vB (decide_eq_false (fun e => by subst e; simp at *))), rfl, rfl⟩
  refine qu (qa (qf (ii ((k : Int))) rfl (cX (qN (((k + 1 : Nat) : Int)) rfl rfl (by omega) (by omega) (qh (ii (((k + 1 : Nat) : Int))) rfl (qb ?_))))))
  exact ⟨k + 1, _, FLe.refl _, rF, ⟨rfl, rfl, rfl, ⟨⟩⟩, sR, ⟨rfl, (by (try dsimp only) <;> omega), (fun i hi => (Nat.lt_or_ge i k).elim (fun h => hall i h) (fun h => by obtain rfl : i = k := (by omega); first | assumption | exact Classical.not_not.1 (by assumption)))⟩, (by omega)⟩
 refine jg (qv (qv (qO (qc (qa (qh (.bool (true)) rfl (qb (qA (qt (L' := L) [.bool (true)] (.bool (true)) (.tmp rfl .nil) rfl rF rF sR ?_)))))))))
 exact ⟨(vB (decide_eq_true (ext_any (([], [], [], 0, 0, 0) : PkT) (by omega) (fun i hi => hall i (by omega))))), rfl, rfl⟩

/- laws.markPeakS -/
theorem markPeakS_spec {F : FH} {L : List HP} {xv : Value} {x : List PeakT} {z : Int} (hz : 0 ≤ z ∧ z + (((x.flatMap flatPk)).length : Int) ≤ 9000000000) (hnx : x.length ≤ 4000000) :
    Does prog 41 [xv, ii (z)] F (peaksD 2 76 xv x :: L) (fun v F' L' => ∃ x' : List PeakT, ((x'.flatMap flatPk)) = iota z ((x.flatMap flatPk)).length ∧ x'.length = x.length ∧ (ii (z + (((x.flatMap flatPk)).length : Int)) : Value) = v ∧ F = F' ∧ peaksD 2 76 xv x' :: L = L') := by
 refine qM func41 rfl rfl rfl (X.openDeep (fun cs Ls hd => (X.weaken (qx (A := [_])) ?_)))
 show X _ _ _ _ _ _ (star Ls :: slH 76 6 xv x.length cs :: L)
 refine qc (qa (qh (ii (0)) rfl (qb (qc (qc (qa (qh (ii (0)) rfl (qb (qJ (jk (α := Nat × List PeakT × List HP × List Value) (fun xQ => [(0, xv), (1, ii (z + ((((x.take xQ.1).flatMap flatPk).length : Nat) : Int))), (5, ii (((xQ.1 : Nat) : Int)))]) (fun xQ => star xQ.2.2.1 :: slH 76 6 xv x.length xQ.2.2.2 :: L) (fun xQ F' => F = F' ∧ (DeepL 6 (PeakO 2) xQ.2.2.2 (xQ.2.1 ++ x.drop xQ.1) xQ.2.2.1) ∧ (xQ.1 ≤ x.length) ∧ (xQ.2.1.length = xQ.1) ∧ (xQ.2.1.flatMap flatPk = iota z ((x.take xQ.1).flatMap flatPk).length)) (fun xQ => x.length - xQ.1) (0, [], Ls, cs) ⟨rfl, (show Value.int .i64 z = ii (z + ((((x.take 0).flatMap flatPk).length : Nat) : Int)) from congrArg (Value.int .i64) (by simp)), rfl, ⟨⟩⟩ (sC (sC sR)) ⟨rfl, (hd), (by (try dsimp only) <;> omega), (rfl), (rfl)⟩ ?_))))))))))
 rintro ⟨k, os, Ls, cs⟩ rE _ _ ⟨rfl, hd, hk, hol, hfl⟩
 show X _ _ _ _ (envs [(0, xv), (1, ii (z + ((((x.take k).flatMap flatPk).length : Nat) : Int))), (5, ii ((k : Int)))] rE) _ (star Ls :: slH 76 6 xv x.length cs :: L)
 dsimp only at hd hk hol hfl
 have htl := fun (h : k < x.length) => flat_take_le (f := flatPk) (l := x) ([], [], [], 0, 0, 0) h
 have hlen : (os ++ x.drop k).length = x.length := by rw [List.length_append, List.length_drop]; omega
 refine qc (qc (qa (qf (ii ((k : Int))) rfl (qf (xv) rfl (cX (qE jb rfl (SlV.own [_] rfl) (cX (qF rfl rfl (qb ?_)))))))))
 refine qw (p := (k : Int) < (x.length : Int)) rfl (fun h1 => ?_) (fun h1 => ?_)
 ·refine qu (qc (qJ (qc (qa ?_))))
  have hkx : k < x.length := by omega
  have htl2 := htl hkx
  obtain ⟨A, K, B, es, hLs, hel, hR, hg, hput⟩ := hd.at (d := ([], [], [], 0, 0, 0)) (k := k) (by omega)
  rw [app_getD hol] at hR
  have hself := splice_self hel hg (hd.bound (k := k) (by omega))
  obtain ⟨a, b, c, he, hK⟩ := hR
  subst he hK
  have hfp : (flatPk (x.getD k ([], [], [], 0, 0, 0))).length = (x.getD k ([], [], [], 0, 0, 0)).1.length + (x.getD k ([], [], [], 0, 0, 0)).2.1.length + (x.getD k ([], [], [], 0, 0, 0)).2.2.1.length + 1 + 1 + 1 := flatPk_len
  have hbd := hd.bound (k := k) (by omega)
  subst hLs
  refine qU (Sub.pull (A := A)) ?_
  show XL _ _ _ _ _ _ _ (intsH 2 a ((x.getD k ([], [], [], 0, 0, 0)).1) :: intsH 2 b ((x.getD k ([], [], [], 0, 0, 0)).2.1) :: intsH 2 c ((x.getD k ([], [], [], 0, 0, 0)).2.2.1) :: star (A ++ B) :: slH 76 6 xv x.length cs :: L)
  skip
  refine qf (xv) rfl (qf (ii ((k : Int))) rfl (cX (ql k jb jc rfl rfl rfl (SlV.own [_, _, _, _] rfl) (by omega) rfl (cX (js (k * 6) qK rfl qp (by decide) rfl rfl (cX (qi qL rfl (Rd.sl [_, _, _, _] rfl (hg 0 _ rfl)) (qf (ii (z + ((((x.take k).flatMap flatPk).length : Nat) : Int))) rfl (cX (qq (args := [a, ii (z + ((((x.take k).flatMap flatPk).length : Nat) : Int))]) call102 rfl (markInt64S_spec (by omega)) ?_))))))))))
  rintro _ _ _ _ ⟨m1, hm1, rfl, rfl, rfl⟩
  have hml1 := congrArg List.length hm1
  rw [iota_len] at hml1
  try simp only [List.length_append] at hml1
  refine qh (ii ((z + ((((x.take k).flatMap flatPk).length : Nat) : Int)) + (((((x.getD k ([], [], [], 0, 0, 0)).1))).length : Int))) rfl (qb (qc (qa (qf (xv) rfl (qf (ii ((k : Int))) rfl (cX (ql k jb jc rfl rfl rfl (SlV.own [_, _, _, _] rfl) (by omega) rfl (cX (js (k * 6 + 1) qK rfl qp (by decide) rfl rfl (cX (qi qL rfl (Rd.sl [_, _, _, _] rfl (hg 1 _ rfl)) (qf (ii ((z + ((((x.take k).flatMap flatPk).length : Nat) : Int)) + (((((x.getD k ([], [], [], 0, 0, 0)).1))).length : Int))) rfl (qU (qx (A := [_])) ?_)))))))))))))
  show XL _ _ _ _ _ _ _ (intsH 2 b ((x.getD k ([], [], [], 0, 0, 0)).2.1) :: intsH 2 a m1 :: intsH 2 c ((x.getD k ([], [], [], 0, 0, 0)).2.2.1) :: star (A ++ B) :: slH 76 6 xv x.length cs :: L)
  refine cX (qq (args := [b, ii ((z + ((((x.take k).flatMap flatPk).length : Nat) : Int)) + (((((x.getD k ([], [], [], 0, 0, 0)).1))).length : Int))]) call102 rfl (markInt64S_spec (by omega)) ?_)
  rintro _ _ _ _ ⟨m2, hm2, rfl, rfl, rfl⟩
  have hml2 := congrArg List.length hm2
  rw [iota_len] at hml2
  try simp only [List.length_append] at hml2
  refine qh (ii (((z + ((((x.take k).flatMap flatPk).length : Nat) : Int)) + (((((x.getD k ([], [], [], 0, 0, 0)).1))).length : Int)) + (((((x.getD k ([], [], [], 0, 0, 0)).2.1))).length : Int))) rfl (qb (qc (qa (qf (xv) rfl (qf (ii ((k : Int))) rfl (cX (ql k jb jc rfl rfl rfl (SlV.own [_, _, _, _] rfl) (by omega) rfl (cX (js (k * 6 + 2) qK rfl qp (by decide) rfl rfl (cX (qi qL rfl (Rd.sl [_, _, _, _] rfl (hg 2 _ rfl)) (qf (ii (((z + ((((x.take k).flatMap flatPk).length : Nat) : Int)) + (((((x.getD k ([], [], [], 0, 0, 0)).1))).length : Int)) + (((((x.getD k ([], [], [], 0, 0, 0)).2.1))).length : Int))) rfl (qU (qx (A := [_, _])) ?_)))))))))))))
  show XL _ _ _ _ _ _ _ (intsH 2 c ((x.getD k ([], [], [], 0, 0, 0)).2.2.1) :: intsH 2 b m2 :: intsH 2 a m1 :: star (A ++ B) :: slH 76 6 xv x.length cs :: L)
  refine cX (qq (args := [c, ii (((z + ((((x.take k).flatMap flatPk).length : Nat) : Int)) + (((((x.getD k ([], [], [], 0, 0, 0)).1))).length : Int)) + (((((x.getD k ([], [], [], 0, 0, 0)).2.1))).length : Int))]) call102 rfl (markInt64S_spec (by omega)) ?_)
  rintro _ _ _ _ ⟨m3, hm3, rfl, rfl, rfl⟩
  have hml3 := congrArg List.length hm3
  rw [iota_len] at hml3
  try simp only [List.length_append] at hml3
  refine qh (ii ((((z + ((((x.take k).flatMap flatPk).length : Nat) : Int)) + (((((x.getD k ([], [], [], 0, 0, 0)).1))).length : Int)) + (((((x.getD k ([], [], [], 0, 0, 0)).2.1))).length : Int)) + (((((x.getD k ([], [], [], 0, 0, 0)).2.2.1))).length : Int))) rfl (qb (qc (qa (qf (xv) rfl (qf (ii ((k : Int))) rfl (qf (ii ((((z + ((((x.take k).flatMap flatPk).length : Nat) : Int)) + (((((x.getD k ([], [], [], 0, 0, 0)).1))).length : Int)) + (((((x.getD k ([], [], [], 0, 0, 0)).2.1))).length : Int)) + (((((x.getD k ([], [], [], 0, 0, 0)).2.2.1))).length : Int))) rfl (cX (ql k jb jc rfl rfl rfl (SlV.own [_, _, _, _] rfl) (by omega) rfl (cX (js (k * 6 + 3) qK rfl qn (by decide) rfl rfl (cX (XOp.storeS (i := k * 6 + 3) (cs := cs) [_, _, _, _] _ qn rfl rfl rfl rfl (by (try simp only [List.length_set]); omega) (qb (qc (qa (qf (ii ((((z + ((((x.take k).flatMap flatPk).length : Nat) : Int)) + (((((x.getD k ([], [], [], 0, 0, 0)).1))).length : Int)) + (((((x.getD k ([], [], [], 0, 0, 0)).2.1))).length : Int)) + (((((x.getD k ([], [], [], 0, 0, 0)).2.2.1))).length : Int))) rfl ?_))))))))))))))))
  refine cX (qN (((((z + ((((x.take k).flatMap flatPk).length : Nat) : Int)) + (((((x.getD k ([], [], [], 0, 0, 0)).1))).length : Int)) + (((((x.getD k ([], [], [], 0, 0, 0)).2.1))).length : Int)) + (((((x.getD k ([], [], [], 0, 0, 0)).2.2.1))).length : Int)) + 1) rfl rfl (by omega) (by omega) (qh (ii (((((z + ((((x.take k).flatMap flatPk).length : Nat) : Int)) + (((((x.getD k ([], [], [], 0, 0, 0)).1))).length : Int)) + (((((x.getD k ([], [], [], 0, 0, 0)).2.1))).length : Int)) + (((((x.getD k ([], [], [], 0, 0, 0)).2.2.1))).length : Int)) + 1)) rfl (qb (qc (qa (qf (xv) rfl (qf (ii ((k : Int))) rfl (qf (ii (((((z + ((((x.take k).flatMap flatPk).length : Nat) : Int)) + (((((x.getD k ([], [], [], 0, 0, 0)).1))).length : Int)) + (((((x.getD k ([], [], [], 0, 0, 0)).2.1))).length : Int)) + (((((x.getD k ([], [], [], 0, 0, 0)).2.2.1))).length : Int)) + 1)) rfl (cX (ql k jb jc rfl rfl rfl (SlV.own [_, _, _, _] rfl) (by omega) rfl (cX (js (k * 6 + 4) qK rfl qn (by decide) rfl rfl (cX (XOp.storeS (i := k * 6 + 4) (cs := (cs.set (k * 6 + 3) (ii ((((z + ((((x.take k).flatMap flatPk).length : Nat) : Int)) + (((((x.getD k ([], [], [], 0, 0, 0)).1))).length : Int)) + (((((x.getD k ([], [], [], 0, 0, 0)).2.1))).length : Int)) + (((((x.getD k ([], [], [], 0, 0, 0)).2.2.1))).length : Int))))) [_, _, _, _] _ qn rfl rfl rfl rfl (by (try simp only [List.length_set]); omega) (qb (qc (qa ?_)))))))))))))))))
  refine qf (ii (((((z + ((((x.take k).flatMap flatPk).length : Nat) : Int)) + (((((x.getD k ([], [], [], 0, 0, 0)).1))).length : Int)) + (((((x.getD k ([], [], [], 0, 0, 0)).2.1))).length : Int)) + (((((x.getD k ([], [], [], 0, 0, 0)).2.2.1))).length : Int)) + 1)) rfl (cX (qN ((((((z + ((((x.take k).flatMap flatPk).length : Nat) : Int)) + (((((x.getD k ([], [], [], 0, 0, 0)).1))).length : Int)) + (((((x.getD k ([], [], [], 0, 0, 0)).2.1))).length : Int)) + (((((x.getD k ([], [], [], 0, 0, 0)).2.2.1))).length : Int)) + 1) + 1) rfl rfl (by omega) (by omega) (qh (ii ((((((z + ((((x.take k).flatMap flatPk).length : Nat) : Int)) + (((((x.getD k ([], [], [], 0, 0, 0)).1))).length : Int)) + (((((x.getD k ([], [], [], 0, 0, 0)).2.1))).length : Int)) + (((((x.getD k ([], [], [], 0, 0, 0)).2.2.1))).length : Int)) + 1) + 1)) rfl (qb (qc (qa (qf (xv) rfl (qf (ii ((k : Int))) rfl (qf (ii ((((((z + ((((x.take k).flatMap flatPk).length : Nat) : Int)) + (((((x.getD k ([], [], [], 0, 0, 0)).1))).length : Int)) + (((((x.getD k ([], [], [], 0, 0, 0)).2.1))).length : Int)) + (((((x.getD k ([], [], [], 0, 0, 0)).2.2.1))).length : Int)) + 1) + 1)) rfl (cX (ql k jb jc rfl rfl rfl (SlV.own [_, _, _, _] rfl) (by omega) rfl (cX (js (k * 6 + 5) qK rfl qn (by decide) rfl rfl (cX (XOp.storeS (i := k * 6 + 5) (cs := (((cs.set (k * 6 + 3) (ii ((((z + ((((x.take k).flatMap flatPk).length : Nat) : Int)) + (((((x.getD k ([], [], [], 0, 0, 0)).1))).length : Int)) + (((((x.getD k ([], [], [], 0, 0, 0)).2.1))).length : Int)) + (((((x.getD k ([], [], [], 0, 0, 0)).2.2.1))).length : Int))))).set (k * 6 + 4) (ii (((((z + ((((x.take k).flatMap flatPk).length : Nat) : Int)) + (((((x.getD k ([], [], [], 0, 0, 0)).1))).length : Int)) + (((((x.getD k ([], [], [], 0, 0, 0)).2.1))).length : Int)) + (((((x.getD k ([], [], [], 0, 0, 0)).2.2.1))).length : Int)) + 1)))) [_, _, _, _] _ qn rfl rfl rfl rfl (by (try simp only [List.length_set]); omega) ?_)))))))))))))))
  refine qb (qa (qf (ii ((((((z + ((((x.take k).flatMap flatPk).length : Nat) : Int)) + (((((x.getD k ([], [], [], 0, 0, 0)).1))).length : Int)) + (((((x.getD k ([], [], [], 0, 0, 0)).2.1))).length : Int)) + (((((x.getD k ([], [], [], 0, 0, 0)).2.2.1))).length : Int)) + 1) + 1)) rfl (cX (qN (((((((z + ((((x.take k).flatMap flatPk).length : Nat) : Int)) + (((((x.getD k ([], [], [], 0, 0, 0)).1))).length : Int)) + (((((x.getD k ([], [], [], 0, 0, 0)).2.1))).length : Int)) + (((((x.getD k ([], [], [], 0, 0, 0)).2.2.1))).length : Int)) + 1) + 1) + 1) rfl rfl (by omega) (by omega) (qh (ii (((((((z + ((((x.take k).flatMap flatPk).length : Nat) : Int)) + (((((x.getD k ([], [], [], 0, 0, 0)).1))).length : Int)) + (((((x.getD k ([], [], [], 0, 0, 0)).2.1))).length : Int)) + (((((x.getD k ([], [], [], 0, 0, 0)).2.2.1))).length : Int)) + 1) + 1) + 1)) rfl (qb (qa (qU (qD (qx (A := [_, _, _, _])) (qD (qx (A := [_, _, _, _])) (qD (qx (A := [_, _])) (qD (qx (A := [_, _, _])) (qD (qx (A := [_, _, _, _])) (sC (sC (sC (sC (sC sR)))))))))) (qU (Sub.push (A := A) (K := [intsH 2 a m1, intsH 2 b m2, intsH 2 c m3]) (B := B)) ?_)))))))))
  show XL _ _ _ _ _ _ _ (star (A ++ ([intsH 2 a m1, intsH 2 b m2, intsH 2 c m3] ++ B)) :: slH 76 6 xv x.length ((((((cs.set (k * 6 + 3) (ii ((((z + ((((x.take k).flatMap flatPk).length : Nat) : Int)) + (((((x.getD k ([], [], [], 0, 0, 0)).1))).length : Int)) + (((((x.getD k ([], [], [], 0, 0, 0)).2.1))).length : Int)) + (((((x.getD k ([], [], [], 0, 0, 0)).2.2.1))).length : Int))))).set (k * 6 + 4) (ii (((((z + ((((x.take k).flatMap flatPk).length : Nat) : Int)) + (((((x.getD k ([], [], [], 0, 0, 0)).1))).length : Int)) + (((((x.getD k ([], [], [], 0, 0, 0)).2.1))).length : Int)) + (((((x.getD k ([], [], [], 0, 0, 0)).2.2.1))).length : Int)) + 1)))).set (k * 6 + 5) (ii ((((((z + ((((x.take k).flatMap flatPk).length : Nat) : Int)) + (((((x.getD k ([], [], [], 0, 0, 0)).1))).length : Int)) + (((((x.getD k ([], [], [], 0, 0, 0)).2.1))).length : Int)) + (((((x.getD k ([], [], [], 0, 0, 0)).2.2.1))).length : Int)) + 1) + 1)))) :: L)
  have hdn := hput [a, b, c, ii ((z + ((((x.take k).flatMap flatPk).length : Nat) : Int)) + ((x.getD k ([], [], [], 0, 0, 0)).1.length : Int) + ((x.getD k ([], [], [], 0, 0, 0)).2.1.length : Int) + ((x.getD k ([], [], [], 0, 0, 0)).2.2.1.length : Int)), ii (((z + ((((x.take k).flatMap flatPk).length : Nat) : Int)) + ((x.getD k ([], [], [], 0, 0, 0)).1.length : Int) + ((x.getD k ([], [], [], 0, 0, 0)).2.1.length : Int) + ((x.getD k ([], [], [], 0, 0, 0)).2.2.1.length : Int)) + 1), ii (((z + ((((x.take k).flatMap flatPk).length : Nat) : Int)) + ((x.getD k ([], [], [], 0, 0, 0)).1.length : Int) + ((x.getD k ([], [], [], 0, 0, 0)).2.1.length : Int) + ((x.getD k ([], [], [], 0, 0, 0)).2.2.1.length : Int)) + 1 + 1)] (m1, m2, m3, ((z + ((((x.take k).flatMap flatPk).length : Nat) : Int)) + ((x.getD k ([], [], [], 0, 0, 0)).1.length : Int) + ((x.getD k ([], [], [], 0, 0, 0)).2.1.length : Int) + ((x.getD k ([], [], [], 0, 0, 0)).2.2.1.length : Int)), ((z + ((((x.take k).flatMap flatPk).length : Nat) : Int)) + ((x.getD k ([], [], [], 0, 0, 0)).1.length : Int) + ((x.getD k ([], [], [], 0, 0, 0)).2.1.length : Int) + ((x.getD k ([], [], [], 0, 0, 0)).2.2.1.length : Int)) + 1, ((z + ((((x.take k).flatMap flatPk).length : Nat) : Int)) + ((x.getD k ([], [], [], 0, 0, 0)).1.length : Int) + ((x.getD k ([], [], [], 0, 0, 0)).2.1.length : Int) + ((x.getD k ([], [], [], 0, 0, 0)).2.2.1.length : Int)) + 1 + 1) _ rfl ⟨a, b, c, rfl, rfl⟩
  rw [← set_six (hg 0 _ rfl) (hg 1 _ rfl) (hg 2 _ rfl) (hg 3 _ rfl) (hg 4 _ rfl) (hg 5 _ rfl), app_set hol hkx] at hdn
  have hfx : flatPk (m1, m2, m3, ((z + ((((x.take k).flatMap flatPk).length : Nat) : Int)) + ((x.getD k ([], [], [], 0, 0, 0)).1.length : Int) + ((x.getD k ([], [], [], 0, 0, 0)).2.1.length : Int) + ((x.getD k ([], [], [], 0, 0, 0)).2.2.1.length : Int)), ((z + ((((x.take k).flatMap flatPk).length : Nat) : Int)) + ((x.getD k ([], [], [], 0, 0, 0)).1.length : Int) + ((x.getD k ([], [], [], 0, 0, 0)).2.1.length : Int) + ((x.getD k ([], [], [], 0, 0, 0)).2.2.1.length : Int)) + 1, ((z + ((((x.take k).flatMap flatPk).length : Nat) : Int)) + ((x.getD k ([], [], [], 0, 0, 0)).1.length : Int) + ((x.getD k ([], [], [], 0, 0, 0)).2.1.length : Int) + ((x.getD k ([], [], [], 0, 0, 0)).2.2.1.length : Int)) + 1 + 1) = iota (z + ((((x.take k).flatMap flatPk).length : Nat) : Int)) (flatPk (x.getD k ([], [], [], 0, 0, 0))).length := flatPk_iota hm1 hm2 hm3 hfp
  have hnext : ((z + ((((x.take k).flatMap flatPk).length : Nat) : Int)) + ((x.getD k ([], [], [], 0, 0, 0)).1.length : Int) + ((x.getD k ([], [], [], 0, 0, 0)).2.1.length : Int) + ((x.getD k ([], [], [], 0, 0, 0)).2.2.1.length : Int)) + 1 + 1 + 1 = z + ((((x.take (k + 1)).flatMap flatPk).length : Nat) : Int) := by rw [flatMap_take_succ flatPk ([], [], [], 0, 0, 0) hkx, List.length_append, hfp]; omega
  skip
  refine qf (ii ((k : Int))) rfl (cX (qN (((k + 1 : Nat) : Int)) rfl rfl (by omega) (by omega) (qh (ii (((k + 1 : Nat) : Int))) rfl (qb ?_))))
  exact ⟨(k + 1, os ++ [(m1, m2, m3, ((z + ((((x.take k).flatMap flatPk).length : Nat) : Int)) + ((x.getD k ([], [], [], 0, 0, 0)).1.length : Int) + ((x.getD k ([], [], [], 0, 0, 0)).2.1.length : Int) + ((x.getD k ([], [], [], 0, 0, 0)).2.2.1.length : Int)), ((z + ((((x.take k).flatMap flatPk).length : Nat) : Int)) + ((x.getD k ([], [], [], 0, 0, 0)).1.length : Int) + ((x.getD k ([], [], [], 0, 0, 0)).2.1.length : Int) + ((x.getD k ([], [], [], 0, 0, 0)).2.2.1.length : Int)) + 1, ((z + ((((x.take k).flatMap flatPk).length : Nat) : Int)) + ((x.getD k ([], [], [], 0, 0, 0)).1.length : Int) + ((x.getD k ([], [], [], 0, 0, 0)).2.1.length : Int) + ((x.getD k ([], [], [], 0, 0, 0)).2.2.1.length : Int)) + 1 + 1)], A ++ ([intsH 2 a m1, intsH 2 b m2, intsH 2 c m3] ++ B), (((((cs.set (k * 6 + 3) (ii ((((z + ((((x.take k).flatMap flatPk).length : Nat) : Int)) + (((((x.getD k ([], [], [], 0, 0, 0)).1))).length : Int)) + (((((x.getD k ([], [], [], 0, 0, 0)).2.1))).length : Int)) + (((((x.getD k ([], [], [], 0, 0, 0)).2.2.1))).length : Int))))).set (k * 6 + 4) (ii (((((z + ((((x.take k).flatMap flatPk).length : Nat) : Int)) + (((((x.getD k ([], [], [], 0, 0, 0)).1))).length : Int)) + (((((x.getD k ([], [], [], 0, 0, 0)).2.1))).length : Int)) + (((((x.getD k ([], [], [], 0, 0, 0)).2.2.1))).length : Int)) + 1)))).set (k * 6 + 5) (ii ((((((z + ((((x.take k).flatMap flatPk).length : Nat) : Int)) + (((((x.getD k ([], [], [], 0, 0, 0)).1))).length : Int)) + (((((x.getD k ([], [], [], 0, 0, 0)).2.1))).length : Int)) + (((((x.getD k ([], [], [], 0, 0, 0)).2.2.1))).length : Int)) + 1) + 1)))), _, FLe.refl _, rF, ⟨rfl, (vI hnext), rfl, ⟨⟩⟩, (sC (sC sR)), ⟨rfl, (hdn), (by (try dsimp only) <;> omega), (by simp [hol]), (marked (d := ([], [], [], 0, 0, 0)) (by omega) hfl hfx)⟩, (by omega)⟩
 refine jg (qv (qv (qO (qc (qa (qf (ii (z + ((((x.take k).flatMap flatPk).length : Nat) : Int))) rfl (qh (ii (z + ((((x.take k).flatMap flatPk).length : Nat) : Int))) rfl (qb (qA (qt (L' := peaksD 2 76 xv os :: L) [ii (z + ((((x.take k).flatMap flatPk).length : Nat) : Int))] (ii (z + ((((x.take k).flatMap flatPk).length : Nat) : Int))) (.tmp rfl .nil) rfl rF rF (qD (qx (A := [_])) (Sub.closeDeep (by rw [app_all (by omega)] at hd; exact hd) (by omega))) ?_))))))))))
 rw [app_all (by omega)] at hd
 have hkl : k = x.length := by omega
 exact ⟨os, by rw [hfl, hkl, List.take_length], by omega, by rw [hkl, List.take_length], rfl, rfl⟩

/- laws.heldPeakS -/
theorem heldPeakS_spec {F : FH} {L : List HP} {xv : Value} {x : List PkT} (hx : PeaksF F xv x) {z : Int} (hzb : 0 ≤ z ∧ z + ((x.flatMap flatPk).length : Int) ≤ 9000000000) (hxl : x.length ≤ 4000000) :
    Does prog 42 [xv, ii (z)] F (L) (fun v F' L' => (ii (heldF (x.flatMap flatPk) z) : Value) = v ∧ F = F' ∧ L = L') := by
 refine qM func42 rfl rfl rfl (qc (qa (qh (ii (0)) rfl (qb (qc (qc (qa (qh (ii (0)) rfl (qb (qJ (jk (α := Nat) (fun k => [(0, xv), (1, ii (heldF ((x.take k).flatMap flatPk) z)), (5, ii ((k : Int)))]) (fun k => L) (fun k F' => F = F' ∧ (k ≤ x.length) ∧ (0 ≤ heldF ((x.take k).flatMap flatPk) z)) (fun k => x.length - k) 0 ⟨rfl, (show Value.int .i64 z = ii (heldF ((x.take 0).flatMap flatPk) z) from congrArg (Value.int .i64) (by simp [heldF_nil])), rfl, ⟨⟩⟩ sR ⟨rfl, (by (try dsimp only) <;> omega), (by simp [heldF_nil]; omega)⟩ ?_)))))))))))
 rintro k rE _ _ ⟨rfl, hk, hnn⟩
 show X _ _ _ _ (envs [(0, xv), (1, ii (heldF ((x.take k).flatMap flatPk) z)), (5, ii ((k : Int)))] rE) _ (L)
 have hhp := heldF_pos (a := (x.take k).flatMap flatPk) (k := z) (by omega)
 have htl := fun (h : k < x.length) => flat_take_le (f := flatPk) (l := x) ([], [], [], 0, 0, 0) h
 have hnx := fun (h : k < x.length) => held_next (f := flatPk) (l := x) (k := k) ([], [], [], 0, 0, 0) hzb.1 h (by omega)
 have hsx : k < x.length → (flatPk (x.getD k ([], [], [], 0, 0, 0))).length = (x.getD k ([], [], [], 0, 0, 0)).1.length + (x.getD k ([], [], [], 0, 0, 0)).2.1.length + (x.getD k ([], [], [], 0, 0, 0)).2.2.1.length + 1 + 1 + 1 := fun _ => flatPk_len
 have hun : k < x.length → heldF (flatPk (x.getD k ([], [], [], 0, 0, 0))) (heldF ((x.take k).flatMap flatPk) z) = _ := fun _ => held_pk hnn
 have hq1 := heldF_range (xs := (x.getD k ([], [], [], 0, 0, 0)).1) hnn
 have hq2 := fun h : 0 ≤ heldF (x.getD k ([], [], [], 0, 0, 0)).1 (heldF ((x.take k).flatMap flatPk) z) => heldF_range (xs := (x.getD k ([], [], [], 0, 0, 0)).2.1) h
 have hq3 := fun h : 0 ≤ heldF (x.getD k ([], [], [], 0, 0, 0)).2.1 (heldF (x.getD k ([], [], [], 0, 0, 0)).1 (heldF ((x.take k).flatMap flatPk) z)) => heldF_range (xs := (x.getD k ([], [], [], 0, 0, 0)).2.2.1) h
 refine qc (qc (qa (qf (ii ((k : Int))) rfl (qf (xv) rfl (cX (qE jb rfl hx.slv (cX (qF rfl rfl (qb ?_)))))))))
 refine qw (p := (k : Int) < (x.length : Int)) rfl (fun h1 => ?_) (fun h1 => ?_)
 ·refine qu (qc (qJ (qc (qa (qf (xv) rfl (qf (ii ((k : Int))) rfl (cX (ql k jb jc rfl rfl rfl hx.slv (by omega) rfl (cX (js (k * 6) qK rfl qp (by decide) rfl rfl ?_))))))))))
  obtain ⟨a1, a2, a3, ha1, ha2, ha3, hrg1, hq1⟩ := hx.rd (i := k) (by omega)
  refine cX (qi qL rfl (hrg1 _ 0 _ rfl) (qf (ii (heldF ((x.take k).flatMap flatPk) z)) rfl (cX (qq (args := [a1, ii (heldF ((x.take k).flatMap flatPk) z)]) call103 rfl (heldInt64S_spec (z := heldF ((x.take k).flatMap flatPk) z) ha1 (hzb := (by first | assumption | rfl | omega | simp))) ?_))))
  rintro _ _ _ _ ⟨rfl, rfl, rfl⟩
  refine qh (ii (heldF ((x.getD k ([], [], [], 0, 0, 0)).1) (heldF ((x.take k).flatMap flatPk) z))) rfl (qb (qc (qc (qa (qf (ii (heldF ((x.getD k ([], [], [], 0, 0, 0)).1) (heldF ((x.take k).flatMap flatPk) z))) rfl (cX (qF rfl rfl (qb ?_))))))))
  refine qw (p := (heldF ((x.getD k ([], [], [], 0, 0, 0)).1) (heldF ((x.take k).flatMap flatPk) z) : Int) < 0) rfl (fun h2 => ?_) (fun h2 => ?_)
  ·refine qc (qa (qh (ii (-1)) rfl (qb (qA (qk (qz (qk (qk (qz (qk (qt (L' := L) [ii (-1)] (ii (-1)) (.tmp rfl .nil) rfl rF rF sR ?_)))))))))))
   exact ⟨(vI (by exact held_fail (k := k) ([], [], [], 0, 0, 0) hzb.1 (by omega) (by rw [hnx (by omega), hun (by omega), if_pos (by first | assumption | exact Classical.not_not.1 (by assumption))]; omega))), rfl, rfl⟩
  refine qu (qc (qa (qf (xv) rfl (qf (ii ((k : Int))) rfl (cX (ql k jb jc rfl rfl rfl hx.slv (by omega) rfl (cX (js (k * 6 + 1) qK rfl qp (by decide) rfl rfl (cX (qi qL rfl (hrg1 _ 1 _ rfl) (qf (ii (heldF ((x.getD k ([], [], [], 0, 0, 0)).1) (heldF ((x.take k).flatMap flatPk) z))) rfl (cX (qq (args := [a2, ii (heldF ((x.getD k ([], [], [], 0, 0, 0)).1) (heldF ((x.take k).flatMap flatPk) z))]) call103 rfl (heldInt64S_spec (z := heldF ((x.getD k ([], [], [], 0, 0, 0)).1) (heldF ((x.take k).flatMap flatPk) z)) ha2 (hzb := (by first | assumption | rfl | omega | simp))) ?_)))))))))))))
  rintro _ _ _ _ ⟨rfl, rfl, rfl⟩
  refine qh (ii (heldF ((x.getD k ([], [], [], 0, 0, 0)).2.1) (heldF ((x.getD k ([], [], [], 0, 0, 0)).1) (heldF ((x.take k).flatMap flatPk) z)))) rfl (qb (qc (qc (qa (qf (ii (heldF ((x.getD k ([], [], [], 0, 0, 0)).2.1) (heldF ((x.getD k ([], [], [], 0, 0, 0)).1) (heldF ((x.take k).flatMap flatPk) z)))) rfl (cX (qF rfl rfl (qb ?_))))))))
  refine qw (p := (heldF ((x.getD k ([], [], [], 0, 0, 0)).2.1) (heldF ((x.getD k ([], [], [], 0, 0, 0)).1) (heldF ((x.take k).flatMap flatPk) z)) : Int) < 0) rfl (fun h3 => ?_) (fun h3 => ?_)
  ·refine qc (qa (qh (ii (-1)) rfl (qb (qA (qk (qz (qk (qk (qz (qk (qt (L' := L) [ii (-1)] (ii (-1)) (.tmp rfl .nil) rfl rF rF sR ?_)))))))))))
   exact ⟨(vI (by exact held_fail (k := k) ([], [], [], 0, 0, 0) hzb.1 (by omega) (by rw [hnx (by omega), hun (by omega), if_neg (by assumption), if_pos (by first | assumption | exact Classical.not_not.1 (by assumption))]; omega))), rfl, rfl⟩
  refine qu (qc (qa (qf (xv) rfl (qf (ii ((k : Int))) rfl (cX (ql k jb jc rfl rfl rfl hx.slv (by omega) rfl (cX (js (k * 6 + 2) qK rfl qp (by decide) rfl rfl (cX (qi qL rfl (hrg1 _ 2 _ rfl) (qf (ii (heldF ((x.getD k ([], [], [], 0, 0, 0)).2.1) (heldF ((x.getD k ([], [], [], 0, 0, 0)).1) (heldF ((x.take k).flatMap flatPk) z)))) rfl (cX (qq (args := [a3, ii (heldF ((x.getD k ([], [], [], 0, 0, 0)).2.1) (heldF ((x.getD k ([], [], [], 0, 0, 0)).1) (heldF ((x.take k).flatMap flatPk) z)))]) call103 rfl (heldInt64S_spec (z := heldF ((x.getD k ([], [], [], 0, 0, 0)).2.1) (heldF ((x.getD k ([], [], [], 0, 0, 0)).1) (heldF ((x.take k).flatMap flatPk) z))) ha3 (hzb := (by first | assumption | rfl | omega | simp))) ?_)))))))))))))
  rintro _ _ _ _ ⟨rfl, rfl, rfl⟩
  refine qh (ii (heldF ((x.getD k ([], [], [], 0, 0, 0)).2.2.1) (heldF ((x.getD k ([], [], [], 0, 0, 0)).2.1) (heldF ((x.getD k ([], [], [], 0, 0, 0)).1) (heldF ((x.take k).flatMap flatPk) z))))) rfl (qb (qc (qc (qa (qf (ii (heldF ((x.getD k ([], [], [], 0, 0, 0)).2.2.1) (heldF ((x.getD k ([], [], [], 0, 0, 0)).2.1) (heldF ((x.getD k ([], [], [], 0, 0, 0)).1) (heldF ((x.take k).flatMap flatPk) z))))) rfl (cX (qF rfl rfl (qb ?_))))))))
  refine qw (p := (heldF ((x.getD k ([], [], [], 0, 0, 0)).2.2.1) (heldF ((x.getD k ([], [], [], 0, 0, 0)).2.1) (heldF ((x.getD k ([], [], [], 0, 0, 0)).1) (heldF ((x.take k).flatMap flatPk) z))) : Int) < 0) rfl (fun h4 => ?_) (fun h4 => ?_)
  ·refine qc (qa (qh (ii (-1)) rfl (qb (qA (qk (qz (qk (qk (qz (qk (qt (L' := L) [ii (-1)] (ii (-1)) (.tmp rfl .nil) rfl rF rF sR ?_)))))))))))
   exact ⟨(vI (by exact held_fail (k := k) ([], [], [], 0, 0, 0) hzb.1 (by omega) (by rw [hnx (by omega), hun (by omega), if_neg (by assumption), if_neg (by assumption), if_pos (by first | assumption | exact Classical.not_not.1 (by assumption))]; omega))), rfl, rfl⟩
  refine qu (qc (qc (qa (qf (xv) rfl (qf (ii ((k : Int))) rfl (cX (ql k jb jc rfl rfl rfl hx.slv (by omega) rfl (cX (js (k * 6 + 3) qK rfl qn (by decide) rfl rfl (cX (qi qB rfl (hrg1 _ 3 _ rfl) (qf (ii (heldF ((x.getD k ([], [], [], 0, 0, 0)).2.2.1) (heldF ((x.getD k ([], [], [], 0, 0, 0)).2.1) (heldF ((x.getD k ([], [], [], 0, 0, 0)).1) (heldF ((x.take k).flatMap flatPk) z))))) rfl (cX (jK rfl rfl (qb ?_)))))))))))))))
  refine qw (p := ((x.getD k ([], [], [], 0, 0, 0)).2.2.2.1 : Int) ≠ heldF ((x.getD k ([], [], [], 0, 0, 0)).2.2.1) (heldF ((x.getD k ([], [], [], 0, 0, 0)).2.1) (heldF ((x.getD k ([], [], [], 0, 0, 0)).1) (heldF ((x.take k).flatMap flatPk) z)))) rfl (fun h5 => ?_) (fun h5 => ?_)
  ·refine qc (qa (qh (ii (-1)) rfl (qb (qA (qk (qz (qk (qk (qz (qk (qt (L' := L) [ii (-1)] (ii (-1)) (.tmp rfl .nil) rfl rF rF sR ?_)))))))))))
   exact ⟨(vI (by exact held_fail (k := k) ([], [], [], 0, 0, 0) hzb.1 (by omega) (by rw [hnx (by omega), hun (by omega), if_neg (by assumption), if_neg (by assumption), if_neg (by assumption), if_neg (by assumption)]; omega))), rfl, rfl⟩
  refine qu (qc (qa (qf (ii (heldF ((x.getD k ([], [], [], 0, 0, 0)).2.2.1) (heldF ((x.getD k ([], [], [], 0, 0, 0)).2.1) (heldF ((x.getD k ([], [], [], 0, 0, 0)).1) (heldF ((x.take k).flatMap flatPk) z))))) rfl (cX (qN ((heldF ((x.getD k ([], [], [], 0, 0, 0)).2.2.1) (heldF ((x.getD k ([], [], [], 0, 0, 0)).2.1) (heldF ((x.getD k ([], [], [], 0, 0, 0)).1) (heldF ((x.take k).flatMap flatPk) z)))) + 1) rfl rfl (by omega) (by omega) (qh (ii ((heldF ((x.getD k ([], [], [], 0, 0, 0)).2.2.1) (heldF ((x.getD k ([], [], [], 0, 0, 0)).2.1) (heldF ((x.getD k ([], [], [], 0, 0, 0)).1) (heldF ((x.take k).flatMap flatPk) z)))) + 1)) rfl (qb (qc (qc (qa (qf (xv) rfl (qf (ii ((k : Int))) rfl (cX (ql k jb jc rfl rfl rfl hx.slv (by omega) rfl (cX (js (k * 6 + 4) qK rfl qn (by decide) rfl rfl (cX (qi qB rfl (hrg1 _ 4 _ rfl) ?_))))))))))))))))))
  refine qf (ii ((heldF ((x.getD k ([], [], [], 0, 0, 0)).2.2.1) (heldF ((x.getD k ([], [], [], 0, 0, 0)).2.1) (heldF ((x.getD k ([], [], [], 0, 0, 0)).1) (heldF ((x.take k).flatMap flatPk) z)))) + 1)) rfl (cX (jK rfl rfl (qb ?_)))
  refine qw (p := ((x.getD k ([], [], [], 0, 0, 0)).2.2.2.2.1 : Int) ≠ (heldF ((x.getD k ([], [], [], 0, 0, 0)).2.2.1) (heldF ((x.getD k ([], [], [], 0, 0, 0)).2.1) (heldF ((x.getD k ([], [], [], 0, 0, 0)).1) (heldF ((x.take k).flatMap flatPk) z)))) + 1) rfl (fun h6 => ?_) (fun h6 => ?_)
  ·refine qc (qa (qh (ii (-1)) rfl (qb (qA (qk (qz (qk (qk (qz (qk (qt (L' := L) [ii (-1)] (ii (-1)) (.tmp rfl .nil) rfl rF rF sR ?_)))))))))))
   exact ⟨(vI (by exact held_fail (k := k) ([], [], [], 0, 0, 0) hzb.1 (by omega) (by rw [hnx (by omega), hun (by omega), if_neg (by assumption), if_neg (by assumption), if_neg (by assumption), if_pos (by first | assumption | exact Classical.not_not.1 (by assumption)), if_neg (by assumption)]; omega))), rfl, rfl⟩
  refine qu (qc (qa (qf (ii ((heldF ((x.getD k ([], [], [], 0, 0, 0)).2.2.1) (heldF ((x.getD k ([], [], [], 0, 0, 0)).2.1) (heldF ((x.getD k ([], [], [], 0, 0, 0)).1) (heldF ((x.take k).flatMap flatPk) z)))) + 1)) rfl (cX (qN (((heldF ((x.getD k ([], [], [], 0, 0, 0)).2.2.1) (heldF ((x.getD k ([], [], [], 0, 0, 0)).2.1) (heldF ((x.getD k ([], [], [], 0, 0, 0)).1) (heldF ((x.take k).flatMap flatPk) z)))) + 1) + 1) rfl rfl (by omega) (by omega) (qh (ii (((heldF ((x.getD k ([], [], [], 0, 0, 0)).2.2.1) (heldF ((x.getD k ([], [], [], 0, 0, 0)).2.1) (heldF ((x.getD k ([], [], [], 0, 0, 0)).1) (heldF ((x.take k).flatMap flatPk) z)))) + 1) + 1)) rfl (qb (qc (qc (qa (qf (xv) rfl (qf (ii ((k : Int))) rfl (cX (ql k jb jc rfl rfl rfl hx.slv (by omega) rfl (cX (js (k * 6 + 5) qK rfl qn (by decide) rfl rfl (cX (qi qB rfl (hrg1 _ 5 _ rfl) ?_))))))))))))))))))
  refine qf (ii (((heldF ((x.getD k ([], [], [], 0, 0, 0)).2.2.1) (heldF ((x.getD k ([], [], [], 0, 0, 0)).2.1) (heldF ((x.getD k ([], [], [], 0, 0, 0)).1) (heldF ((x.take k).flatMap flatPk) z)))) + 1) + 1)) rfl (cX (jK rfl rfl (qb ?_)))
  refine qw (p := ((x.getD k ([], [], [], 0, 0, 0)).2.2.2.2.2 : Int) ≠ ((heldF ((x.getD k ([], [], [], 0, 0, 0)).2.2.1) (heldF ((x.getD k ([], [], [], 0, 0, 0)).2.1) (heldF ((x.getD k ([], [], [], 0, 0, 0)).1) (heldF ((x.take k).flatMap flatPk) z)))) + 1) + 1) rfl (fun h7 => ?_) (fun h7 => ?_)
  ·refine qc (qa (qh (ii (-1)) rfl (qb (qA (qk (qz (qk (qk (qz (qk (qt (L' := L) [ii (-1)] (ii (-1)) (.tmp rfl .nil) rfl rF rF sR ?_)))))))))))
   exact ⟨(vI (by exact held_fail (k := k) ([], [], [], 0, 0, 0) hzb.1 (by omega) (by rw [hnx (by omega), hun (by omega), if_neg (by assumption), if_neg (by assumption), if_neg (by assumption), if_pos (by first | assumption | exact Classical.not_not.1 (by assumption)), if_pos (by first | assumption | exact Classical.not_not.1 (by assumption)), if_neg (by assumption)]; omega))), rfl, rfl⟩
  refine qu (qa (qf (ii (((heldF ((x.getD k ([], [], [], 0, 0, 0)).2.2.1) (heldF ((x.getD k ([], [], [], 0, 0, 0)).2.1) (heldF ((x.getD k ([], [], [], 0, 0, 0)).1) (heldF ((x.take k).flatMap flatPk) z)))) + 1) + 1)) rfl (cX (qN ((((heldF ((x.getD k ([], [], [], 0, 0, 0)).2.2.1) (heldF ((x.getD k ([], [], [], 0, 0, 0)).2.1) (heldF ((x.getD k ([], [], [], 0, 0, 0)).1) (heldF ((x.take k).flatMap flatPk) z)))) + 1) + 1) + 1) rfl rfl (by omega) (by omega) (qh (ii ((((heldF ((x.getD k ([], [], [], 0, 0, 0)).2.2.1) (heldF ((x.getD k ([], [], [], 0, 0, 0)).2.1) (heldF ((x.getD k ([], [], [], 0, 0, 0)).1) (heldF ((x.take k).flatMap flatPk) z)))) + 1) + 1) + 1)) rfl (qb (qa (qf (ii ((k : Int))) rfl (cX (qN (((k + 1 : Nat) : Int)) rfl rfl (by omega) (by omega) (qh (ii (((k + 1 : Nat) : Int))) rfl (qb ?_))))))))))))
  exact ⟨k + 1, _, FLe.refl _, rF, ⟨rfl, (vI (by rw [hnx (by omega), hun (by omega), if_neg (by assumption), if_neg (by assumption), if_neg (by assumption), if_pos (by first | assumption | exact Classical.not_not.1 (by assumption)), if_pos (by first | assumption | exact Classical.not_not.1 (by assumption)), if_pos (by first | assumption | exact Classical.not_not.1 (by assumption))])), rfl, ⟨⟩⟩, sR, ⟨rfl, (by (try dsimp only) <;> omega), (by (try dsimp only); rw [hnx (by omega), hun (by omega), if_neg (by assumption), if_neg (by assumption), if_neg (by assumption), if_pos (by first | assumption | exact Classical.not_not.1 (by assumption)), if_pos (by first | assumption | exact Classical.not_not.1 (by assumption)), if_pos (by first | assumption | exact Classical.not_not.1 (by assumption))]; omega)⟩, (by omega)⟩
 refine jg (qv (qv (qO (qc (qa (qf (ii (heldF ((x.take k).flatMap flatPk) z)) rfl (qh (ii (heldF ((x.take k).flatMap flatPk) z)) rfl (qb (qA (qt (L' := L) [ii (heldF ((x.take k).flatMap flatPk) z)] (ii (heldF ((x.take k).flatMap flatPk) z)) (.tmp rfl .nil) rfl rF rF sR ?_))))))))))
 exact ⟨(vI (by rw [List.take_of_length_le (by omega)])), rfl, rfl⟩
end Go.Proofs.Ytcdjpapjjoldeaa
set_option linter.unusedSimpArgs false
set_option linter.unusedVariables false
namespace Go.Proofs.Ytcdjpapjjoldeaa
open Go X M Try

/- laws.FnExactPeaksOf -/
set_option maxRecDepth 20000 in
theorem FnExactPeaksOf_does {F : FH} {L : List HP} {arv : Value} {ar : List Int} (har : IntsF F arv ar) {rsv : Value} {rs : List (List Int × List Int)} (hrs : PairsF F rsv rs) (hlar : ar.length ≤ 9223372036854775807) (hlrs : rs.length ≤ 9223372036854775807) (hbrs : ∀ i, i < rs.length → (rs.getD i ([], [])).1.length ≤ 9223372036854775807 ∧ (rs.getD i ([], [])).2.length ≤ 9223372036854775807) :
    Does prog 7 [.agg #[arv, rsv]] F (L) (fun v F' L' => (.bool (true) : Value) = v ∧ F = F' ∧ L = L') := by
 refine qM func7 rfl rfl rfl ?_
 have hnl := psO_len (ar := ar) (rs := rs)
 have hnb := psO_at (ar := ar) (rs := rs)
 have hnf := psO_flat (ar := ar) (rs := rs)
 refine qc (qa (cX (jd [arv, rsv] rfl rfl ?_)))
 intro b1
 refine qh (.bool (false)) rfl (qb (qc (qa (qh (ii (1048576)) rfl (qb (qc (qa (cX (qC [arv, rsv] isAgg58 sizeOf58 rfl rfl (Rd.ownN [] rfl rfl) (qf (ii (1048576)) rfl (cX (qq (args := [.agg #[arv, rsv], ii (1048576)]) call30 rfl (szSystem_spec (z := 1048576) har hrs (hz := (by first | assumption | rfl | omega | simp)) (hal := (by first | assumption | rfl | omega | simp)) (hrl := (by first | assumption | rfl | omega | simp)) (hrb := (by first | assumption | rfl | omega | simp))) ?_))))))))))))
 rintro _ _ _ _ ⟨rfl, rfl, rfl⟩
 refine qh (ii (dec 1048576 (ar.length + szR rs))) rfl (qb (qc (qc (qa (qf (ii (dec 1048576 (ar.length + szR rs))) rfl (cX (qF rfl rfl (qb ?_))))))))
 refine qw (p := (dec 1048576 (ar.length + szR rs) : Int) < 0) rfl (fun h1 => ?_) (fun h1 => ?_)
 ·refine qc (qa (qh (.bool (true)) rfl (qb (qA (qk (qt (L' := L) [.bool (true)] (.bool (true)) (.tmp rfl .nil) rfl rF rF (sD sR) ?_))))))
  exact ⟨rfl, rfl, rfl⟩
 have hd1 := dec_le2 h1 (by omega)
 have hzrs := szR_le (rs := rs)
 have hirs := hzrs.2
 have hcrs : ∀ i, i < rs.length → (rs.getD i ([], [])).1.length ≤ 4000000 ∧ (rs.getD i ([], [])).2.length ≤ 4000000 := fun i hi => by have := hirs i hi; omega
 have hfrs := flatPair_len rs
 refine qu (qc (qa (cX (qC [arv, rsv] isAgg58 sizeOf58 rfl rfl (Rd.ownN [] rfl rfl) (cX (XOp.thawL (id (qq (args := [.agg #[arv, rsv]]) call32 rfl (toSystem_spec har hrs (hla := (by first | assumption | rfl | omega | simp)) (hrl := (by first | assumption | rfl | omega | simp)) (hrb := (by first | assumption | rfl | omega | simp))) ?_))))))))
 rintro _ F1 _ le1 ⟨x1, x2, rfl, hr1, hr2, hr3, rfl⟩
 refine ⟨[intsH 2 x1 ar, pairsD 2 72 x2 rs], hr3, ?_⟩
 show XL _ _ _ _ _ _ _ (intsH 2 x1 ar :: pairsD 2 72 x2 rs :: cellsH b1 [arv, rsv] 58 :: L)
 refine XL.freezeF [] _ _ rfl (fun F2 le2 hz1 => ?_)
 replace har := har.mono le2
 replace hrs := hrs.mono le2
 have hf1 : IntsF F2 x1 ar := intsH.fz (xs := ar) hz1.fz
 refine XL.freezeF [] _ _ rfl (fun F3 le3 hz2 => ?_)
 replace har := har.mono le3
 replace hrs := hrs.mono le3
 replace hf1 := hf1.mono le3
 have hf2 : PairsF F3 x2 rs := pairsD.fz hz2.fz
 refine cX (qq (args := [.agg #[x1, x2]]) call37 rfl (sPeaksOf_spec hf1 hf2 (hla := (by first | assumption | rfl | omega | simp)) (hlr := (by first | assumption | rfl | omega | simp)) (hrb := (by first | assumption | rfl | omega | simp))) ?_)
 rintro _ F4 _ le4 ⟨x3, rfl, hr4, rfl⟩
 replace har := har.mono le4
 replace hrs := hrs.mono le4
 refine qf (.tuple #[x3, .bool ((psO ar rs).isSome)]) rfl (cX (qX (x3) rfl rfl (cX (qX (.bool ((psO ar rs).isSome)) rfl rfl (qh (x3) rfl (qh (.bool ((psO ar rs).isSome)) rfl (qb (qc (qa (cX (qC [arv, rsv] isAgg58 sizeOf58 rfl rfl (Rd.ownN [] rfl rfl) (cX (XOp.thawL (id (qq (args := [.agg #[arv, rsv]]) call32 rfl (toSystem_spec har hrs (hla := (by first | assumption | rfl | omega | simp)) (hrl := (by first | assumption | rfl | omega | simp)) (hrb := (by first | assumption | rfl | omega | simp))) ?_)))))))))))))))
 rintro _ F5 _ le5 ⟨x4, x5, rfl, hr5, hr6, hr7, rfl⟩
 refine ⟨[intsH 2 x4 ar, pairsD 2 72 x5 rs], hr7, ?_⟩
 show XL _ _ _ _ _ _ _ (intsH 2 x4 ar :: pairsD 2 72 x5 rs :: cellsH b1 [arv, rsv] 58 :: L)
 refine cX (jD [sN, sN] zeroValue32 rfl ?_)
 intro b2
 refine cX (jn [] _ [x4, x5] jJ rfl rfl rfl (qy (jh (qG hr5)) (qy (jh (PairsF.isSl hr6)) jo)) rfl rfl rfl (qb (qc (qa (cX (qC [x4, x5] isAgg32 jJ rfl rfl (Rd.ownN [] rfl rfl) (cX (XOp.lend [_] _ _ rfl (fun F6 le6 hz3 => (id (XOp.lend [_] _ _ rfl (fun F7 le7 hz4 => ?_))))))))))))
 have hf3 : IntsF _ x4 ar := (intsH.fz (xs := ar) hz3).mono le7
 have hf4 : PairsF _ x5 rs := pairsD.fz hz4
 refine id (XOp.thawL (id (qq (args := [.agg #[x4, x5]]) call38 rfl (PeaksOf_spec hf3 hf4) ?_)))
 rintro _ F8 _ le8 ⟨x6, rfl, hr8, hr9, rfl⟩
 refine ⟨[peaksD 2 76 x6 (((psO ar rs).getD []))], hr9, ?_⟩
 show XL _ _ _ _ _ _ _ (intsH 2 x4 ar :: pairsD 2 72 x5 rs :: peaksD 2 76 x6 (((psO ar rs).getD [])) :: cellsH b2 [x4, x5] 32 :: cellsH b1 [arv, rsv] 58 :: L)
 refine qf (.tuple #[x6, .bool ((psO ar rs).isSome)]) rfl (cX (qX (x6) rfl rfl (cX (qX (.bool ((psO ar rs).isSome)) rfl rfl (qh (x6) rfl (qh (.bool ((psO ar rs).isSome)) rfl (qb (qc (qc (qa (qf (x6) rfl (qf (x3) rfl (cX (XOp.lend [_, _] _ _ rfl (fun F9 le9 hz5 => ?_)))))))))))))))
 have hf5 : PeaksF _ x6 (((psO ar rs).getD [])) := peaksD.fz hz5
 refine id (qq (args := [x6, x3]) call39 rfl (eqPeakS_spec hf5 ((hr4.mono le9)) (hal := (by omega)) (hbd := (fun i hi => by have := hnb i hi; omega))) ?_)
 rintro _ _ _ _ ⟨rfl, rfl, rfl⟩
 show XL _ _ _ _ _ _ _ (peaksD 2 76 x6 (((psO ar rs).getD [])) :: intsH 2 x4 ar :: pairsD 2 72 x5 rs :: cellsH b2 [x4, x5] 32 :: cellsH b1 [arv, rsv] 58 :: L)
 refine cX (jC rfl (qf (.bool (decide (¬((((psO ar rs).getD [])) = (((psO ar rs).getD [])))))) rfl ?_))
 by_cases h2 : ¬((((psO ar rs).getD [])) = (((psO ar rs).getD [])))
 ·exact absurd (by first | rfl | exact ⟨rfl, rfl⟩ | exact ⟨⟨rfl, rfl⟩, rfl, rfl⟩ | simp) h2
 refine qs (t := 36) rfl (vF h2) (qj (.bool ((psO ar rs).isSome)) rfl (qs (t := 36) rfl (vF h2) (qj (.bool ((psO ar rs).isSome)) rfl (qs (t := 36) rfl (vF h2) (XOp.neB (a := (psO ar rs).isSome) (b := (psO ar rs).isSome) runUnderlying4 rfl rfl (cX (qT (.bool (decide (((psO ar rs).isSome) ≠ ((psO ar rs).isSome)))) (vF h2) rfl (qb ?_))))))))
 refine qw (p := ((psO ar rs).isSome) ≠ ((psO ar rs).isSome)) rfl (fun h3 => ?_) (fun h3 => ?_)
 ·exact absurd rfl h3
 refine qu (qc (qc ?_))
 refine X.drawG [peaksD 2 76 x6 (((psO ar rs).getD [])), intsH 2 x4 ar, pairsD 2 72 x5 rs, cellsH b2 [x4, x5] 32, cellsH b1 [arv, rsv] 58] L 3 [] [[], [], [1]] [] (phiG [pe (.agg #[x4, x5]), pe (.agg #[arv, rsv]), fun FF us v => (.agg #[((aggAt v 0)), ((aggAt v 1))] : Value) = v ∧ (IntsF FF ((aggAt v 0)) ar) ∧ (PairsF FF ((aggAt v 1)) rs)]) (ownL []) mixed rfl rfl (by kernel_rfl) (by kernel_rfl) (MonoG.get (m1 (m1 (mC (fun le h => ⟨h.1, h.2.1.mono le, h.2.2.mono le⟩) MonoG.nil)))) ?_ ?_
 ·refine gD (fun W Fs R lF z9 => ?_) ?_
  ·replace har := har.mono lF
   replace hrs := hrs.mono lF
   replace hr4 := hr4.mono lF
   refine qg (qC [x4, x5] isAgg32 jJ rfl rfl (Rd.ownN [_, _, _] rfl rfl) ?_)
   exact ⟨rfl, rfl⟩
  refine gD (fun W Fs R lF z9 => ?_) ?_
  ·replace har := har.mono lF
   replace hrs := hrs.mono lF
   replace hr4 := hr4.mono lF
   refine qg (qC [arv, rsv] isAgg58 sizeOf58 rfl rfl (Rd.ownN [_, _, _, _] rfl rfl) ?_)
   exact ⟨rfl, rfl⟩
  refine gD (fun W Fs R lF z9 => ?_) ?_
  ·replace har := har.mono lF
   replace hrs := hrs.mono lF
   replace hr4 := hr4.mono lF
   rw [eS (l := [(1, _)]) ⟨z9 1 rfl, ⟨⟩⟩]
   refine qg (qq (args := [.agg #[arv, rsv]]) call32 rfl (toSystem_spec har hrs (hla := (by first | assumption | rfl | omega | simp)) (hrl := (by first | assumption | rfl | omega | simp)) (hrb := (by first | assumption | rfl | omega | simp))) ?_)
   rintro _ F11 _ le11 ⟨x9, x10, rfl, hr13, hr14, hr15, rfl⟩
   replace har := har.mono le11
   replace hrs := hrs.mono le11
   replace hr4 := hr4.mono le11
   exact ⟨⟨rfl, hr13, hr14⟩, rfl⟩
  exact stepsG.nil
 intro W F12 le12 hphi
 obtain ⟨e2, f2_1hr1, f2_1hr2⟩ := hphi 2 (by decide)
 generalize hu1 : ((aggAt (W 2) 0)) = u1 at e2 f2_1hr1 f2_1hr2
 generalize hu2 : ((aggAt (W 2) 1)) = u2 at e2 f2_1hr1 f2_1hr2
 rw [eS (l := [(0, _), (2, (.agg #[u1, u2]))]) ⟨(hphi 0 (by decide)), (e2).symm, ⟨⟩⟩]
 replace har := har.mono le12
 replace hrs := hrs.mono le12
 replace hr4 := hr4.mono le12
 show XL _ _ _ _ _ _ _ (peaksD 2 76 x6 (((psO ar rs).getD [])) :: intsH 2 x4 ar :: pairsD 2 72 x5 rs :: cellsH b2 [x4, x5] 32 :: cellsH b1 [arv, rsv] 58 :: L)
 refine cX (XOp.lend [_] _ _ rfl (fun F13 le13 hz6 => (id (XOp.lend [_] _ _ rfl (fun F14 le14 hz7 => ?_)))))
 have hf6 : IntsF _ x4 ar := (intsH.fz (xs := ar) hz6).mono le14
 have hf7 : PairsF _ x5 rs := pairsD.fz hz7
 refine id (qq (args := [.agg #[x4, x5], .agg #[u1, u2]]) call34 rfl (eqSystem_spec hf6 hf7 ((f2_1hr1.mono (qo le13 le14))) ((f2_1hr2.mono (qo le13 le14))) (hcl := (by first | assumption | rfl | omega | simp)) (hal := (by first | assumption | rfl | omega | simp)) (hbd := (by first | assumption | rfl | omega | simp))) ?_)
 rintro _ _ _ _ ⟨rfl, rfl, rfl⟩
 show XL _ _ _ _ _ _ _ (intsH 2 x4 ar :: pairsD 2 72 x5 rs :: peaksD 2 76 x6 (((psO ar rs).getD [])) :: cellsH b2 [x4, x5] 32 :: cellsH b1 [arv, rsv] 58 :: L)
 refine cX (jC rfl (qb ?_))
 refine qw (p := ¬(ar = ar ∧ rs = rs)) rfl (fun h4 => ?_) (fun h4 => ?_)
 ·exact absurd (by first | rfl | exact ⟨rfl, rfl⟩ | exact ⟨⟨rfl, rfl⟩, rfl, rfl⟩ | simp) h4
 refine qu (qc (qa (qh (ii (1)) rfl (qb (qc (qa (cX (qC [x4, x5] isAgg32 jJ rfl rfl (Rd.ownN [_, _, _] rfl rfl) (qf (ii (1)) rfl (qU (qx (A := [_])) ?_))))))))))
 show XL _ _ _ _ _ _ _ (pairsD 2 72 x5 rs :: intsH 2 x4 ar :: peaksD 2 76 x6 (((psO ar rs).getD [])) :: cellsH b2 [x4, x5] 32 :: cellsH b1 [arv, rsv] 58 :: L)
 refine qU (qx (A := [_])) ?_
 show XL _ _ _ _ _ _ _ (intsH 2 x4 ar :: pairsD 2 72 x5 rs :: peaksD 2 76 x6 (((psO ar rs).getD [])) :: cellsH b2 [x4, x5] 32 :: cellsH b1 [arv, rsv] 58 :: L)
 refine cX (qq (args := [.agg #[x4, x5], ii (1)]) call40 rfl (markSystem_spec (by (try simp only [List.length_append]); omega) (by omega)) ?_)
 rintro _ _ _ _ ⟨m1, m2, hm1, hk1, rfl, rfl, rfl⟩
 have hml1 := congrArg List.length hm1
 rw [iota_len] at hml1
 try simp only [List.length_append] at hml1
 refine qh (ii (1 + (((ar) ++ (rs.flatMap flatPair)).length : Int))) rfl (qb (qc (qc (qa (qf (ii (1 + (((ar) ++ (rs.flatMap flatPair)).length : Int))) rfl (cX (qF rfl rfl (qf (.bool (decide ((1 + (((ar) ++ (rs.flatMap flatPair)).length : Int) : Int) < 0))) rfl ?_))))))))
 by_cases h5 : (1 + (((ar) ++ (rs.flatMap flatPair)).length : Int) : Int) < 0
 ·exact absurd h5 (by omega)
 refine qs (t := 51) rfl (vF h5) (qj (x6) rfl (qs (t := 51) rfl (vF h5) (qj (x3) rfl (qs (t := 51) rfl (vF h5) (XOp.lend [_, _] _ _ rfl (fun F15 le15 hz8 => ?_))))))
 have hf8 : PeaksF _ x6 (((psO ar rs).getD [])) := peaksD.fz hz8
 refine id (qq (args := [x6, x3]) call39 rfl (eqPeakS_spec hf8 ((hr4.mono le15)) (hal := (by omega)) (hbd := (fun i hi => by have := hnb i hi; omega))) ?_)
 rintro _ _ _ _ ⟨rfl, rfl, rfl⟩
 show XL _ _ _ _ _ _ _ (peaksD 2 76 x6 (((psO ar rs).getD [])) :: intsH 2 x4 m1 :: pairsD 2 72 x5 m2 :: cellsH b2 [x4, x5] 32 :: cellsH b1 [arv, rsv] 58 :: L)
 refine qs (t := 51) rfl (vF h5) (jC rfl (cX (qT (.bool (decide (¬((((psO ar rs).getD [])) = (((psO ar rs).getD [])))))) (vF h5) rfl (qf (.bool (decide (¬((((psO ar rs).getD [])) = (((psO ar rs).getD [])))))) rfl (qs (t := 57) rfl (vF h2) (qj (.bool ((psO ar rs).isSome)) rfl (qs (t := 57) rfl (vF h2) (qj (.bool ((psO ar rs).isSome)) rfl (qs (t := 57) rfl (vF h2) (XOp.neB (a := (psO ar rs).isSome) (b := (psO ar rs).isSome) runUnderlying4 rfl rfl (cX (qT (.bool (decide (((psO ar rs).isSome) ≠ ((psO ar rs).isSome)))) (vF h2) rfl (qb (jw (vF h3) (qu (qc (qa ?_)))))))))))))))))
 refine qh (ii (1)) rfl (qb (qc (qa (qf (x6) rfl (qf (ii (1)) rfl (cX (qq (args := [x6, ii (1)]) call41 rfl (markPeakS_spec (by omega) (by omega)) ?_)))))))
 rintro _ _ _ _ ⟨m3, hm2, hk2, rfl, rfl, rfl⟩
 have hml2 := congrArg List.length hm2
 rw [iota_len] at hml2
 try simp only [List.length_append] at hml2
 refine qh (ii (1 + ((((((psO ar rs).getD [])).flatMap flatPk)).length : Int))) rfl (qb (qc (qa (qh (ii (1)) rfl (qb (qc (qa (qf (x6) rfl (qf (ii (1)) rfl (cX (XOp.lend [] _ _ rfl (fun F16 le16 hz9 => ?_))))))))))))
 have hf9 : PeaksF _ x6 m3 := peaksD.fz hz9
 refine id (qq (args := [x6, ii (1)]) call42 rfl (heldPeakS_spec (z := 1) hf9 (hzb := (by first | assumption | rfl | omega | simp)) (hxl := (by first | assumption | rfl | omega | simp))) ?_)
 rintro _ _ _ _ ⟨rfl, rfl, rfl⟩
 show XL _ _ _ _ _ _ _ (peaksD 2 76 x6 m3 :: intsH 2 x4 m1 :: pairsD 2 72 x5 m2 :: cellsH b2 [x4, x5] 32 :: cellsH b1 [arv, rsv] 58 :: L)
 refine qh (ii (heldF (m3.flatMap flatPk) 1)) rfl (qb (qc (qc (qa (qf (ii (heldF (m3.flatMap flatPk) 1)) rfl (cX (qF rfl rfl (qb ?_))))))))
 refine qw (p := (heldF (m3.flatMap flatPk) 1 : Int) < 0) rfl (fun h6 => ?_) (fun h6 => ?_)
 ·rw [hm2, heldF_iota] at h6
  exact absurd h6 (by omega)
 have hh2 := (fun (l : List Int) (k k2 : Int) (n : Nat) (h : l = iota k n) (hk : k2 = k) => show heldF l k2 = k + n from (by subst hk; rw [h, heldF_iota])) _ _ (1) _ hm2 (by first | rfl | omega)
 have hh2l := hh2
 try simp only [List.length_append] at hh2l
 refine qu (qc (qc (qa (qf (ii (heldF (m3.flatMap flatPk) 1)) rfl (qf (ii (1 + ((((((psO ar rs).getD [])).flatMap flatPk)).length : Int))) rfl (cX (jK rfl rfl (qb ?_))))))))
 refine qw (p := (heldF (m3.flatMap flatPk) 1 : Int) ≠ 1 + ((((((psO ar rs).getD [])).flatMap flatPk)).length : Int)) rfl (fun h7 => ?_) (fun h7 => ?_)
 ·exact absurd (by rw [hm2, heldF_iota]) h7
 refine qu (qc (qa (cX (qC [arv, rsv] isAgg58 sizeOf58 rfl rfl (Rd.ownN [_, _, _, _] rfl rfl) (cX (XOp.thawL (id (qq (args := [.agg #[arv, rsv]]) call32 rfl (toSystem_spec har hrs (hla := (by first | assumption | rfl | omega | simp)) (hrl := (by first | assumption | rfl | omega | simp)) (hrb := (by first | assumption | rfl | omega | simp))) ?_))))))))
 rintro _ F17 _ le17 ⟨x11, x12, rfl, hr16, hr17, hr18, rfl⟩
 refine ⟨[intsH 2 x11 ar, pairsD 2 72 x12 rs], hr18, ?_⟩
 show XL _ _ _ _ _ _ _ (intsH 2 x11 ar :: pairsD 2 72 x12 rs :: peaksD 2 76 x6 m3 :: intsH 2 x4 m1 :: pairsD 2 72 x5 m2 :: cellsH b2 [x4, x5] 32 :: cellsH b1 [arv, rsv] 58 :: L)
 refine cX (XOp.lend [] _ _ rfl (fun F18 le18 hz10 => (id (XOp.lend [] _ _ rfl (fun F19 le19 hz11 => ?_)))))
 have hf10 : IntsF _ x11 ar := (intsH.fz (xs := ar) hz10).mono le19
 have hf11 : PairsF _ x12 rs := pairsD.fz hz11
 refine id (XOp.thawL (id (qq (args := [.agg #[x11, x12]]) call38 rfl (PeaksOf_spec hf10 hf11) ?_)))
 rintro _ F20 _ le20 ⟨x13, rfl, hr19, hr20, rfl⟩
 refine ⟨[peaksD 2 76 x13 (((psO ar rs).getD []))], hr20, ?_⟩
 show XL _ _ _ _ _ _ _ (intsH 2 x11 ar :: pairsD 2 72 x12 rs :: peaksD 2 76 x13 (((psO ar rs).getD [])) :: peaksD 2 76 x6 m3 :: intsH 2 x4 m1 :: pairsD 2 72 x5 m2 :: cellsH b2 [x4, x5] 32 :: cellsH b1 [arv, rsv] 58 :: L)
 refine qf (.tuple #[x13, .bool ((psO ar rs).isSome)]) rfl (cX (qX (x13) rfl rfl (cX (qX (.bool ((psO ar rs).isSome)) rfl rfl (qh (x13) rfl (qh (.bool ((psO ar rs).isSome)) rfl (qb (qc (qc (qa (qf (x13) rfl (qf (x3) rfl (cX (XOp.lend [_, _] _ _ rfl (fun F21 le21 hz12 => ?_)))))))))))))))
 have hf12 : PeaksF _ x13 (((psO ar rs).getD [])) := peaksD.fz hz12
 refine id (qq (args := [x13, x3]) call39 rfl (eqPeakS_spec hf12 ((hr4.mono le21)) (hal := (by omega)) (hbd := (fun i hi => by have := hnb i hi; omega))) ?_)
 rintro _ _ _ _ ⟨rfl, rfl, rfl⟩
 show XL _ _ _ _ _ _ _ (peaksD 2 76 x13 (((psO ar rs).getD [])) :: intsH 2 x11 ar :: pairsD 2 72 x12 rs :: peaksD 2 76 x6 m3 :: intsH 2 x4 m1 :: pairsD 2 72 x5 m2 :: cellsH b2 [x4, x5] 32 :: cellsH b1 [arv, rsv] 58 :: L)
 refine cX (jC rfl (qf (.bool (decide (¬((((psO ar rs).getD [])) = (((psO ar rs).getD [])))))) rfl (qs (t := 83) rfl (vF h2) (qj (.bool ((psO ar rs).isSome)) rfl (qs (t := 83) rfl (vF h2) (qj (.bool ((psO ar rs).isSome)) rfl (qs (t := 83) rfl (vF h2) (XOp.neB (a := (psO ar rs).isSome) (b := (psO ar rs).isSome) runUnderlying4 rfl rfl (cX (qT (.bool (decide (((psO ar rs).isSome) ≠ ((psO ar rs).isSome)))) (vF h2) rfl (qb (jw (vF h3) (qu (qc (qa (qh (ii (1)) rfl ?_))))))))))))))))
 refine qb (qc (qa (qf (x6) rfl (qf (ii (1)) rfl (cX (XOp.lend [_, _, _] _ _ rfl (fun F22 le22 hz13 => ?_)))))))
 have hf13 : PeaksF _ x6 m3 := peaksD.fz hz13
 refine id (qq (args := [x6, ii (1)]) call42 rfl (heldPeakS_spec (z := 1) hf13 (hzb := (by first | assumption | rfl | omega | simp)) (hxl := (by first | assumption | rfl | omega | simp))) ?_)
 rintro _ _ _ _ ⟨rfl, rfl, rfl⟩
 show XL _ _ _ _ _ _ _ (peaksD 2 76 x6 m3 :: peaksD 2 76 x13 (((psO ar rs).getD [])) :: intsH 2 x11 ar :: pairsD 2 72 x12 rs :: intsH 2 x4 m1 :: pairsD 2 72 x5 m2 :: cellsH b2 [x4, x5] 32 :: cellsH b1 [arv, rsv] 58 :: L)
 refine qh (ii (heldF (m3.flatMap flatPk) 1)) rfl (qb (qc (qc (qa (qf (ii (heldF (m3.flatMap flatPk) 1)) rfl (cX (qF rfl rfl (qb (jw (vF h6) (qu (qc (qc (qa (qf (ii (heldF (m3.flatMap flatPk) 1)) rfl (qf (ii (1 + ((((((psO ar rs).getD [])).flatMap flatPk)).length : Int))) rfl (cX (jK rfl rfl ?_)))))))))))))))))
 refine qb (jw (vF h7) (qu (qc (qa (qh (.bool (true)) rfl (qb (qA (qt (L' := L) [.bool (true)] (.bool (true)) (.tmp rfl .nil) rfl rF (qo (qo (qo le2 le3) le4) le12) (sD (sD (sD (sD (sD (sD (sD (sD sR)))))))) ?_))))))))
 exact ⟨rfl, rfl, rfl⟩
end Go.Proofs.Ytcdjpapjjoldeaa
