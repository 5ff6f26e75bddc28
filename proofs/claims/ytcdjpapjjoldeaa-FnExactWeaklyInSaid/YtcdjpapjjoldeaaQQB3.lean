/-
  Walks, one after the other (part 4).
-/
import Derived.Test.YtcdjpapjjoldeaaQQL1
import Derived.Test.YtcdjpapjjoldeaaQQB2
import Derived.Test.YtcdjpapjjoldeaaQQB0
set_option linter.unusedSimpArgs false
set_option linter.unusedVariables false
namespace Go.Proofs.Ytcdjpapjjoldeaa
open Go X M Try

/- spec.l11Away -/
theorem away2_spec {F : FH} {L : List HP} {tv : Value} {t : List Int} (ht : IntsF F tv t) {k : Int} (hk24 : k = 24) (hlt : t.length ≤ 4000000) (htg : ∀ i, i < t.length → -4000000 ≤ t.getD i 0) :
    Does prog 216 [tv, ii (k)] F (L) (fun v F' L' => F = F' ∧ IsSl v ∧ intsH 2 v (awayL t) :: L = L') := by
 refine qI func216 rfl rfl rfl (qc (qa (qh (sN) rfl (qb (qc (qa (cX (qU (s := 1) [] [ii (0)] [] qd qm jx rfl (by decide) rfl CellsAre.nil rfl ?_))))))))
 intro v1 hv1
 refine qh (v1) rfl (qb (qc (qc (qa (qh (ii (0)) rfl (qb (qF (jg (α := Nat × Value × List Int) (fun xQ => [(0, tv), (1, ii (k)), (5, xQ.2.1), (6, ii (((xQ.1 : Nat) : Int)))]) (fun xQ => intsH 2 xQ.2.1 xQ.2.2 :: L) (fun xQ F' => F = F' ∧ (IsSl xQ.2.1) ∧ (xQ.1 ≤ t.length) ∧ (xQ.2.2 = awayL (t.take xQ.1)) ∧ (xQ.2.2.length = xQ.1)) (fun xQ => t.length - xQ.1) (0, v1, []) ⟨rfl, rfl, rfl, rfl, ⟨⟩⟩ (sC sR) ⟨rfl, ((isSl_lit hv1)), (by (try dsimp only) <;> omega), (rfl), (rfl)⟩ ?_))))))))
 rintro ⟨j, ov, os⟩ rE _ _ ⟨rfl, hov, hj, hos, hol⟩
 show X _ _ _ _ (envs [(0, tv), (1, ii (k)), (5, ov), (6, ii ((j : Int)))] rE) _ (intsH 2 ov os :: L)
 dsimp only at hov hj hos hol
 have hgj := htg j
 refine qc (qc (qa (qf (ii ((j : Int))) rfl (qf (tv) rfl (cX (qD qd rfl ht.slv (cX (qG rfl rfl (qb ?_)))))))))
 refine qx (p := (j : Int) < (t.length : Int)) rfl (fun h1 => ?_) (fun h1 => ?_)
 ·refine qw (qc (qF (qc (qa (qf (tv) rfl (qf (ii ((j : Int))) rfl (cX (qk j qd qm rfl rfl rfl ht.slv (by omega) (Nat.mul_one _) (cX (qj qC rfl (ht.rd (by omega)) (cX (qG rfl rfl (qb ?_)))))))))))))
  refine qx (p := (t.getD j 0 : Int) < 0) rfl (fun h2 => ?_) (fun h2 => ?_)
  ·refine qa (qf (ov) rfl (qf (tv) rfl (qf (ii ((j : Int))) rfl (cX (qk j qd qm rfl rfl rfl ht.slv (by omega) (Nat.mul_one _) (cX (qj qC rfl (ht.rd (by omega)) (qf (ii (k)) rfl (cX (jb ((t.getD j 0) - k) rfl rfl (by omega) (by omega) (cX (qU (s := 1) [ii ((t.getD j 0) - k)] [ii (0)] [(0, [ii ((t.getD j 0) - k)])] qd qm jx rfl (by decide) rfl (.cons rfl CellsAre.nil) rfl ?_))))))))))))
   intro v2 hv2
   refine cX (XOp.append1 (u := (t.getD j 0) - k) [_] _ qd typeInfo2 rfl rfl rfl rfl rfl rfl (SlV.own [] rfl) (Rd.sl [] rfl rfl) (by (try simp only [List.length_append, List.length_nil, List.length_cons, List.length_singleton, List.length_take, List.length_drop]); omega) ?_)
   intro v3 hs1 hn1
   refine qh (v3) rfl (qb (qa (qf (ii ((j : Int))) rfl (cX (qM (((j + 1 : Nat) : Int)) rfl rfl (by omega) (by omega) (qh (ii (((j + 1 : Nat) : Int))) rfl (qb ?_)))))))
   exact ⟨(j + 1, v3, os ++ [(t.getD j 0) - k]), _, FLe.refl _, rF, ⟨rfl, rfl, rfl, rfl, ⟨⟩⟩, (sD (sC sR)), ⟨rfl, (hs1), (by (try dsimp only) <;> omega), (by (try dsimp only); rw [hos]; exact (away_take (by omega) (by first | (left; constructor <;> omega) | (right; constructor <;> omega))).symm), (by (try dsimp only); rw [List.length_append, List.length_singleton]; omega)⟩, (by omega)⟩
  refine qa (qf (ov) rfl (qf (tv) rfl (qf (ii ((j : Int))) rfl (cX (qk j qd qm rfl rfl rfl ht.slv (by omega) (Nat.mul_one _) (cX (qj qC rfl (ht.rd (by omega)) (cX (qU (s := 1) [ii (t.getD j 0)] [ii (0)] [(0, [ii (t.getD j 0)])] qd qm jx rfl (by decide) rfl (.cons rfl CellsAre.nil) rfl ?_)))))))))
  intro v4 hv3
  refine cX (XOp.append1 (u := t.getD j 0) [_] _ qd typeInfo2 rfl rfl rfl rfl rfl rfl (SlV.own [] rfl) (Rd.sl [] rfl rfl) (by (try simp only [List.length_append, List.length_nil, List.length_cons, List.length_singleton, List.length_take, List.length_drop]); omega) ?_)
  intro v5 hs2 hn2
  refine qh (v5) rfl (qb (qa (qf (ii ((j : Int))) rfl (cX (qM (((j + 1 : Nat) : Int)) rfl rfl (by omega) (by omega) (qh (ii (((j + 1 : Nat) : Int))) rfl (qb ?_)))))))
  exact ⟨(j + 1, v5, os ++ [t.getD j 0]), _, FLe.refl _, rF, ⟨rfl, rfl, rfl, rfl, ⟨⟩⟩, (sD (sC sR)), ⟨rfl, (hs2), (by (try dsimp only) <;> omega), (by (try dsimp only); rw [hos]; exact (away_take (by omega) (by first | (left; constructor <;> omega) | (right; constructor <;> omega))).symm), (by (try dsimp only); rw [List.length_append, List.length_singleton]; omega)⟩, (by omega)⟩
 refine jc (qt (qt (qL (qc (qa (qf (ov) rfl (qh (ov) rfl (qb (qz (qu (L' := intsH 2 ov os :: L) [ov] (ov) (.tmp rfl .nil) rfl rF rF (sC sR) ?_))))))))))
 refine ⟨rfl, hov, ?_⟩
 have hxs : (awayL t : List Int) = os := by rw [hos, show j = t.length from by omega, List.take_length]
 exact congrArg (fun z => intsH 2 _ z :: L) hxs

/- spec.l11Full -/
set_option maxHeartbeats 1000000 in
theorem full_step {k : Nat} (ih : ∀ k9 : Nat, k9 < k → ∀ {F : FH} {L : List HP} {ub : Nat} {ov : Value} {ocs : List Value} {ar : List Int} {bl : RowL} (hov : IsSl ov) (hC : RowsC F ocs bl) (hb : BOk ar bl) {σ : Sbs} {ρ : Int → Nat} {tv : Value} {t : List Int} (ht : IntsF F tv t) (hσ : Sol bl σ) (hρ : Acyc bl ρ) (htk : ∀ m ∈ t, m < 0 → ρ m < k9) (htg : ∀ i, i < t.length → -48 ≤ t.getD i 0) (htl : t.length ≤ 200), Does prog 217 [ptr ub 0, tv] F (cellsH ub [ov] 234 :: slH 27 1 ov 48 ocs :: L) (fun v F' L' => IsSl v ∧ F = F' ∧ intsH 2 v ((fullX σ t)) :: cellsH ub [ov] 234 :: slH 27 1 ov 48 ocs :: L = L')) {F : FH} {L : List HP} {ub : Nat} {ov : Value} {ocs : List Value} {ar : List Int} {bl : RowL} (hov : IsSl ov) (hC : RowsC F ocs bl) (hb : BOk ar bl) {σ : Sbs} {ρ : Int → Nat} {tv : Value} {t : List Int} (ht : IntsF F tv t) (hσ : Sol bl σ) (hρ : Acyc bl ρ) (htk : ∀ m ∈ t, m < 0 → ρ m < k) (htg : ∀ i, i < t.length → -48 ≤ t.getD i 0) (htl : t.length ≤ 200) :
    Does prog 217 [ptr ub 0, tv] F (cellsH ub [ov] 234 :: slH 27 1 ov 48 ocs :: L) (fun v F' L' => IsSl v ∧ F = F' ∧ intsH 2 v ((fullX σ t)) :: cellsH ub [ov] 234 :: slH 27 1 ov 48 ocs :: L = L') := by
 refine qI func217 rfl rfl rfl ?_
 have hbl := hb.len
 refine qc (qa (qh (sN) rfl (qb (qc (qa (cX (qU (s := 1) [] [ii (0)] [] qd qm jx rfl (by decide) rfl CellsAre.nil rfl ?_)))))))
 intro v1 hv1
 refine qh (v1) rfl (qb (qc (qc (qa (qh (ii (0)) rfl (qb (qF (jg (α := Nat × Value × List Int) (fun xQ => [(0, ptr ub 0), (1, tv), (5, xQ.2.1), (6, ii (((xQ.1 : Nat) : Int)))]) (fun xQ => intsH 2 xQ.2.1 xQ.2.2 :: cellsH ub [ov] 234 :: slH 27 1 ov 48 ocs :: L) (fun xQ F' => F = F' ∧ (IsSl xQ.2.1) ∧ (xQ.1 ≤ t.length) ∧ (xQ.2.2 = ap σ (t.take xQ.1)) ∧ (xQ.2.2.length ≤ 60)) (fun xQ => t.length - xQ.1) (0, v1, []) ⟨rfl, rfl, rfl, rfl, ⟨⟩⟩ (sC (sC (sC sR))) ⟨rfl, ((isSl_lit hv1)), (by (try dsimp only) <;> omega), (by simp [ap]), (Nat.zero_le _)⟩ ?_))))))))
 rintro ⟨j, wv, ws⟩ rE _ _ ⟨rfl, hwv, hj, hws, hwl⟩
 show X _ _ _ _ (envs [(0, ptr ub 0), (1, tv), (5, wv), (6, ii ((j : Int)))] rE) _ (intsH 2 wv ws :: cellsH ub [ov] 234 :: slH 27 1 ov 48 ocs :: L)
 dsimp only at hwv hj hws hwl
 have hgj := fun h : j < t.length => htg j h
 have hwl2 : ws.length = (ap σ (t.take j)).length := congrArg List.length hws
 refine qc (qc (qa (qf (ii ((j : Int))) rfl (qf (tv) rfl (cX (qD qd rfl ht.slv (cX (qG rfl rfl (qb ?_)))))))))
 refine qx (p := (j : Int) < (t.length : Int)) rfl (fun h1 => ?_) (fun h1 => ?_)
 ·refine qw (qc (qF (qc (qc ?_))))
  by_cases h2 : (t.getD j 0 : Int) ≥ 0
  ·have hsj : σ (t.getD j 0) = [(t.getD j 0)] := hσ.sym (by omega)
   refine jh [intsH 2 wv ws, cellsH ub [ov] 234, slH 27 1 ov 48 ocs] L 15 [] [[], [], [0, 1], [2], [3], [4], [5], [5, 6], [5, 7], [5, 8], [5], [5], [5, 10, 11], [5, 12], [5, 13]] (phiL [qe tv, qe (ii ((j : Int)) : Value), qe (.pointer (some (elemA tv (j)))), qe (ii (t.getD j 0)), qe (.bool (decide ((t.getD j 0 : Int) ≥ 0)) : Value), qe (.bool (decide ((t.getD j 0 : Int) ≥ 0)) : Value), qe undef, qe undef, qe undef, qe undef, qe undef, qe undef, qe undef, qe undef, qe undef]) (ownL []) mixed rfl rfl (by kernel_rfl) ?_ ?_
   ·refine pD (fun W R z9 => ?_) ?_
    ·refine qg (qi (tv) rfl ?_)
     exact ⟨rfl, rfl, rfl⟩
    refine pD (fun W R z9 => ?_) ?_
    ·refine qg (qi (ii ((j : Int))) rfl ?_)
     exact ⟨rfl, rfl, rfl⟩
    refine pD (fun W R z9 => ?_) ?_
    ·rw [eS (l := [(0, _), (1, _)]) ⟨z9 0 rfl, z9 1 rfl, ⟨⟩⟩]
     refine qg (qk j qd qm rfl rfl rfl ht.slv (by omega) (Nat.mul_one _) ?_)
     exact ⟨rfl, rfl, rfl⟩
    refine pD (fun W R z9 => ?_) ?_
    ·rw [eS (l := [(2, _)]) ⟨z9 2 rfl, ⟨⟩⟩]
     refine qg (qj qC rfl (ht.rd (by omega)) ?_)
     exact ⟨rfl, rfl, rfl⟩
    refine pD (fun W R z9 => ?_) ?_
    ·rw [eS (l := [(3, _)]) ⟨z9 3 rfl, ⟨⟩⟩]
     refine qg (jI rfl rfl ?_)
     exact ⟨rfl, rfl, rfl⟩
    refine pD (fun W R z9 => ?_) ?_
    ·rw [eS (l := [(4, _)]) ⟨z9 4 rfl, ⟨⟩⟩]
     refine qg (qi (.bool (decide ((t.getD j 0 : Int) ≥ 0))) rfl ?_)
     exact ⟨rfl, rfl, rfl⟩
    refine pD (fun W R z9 => ?_) ?_
    ·rw [eS (l := [(5, _)]) ⟨z9 5 rfl, ⟨⟩⟩]
     exact qX (t := 20) rfl (vT h2) ⟨rfl, rfl, rfl⟩
    refine pD (fun W R z9 => ?_) ?_
    ·rw [eS (l := [(5, _), (6, undef)]) ⟨z9 5 rfl, z9 6 rfl, ⟨⟩⟩]
     exact qX (t := 20) rfl (vT h2) ⟨rfl, rfl, rfl⟩
    refine pD (fun W R z9 => ?_) ?_
    ·rw [eS (l := [(5, _), (7, undef)]) ⟨z9 5 rfl, z9 7 rfl, ⟨⟩⟩]
     exact qX (t := 20) rfl (vT h2) ⟨rfl, rfl, rfl⟩
    refine pD (fun W R z9 => ?_) ?_
    ·rw [eS (l := [(5, _), (8, undef)]) ⟨z9 5 rfl, z9 8 rfl, ⟨⟩⟩]
     exact qX (t := 20) rfl (vT h2) ⟨rfl, rfl, rfl⟩
    refine pD (fun W R z9 => ?_) ?_
    ·rw [eS (l := [(5, _)]) ⟨z9 5 rfl, ⟨⟩⟩]
     exact qX (t := 20) rfl (vT h2) ⟨rfl, rfl, rfl⟩
    refine pD (fun W R z9 => ?_) ?_
    ·rw [eS (l := [(5, _)]) ⟨z9 5 rfl, ⟨⟩⟩]
     exact qX (t := 20) rfl (vT h2) ⟨rfl, rfl, rfl⟩
    refine pD (fun W R z9 => ?_) ?_
    ·rw [eS (l := [(5, _), (10, undef), (11, undef)]) ⟨z9 5 rfl, z9 10 rfl, z9 11 rfl, ⟨⟩⟩]
     exact qX (t := 20) rfl (vT h2) ⟨rfl, rfl, rfl⟩
    refine pD (fun W R z9 => ?_) ?_
    ·rw [eS (l := [(5, _), (12, undef)]) ⟨z9 5 rfl, z9 12 rfl, ⟨⟩⟩]
     exact qX (t := 20) rfl (vT h2) ⟨rfl, rfl, rfl⟩
    refine pD (fun W R z9 => ?_) ?_
    ·rw [eS (l := [(5, _), (13, undef)]) ⟨z9 5 rfl, z9 13 rfl, ⟨⟩⟩]
     exact qX (t := 20) rfl (vT h2) ⟨rfl, rfl, rfl⟩
    exact stepsP.nil
   intro W hphi
   rw [eS (l := [(5, _), (9, undef), (14, undef)]) ⟨(hphi 5 (by decide)), (hphi 9 (by decide)), (hphi 14 (by decide)), ⟨⟩⟩]
   show XL _ _ _ _ _ _ _ (intsH 2 wv ws :: cellsH ub [ov] 234 :: slH 27 1 ov 48 ocs :: L)
   refine qp (t := 20) rfl (vT h2) (qp (t := 20) rfl (vT h2) (qp (t := 20) rfl (vT h2) (qp (t := 20) rfl (vT h2) (cX (qS (.bool (true)) (vT h2) rfl (qb (jw rfl (qa (qf (wv) rfl (qf (tv) rfl ?_))))))))))
   refine qf (ii ((j : Int))) rfl (cX (qk j qd qm rfl rfl rfl ht.slv (by omega) (Nat.mul_one _) (cX (qj qC rfl (ht.rd (by omega)) (cX (qU (s := 1) [ii (t.getD j 0)] [ii (0)] [(0, [ii (t.getD j 0)])] qd qm jx rfl (by decide) rfl (.cons rfl CellsAre.nil) rfl ?_))))))
   intro v2 hv2
   refine cX (XOp.append1 (u := t.getD j 0) [_] _ qd typeInfo2 rfl rfl rfl rfl rfl rfl (SlV.own [] rfl) (Rd.sl [] rfl rfl) (by (try simp only [List.length_append, List.length_nil, List.length_cons, List.length_singleton, List.length_take, List.length_drop]); omega) ?_)
   intro v3 hs1 hn1
   refine qh (v3) rfl (qb (qc (qa (qf (v3) rfl (cX (qD qd rfl (intsH.slv [_] rfl) (cX (jM rfl rfl (qb ?_)))))))))
   refine qx (p := ((((ws ++ [t.getD j 0]).length : Nat) : Int) : Int) > 60) rfl (fun h3 => ?_) (fun h3 => ?_)
   ·have hnext : ws ++ [t.getD j 0] = ws ++ σ (t.getD j 0) := by rw [hsj]
    have hbig2 : 60 < (ws ++ σ (t.getD j 0)).length := by rw [← hnext]; omega
    refine qc (qa (cX (qU (s := 1) [] [ii (0)] [] qd qm jx rfl (by decide) rfl CellsAre.nil rfl ?_)))
    intro v4 hv3
    refine qh (v4) rfl (qb (qz (qy (ql (ql (qy (ql (qu (L' := intsH 2 v4 ([]) :: cellsH ub [ov] 234 :: slH 27 1 ov 48 ocs :: L) [v4] (v4) (.tmp rfl .nil) rfl rF rF (sC (sD (sD (sC (sC sR))))) ?_))))))))
    have e9 : fullX σ t = [] := full_no (σ := σ) (j := j) (by omega) (by rw [List.length_append] at hbig2; omega)
    rw [e9]
    exact ⟨(isSl_lit hv3), rfl, rfl⟩
   have hnext : ws ++ [t.getD j 0] = ws ++ σ (t.getD j 0) := by rw [hsj]
   have hnlen : (ws ++ [t.getD j 0]).length ≤ 60 := by omega
   refine qw (qa (qf (ii ((j : Int))) rfl (cX (qM (((j + 1 : Nat) : Int)) rfl rfl (by omega) (by omega) (qh (ii (((j + 1 : Nat) : Int))) rfl (qb ?_))))))
   exact ⟨(j + 1, v3, ws ++ [t.getD j 0]), _, FLe.refl _, rF, ⟨rfl, rfl, rfl, rfl, ⟨⟩⟩, (sD (sC (sC (sC sR)))), ⟨rfl, (hs1), (by (try dsimp only) <;> omega), (by (try dsimp only); rw [ap_take (by omega), ← hws]; exact hnext), (by (try dsimp only); exact hnlen)⟩, (by omega)⟩
  have hj0 : t.getD j 0 < 0 := by omega
  have hgj2 := hgj (by omega)
  have hrj := htk _ (mem_of_getD (k := j) (by omega) rfl) hj0
  refine jh [intsH 2 wv ws, cellsH ub [ov] 234, slH 27 1 ov 48 ocs] L 15 [] [[], [], [0, 1], [2], [3], [4], [5], [5, 6], [5, 7], [5, 8], [5], [5], [5, 10, 11], [5, 12], [5, 13]] (phiL [qe tv, qe (ii ((j : Int)) : Value), qe (.pointer (some (elemA tv (j)))), qe (ii (t.getD j 0)), qe (.bool (decide ((t.getD j 0 : Int) ≥ 0)) : Value), qe (.bool (decide ((t.getD j 0 : Int) ≥ 0)) : Value), qe (ptr ub 0), qe (ptr ub 0), qe (ptr ub 0), qe ov, qe tv, qe (ii ((j : Int)) : Value), qe (.pointer (some (elemA tv (j)))), qe (ii (t.getD j 0)), qe (ii ((-1) - (t.getD j 0)))]) (ownL []) mixed rfl rfl (by kernel_rfl) ?_ ?_
  ·refine pD (fun W R z9 => ?_) ?_
   ·refine qg (qi (tv) rfl ?_)
    exact ⟨rfl, rfl, rfl⟩
   refine pD (fun W R z9 => ?_) ?_
   ·refine qg (qi (ii ((j : Int))) rfl ?_)
    exact ⟨rfl, rfl, rfl⟩
   refine pD (fun W R z9 => ?_) ?_
   ·rw [eS (l := [(0, _), (1, _)]) ⟨z9 0 rfl, z9 1 rfl, ⟨⟩⟩]
    refine qg (qk j qd qm rfl rfl rfl ht.slv (by omega) (Nat.mul_one _) ?_)
    exact ⟨rfl, rfl, rfl⟩
   refine pD (fun W R z9 => ?_) ?_
   ·rw [eS (l := [(2, _)]) ⟨z9 2 rfl, ⟨⟩⟩]
    refine qg (qj qC rfl (ht.rd (by omega)) ?_)
    exact ⟨rfl, rfl, rfl⟩
   refine pD (fun W R z9 => ?_) ?_
   ·rw [eS (l := [(3, _)]) ⟨z9 3 rfl, ⟨⟩⟩]
    refine qg (jI rfl rfl ?_)
    exact ⟨rfl, rfl, rfl⟩
   refine pD (fun W R z9 => ?_) ?_
   ·rw [eS (l := [(4, _)]) ⟨z9 4 rfl, ⟨⟩⟩]
    refine qg (qi (.bool (decide ((t.getD j 0 : Int) ≥ 0))) rfl ?_)
    exact ⟨rfl, rfl, rfl⟩
   refine pD (fun W R z9 => ?_) ?_
   ·rw [eS (l := [(5, _)]) ⟨z9 5 rfl, ⟨⟩⟩]
    refine qO (t := 20) rfl (vF h2) (qi (ptr ub 0) rfl ?_)
    exact ⟨rfl, rfl, rfl⟩
   refine pD (fun W R z9 => ?_) ?_
   ·rw [eS (l := [(5, _), (6, _)]) ⟨z9 5 rfl, z9 6 rfl, ⟨⟩⟩]
    refine qO (t := 20) rfl (vF h2) (qN rfl ?_)
    exact ⟨rfl, rfl, rfl⟩
   refine pD (fun W R z9 => ?_) ?_
   ·rw [eS (l := [(5, _), (7, _)]) ⟨z9 5 rfl, z9 7 rfl, ⟨⟩⟩]
    refine qO (t := 20) rfl (vF h2) (qo (0) jE rfl sizeOf34 (by decide) rfl rfl ?_)
    exact ⟨rfl, rfl, rfl⟩
   refine pD (fun W R z9 => ?_) ?_
   ·rw [eS (l := [(5, _), (8, _)]) ⟨z9 5 rfl, z9 8 rfl, ⟨⟩⟩]
    refine qO (t := 20) rfl (vF h2) (qj isAgg34 rfl (Rd.own [_] rfl rfl) ?_)
    exact ⟨rfl, rfl, rfl⟩
   refine pD (fun W R z9 => ?_) ?_
   ·rw [eS (l := [(5, _)]) ⟨z9 5 rfl, ⟨⟩⟩]
    refine qO (t := 20) rfl (vF h2) (qi (tv) rfl ?_)
    exact ⟨rfl, rfl, rfl⟩
   refine pD (fun W R z9 => ?_) ?_
   ·rw [eS (l := [(5, _)]) ⟨z9 5 rfl, ⟨⟩⟩]
    refine qO (t := 20) rfl (vF h2) (qi (ii ((j : Int))) rfl ?_)
    exact ⟨rfl, rfl, rfl⟩
   refine pD (fun W R z9 => ?_) ?_
   ·rw [eS (l := [(5, _), (10, _), (11, _)]) ⟨z9 5 rfl, z9 10 rfl, z9 11 rfl, ⟨⟩⟩]
    refine qO (t := 20) rfl (vF h2) (qk j qd qm rfl rfl rfl ht.slv (by omega) (Nat.mul_one _) ?_)
    exact ⟨rfl, rfl, rfl⟩
   refine pD (fun W R z9 => ?_) ?_
   ·rw [eS (l := [(5, _), (12, _)]) ⟨z9 5 rfl, z9 12 rfl, ⟨⟩⟩]
    refine qO (t := 20) rfl (vF h2) (qj qC rfl (ht.rd (by omega)) ?_)
    exact ⟨rfl, rfl, rfl⟩
   refine pD (fun W R z9 => ?_) ?_
   ·rw [eS (l := [(5, _), (13, _)]) ⟨z9 5 rfl, z9 13 rfl, ⟨⟩⟩]
    refine qO (t := 20) rfl (vF h2) (jb ((-1) - (t.getD j 0)) rfl rfl (by omega) (by omega) ?_)
    exact ⟨rfl, rfl, rfl⟩
   exact stepsP.nil
  intro W hphi
  rw [eS (l := [(5, _), (9, _), (14, _)]) ⟨(hphi 5 (by decide)), (hphi 9 (by decide)), (hphi 14 (by decide)), ⟨⟩⟩]
  show XL _ _ _ _ _ _ _ (intsH 2 wv ws :: cellsH ub [ov] 234 :: slH 27 1 ov 48 ocs :: L)
  refine qr (t := 20) rfl (vF h2) (qk (((-1) - (t.getD j 0)).toNat) qH qq rfl rfl (by omega) (SlV.own [_, _] rfl) (by omega) (Nat.mul_one _) ?_)
  obtain ⟨a1, ha1, he1⟩ := hC.get (i := ((-1) - (t.getD j 0)).toNat) (by omega)
  refine qr (t := 20) rfl (vF h2) (qj qQ rfl (Rd.sl [_, _] rfl he1) (qr (t := 20) rfl (vF h2) (qD qd rfl ha1.slv (qr (t := 20) rfl (vF h2) (jH rfl rfl (cX (qT (.bool (decide ((((((bl.getD (((-1) - (t.getD j 0)).toNat) [])).length : Nat) : Int) : Int) = 0))) (vF h2) rfl (qb ?_))))))))
  refine qx (p := (((((bl.getD (((-1) - (t.getD j 0)).toNat) [])).length : Nat) : Int) : Int) = 0) rfl (fun h4 => ?_) (fun h4 => ?_)
  ·have hsj : σ (t.getD j 0) = [(t.getD j 0)] := hσ.free (by rw [lkN_get hj0]; exact List.eq_nil_of_length_eq_zero (by unfold varIx; omega))
   refine qa (qf (wv) rfl (qf (tv) rfl (qf (ii ((j : Int))) rfl (cX (qk j qd qm rfl rfl rfl ht.slv (by omega) (Nat.mul_one _) (cX (qj qC rfl (ht.rd (by omega)) (cX (qU (s := 1) [ii (t.getD j 0)] [ii (0)] [(0, [ii (t.getD j 0)])] qd qm jx rfl (by decide) rfl (.cons rfl CellsAre.nil) rfl ?_)))))))))
   intro v5 hv4
   refine cX (XOp.append1 (u := t.getD j 0) [_] _ qd typeInfo2 rfl rfl rfl rfl rfl rfl (SlV.own [] rfl) (Rd.sl [] rfl rfl) (by (try simp only [List.length_append, List.length_nil, List.length_cons, List.length_singleton, List.length_take, List.length_drop]); omega) ?_)
   intro v6 hs2 hn2
   refine qh (v6) rfl (qb (qc (qa (qf (v6) rfl (cX (qD qd rfl (intsH.slv [_] rfl) (cX (jM rfl rfl (qb ?_)))))))))
   refine qx (p := ((((ws ++ [t.getD j 0]).length : Nat) : Int) : Int) > 60) rfl (fun h5 => ?_) (fun h5 => ?_)
   ·have hnext : ws ++ [t.getD j 0] = ws ++ σ (t.getD j 0) := by rw [hsj]
    have hbig2 : 60 < (ws ++ σ (t.getD j 0)).length := by rw [← hnext]; omega
    refine qc (qa (cX (qU (s := 1) [] [ii (0)] [] qd qm jx rfl (by decide) rfl CellsAre.nil rfl ?_)))
    intro v7 hv5
    refine qh (v7) rfl (qb (qz (qy (ql (ql (qy (ql (qu (L' := intsH 2 v7 ([]) :: cellsH ub [ov] 234 :: slH 27 1 ov 48 ocs :: L) [v7] (v7) (.tmp rfl .nil) rfl rF rF (sC (sD (sD (sC (sC sR))))) ?_))))))))
    have e9 : fullX σ t = [] := full_no (σ := σ) (j := j) (by omega) (by rw [List.length_append] at hbig2; omega)
    rw [e9]
    exact ⟨(isSl_lit hv5), rfl, rfl⟩
   have hnext : ws ++ [t.getD j 0] = ws ++ σ (t.getD j 0) := by rw [hsj]
   have hnlen : (ws ++ [t.getD j 0]).length ≤ 60 := by omega
   refine qw (qa (qf (ii ((j : Int))) rfl (cX (qM (((j + 1 : Nat) : Int)) rfl rfl (by omega) (by omega) (qh (ii (((j + 1 : Nat) : Int))) rfl (qb ?_))))))
   exact ⟨(j + 1, v6, ws ++ [t.getD j 0]), _, FLe.refl _, rF, ⟨rfl, rfl, rfl, rfl, ⟨⟩⟩, (sD (sC (sC (sC sR)))), ⟨rfl, (hs2), (by (try dsimp only) <;> omega), (by (try dsimp only); rw [ap_take (by omega), ← hws]; exact hnext), (by (try dsimp only); exact hnlen)⟩, (by omega)⟩
  have hlj : lkN bl (t.getD j 0) ≠ [] := fun e => by (have e9 : (bl.getD (varIx (t.getD j 0)) []).length = 0 := by rw [← lkN_get hj0, e]; rfl); unfold varIx at e9; omega
  have hwj := hb.wt _ hj0 hlj
  rw [lkN_get hj0] at hwj
  have hsj : σ (t.getD j 0) = ap σ (bl.getD (varIx (t.getD j 0)) []) := by rw [hσ.bound hlj, lkN_get hj0]
  have hfl : (fullX σ (bl.getD (-1 - (t.getD j 0)).toNat [])).length ≤ 60 := fullX_len
  refine qc ?_
  refine jh [intsH 2 wv ws, cellsH ub [ov] 234, slH 27 1 ov 48 ocs] L 12 [] [[], [], [1], [2], [3], [], [], [5, 6], [7], [8], [4, 9], [10]] (phiL [qe (ptr ub 0), qe (ptr ub 0), qe (ptr ub 0), qe (ptr ub 0), qe ov, qe tv, qe (ii ((j : Int)) : Value), qe (.pointer (some (elemA tv (j)))), qe (ii (t.getD j 0)), qe (ii ((-1) - (t.getD j 0))), qe (.pointer (some (elemA ov (((-1) - (t.getD j 0)).toNat)))), qe a1]) (ownL []) mixed rfl rfl (by kernel_rfl) ?_ ?_
  ·refine pD (fun W R z9 => ?_) ?_
   ·refine qg (qi (ptr ub 0) rfl ?_)
    exact ⟨rfl, rfl, rfl⟩
   refine pD (fun W R z9 => ?_) ?_
   ·refine qg (qi (ptr ub 0) rfl ?_)
    exact ⟨rfl, rfl, rfl⟩
   refine pD (fun W R z9 => ?_) ?_
   ·rw [eS (l := [(1, _)]) ⟨z9 1 rfl, ⟨⟩⟩]
    refine qg (qN rfl ?_)
    exact ⟨rfl, rfl, rfl⟩
   refine pD (fun W R z9 => ?_) ?_
   ·rw [eS (l := [(2, _)]) ⟨z9 2 rfl, ⟨⟩⟩]
    refine qg (qo (0) jE rfl sizeOf34 (by decide) rfl rfl ?_)
    exact ⟨rfl, rfl, rfl⟩
   refine pD (fun W R z9 => ?_) ?_
   ·rw [eS (l := [(3, _)]) ⟨z9 3 rfl, ⟨⟩⟩]
    refine qg (qj isAgg34 rfl (Rd.own [_] rfl rfl) ?_)
    exact ⟨rfl, rfl, rfl⟩
   refine pD (fun W R z9 => ?_) ?_
   ·refine qg (qi (tv) rfl ?_)
    exact ⟨rfl, rfl, rfl⟩
   refine pD (fun W R z9 => ?_) ?_
   ·refine qg (qi (ii ((j : Int))) rfl ?_)
    exact ⟨rfl, rfl, rfl⟩
   refine pD (fun W R z9 => ?_) ?_
   ·rw [eS (l := [(5, _), (6, _)]) ⟨z9 5 rfl, z9 6 rfl, ⟨⟩⟩]
    refine qg (qk j qd qm rfl rfl rfl ht.slv (by omega) (Nat.mul_one _) ?_)
    exact ⟨rfl, rfl, rfl⟩
   refine pD (fun W R z9 => ?_) ?_
   ·rw [eS (l := [(7, _)]) ⟨z9 7 rfl, ⟨⟩⟩]
    refine qg (qj qC rfl (ht.rd (by omega)) ?_)
    exact ⟨rfl, rfl, rfl⟩
   refine pD (fun W R z9 => ?_) ?_
   ·rw [eS (l := [(8, _)]) ⟨z9 8 rfl, ⟨⟩⟩]
    refine qg (jb ((-1) - (t.getD j 0)) rfl rfl (by omega) (by omega) ?_)
    exact ⟨rfl, rfl, rfl⟩
   refine pD (fun W R z9 => ?_) ?_
   ·rw [eS (l := [(4, _), (9, _)]) ⟨z9 4 rfl, z9 9 rfl, ⟨⟩⟩]
    refine qg (qk (((-1) - (t.getD j 0)).toNat) qH qq rfl rfl (by omega) (SlV.own [_, _] rfl) (by omega) (Nat.mul_one _) ?_)
    exact ⟨rfl, rfl, rfl⟩
   refine pD (fun W R z9 => ?_) ?_
   ·rw [eS (l := [(10, _)]) ⟨z9 10 rfl, ⟨⟩⟩]
    refine qg (qj qQ rfl (Rd.sl [_, _] rfl he1) ?_)
    exact ⟨rfl, rfl, rfl⟩
   exact stepsP.nil
  intro W hphi
  rw [eS (l := [(0, _), (11, _)]) ⟨(hphi 0 (by decide)), (hphi 11 (by decide)), ⟨⟩⟩]
  show XL _ _ _ _ _ _ _ (intsH 2 wv ws :: cellsH ub [ov] 234 :: slH 27 1 ov 48 ocs :: L)
  refine qZ (qA (A := [_, _])) ?_
  show XL _ _ _ _ _ _ _ (slH 27 1 ov 48 ocs :: intsH 2 wv ws :: cellsH ub [ov] 234 :: L)
  refine qZ (qA (A := [_, _])) ?_
  show XL _ _ _ _ _ _ _ (cellsH ub [ov] 234 :: slH 27 1 ov 48 ocs :: intsH 2 wv ws :: L)
  refine cX (qs (args := [ptr ub 0, a1]) call217 rfl (ih _ hrj hov hC hb ha1 hσ hρ (fun m hm h0 => hρ _ hj0 m (by rw [lkN_get hj0]; exact hm) h0) (fun i hi => hwj.geD hi) (by have := hwj.len; unfold varIx at this; omega)) ?_)
  rintro v8 _ _ _ ⟨hs3, rfl, rfl⟩
  refine qh (v8) rfl (qb (qc (qc (qa (qf (v8) rfl (cX (qD qd rfl (intsH.slv [] rfl) (cX (jH rfl rfl (qb ?_))))))))))
  refine qx (p := (((((fullX σ ((bl.getD (((-1) - (t.getD j 0)).toNat) [])))).length : Nat) : Int) : Int) = 0) rfl (fun h6 => ?_) (fun h6 => ?_)
  ·have hbig := (fullX_nil hwj.len.1 (hσ.good hb)).1 (List.eq_nil_of_length_eq_zero (by unfold varIx; omega))
   refine qc (qa (cX (qU (s := 1) [] [ii (0)] [] qd qm jx rfl (by decide) rfl CellsAre.nil rfl ?_)))
   intro v9 hv6
   refine qh (v9) rfl (qb (qz (ql (ql (qy (ql (ql (qy (ql (qu (L' := intsH 2 v9 ([]) :: cellsH ub [ov] 234 :: slH 27 1 ov 48 ocs :: L) [v9] (v9) (.tmp rfl .nil) rfl rF rF (sC (sD (sC (sC (sD sR))))) ?_))))))))))
   have e9 : fullX σ t = [] := full_no (σ := σ) (j := j) (by omega) (by rw [hsj]; omega)
   rw [e9]
   exact ⟨(isSl_lit hv6), rfl, rfl⟩
  have hfx : fullX σ (bl.getD (varIx (t.getD j 0)) []) = ap σ (bl.getD (varIx (t.getD j 0)) []) := fullX_yes (fun e => by (have e9 : (fullX σ (bl.getD (varIx (t.getD j 0)) [])).length = 0 := by rw [e]; rfl); unfold varIx at e9; omega)
  refine qw (qa (qf (wv) rfl (qf (v8) rfl (XL.freezeF [] _ _ rfl (fun F1 le1 hz1 => ?_)))))
  have hf1 : IntsF F1 v8 ((fullX σ ((bl.getD (((-1) - (t.getD j 0)).toNat) [])))) := intsH.fz (xs := (fullX σ ((bl.getD (((-1) - (t.getD j 0)).toNat) [])))) hz1.fz
  refine cX (XOp.appendI [_, _] _ qd typeInfo2 rfl rfl rfl rfl rfl rfl hf1 (by (try simp only [List.length_append, List.length_nil, List.length_cons, List.length_singleton, List.length_take, List.length_drop]); omega) ?_)
  intro v10 hs4 hn3 hm1
  refine qh (v10) rfl (qb (qc (qa (qf (v10) rfl (cX (qD qd rfl (intsH.slv [_, _] rfl) (cX (jM rfl rfl (qb ?_)))))))))
  refine qx (p := ((((ws ++ ((fullX σ ((bl.getD (((-1) - (t.getD j 0)).toNat) []))))).length : Nat) : Int) : Int) > 60) rfl (fun h7 => ?_) (fun h7 => ?_)
  ·have hnext : ws ++ ((fullX σ ((bl.getD (((-1) - (t.getD j 0)).toNat) [])))) = ws ++ σ (t.getD j 0) := by rw [hsj, ← hfx]; rfl
   have hbig2 : 60 < (ws ++ σ (t.getD j 0)).length := by rw [← hnext]; omega
   refine qc (qa (cX (qU (s := 1) [] [ii (0)] [] qd qm jx rfl (by decide) rfl CellsAre.nil rfl ?_)))
   intro v11 hv7
   refine qh (v11) rfl (qb (qz (qy (ql (ql (qy (ql (qu (L' := intsH 2 v11 ([]) :: cellsH ub [ov] 234 :: slH 27 1 ov 48 ocs :: L) [v11] (v11) (.tmp rfl .nil) rfl rF le1 (sC (sC (sC (sD sR)))) ?_))))))))
   have e9 : fullX σ t = [] := full_no (σ := σ) (j := j) (by omega) (by rw [List.length_append] at hbig2; omega)
   rw [e9]
   exact ⟨(isSl_lit hv7), rfl, rfl⟩
  have hnext : ws ++ ((fullX σ ((bl.getD (((-1) - (t.getD j 0)).toNat) [])))) = ws ++ σ (t.getD j 0) := by rw [hsj, ← hfx]; rfl
  have hnlen : (ws ++ ((fullX σ ((bl.getD (((-1) - (t.getD j 0)).toNat) []))))).length ≤ 60 := by omega
  refine qw (qa (qf (ii ((j : Int))) rfl (cX (qM (((j + 1 : Nat) : Int)) rfl rfl (by omega) (by omega) (qh (ii (((j + 1 : Nat) : Int))) rfl (qb ?_))))))
  exact ⟨(j + 1, v10, ws ++ ((fullX σ ((bl.getD (((-1) - (t.getD j 0)).toNat) []))))), _, FLe.refl _, le1, ⟨rfl, rfl, rfl, rfl, ⟨⟩⟩, (qK (qA (A := [_])) (qK (qA (A := [_])) (qK (qA (A := [_, _])) (sC (sC (sC sR)))))), ⟨rfl, (hs4), (by (try dsimp only) <;> omega), (by (try dsimp only); rw [ap_take (by omega), ← hws]; exact hnext), (by (try dsimp only); exact hnlen)⟩, (by omega)⟩
 refine jc (qt (qt (qL (qc (qa (qf (wv) rfl (qh (wv) rfl (qb (qz (qu (L' := intsH 2 wv ws :: cellsH ub [ov] 234 :: slH 27 1 ov 48 ocs :: L) [wv] (wv) (.tmp rfl .nil) rfl rF rF (sC (sC (sC sR))) ?_))))))))))
 have e9 : fullX σ t = ws := (full_end (by omega) (by omega)).trans hws.symm
 rw [e9]
 exact ⟨hwv, rfl, rfl⟩

theorem full_spec (k : Nat) : ∀ {F : FH} {L : List HP} {ub : Nat} {ov : Value} {ocs : List Value} {ar : List Int} {bl : RowL} (hov : IsSl ov) (hC : RowsC F ocs bl) (hb : BOk ar bl) {σ : Sbs} {ρ : Int → Nat} {tv : Value} {t : List Int} (ht : IntsF F tv t) (hσ : Sol bl σ) (hρ : Acyc bl ρ) (htk : ∀ m ∈ t, m < 0 → ρ m < k) (htg : ∀ i, i < t.length → -48 ≤ t.getD i 0) (htl : t.length ≤ 200), Does prog 217 [ptr ub 0, tv] F (cellsH ub [ov] 234 :: slH 27 1 ov 48 ocs :: L) (fun v F' L' => IsSl v ∧ F = F' ∧ intsH 2 v ((fullX σ t)) :: cellsH ub [ov] 234 :: slH 27 1 ov 48 ocs :: L = L') := by
  induction k using Nat.strongRecOn with
  | _ k ih =>
    intros
    exact full_step ih (by assumption) (by assumption) (by assumption) (by assumption) (by assumption) (by assumption) (by assumption) (by assumption) (by assumption)


/- spec.l11Try -/
set_option maxHeartbeats 1000000 in
set_option maxRecDepth 20000 in
theorem try_spec {F : FH} {L : List HP} {arv : Value} {ar : List Int} (har : IntsF F arv ar) {rsv : Value} {rs : List (List Int × List Int)} (hrs : PairsF F rsv rs) {o : Nat} {p : Nat} {u : Nat} (hsys : sysOk ar rs = true) (ho : o < rs.length) (hu : u < rs.length) (hp : p < (rs.getD o ([], [])).1.length) :
    Does prog 214 [.agg #[arv, rsv], ii ((o : Int)), ii ((p : Int)), ii ((u : Int))] F (L) (fun v F' L' => ∃ (x : Bool) (b7 : Nat) (o7 : Value) (bc : List Value) (l9 : RowL), (.tuple #[ptr b7 0, .bool x] : Value) = v ∧ IsSl o7 ∧ RowsC F' bc l9 ∧ (x = true → MguP ar rs o p u l9) ∧ (x = false → ∀ θ, GoodS ar θ → ap θ (sub ar (rs.getD o ([], [])).1 p) ≠ ap θ (awayL (rs.getD u ([], [])).1)) ∧ cellsH b7 [o7] 234 :: slH 27 1 o7 48 bc :: L = L') := by
 refine qI func214 rfl rfl rfl ?_
 have hlo : termOk ar (rs.getD o ([], [])).1 = true := rule_L hsys ho
 have hllo : 1 ≤ (rs.getD o ([], [])).1.length ∧ (rs.getD o ([], [])).1.length ≤ 60 := termOk_len hlo
 have hglo : ∀ k, k < (rs.getD o ([], [])).1.length → -24 ≤ (rs.getD o ([], [])).1.getD k 0 := fun k h => termOk_ge hlo h
 have hlu : termOk ar (rs.getD u ([], [])).1 = true := rule_L hsys hu
 have hllu : 1 ≤ (rs.getD u ([], [])).1.length ∧ (rs.getD u ([], [])).1.length ≤ 60 := termOk_len hlu
 have hglu : ∀ k, k < (rs.getD u ([], [])).1.length → -24 ≤ (rs.getD u ([], [])).1.getD k 0 := fun k h => termOk_ge hlu h
 have hro : termOk ar (rs.getD o ([], [])).2 = true := rule_R hsys ho
 have hlro : 1 ≤ (rs.getD o ([], [])).2.length ∧ (rs.getD o ([], [])).2.length ≤ 60 := termOk_len hro
 have hgro : ∀ k, k < (rs.getD o ([], [])).2.length → -24 ≤ (rs.getD o ([], [])).2.getD k 0 := fun k h => termOk_ge hro h
 have hru : termOk ar (rs.getD u ([], [])).2 = true := rule_R hsys hu
 have hlru : 1 ≤ (rs.getD u ([], [])).2.length ∧ (rs.getD u ([], [])).2.length ≤ 60 := termOk_len hru
 have hgru : ∀ k, k < (rs.getD u ([], [])).2.length → -24 ≤ (rs.getD u ([], [])).2.getD k 0 := fun k h => termOk_ge hru h
 have hrl := (sysOk_iff.1 hsys).2.1
 have hsig := (sysOk_iff.1 hsys).1
 have hsl := sigOk_spec hsig
 have hee := (termW_of hlo).endN hp
 refine qc (qa (cX (ja [arv, rsv] rfl rfl ?_)))
 intro b1
 refine qh ((.pointer none)) rfl (qh (.bool (false)) rfl (qb (qc (qa (cX (XOp.makeSlice (n := 48) (bytes := 24) [sN] qH qq typeInfo27 rfl zeroValue27 rfl rfl rfl rfl (by omega) (by omega) ?_))))))
 intro v1 hv1
 rw [nils]
 have hc1 : RowsC F _ _ := RowsC.nils 48
 refine cX (jq [v1] [sN] [(0, 1)] [(0, [v1])] jE zeroValue234 rfl (.cons rfl sizeOf34 PlacesAre.nil) rfl (.cons (cells_one (isSl_lit hv1)) CellsAre.nil) (cX (ja [v1] rfl rfl ?_)))
 intro b2
 refine qh (ptr b2 0) rfl (qb (qc (qa (cX (qo (1) qP rfl jv (by decide) rfl rfl (cX (qj jG rfl (Rd.own [_, _] rfl rfl) (qf (ii ((o : Int))) rfl (cX (qk o qW jj rfl rfl rfl hrs.slv (by omega) rfl (cX (XOp.fieldE (o * 2) qR rfl qq (by decide) rfl rfl ?_))))))))))))
 obtain ⟨a1, a2, ha1, ha2, hr1, hr2⟩ := hrs.rd (i := o) (by omega)
 refine cX (qj qQ rfl (hr1 _) (qh (a1) rfl (qb (qc (qa (cX (qo (0) qP rfl qJ (by decide) rfl rfl (cX (qB [arv] jd qJ rfl rfl (Rd.ownN [_, _] rfl rfl) (qf (a1) rfl (qf (ii ((p : Int))) rfl (cX (qs (args := [.agg #[arv], a1, ii (p : Int)]) call215 rfl (l13End_spec (q := p) har ha1 (ho := (termW_of hlo)) (hp := (hp))) ?_)))))))))))))
 rintro _ _ _ _ ⟨rfl, rfl, rfl⟩
 refine qh (ii (((endN ar ((rs.getD o ([], [])).1) p : Nat) : Int))) rfl (qb (qc (X.free0 mixed (by kernel_rfl) (by kernel_rfl) (fun _ _ _ _ _ h => by obtain ⟨h1 | h1, _⟩ := h <;> cases h1) (fun _ _ _ h => by obtain ⟨h1 | h1, _⟩ := h <;> cases h1) ?_)))
 obtain ⟨a3, a4, ha3, ha4, hr3, hr4⟩ := hrs.rd (i := u) (by omega)
 refine XA.drawG [cellsH b2 [v1] 234, slH 27 1 v1 48 ((List.replicate 48 (sN))), cellsH b1 [arv, rsv] 32] L 15 [[], [], [], [], [], [], [], [], [], [], [], [], [], [], []] [[], [], [1], [], [], [], [], [4, 5, 6], [], [8], [], [9, 10], [11], [12], [13]] [[], [], [], [], [], [], [], [], [], [], [], [], [], [], []] (phiG [fun FF us v => v = ptr b2 0, fun FF us v => v = ptr b1 0, fun FF us v => v = (.agg #[arv] : Value), fun FF us v => v = ptr b2 0, fun FF us v => v = a1, fun FF us v => v = (ii ((p : Int)) : Value), fun FF us v => v = (ii (((endN ar ((rs.getD o ([], [])).1) p : Nat) : Int)) : Value), fun FF us v => (v : Value) = v ∧ (IntsF FF v ((((rs.getD o ([], [])).1).drop p).take ((endN ar ((rs.getD o ([], [])).1) p) - p))) ∧ (isNil v = isNil a1), fun FF us v => v = ptr b1 1, fun FF us v => v = rsv, fun FF us v => v = (ii ((u : Int)) : Value), fun FF us v => v = (.pointer (some (elemA rsv (u * 2))) : Value), fun FF us v => v = (.pointer (some (elemA rsv (u * 2))) : Value), fun FF us v => v = a3, fun FF us v => ((v) : Value) = v ∧ (IntsF FF (v) (awayL ((rs.getD u ([], [])).1)))]) (ownL [fun us v => [], fun us v => [], fun us v => [], fun us v => [], fun us v => [], fun us v => [], fun us v => [], fun us v => [], fun us v => [], fun us v => [], fun us v => [], fun us v => [], fun us v => [], fun us v => [], fun us v => []]) rfl rfl (by kernel_rfl) (by kernel_rfl) (MonoG.get (mC (fun le h => h) (mC (fun le h => h) (mC (fun le h => h) (mC (fun le h => h) (mC (fun le h => h) (mC (fun le h => h) (mC (fun le h => h) (mC (fun le h => ⟨h.1, h.2.1.mono le, h.2.2⟩) (mC (fun le h => h) (mC (fun le h => h) (mC (fun le h => h) (mC (fun le h => h) (mC (fun le h => h) (mC (fun le h => h) (mC (fun le h => ⟨h.1, h.2.mono le⟩) MonoG.nil)))))))))))))))) ?_ ?_
 ·refine gD (fun W Fs R lF z9 => ?_) ?_
  ·refine qg (qi (ptr b2 0) rfl ?_)
   exact ⟨rfl, rfl⟩
  refine gD (fun W Fs R lF z9 => ?_) ?_
  ·refine qg (qo (0) qP rfl qJ (by decide) rfl rfl ?_)
   exact ⟨rfl, rfl⟩
  refine gD (fun W Fs R lF z9 => ?_) ?_
  ·replace har := har.mono lF
   replace hrs := hrs.mono lF
   replace hc1 := hc1.mono lF
   replace ha1 := ha1.mono lF
   replace ha3 := ha3.mono lF
   replace hr3 := Rd.monoA hr3 lF
   rw [eS (l := [(1, _)]) ⟨z9 1 rfl, ⟨⟩⟩]
   refine qg (qB [arv] jd qJ rfl rfl (Rd.ownN [_, _] rfl rfl) ?_)
   exact ⟨rfl, rfl⟩
  refine gD (fun W Fs R lF z9 => ?_) ?_
  ·refine qg (qi (ptr b2 0) rfl ?_)
   exact ⟨rfl, rfl⟩
  refine gD (fun W Fs R lF z9 => ?_) ?_
  ·refine qg (qi (a1) rfl ?_)
   exact ⟨rfl, rfl⟩
  refine gD (fun W Fs R lF z9 => ?_) ?_
  ·refine qg (qi (ii ((p : Int))) rfl ?_)
   exact ⟨rfl, rfl⟩
  refine gD (fun W Fs R lF z9 => ?_) ?_
  ·refine qg (qi (ii (((endN ar ((rs.getD o ([], [])).1) p : Nat) : Int))) rfl ?_)
   exact ⟨rfl, rfl⟩
  refine gD (fun W Fs R lF z9 => ?_) ?_
  ·replace har := har.mono lF
   replace hrs := hrs.mono lF
   replace hc1 := hc1.mono lF
   replace ha1 := ha1.mono lF
   replace ha3 := ha3.mono lF
   replace hr3 := Rd.monoA hr3 lF
   rw [eS (l := [(4, _), (5, _), (6, _)]) ⟨z9 4 rfl, z9 5 rfl, z9 6 rfl, ⟨⟩⟩]
   refine qg (XOp.sliceI p (endN ar ((rs.getD o ([], [])).1) p) qd qm rfl ha1 ⟨_, rfl⟩ ⟨_, rfl⟩ (by omega) (by omega) ?_)
   intro v4 hv3 hn2
   exact ⟨⟨rfl, hv3, hn2⟩, rfl⟩
  refine gD (fun W Fs R lF z9 => ?_) ?_
  ·refine qg (qo (1) qP rfl jv (by decide) rfl rfl ?_)
   exact ⟨rfl, rfl⟩
  refine gD (fun W Fs R lF z9 => ?_) ?_
  ·replace har := har.mono lF
   replace hrs := hrs.mono lF
   replace hc1 := hc1.mono lF
   replace ha3 := ha3.mono lF
   replace hr3 := Rd.monoA hr3 lF
   rw [eS (l := [(8, _)]) ⟨z9 8 rfl, ⟨⟩⟩]
   refine qg (qj jG rfl (Rd.own [_, _] rfl rfl) ?_)
   exact ⟨rfl, rfl⟩
  refine gD (fun W Fs R lF z9 => ?_) ?_
  ·refine qg (qi (ii ((u : Int))) rfl ?_)
   exact ⟨rfl, rfl⟩
  refine gD (fun W Fs R lF z9 => ?_) ?_
  ·replace har := har.mono lF
   replace hrs := hrs.mono lF
   replace hc1 := hc1.mono lF
   replace ha3 := ha3.mono lF
   replace hr3 := Rd.monoA hr3 lF
   rw [eS (l := [(9, _), (10, _)]) ⟨z9 9 rfl, z9 10 rfl, ⟨⟩⟩]
   refine qg (qk u qW jj rfl rfl rfl hrs.slv (by omega) rfl ?_)
   exact ⟨rfl, rfl⟩
  refine gD (fun W Fs R lF z9 => ?_) ?_
  ·rw [eS (l := [(11, _)]) ⟨z9 11 rfl, ⟨⟩⟩]
   refine qg (XOp.fieldE (u * 2) qR rfl qq (by decide) rfl rfl ?_)
   exact ⟨rfl, rfl⟩
  refine gD (fun W Fs R lF z9 => ?_) ?_
  ·replace har := har.mono lF
   replace hc1 := hc1.mono lF
   replace ha3 := ha3.mono lF
   replace hr3 := Rd.monoA hr3 lF
   rw [eS (l := [(12, _)]) ⟨z9 12 rfl, ⟨⟩⟩]
   refine qg (qj qQ rfl (hr3 _) ?_)
   exact ⟨rfl, rfl⟩
  refine gD (fun W Fs R lF z9 => ?_) ?_
  ·replace har := har.mono lF
   replace hc1 := hc1.mono lF
   replace ha3 := ha3.mono lF
   rw [eS (l := [(13, _)]) ⟨z9 13 rfl, ⟨⟩⟩]
   refine qg (jD <| qs (args := [a3, ii (24)]) call216 rfl (away2_spec (k := 24) ha3 (hk24 := (rfl)) (hlt := (by omega)) (htg := (fun i hi => by have := hglu i hi; omega))) ?_)
   rintro v5 _ _ _ ⟨rfl, hs2, rfl⟩
   refine ⟨_, _, rfl, fun F1 le1 hz1 => ?_⟩
   replace har := har.mono le1
   replace hc1 := hc1.mono le1
   have hf1 : IntsF F1 v5 ((awayL ((rs.getD u ([], [])).1))) := intsH.fz (xs := (awayL ((rs.getD u ([], [])).1))) hz1.fz
   exact ⟨⟨rfl, hf1⟩, rfl⟩
  exact stepsG.nil
 intro W F2 le2 hphi
 obtain ⟨e7, f7_1hv, f7_1hn⟩ := hphi 7 (by decide)
 obtain ⟨e14, f14_1ha⟩ := hphi 14 (by decide)
 generalize hu1 : (W 7) = u1 at e7 f7_1hv f7_1hn e14 f14_1ha
 generalize hu2 : ((W 14)) = u2 at e7 f7_1hv f7_1hn e14 f14_1ha
 rw [eS (l := [(0, _), (2, _), (3, _), (7, u1), (14, u2)]) ⟨(hphi 0 (by decide)), (hphi 2 (by decide)), (hphi 3 (by decide)), hu1, hu2, ⟨⟩⟩]
 replace har := har.mono le2
 replace hc1 := hc1.mono le2
 show XL _ _ _ _ _ _ _ (cellsH b2 [v1] 234 :: slH 27 1 v1 48 ((List.replicate 48 (sN))) :: cellsH b1 [arv, rsv] 32 :: L)
 refine qZ (qA (A := [_])) ?_
 show XL _ _ _ _ _ _ _ (slH 27 1 v1 48 ((List.replicate 48 (sN))) :: cellsH b2 [v1] 234 :: cellsH b1 [arv, rsv] 32 :: L)
 refine qZ (qA (A := [_])) ?_
 show XL _ _ _ _ _ _ _ (cellsH b2 [v1] 234 :: slH 27 1 v1 48 ((List.replicate 48 (sN))) :: cellsH b1 [arv, rsv] 32 :: L)
 refine cX (qs (args := [.agg #[arv], ptr b2 0, u1, u2]) call240 rfl (meet_spec har ((isSl_lit hv1)) hc1 f7_1hv f14_1ha (termW_of (sub_ok hlo hp)) (away_W hlu)) ?_)
 rintro _ F3 _ le3 ⟨x1, bc1, l1, rfl, hb1, hy1, hn3, rfl⟩
 refine qh (ptr b2 0) rfl (qh (.bool (x1)) rfl (qb (qz (qu (L' := cellsH b2 [v1] 234 :: slH 27 1 v1 48 bc1 :: L) [ptr b2 0, .bool (x1)] (.tuple #[ptr b2 0, .bool (x1)]) (.tmp rfl (.tmp rfl .nil)) rfl (qn le2 le3) rF (sC (sC (sD sR))) ?_))))
 exact ⟨_, _, _, _, _, rfl, (isSl_lit hv1), hb1, hy1, hn3, rfl⟩
end Go.Proofs.Ytcdjpapjjoldeaa
set_option linter.unusedSimpArgs false
set_option linter.unusedVariables false
namespace Go.Proofs.Ytcdjpapjjoldeaa
open Go X M Try

/- spec.l2Order -/
theorem l2OrderL_spec {F : FH} {L : List HP} {tv : Value} {t : List Int} (ht : IntsF F tv t) (hlt : t.length ≤ 4000000) :
    Does prog 147 [tv] F (L) (fun v F' L' => F = F' ∧ IsSl v ∧ intsH 2 v (orderL t) :: L = L') := by
 refine qI func147 rfl rfl rfl (qc (qa (qh (sN) rfl (qb (qc (qa (cX (qU (s := 1) [] [ii (0)] [] qd qm jx rfl (by decide) rfl CellsAre.nil rfl ?_))))))))
 intro v1 hv1
 refine qh (v1) rfl (qb (qc (qc (qa (qh (ii (0)) rfl (qb (qF (jg (α := Nat × Value × List Int × FH) (fun xQ => [(0, tv), (3, xQ.2.1), (4, ii (((xQ.1 : Nat) : Int)))]) (fun xQ => intsH 2 xQ.2.1 xQ.2.2.1 :: L) (fun xQ F' => xQ.2.2.2 = F' ∧ F ≤ xQ.2.2.2 ∧ (IsSl xQ.2.1) ∧ (xQ.1 ≤ t.length) ∧ (xQ.2.2.1 = orderL (t.take xQ.1)) ∧ (xQ.2.2.1.length ≤ xQ.1)) (fun xQ => t.length - xQ.1) (0, v1, [], F) ⟨rfl, rfl, rfl, ⟨⟩⟩ (sC sR) ⟨rfl, FLe.refl _, ((isSl_lit hv1)), (by (try dsimp only) <;> omega), (rfl), (Nat.le_refl _)⟩ ?_))))))))
 rintro ⟨j, ov, os, G1⟩ rE _ _ ⟨rfl, leG, hov, hj, hos, hol⟩
 show X _ _ _ _ (envs [(0, tv), (3, ov), (4, ii ((j : Int)))] rE) _ (intsH 2 ov os :: L)
 replace leG : F ≤ G1 := leG
 dsimp only at hov hj hos hol
 have leG1 := leG
 replace ht := ht.mono leG1
 refine qc (qc (qa (qf (ii ((j : Int))) rfl (qf (tv) rfl (cX (qD qd rfl ht.slv (cX (qG rfl rfl (qb ?_)))))))))
 refine qx (p := (j : Int) < (t.length : Int)) rfl (fun h1 => ?_) (fun h1 => ?_)
 ·refine qw (qc (qF (qc (qa (qf (tv) rfl (qf (ii ((j : Int))) rfl (cX (qk j qd qm rfl rfl rfl ht.slv (by omega) (Nat.mul_one _) (cX (qj qC rfl (ht.rd (by omega)) (cX (qG rfl rfl (qf (.bool (decide ((t.getD j 0 : Int) < 0))) rfl ?_)))))))))))))
  by_cases h2 : (t.getD j 0 : Int) < 0
  ·refine qr (t := 17) rfl (vT h2) (qi (ov) rfl (qr (t := 17) rfl (vT h2) (qi (tv) rfl (qr (t := 17) rfl (vT h2) (qi (ii ((j : Int))) rfl (qr (t := 17) rfl (vT h2) (qk j qd qm rfl rfl rfl ht.slv (by omega) (Nat.mul_one _) (qr (t := 17) rfl (vT h2) (qj qC rfl (ht.rd (by omega)) (qr (t := 17) rfl (vT h2) (XOp.lend [] _ _ rfl (fun F1 le1 hz1 => ?_))))))))))))
   have hf1 : IntsF _ ov os := intsH.fz (xs := os) hz1
   refine id (qs (args := [ov, ii (t.getD j 0)]) call206 rfl (l1Has_spec (n := t.getD j 0) hf1 (hbd := (by first | assumption | rfl | omega | simp))) ?_)
   rintro _ _ _ _ ⟨rfl, rfl, rfl⟩
   show XL _ _ _ _ _ _ _ (intsH 2 ov os :: L)
   refine qr (t := 17) rfl (vT h2) (jK rfl (cX (qS (.bool (decide (¬((t.getD j 0) ∈ os)))) (vT h2) rfl (qb ?_))))
   refine qx (p := ¬((t.getD j 0) ∈ os)) rfl (fun h3 => ?_) (fun h3 => ?_)
   ·have hor := h3
    refine qa (qf (ov) rfl (qf (tv) rfl (qf (ii ((j : Int))) rfl (cX (qk j qd qm rfl rfl rfl ht.slv (by omega) (Nat.mul_one _) (cX (qj qC rfl (ht.rd (by omega)) (cX (qU (s := 1) [ii (t.getD j 0)] [ii (0)] [(0, [ii (t.getD j 0)])] qd qm jx rfl (by decide) rfl (.cons rfl CellsAre.nil) rfl ?_)))))))))
    intro v2 hv2
    refine cX (XOp.append1 (u := t.getD j 0) [_] _ qd typeInfo2 rfl rfl rfl rfl rfl rfl (SlV.own [] rfl) (Rd.sl [] rfl rfl) (by (try simp only [List.length_append, List.length_nil, List.length_cons, List.length_singleton, List.length_take, List.length_drop]); omega) ?_)
    intro v3 hs1 hn1
    refine qh (v3) rfl (qb (qa (qf (ii ((j : Int))) rfl (cX (qM (((j + 1 : Nat) : Int)) rfl rfl (by omega) (by omega) (qh (ii (((j + 1 : Nat) : Int))) rfl (qb ?_)))))))
    exact ⟨(j + 1, v3, os ++ [t.getD j 0], G1), _, leG1, rF, ⟨rfl, rfl, rfl, ⟨⟩⟩, (sD (sC sR)), ⟨rfl, leG1, (hs1), (by (try dsimp only) <;> omega), (by (try dsimp only); first | exact ord_skip (by omega) hos (.inl (by omega)) | exact ord_skip (by omega) hos (.inr (by simpa using hor)) | exact ord_add (by omega) hos (by omega) (by simpa using hor)), (by (try dsimp only); (try rw [List.length_append, List.length_singleton]); omega)⟩, (by omega)⟩
   have hor := h3
   refine qw (qa (qf (ii ((j : Int))) rfl (cX (qM (((j + 1 : Nat) : Int)) rfl rfl (by omega) (by omega) (qh (ii (((j + 1 : Nat) : Int))) rfl (qb ?_))))))
   exact ⟨(j + 1, ov, os, G1), _, leG1, rF, ⟨rfl, rfl, rfl, ⟨⟩⟩, (sC sR), ⟨rfl, leG1, (hov), (by (try dsimp only) <;> omega), (by (try dsimp only); first | exact ord_skip (by omega) hos (.inl (by omega)) | exact ord_skip (by omega) hos (.inr (by simpa using hor)) | exact ord_add (by omega) hos (by omega) (by simpa using hor)), (by (try dsimp only); (try rw [List.length_append, List.length_singleton]); omega)⟩, (by omega)⟩
  refine qp (t := 17) rfl (vF h2) (qp (t := 17) rfl (vF h2) (qp (t := 17) rfl (vF h2) (qp (t := 17) rfl (vF h2) (qp (t := 17) rfl (vF h2) (qp (t := 17) rfl (vF h2) (qp (t := 17) rfl (vF h2) (cX (qT (.bool (false)) (vF h2) rfl (qb (jy rfl ?_))))))))))
  refine qw (qa (qf (ii ((j : Int))) rfl (cX (qM (((j + 1 : Nat) : Int)) rfl rfl (by omega) (by omega) (qh (ii (((j + 1 : Nat) : Int))) rfl (qb ?_))))))
  exact ⟨(j + 1, ov, os, G1), _, leG1, rF, ⟨rfl, rfl, rfl, ⟨⟩⟩, (sC sR), ⟨rfl, leG1, (hov), (by (try dsimp only) <;> omega), (by (try dsimp only); first | exact ord_skip (by omega) hos (.inl (by omega)) | exact ord_skip (by omega) hos (.inr (by simpa using hor)) | exact ord_add (by omega) hos (by omega) (by simpa using hor)), (by (try dsimp only); (try rw [List.length_append, List.length_singleton]); omega)⟩, (by omega)⟩
 refine jc (qt (qt (qL (qc (qa (qf (ov) rfl (qh (ov) rfl (qb (qz (qu (L' := intsH 2 ov os :: L) [ov] (ov) (.tmp rfl .nil) rfl rF leG1 (sC sR) ?_))))))))))
 refine ⟨rfl, hov, ?_⟩
 have hxs : (orderL t : List Int) = os := by rw [hos, show j = t.length from by omega, List.take_length]
 exact congrArg (fun z => intsH 2 _ z :: L) hxs

/- spec.l2By -/
theorem l2ByL_spec {F : FH} {L : List HP} {wv : Value} {w : List Int} (hw : IntsF F wv w) {tv : Value} {t : List Int} (ht : IntsF F tv t) (hno : w.Nodup) (hlo : w.length ≤ 4000000) (hlt : t.length ≤ 4000000) :
    Does prog 146 [wv, tv] F (L) (fun v F' L' => F = F' ∧ IsSl v ∧ intsH 2 v (byL w t) :: L = L') := by
 refine qI func146 rfl rfl rfl (qc (qa (qh (sN) rfl (qb (qc (qa (cX (qU (s := 1) [] [ii (0)] [] qd qm jx rfl (by decide) rfl CellsAre.nil rfl ?_))))))))
 intro v1 hv1
 refine qh (v1) rfl (qb (qc (qc (qa (qh (ii (0)) rfl (qb (qF (jg (α := Nat × Value × List Int) (fun xQ => [(0, wv), (1, tv), (5, xQ.2.1), (6, ii (((xQ.1 : Nat) : Int)))]) (fun xQ => intsH 2 xQ.2.1 xQ.2.2 :: L) (fun xQ F' => F = F' ∧ (IsSl xQ.2.1) ∧ (xQ.1 ≤ t.length) ∧ (xQ.2.2 = byL w (t.take xQ.1)) ∧ (xQ.2.2.length = xQ.1)) (fun xQ => t.length - xQ.1) (0, v1, []) ⟨rfl, rfl, rfl, rfl, ⟨⟩⟩ (sC sR) ⟨rfl, ((isSl_lit hv1)), (by (try dsimp only) <;> omega), (rfl), (rfl)⟩ ?_))))))))
 rintro ⟨j, ov, os⟩ rE _ _ ⟨rfl, hov, hj, hos, hol⟩
 show X _ _ _ _ (envs [(0, wv), (1, tv), (5, ov), (6, ii ((j : Int)))] rE) _ (intsH 2 ov os :: L)
 dsimp only at hov hj hos hol
 refine qc (qc (qa (qf (ii ((j : Int))) rfl (qf (tv) rfl (cX (qD qd rfl ht.slv (cX (qG rfl rfl (qb ?_)))))))))
 refine qx (p := (j : Int) < (t.length : Int)) rfl (fun h1 => ?_) (fun h1 => ?_)
 ·refine qw (qc (qF (qc (qa (qf (tv) rfl (qf (ii ((j : Int))) rfl (cX (qk j qd qm rfl rfl rfl ht.slv (by omega) (Nat.mul_one _) (cX (qj qC rfl (ht.rd (by omega)) (qh (ii (t.getD j 0)) rfl (qb (qc (qc (qa (qh (ii (0)) rfl (qb (qF (jg (α := Nat × Int) (fun xQ => [(0, wv), (1, tv), (5, ov), (6, ii ((j : Int))), (7, ii (xQ.2)), (8, ii (((xQ.1 : Nat) : Int)))]) (fun xQ => intsH 2 ov os :: L) (fun xQ F' => F = F' ∧ (xQ.1 ≤ w.length) ∧ (xQ.2 = byN w xQ.1 (t.getD j 0))) (fun xQ => w.length - xQ.1) (0, (t.getD j 0)) ⟨rfl, rfl, rfl, rfl, rfl, rfl, ⟨⟩⟩ (sC sR) ⟨rfl, (by (try dsimp only) <;> omega), (by_start)⟩ ?_)))))))))))))))))))
  rintro ⟨k, n⟩ rE _ _ ⟨rfl, hk, hn⟩
  show X _ _ _ _ (envs [(0, wv), (1, tv), (5, ov), (6, ii ((j : Int))), (7, ii (n)), (8, ii ((k : Int)))] rE) _ (intsH 2 ov os :: L)
  dsimp only at hk hn
  refine qc (qc (qa (qf (ii ((k : Int))) rfl (qf (wv) rfl (cX (qD qd rfl hw.slv (cX (qG rfl rfl (qf (.bool (decide ((k : Int) < (w.length : Int)))) rfl ?_)))))))))
  by_cases h2 : (k : Int) < (w.length : Int)
  ·refine qr (t := 24) rfl (vT h2) (qi (tv) rfl (qr (t := 24) rfl (vT h2) (qi (ii ((j : Int))) rfl (qr (t := 24) rfl (vT h2) (qk j qd qm rfl rfl rfl ht.slv (by omega) (Nat.mul_one _) (qr (t := 24) rfl (vT h2) (qj qC rfl (ht.rd (by omega)) (qr (t := 24) rfl (vT h2) (qG rfl rfl (cX (qS (.bool (decide ((t.getD j 0 : Int) < 0))) (vT h2) rfl (qb ?_))))))))))))
   refine qx (p := (t.getD j 0 : Int) < 0) rfl (fun h3 => ?_) (fun h3 => ?_)
   ·refine qw (qc (qF (qc ?_)))
    refine jh [intsH 2 ov os] L 8 [] [[], [], [0, 1], [2], [], [], [4, 5], [6]] (phiL [qe wv, qe (ii ((k : Int)) : Value), qe (.pointer (some (elemA wv (k)))), qe (ii (w.getD k 0)), qe tv, qe (ii ((j : Int)) : Value), qe (.pointer (some (elemA tv (j)))), qe (ii (t.getD j 0))]) (ownL []) mixed rfl rfl (by kernel_rfl) ?_ ?_
    ·refine pD (fun W R z9 => ?_) ?_
     ·refine qg (qi (wv) rfl ?_)
      exact ⟨rfl, rfl, rfl⟩
     refine pD (fun W R z9 => ?_) ?_
     ·refine qg (qi (ii ((k : Int))) rfl ?_)
      exact ⟨rfl, rfl, rfl⟩
     refine pD (fun W R z9 => ?_) ?_
     ·rw [eS (l := [(0, _), (1, _)]) ⟨z9 0 rfl, z9 1 rfl, ⟨⟩⟩]
      refine qg (qk k qd qm rfl rfl rfl hw.slv (by omega) (Nat.mul_one _) ?_)
      exact ⟨rfl, rfl, rfl⟩
     refine pD (fun W R z9 => ?_) ?_
     ·rw [eS (l := [(2, _)]) ⟨z9 2 rfl, ⟨⟩⟩]
      refine qg (qj qC rfl (hw.rd (by omega)) ?_)
      exact ⟨rfl, rfl, rfl⟩
     refine pD (fun W R z9 => ?_) ?_
     ·refine qg (qi (tv) rfl ?_)
      exact ⟨rfl, rfl, rfl⟩
     refine pD (fun W R z9 => ?_) ?_
     ·refine qg (qi (ii ((j : Int))) rfl ?_)
      exact ⟨rfl, rfl, rfl⟩
     refine pD (fun W R z9 => ?_) ?_
     ·rw [eS (l := [(4, _), (5, _)]) ⟨z9 4 rfl, z9 5 rfl, ⟨⟩⟩]
      refine qg (qk j qd qm rfl rfl rfl ht.slv (by omega) (Nat.mul_one _) ?_)
      exact ⟨rfl, rfl, rfl⟩
     refine pD (fun W R z9 => ?_) ?_
     ·rw [eS (l := [(6, _)]) ⟨z9 6 rfl, ⟨⟩⟩]
      refine qg (qj qC rfl (ht.rd (by omega)) ?_)
      exact ⟨rfl, rfl, rfl⟩
     exact stepsP.nil
    intro W hphi
    rw [eS (l := [(3, _), (7, _)]) ⟨(hphi 3 (by decide)), (hphi 7 (by decide)), ⟨⟩⟩]
    show XL _ _ _ _ _ _ _ (intsH 2 ov os :: L)
    refine cX (jH rfl rfl (qb ?_))
    refine qx (p := (w.getD k 0 : Int) = t.getD j 0) rfl (fun h4 => ?_) (fun h4 => ?_)
    ·refine qa (qf (ii ((k : Int))) rfl (cX (jb ((-1) - ((k : Int))) rfl rfl (by omega) (by omega) (qh (ii ((-1) - ((k : Int)))) rfl (qb (qa (qf (ii ((k : Int))) rfl (cX (qM (((k + 1 : Nat) : Int)) rfl rfl (by omega) (by omega) (qh (ii (((k + 1 : Nat) : Int))) rfl (qb ?_)))))))))))
     exact ⟨(k + 1, (-1) - ((k : Int))), _, FLe.refl _, rF, ⟨rfl, rfl, rfl, rfl, rfl, rfl, ⟨⟩⟩, (sC sR), ⟨rfl, (by (try dsimp only) <;> omega), (by (try dsimp only); exact by_hit hno (by omega) (by omega) (by omega))⟩, (by omega)⟩
    refine qw (qa (qf (ii ((k : Int))) rfl (cX (qM (((k + 1 : Nat) : Int)) rfl rfl (by omega) (by omega) (qh (ii (((k + 1 : Nat) : Int))) rfl (qb ?_))))))
    exact ⟨(k + 1, n), _, FLe.refl _, rF, ⟨rfl, rfl, rfl, rfl, rfl, rfl, ⟨⟩⟩, (sC sR), ⟨rfl, (by (try dsimp only) <;> omega), (by (try dsimp only); rw [hn]; exact by_miss (by omega) (by omega))⟩, (by omega)⟩
   refine jc (qt (qt (qL (qa (qf (ov) rfl (qf (ii (n)) rfl (cX (qU (s := 1) [ii (n)] [ii (0)] [(0, [ii (n)])] qd qm jx rfl (by decide) rfl (.cons rfl CellsAre.nil) rfl ?_))))))))
   intro v2 hv2
   refine cX (XOp.append1 (u := n) [_] _ qd typeInfo2 rfl rfl rfl rfl rfl rfl (SlV.own [] rfl) (Rd.sl [] rfl rfl) (by (try simp only [List.length_append, List.length_nil, List.length_cons, List.length_singleton, List.length_take, List.length_drop]); omega) ?_)
   intro v3 hs1 hn1
   refine qh (v3) rfl (qb (qa (qf (ii ((j : Int))) rfl (cX (qM (((j + 1 : Nat) : Int)) rfl rfl (by omega) (by omega) (qh (ii (((j + 1 : Nat) : Int))) rfl (qb ?_)))))))
   exact ⟨(j + 1, v3, os ++ [n]), _, FLe.refl _, rF, ⟨rfl, rfl, rfl, rfl, ⟨⟩⟩, (sD (sC sR)), ⟨rfl, (hs1), (by (try dsimp only) <;> omega), (by (try dsimp only); rw [hos]; exact by_take (by omega) (by_done hn (by omega))), (by (try dsimp only); rw [List.length_append, List.length_singleton]; omega)⟩, (by omega)⟩
  refine qp (t := 24) rfl (vF h2) (qp (t := 24) rfl (vF h2) (qp (t := 24) rfl (vF h2) (qp (t := 24) rfl (vF h2) (qp (t := 24) rfl (vF h2) (cX (qT (.bool (false)) (vF h2) rfl (qb (jy rfl (jc (qt (qt (qL (qa ?_)))))))))))))
  refine qf (ov) rfl (qf (ii (n)) rfl (cX (qU (s := 1) [ii (n)] [ii (0)] [(0, [ii (n)])] qd qm jx rfl (by decide) rfl (.cons rfl CellsAre.nil) rfl ?_)))
  intro v4 hv3
  refine cX (XOp.append1 (u := n) [_] _ qd typeInfo2 rfl rfl rfl rfl rfl rfl (SlV.own [] rfl) (Rd.sl [] rfl rfl) (by (try simp only [List.length_append, List.length_nil, List.length_cons, List.length_singleton, List.length_take, List.length_drop]); omega) ?_)
  intro v5 hs2 hn2
  refine qh (v5) rfl (qb (qa (qf (ii ((j : Int))) rfl (cX (qM (((j + 1 : Nat) : Int)) rfl rfl (by omega) (by omega) (qh (ii (((j + 1 : Nat) : Int))) rfl (qb ?_)))))))
  exact ⟨(j + 1, v5, os ++ [n]), _, FLe.refl _, rF, ⟨rfl, rfl, rfl, rfl, ⟨⟩⟩, (sD (sC sR)), ⟨rfl, (hs2), (by (try dsimp only) <;> omega), (by (try dsimp only); rw [hos]; exact by_take (by omega) (by_done hn (by omega))), (by (try dsimp only); rw [List.length_append, List.length_singleton]; omega)⟩, (by omega)⟩
 refine jc (qt (qt (qL (qc (qa (qf (ov) rfl (qh (ov) rfl (qb (qz (qu (L' := intsH 2 ov os :: L) [ov] (ov) (.tmp rfl .nil) rfl rF rF (sC sR) ?_))))))))))
 refine ⟨rfl, hov, ?_⟩
 have hxs : (byL w t : List Int) = os := by rw [hos, show j = t.length from by omega, List.take_length]
 exact congrArg (fun z => intsH 2 _ z :: L) hxs

/- spec.l11Meets -/
theorem meets2_spec {F : FH} {L : List HP} {arv : Value} {ar : List Int} (har : IntsF F arv ar) {rsv : Value} {rs : List (List Int × List Int)} (hrs : PairsF F rsv rs) {o : Nat} {p : Nat} {u : Nat} (hsys : sysOk ar rs = true) (ho : o < rs.length) (hu : u < rs.length) (hp : p < (rs.getD o ([], [])).1.length) :
    Does prog 168 [.agg #[arv, rsv], ii ((o : Int)), ii ((p : Int)), ii ((u : Int))] F (L) (fun v F' L' => (.bool (decide (0 ≤ (rs.getD o ([], [])).1.getD p 0 ∧ meetB ar rs o p u = true)) : Value) = v ∧ L = L') := by
 refine qI func168 rfl rfl rfl ?_
 have hlo : termOk ar (rs.getD o ([], [])).1 = true := rule_L hsys ho
 have hllo : 1 ≤ (rs.getD o ([], [])).1.length ∧ (rs.getD o ([], [])).1.length ≤ 60 := termOk_len hlo
 have hglo : ∀ k, k < (rs.getD o ([], [])).1.length → -24 ≤ (rs.getD o ([], [])).1.getD k 0 := fun k h => termOk_ge hlo h
 have hlu : termOk ar (rs.getD u ([], [])).1 = true := rule_L hsys hu
 have hllu : 1 ≤ (rs.getD u ([], [])).1.length ∧ (rs.getD u ([], [])).1.length ≤ 60 := termOk_len hlu
 have hglu : ∀ k, k < (rs.getD u ([], [])).1.length → -24 ≤ (rs.getD u ([], [])).1.getD k 0 := fun k h => termOk_ge hlu h
 have hro : termOk ar (rs.getD o ([], [])).2 = true := rule_R hsys ho
 have hlro : 1 ≤ (rs.getD o ([], [])).2.length ∧ (rs.getD o ([], [])).2.length ≤ 60 := termOk_len hro
 have hgro : ∀ k, k < (rs.getD o ([], [])).2.length → -24 ≤ (rs.getD o ([], [])).2.getD k 0 := fun k h => termOk_ge hro h
 have hru : termOk ar (rs.getD u ([], [])).2 = true := rule_R hsys hu
 have hlru : 1 ≤ (rs.getD u ([], [])).2.length ∧ (rs.getD u ([], [])).2.length ≤ 60 := termOk_len hru
 have hgru : ∀ k, k < (rs.getD u ([], [])).2.length → -24 ≤ (rs.getD u ([], [])).2.getD k 0 := fun k h => termOk_ge hru h
 have hrl := (sysOk_iff.1 hsys).2.1
 have hsig := (sysOk_iff.1 hsys).1
 have hsl := sigOk_spec hsig
 have hee := (termW_of hlo).endN hp
 refine qc (qa (cX (ja [arv, rsv] rfl rfl ?_)))
 intro b1
 refine qh (.bool (false)) rfl (qb (qc (qa (cX (qo (1) qP rfl jv (by decide) rfl rfl (cX (qj jG rfl (Rd.own [] rfl rfl) (qf (ii ((o : Int))) rfl (cX (qk o qW jj rfl rfl rfl hrs.slv (by omega) rfl (cX (XOp.fieldE (o * 2) qR rfl qq (by decide) rfl rfl ?_))))))))))))
 obtain ⟨a1, a2, ha1, ha2, hr1, hr2⟩ := hrs.rd (i := o) (by omega)
 refine cX (qj qQ rfl (hr1 _) (qh (a1) rfl (qb (qc (qc (qa (qf (ii ((p : Int))) rfl (qf (a1) rfl (cX (qD qd rfl ha1.slv (cX (jb ((((((rs.getD o ([], [])).1).length : Nat) : Int)) - 1) rfl rfl (by omega) (by omega) (cX (qs (args := [ii ((p : Int)), ii (0), ii ((((((rs.getD o ([], [])).1).length : Nat) : Int)) - 1)]) call112 rfl (l1In_spec (n := (p : Int)) (a := 0) (b := (((((rs.getD o ([], [])).1).length : Nat) : Int)) - 1)) ?_))))))))))))))
 rintro _ _ _ _ ⟨rfl, rfl, rfl⟩
 refine cX (jK rfl (qf (.bool (decide (¬(0 ≤ ((p : Int)) ∧ ((p : Int)) ≤ ((((((rs.getD o ([], [])).1).length : Nat) : Int)) - 1))))) rfl ?_))
 by_cases h1 : ¬(0 ≤ ((p : Int)) ∧ ((p : Int)) ≤ ((((((rs.getD o ([], [])).1).length : Nat) : Int)) - 1))
 ·refine qp (t := 24) rfl (vT h1) (qp (t := 24) rfl (vT h1) (qp (t := 24) rfl (vT h1) (qp (t := 24) rfl (vT h1) (qp (t := 24) rfl (vT h1) (cX (qS (.bool (true)) (vT h1) rfl (qf (.bool (true)) rfl (qp (t := 31) rfl rfl (qp (t := 31) rfl rfl (qp (t := 31) rfl rfl ?_))))))))))
  refine XL.noU (t := 34) rfl rfl (XL.noU (t := 34) rfl rfl (XL.noU (t := 34) rfl rfl (qp (t := 31) rfl rfl (cX (qS (.bool (true)) rfl rfl (qb (jw rfl (qc (qa (qh (.bool (false)) rfl (qb ?_)))))))))))
  refine qz (ql (qu (L' := L) [.bool (false)] (.bool (false)) (.tmp rfl .nil) rfl rF rF (sD sR) ?_))
  have e9 : ¬ (0 ≤ (rs.getD o ([], [])).1.getD p 0 ∧ meetB ar rs o p u = true) := by first | (rintro ⟨h8, h9⟩; omega) | (rintro ⟨h8, h9⟩; rw [meet_self (by omega)] at h9; cases h9)
  exact ⟨congrArg Value.bool (decide_eq_false e9), rfl⟩
 refine qr (t := 24) rfl (vF h1) (qi (a1) rfl (qr (t := 24) rfl (vF h1) (qi (ii ((p : Int))) rfl (qr (t := 24) rfl (vF h1) (qk p qd qm rfl rfl rfl ha1.slv (by omega) (Nat.mul_one _) (qr (t := 24) rfl (vF h1) (qj qC rfl (ha1.rd (by omega)) (qr (t := 24) rfl (vF h1) (qG rfl rfl (cX (qT (.bool (decide ((((rs.getD o ([], [])).1).getD p 0 : Int) < 0))) (vF h1) rfl (qf (.bool (decide ((((rs.getD o ([], [])).1).getD p 0 : Int) < 0))) rfl ?_))))))))))))
 by_cases h2 : (((rs.getD o ([], [])).1).getD p 0 : Int) < 0
 ·refine qp (t := 31) rfl (vT h2) (qp (t := 31) rfl (vT h2) (qp (t := 31) rfl (vT h2) (XL.noU (t := 34) rfl rfl (XL.noU (t := 34) rfl rfl (XL.noU (t := 34) rfl rfl (qp (t := 31) rfl (vT h2) (cX (qS (.bool (true)) (vT h2) rfl (qb (jw rfl ?_))))))))))
  refine qc (qa (qh (.bool (false)) rfl (qb (qz (ql (qu (L' := L) [.bool (false)] (.bool (false)) (.tmp rfl .nil) rfl rF rF (sD sR) ?_))))))
  have e9 : ¬ (0 ≤ (rs.getD o ([], [])).1.getD p 0 ∧ meetB ar rs o p u = true) := by first | (rintro ⟨h8, h9⟩; omega) | (rintro ⟨h8, h9⟩; rw [meet_self (by omega)] at h9; cases h9)
  exact ⟨congrArg Value.bool (decide_eq_false e9), rfl⟩
 refine qr (t := 31) rfl (vF h2) (qi (ii ((p : Int))) rfl (qr (t := 31) rfl (vF h2) (jH rfl rfl (qr (t := 31) rfl (vF h2) (qi (.bool (decide ((p : Int) = 0))) rfl ?_)))))
 by_cases h3 : (p : Int) = 0
 ·refine qr (t := 34) rfl (vT h3) (qi (ii ((o : Int))) rfl (qr (t := 34) rfl (vT h3) (qi (ii ((u : Int))) rfl (qr (t := 34) rfl (vT h3) (jH rfl rfl (qr (t := 31) rfl (vF h2) (qS (.bool (decide ((o : Int) = (u : Int)))) (vT h3) rfl (cX (qT (.bool (decide ((o : Int) = (u : Int)))) (vF h2) rfl (qb ?_))))))))))
  refine qx (p := (o : Int) = (u : Int)) rfl (fun h4 => ?_) (fun h4 => ?_)
  ·refine qc (qa (qh (.bool (false)) rfl (qb (qz (ql (qu (L' := L) [.bool (false)] (.bool (false)) (.tmp rfl .nil) rfl rF rF (sD sR) ?_))))))
   have e9 : ¬ (0 ≤ (rs.getD o ([], [])).1.getD p 0 ∧ meetB ar rs o p u = true) := by first | (rintro ⟨h8, h9⟩; omega) | (rintro ⟨h8, h9⟩; rw [meet_self (by omega)] at h9; cases h9)
   exact ⟨congrArg Value.bool (decide_eq_false e9), rfl⟩
  refine qw (qc (qa (cX (qB [arv, rsv] jJ jC rfl rfl (Rd.ownN [] rfl rfl) (qf (ii ((o : Int))) rfl (qf (ii ((p : Int))) rfl (qf (ii ((u : Int))) rfl (cX (qs (args := [.agg #[arv, rsv], ii (o : Int), ii (p : Int), ii (u : Int)]) call214 rfl (try_spec (o := o) (p := p) (u := u) har hrs hsys (by omega) (by omega) (by first | assumption | omega)) ?_)))))))))
  rintro _ F1 _ le1 ⟨x1, b2, o1, bc1, l1, rfl, hs1, hb1, hy1, hn1, rfl⟩
  replace har := har.mono le1
  replace hrs := hrs.mono le1
  refine qf (.tuple #[ptr b2 0, .bool (x1)]) rfl (cX (qY (ptr b2 0) rfl rfl (cX (qY (.bool (x1)) rfl rfl (qh (ptr b2 0) rfl (qh (.bool (x1)) rfl (qb (qc (qa (qf (.bool (x1)) rfl (qh (.bool (x1)) rfl (qb (qz (qu (L' := L) [.bool (x1)] (.bool (x1)) (.tmp rfl .nil) rfl le1 rF (sD (sD (sD sR))) ?_))))))))))))))
  have e9 : x1 = decide (0 ≤ (rs.getD o ([], [])).1.getD p 0 ∧ meetB ar rs o p u = true) := by
    cases h9 : x1 with
    | true => exact (decide_eq_true ⟨by omega, meet_yes (by omega) (hy1 h9)⟩).symm
    | false => exact (decide_eq_false (fun h => by rw [meet_no (hn1 h9)] at h; cases h.2)).symm
  exact ⟨congrArg Value.bool e9.symm, rfl⟩
 refine qp (t := 34) rfl (vF h3) (qp (t := 34) rfl (vF h3) (qp (t := 34) rfl (vF h3) (qr (t := 31) rfl (vF h2) (qT (.bool (false)) (vF h3) rfl (cX (qT (.bool (false)) (vF h2) rfl (qb (jy rfl (qw (qc (qa (cX (qB [arv, rsv] jJ jC rfl rfl (Rd.ownN [] rfl rfl) (qf (ii ((o : Int))) rfl ?_))))))))))))))
 refine qf (ii ((p : Int))) rfl (qf (ii ((u : Int))) rfl (cX (qs (args := [.agg #[arv, rsv], ii (o : Int), ii (p : Int), ii (u : Int)]) call214 rfl (try_spec (o := o) (p := p) (u := u) har hrs hsys (by omega) (by omega) (by first | assumption | omega)) ?_)))
 rintro _ F2 _ le2 ⟨x2, b3, o2, bc2, l2, rfl, hs2, hb2, hy2, hn2, rfl⟩
 refine qf (.tuple #[ptr b3 0, .bool (x2)]) rfl (cX (qY (ptr b3 0) rfl rfl (cX (qY (.bool (x2)) rfl rfl (qh (ptr b3 0) rfl (qh (.bool (x2)) rfl (qb (qc (qa (qf (.bool (x2)) rfl (qh (.bool (x2)) rfl (qb (qz (qu (L' := L) [.bool (x2)] (.bool (x2)) (.tmp rfl .nil) rfl le2 rF (sD (sD (sD sR))) ?_))))))))))))))
 have e9 : x2 = decide (0 ≤ (rs.getD o ([], [])).1.getD p 0 ∧ meetB ar rs o p u = true) := by
   cases h9 : x2 with
   | true => exact (decide_eq_true ⟨by omega, meet_yes (by omega) (hy2 h9)⟩).symm
   | false => exact (decide_eq_false (fun h => by rw [meet_no (hn2 h9)] at h; cases h.2)).symm
 exact ⟨congrArg Value.bool e9.symm, rfl⟩

/- spec.l11Peak -/
set_option maxHeartbeats 2000000 in
set_option maxRecDepth 20000 in
theorem peak2_spec {F : FH} {L : List HP} {arv : Value} {ar : List Int} (har : IntsF F arv ar) {rsv : Value} {rs : List (List Int × List Int)} (hrs : PairsF F rsv rs) {o : Nat} {p : Nat} {u : Nat} (hsys : sysOk ar rs = true) (ho : o < rs.length) (hu : u < rs.length) (hp : p < (rs.getD o ([], [])).1.length) (hmt : meetB ar rs o p u = true) :
    Does prog 169 [.agg #[arv, rsv], ii ((o : Int)), ii ((p : Int)), ii ((u : Int))] F (L) (fun v F' L' => ∃ (a : Value), ∃ (b : Value), ∃ (c : Value), (.tuple #[.agg #[a, b, c, ii (((pkF ar rs o p u).getD P0).2.2.2.1), ii (((pkF ar rs o p u).getD P0).2.2.2.2.1), ii (((pkF ar rs o p u).getD P0).2.2.2.2.2)], .bool ((pkF ar rs o p u).isSome)] : Value) = v ∧ (IntsF F' a ((pkF ar rs o p u).getD P0).1) ∧ (IntsF F' b ((pkF ar rs o p u).getD P0).2.1) ∧ (IntsF F' c ((pkF ar rs o p u).getD P0).2.2.1) ∧ L = L') := by
 refine qI func169 rfl rfl rfl ?_
 have hlo : termOk ar (rs.getD o ([], [])).1 = true := rule_L hsys ho
 have hllo : 1 ≤ (rs.getD o ([], [])).1.length ∧ (rs.getD o ([], [])).1.length ≤ 60 := termOk_len hlo
 have hglo : ∀ k, k < (rs.getD o ([], [])).1.length → -24 ≤ (rs.getD o ([], [])).1.getD k 0 := fun k h => termOk_ge hlo h
 have hlu : termOk ar (rs.getD u ([], [])).1 = true := rule_L hsys hu
 have hllu : 1 ≤ (rs.getD u ([], [])).1.length ∧ (rs.getD u ([], [])).1.length ≤ 60 := termOk_len hlu
 have hglu : ∀ k, k < (rs.getD u ([], [])).1.length → -24 ≤ (rs.getD u ([], [])).1.getD k 0 := fun k h => termOk_ge hlu h
 have hro : termOk ar (rs.getD o ([], [])).2 = true := rule_R hsys ho
 have hlro : 1 ≤ (rs.getD o ([], [])).2.length ∧ (rs.getD o ([], [])).2.length ≤ 60 := termOk_len hro
 have hgro : ∀ k, k < (rs.getD o ([], [])).2.length → -24 ≤ (rs.getD o ([], [])).2.getD k 0 := fun k h => termOk_ge hro h
 have hru : termOk ar (rs.getD u ([], [])).2 = true := rule_R hsys hu
 have hlru : 1 ≤ (rs.getD u ([], [])).2.length ∧ (rs.getD u ([], [])).2.length ≤ 60 := termOk_len hru
 have hgru : ∀ k, k < (rs.getD u ([], [])).2.length → -24 ≤ (rs.getD u ([], [])).2.getD k 0 := fun k h => termOk_ge hru h
 have hrl := (sysOk_iff.1 hsys).2.1
 have hsig := (sysOk_iff.1 hsys).1
 have hsl := sigOk_spec hsig
 have hee := (termW_of hlo).endN hp
 have hal := away_len (l := (rs.getD u ([], [])).2)
 refine qc (qa (cX (ja [arv, rsv] rfl rfl ?_)))
 intro b1
 refine cX (jB [sN, sN, sN, ii (0), ii (0), ii (0)] jp rfl ?_)
 intro b2
 refine qh (.bool (false)) rfl (qb (qc (qa (cX (qB [arv, rsv] jJ jC rfl rfl (Rd.ownN [_] rfl rfl) (qf (ii ((o : Int))) rfl (qf (ii ((p : Int))) rfl (qf (ii ((u : Int))) rfl (cX (qs (args := [.agg #[arv, rsv], ii (o : Int), ii (p : Int), ii (u : Int)]) call214 rfl (try_spec (o := o) (p := p) (u := u) har hrs hsys (by omega) (by omega) (by first | assumption | omega)) ?_))))))))))
 rintro _ F1 _ le1 ⟨x1, b3, o1, bc1, l1, rfl, hs1, hb1, hy1, hn1, rfl⟩
 replace har := har.mono le1
 replace hrs := hrs.mono le1
 refine qf (.tuple #[ptr b3 0, .bool (x1)]) rfl (cX (qY (ptr b3 0) rfl rfl (cX (qY (.bool (x1)) rfl rfl (qh (ptr b3 0) rfl (qh (.bool (x1)) rfl ?_))))))
 have hxt : x1 = true := by
   cases h9 : x1 with
   | true => rfl
   | false => have h8 := hn1 h9; rw [meet_no h8] at hmt; cases hmt
 have hmg := hy1 hxt
 have hbo := hmg.ok
 obtain ⟨σ, hσ⟩ := hbo.sol
 have hgs := hσ.good hbo
 obtain ⟨hLg, hLl, hLp⟩ := left_ok (ar := ar) (rs := rs) (o := o) (u := u) (p := p) hsys ho hu
 refine qb (qc (qa (cX (qo (1) qP rfl jv (by decide) rfl rfl (cX (qj jG rfl (Rd.own [_, _, _] rfl rfl) (qf (ii ((o : Int))) rfl (cX (qk o qW jj rfl rfl rfl hrs.slv (by omega) rfl ?_)))))))))
 obtain ⟨a1, a2, ha1, ha2, hr1, hr2⟩ := hrs.rd (i := o) (by omega)
 refine cX (qB [a1, a2] isAgg72 jj rfl rfl (Rd.two (hr1 _) (hr2 _)) (cX (jB [sN, sN] zeroValue72 rfl ?_)))
 intro b4
 refine cX (jk [] _ [a1, a2] jj rfl rfl rfl (qv (je (qE ha1)) (qv (je (qE ha2)) jl)) rfl rfl rfl (qb (qc (qa (cX (qo (0) qP rfl qJ (by decide) rfl rfl (cX (qB [arv] jd qJ rfl rfl (Rd.ownN [_, _, _, _] rfl rfl) (cX (qo (0) qR rfl qq (by decide) rfl rfl (cX (qj qQ rfl (Rd.own [] rfl rfl) (qf (ii ((p : Int))) rfl (cX (qs (args := [.agg #[arv], a1, ii (p : Int)]) call215 rfl (l13End_spec (q := p) har ha1 (ho := (termW_of hlo)) (hp := (hp))) ?_)))))))))))))))
 rintro _ _ _ _ ⟨rfl, rfl, rfl⟩
 refine qh (ii (((endN ar ((rs.getD o ([], [])).1) p : Nat) : Int))) rfl (qb (qc ?_))
 obtain ⟨a3, a4, ha3, ha4, hr3, hr4⟩ := hrs.rd (i := u) (by omega)
 refine X.drawG [cellsH b4 [a1, a2] 72, cellsH b3 [o1] 234, slH 27 1 o1 48 bc1, cellsH b2 [sN, sN, sN, ii (0), ii (0), ii (0)] 76, cellsH b1 [arv, rsv] 32] L 12 [] [[], [], [1], [], [2, 3], [0, 4], [], [6], [], [7, 8], [9], [10]] [] (phiG [fun FF us v => ∃ b, v = .slice (some ⟨b, 0, none⟩) 0 0, pe (ptr b4 0), pe a1, pe (ii ((p : Int)) : Value), fun FF us v => (v : Value) = v ∧ (IntsF FF v ((((rs.getD o ([], [])).1).drop 0).take (p - 0))) ∧ (isNil v = isNil a1), fun FF us v => IsSl v, pe (ptr b1 1), pe rsv, pe (ii ((u : Int)) : Value), pe (.pointer (some (elemA rsv (u * 2)))), pe (.pointer (some (elemA rsv (u * 2 + 1)))), pe a4]) (ownL [fun us v => [slH 2 1 v 0 []], o0, o0, o0, o0, fun us v => [intsH 2 (v) (((((rs.getD o ([], [])).1).drop 0).take (p - 0)))]]) mixed rfl rfl (by kernel_rfl) (by kernel_rfl) (MonoG.get (mC (fun le h => h) (mC (fun le h => h) (m1 (m1 (mC (fun le h => ⟨h.1, h.2.1.mono le, h.2.2⟩) (mC (fun le h => h) (mC (fun le h => h) (m1 (m1 (m1 (m1 (m1 MonoG.nil))))))))))))) ?_ ?_
 ·refine gD (fun W Fs R lF z9 => ?_) ?_
  ·replace har := har.mono lF
   replace hrs := hrs.mono lF
   replace hb1 := hb1.mono lF
   replace ha1 := ha1.mono lF
   replace ha2 := ha2.mono lF
   replace ha4 := ha4.mono lF
   replace hr4 := Rd.monoA hr4 lF
   refine qg (qU (s := 1) [] [ii (0)] [] qd qm jx rfl (by decide) rfl CellsAre.nil rfl ?_)
   intro v3 hv3
   exact ⟨hv3, rfl⟩
  refine gD (fun W Fs R lF z9 => ?_) ?_
  ·refine qg (qo (0) qR rfl qq (by decide) rfl rfl ?_)
   exact ⟨rfl, rfl⟩
  refine gD (fun W Fs R lF z9 => ?_) ?_
  ·replace har := har.mono lF
   replace hrs := hrs.mono lF
   replace hb1 := hb1.mono lF
   replace ha1 := ha1.mono lF
   replace ha2 := ha2.mono lF
   replace ha4 := ha4.mono lF
   replace hr4 := Rd.monoA hr4 lF
   rw [eS (l := [(1, _)]) ⟨z9 1 rfl, ⟨⟩⟩]
   refine qg (qj qQ rfl (Rd.own [] rfl rfl) ?_)
   exact ⟨rfl, rfl⟩
  refine gD (fun W Fs R lF z9 => ?_) ?_
  ·refine qg (qi (ii ((p : Int))) rfl ?_)
   exact ⟨rfl, rfl⟩
  refine gD (fun W Fs R lF z9 => ?_) ?_
  ·replace har := har.mono lF
   replace hrs := hrs.mono lF
   replace hb1 := hb1.mono lF
   replace ha1 := ha1.mono lF
   replace ha2 := ha2.mono lF
   replace ha4 := ha4.mono lF
   replace hr4 := Rd.monoA hr4 lF
   rw [eS (l := [(2, _), (3, _)]) ⟨z9 2 rfl, z9 3 rfl, ⟨⟩⟩]
   refine qg (XOp.sliceI 0 p qd qm rfl ha1 rfl ⟨_, rfl⟩ (by omega) (by omega) ?_)
   intro v4 hv4 hn3
   exact ⟨⟨rfl, hv4, hn3⟩, rfl⟩
  refine gD (fun W Fs R lF z9 => ?_) ?_
  ·have f0 : ∃ b, (W 0) = .slice (some ⟨b, 0, none⟩) 0 0 := z9 0 rfl
   obtain ⟨e4, f4_1hv, f4_1hn⟩ := z9 4 rfl
   replace har := har.mono lF
   replace hrs := hrs.mono lF
   replace hb1 := hb1.mono lF
   replace ha1 := ha1.mono lF
   replace ha2 := ha2.mono lF
   replace ha4 := ha4.mono lF
   replace hr4 := Rd.monoA hr4 lF
   rw [eS (l := [(4, (W 4))]) ⟨(e4).symm, ⟨⟩⟩]
   refine qg (XOp.appendE qd typeInfo2 rfl rfl rfl rfl rfl f0 f4_1hv (by (try simp only [List.length_append, List.length_nil, List.length_cons, List.length_singleton, List.length_take, List.length_drop]); omega) ?_)
   intro v5 hs2
   exact ⟨hs2, rfl⟩
  refine gD (fun W Fs R lF z9 => ?_) ?_
  ·refine qg (qo (1) qP rfl jv (by decide) rfl rfl ?_)
   exact ⟨rfl, rfl⟩
  refine gD (fun W Fs R lF z9 => ?_) ?_
  ·replace har := har.mono lF
   replace hrs := hrs.mono lF
   replace hb1 := hb1.mono lF
   replace ha1 := ha1.mono lF
   replace ha2 := ha2.mono lF
   replace ha4 := ha4.mono lF
   replace hr4 := Rd.monoA hr4 lF
   rw [eS (l := [(6, _)]) ⟨z9 6 rfl, ⟨⟩⟩]
   refine qg (qj jG rfl (Rd.own [_, _, _, _] rfl rfl) ?_)
   exact ⟨rfl, rfl⟩
  refine gD (fun W Fs R lF z9 => ?_) ?_
  ·refine qg (qi (ii ((u : Int))) rfl ?_)
   exact ⟨rfl, rfl⟩
  refine gD (fun W Fs R lF z9 => ?_) ?_
  ·replace har := har.mono lF
   replace hrs := hrs.mono lF
   replace hb1 := hb1.mono lF
   replace ha1 := ha1.mono lF
   replace ha2 := ha2.mono lF
   replace ha4 := ha4.mono lF
   replace hr4 := Rd.monoA hr4 lF
   rw [eS (l := [(7, _), (8, _)]) ⟨z9 7 rfl, z9 8 rfl, ⟨⟩⟩]
   refine qg (qk u qW jj rfl rfl rfl hrs.slv (by omega) rfl ?_)
   exact ⟨rfl, rfl⟩
  refine gD (fun W Fs R lF z9 => ?_) ?_
  ·rw [eS (l := [(9, _)]) ⟨z9 9 rfl, ⟨⟩⟩]
   refine qg (XOp.fieldE (u * 2 + 1) qR rfl qq (by decide) rfl rfl ?_)
   exact ⟨rfl, rfl⟩
  refine gD (fun W Fs R lF z9 => ?_) ?_
  ·replace har := har.mono lF
   replace hb1 := hb1.mono lF
   replace ha1 := ha1.mono lF
   replace ha2 := ha2.mono lF
   replace ha4 := ha4.mono lF
   replace hr4 := Rd.monoA hr4 lF
   rw [eS (l := [(10, _)]) ⟨z9 10 rfl, ⟨⟩⟩]
   refine qg (qj qQ rfl (hr4 _) ?_)
   exact ⟨rfl, rfl⟩
  exact stepsG.nil
 intro W F2 le2 hphi
 have f0 : ∃ b, (W 0) = .slice (some ⟨b, 0, none⟩) 0 0 := hphi 0 (by decide)
 obtain ⟨e4, f4_1hv, f4_1hn⟩ := hphi 4 (by decide)
 have f5 : IsSl (W 5) := hphi 5 (by decide)
 generalize hu0 : W 0 = u1 at f0 e4 f4_1hv f4_1hn f5
 generalize hu1 : (W 4) = u2 at f0 e4 f4_1hv f4_1hn f5
 generalize hu5 : W 5 = u3 at f0 e4 f4_1hv f4_1hn f5
 rw [eS (l := [(0, u1), (5, u3), (11, _)]) ⟨hu0, hu5, (hphi 11 (by decide)), ⟨⟩⟩]
 replace hb1 := hb1.mono le2
 replace ha1 := ha1.mono le2
 replace ha2 := ha2.mono le2
 replace ha4 := ha4.mono le2
 show XL _ _ _ _ _ _ _ (slH 2 1 u1 0 [] :: intsH 2 u3 (((((rs.getD o ([], [])).1).drop 0).take (p - 0))) :: cellsH b4 [a1, a2] 72 :: cellsH b3 [o1] 234 :: slH 27 1 o1 48 bc1 :: cellsH b2 [sN, sN, sN, ii (0), ii (0), ii (0)] 76 :: cellsH b1 [arv, rsv] 32 :: L)
 refine cX (jD <| qs (args := [a4, ii (24)]) call216 rfl (away2_spec (k := 24) ha4 (hk24 := (rfl)) (hlt := (by omega)) (htg := (fun i hi => by have := hgru i hi; omega))) ?_)
 rintro v6 _ _ _ ⟨rfl, hs3, rfl⟩
 refine ⟨_, _, rfl, fun F3 le3 hz1 => ?_⟩
 replace hb1 := hb1.mono le3
 replace ha1 := ha1.mono le3
 replace ha2 := ha2.mono le3
 have hf1 : IntsF F3 v6 ((awayL ((rs.getD u ([], [])).2))) := intsH.fz (xs := (awayL ((rs.getD u ([], [])).2))) hz1.fz
 refine cX (XOp.appendI [_] _ qd typeInfo2 rfl rfl rfl rfl rfl rfl hf1 (by (try simp only [List.length_append, List.length_nil, List.length_cons, List.length_singleton, List.length_take, List.length_drop]); omega) ?_)
 intro v7 hs4 hn4 hm1
 refine qh (v7) rfl (qb (qc (qa (qf (ptr b3 0) rfl (cX (qo (0) qR rfl qq (by decide) rfl rfl (cX (qj qQ rfl (Rd.own [_, _] rfl rfl) ?_))))))))
 obtain ⟨ρ9, hρ9⟩ := hbo.acyc
 obtain ⟨k9, hk9⟩ := maxRank ((rs.getD o ([], [])).1) ρ9
 refine qZ (qA (A := [_, _, _, _])) ?_
 show XL _ _ _ _ _ _ _ (slH 27 1 o1 48 bc1 :: slH 2 1 u1 0 [] :: intsH 2 v7 ((((((rs.getD o ([], [])).1).drop 0).take (p - 0))) ++ ((awayL ((rs.getD u ([], [])).2)))) :: cellsH b4 [a1, a2] 72 :: cellsH b3 [o1] 234 :: cellsH b2 [sN, sN, sN, ii (0), ii (0), ii (0)] 76 :: cellsH b1 [arv, rsv] 32 :: L)
 refine qZ (qA (A := [_, _, _, _])) ?_
 show XL _ _ _ _ _ _ _ (cellsH b3 [o1] 234 :: slH 27 1 o1 48 bc1 :: slH 2 1 u1 0 [] :: intsH 2 v7 ((((((rs.getD o ([], [])).1).drop 0).take (p - 0))) ++ ((awayL ((rs.getD u ([], [])).2)))) :: cellsH b4 [a1, a2] 72 :: cellsH b2 [sN, sN, sN, ii (0), ii (0), ii (0)] 76 :: cellsH b1 [arv, rsv] 32 :: L)
 refine cX (qs (args := [ptr b3 0, a1]) call217 rfl (full_spec k9 hs1 hb1 hbo ha1 hσ hρ9 (fun m hm _ => hk9 m hm) (fun i hi => by have := hglo i hi; omega) (by omega)) ?_)
 rintro v8 _ _ _ ⟨hs5, rfl, rfl⟩
 refine qh (v8) rfl (XL.freezeF [] _ _ rfl (fun F4 le4 hz2 => ?_))
 replace hb1 := hb1.mono le4
 replace ha1 := ha1.mono le4
 replace ha2 := ha2.mono le4
 have hf2 : IntsF F4 v8 ((fullX σ ((rs.getD o ([], [])).1))) := intsH.fz (xs := (fullX σ ((rs.getD o ([], [])).1))) hz2.fz
 have hfl15 : (fullX σ ((rs.getD o ([], [])).1)).length ≤ 60 := fullX_len
 skip
 refine qb (qc (qa (qf (ptr b3 0) rfl (qf (v7) rfl (cX (qo (0) qR rfl qq (by decide) rfl rfl (cX (qj qQ rfl (Rd.own [_, _, _, _] rfl rfl) (qf (ii (((endN ar ((rs.getD o ([], [])).1) p : Nat) : Int))) rfl (cX (XOp.sliceI (endN ar ((rs.getD o ([], [])).1) p) (((rs.getD o ([], [])).1).length) qd qm rfl ha1 ⟨_, rfl⟩ rfl (by omega) (by omega) ?_)))))))))))
 intro v9 hv5 hn5
 refine cX (XOp.appendI [_, _, _] _ qd typeInfo2 rfl rfl rfl rfl rfl rfl hv5 (by (try simp only [List.length_append, List.length_nil, List.length_cons, List.length_singleton, List.length_take, List.length_drop]); omega) ?_)
 intro v10 hs6 hn6 hm2
 refine XL.freezeF [_, _, _] _ _ rfl (fun F5 le5 hz3 => ?_)
 replace hb1 := hb1.mono le5
 replace ha2 := ha2.mono le5
 replace hf2 := hf2.mono le5
 have hf3 : IntsF F5 v10 (((((((rs.getD o ([], [])).1).drop 0).take (p - 0))) ++ ((awayL ((rs.getD u ([], [])).2)))) ++ (((((rs.getD o ([], [])).1).drop (endN ar ((rs.getD o ([], [])).1) p)).take ((((rs.getD o ([], [])).1).length) - (endN ar ((rs.getD o ([], [])).1) p))))) := intsH.fz (xs := ((((((rs.getD o ([], [])).1).drop 0).take (p - 0))) ++ ((awayL ((rs.getD u ([], [])).2)))) ++ (((((rs.getD o ([], [])).1).drop (endN ar ((rs.getD o ([], [])).1) p)).take ((((rs.getD o ([], [])).1).length) - (endN ar ((rs.getD o ([], [])).1) p))))) hz3.fz
 skip
 obtain ⟨ρ9, hρ9⟩ := hbo.acyc
 obtain ⟨k9, hk9⟩ := maxRank (((((((rs.getD o ([], [])).1).drop 0).take (p - 0))) ++ ((awayL ((rs.getD u ([], [])).2)))) ++ (((((rs.getD o ([], [])).1).drop (endN ar ((rs.getD o ([], [])).1) p)).take ((((rs.getD o ([], [])).1).length) - (endN ar ((rs.getD o ([], [])).1) p))))) ρ9
 have hLE9 : ((((((rs.getD o ([], [])).1).drop 0).take (p - 0))) ++ ((awayL ((rs.getD u ([], [])).2)))) ++ (((((rs.getD o ([], [])).1).drop (endN ar ((rs.getD o ([], [])).1) p)).take ((((rs.getD o ([], [])).1).length) - (endN ar ((rs.getD o ([], [])).1) p)))) = leftT ar rs o p u := left_eq
 refine qZ (qA (A := [_])) ?_
 show XL _ _ _ _ _ _ _ (slH 27 1 o1 48 bc1 :: cellsH b3 [o1] 234 :: slH 2 1 u1 0 [] :: cellsH b4 [a1, a2] 72 :: cellsH b2 [sN, sN, sN, ii (0), ii (0), ii (0)] 76 :: cellsH b1 [arv, rsv] 32 :: L)
 refine qZ (qA (A := [_])) ?_
 show XL _ _ _ _ _ _ _ (cellsH b3 [o1] 234 :: slH 27 1 o1 48 bc1 :: slH 2 1 u1 0 [] :: cellsH b4 [a1, a2] 72 :: cellsH b2 [sN, sN, sN, ii (0), ii (0), ii (0)] 76 :: cellsH b1 [arv, rsv] 32 :: L)
 refine cX (qs (args := [ptr b3 0, v10]) call217 rfl (full_spec k9 hs1 hb1 hbo hf3 hσ hρ9 (fun m hm _ => hk9 m hm) (by rw [hLE9]; exact hLg) (by rw [hLE9]; exact hLl)) ?_)
 rintro v11 _ _ _ ⟨hs7, rfl, rfl⟩
 refine qh (v11) rfl (XL.freezeF [] _ _ rfl (fun F6 le6 hz4 => ?_))
 replace hb1 := hb1.mono le6
 replace ha2 := ha2.mono le6
 replace hf2 := hf2.mono le6
 have hf4 : IntsF F6 v11 ((fullX σ (((((((rs.getD o ([], [])).1).drop 0).take (p - 0))) ++ ((awayL ((rs.getD u ([], [])).2)))) ++ (((((rs.getD o ([], [])).1).drop (endN ar ((rs.getD o ([], [])).1) p)).take ((((rs.getD o ([], [])).1).length) - (endN ar ((rs.getD o ([], [])).1) p))))))) := intsH.fz (xs := (fullX σ (((((((rs.getD o ([], [])).1).drop 0).take (p - 0))) ++ ((awayL ((rs.getD u ([], [])).2)))) ++ (((((rs.getD o ([], [])).1).drop (endN ar ((rs.getD o ([], [])).1) p)).take ((((rs.getD o ([], [])).1).length) - (endN ar ((rs.getD o ([], [])).1) p))))))) hz4.fz
 rw [hLE9] at hf4
 have hfl16 : (fullX σ (leftT ar rs o p u)).length ≤ 60 := fullX_len
 skip
 refine qb (qc (qa (qf (ptr b3 0) rfl (cX (qo (1) qR rfl qq (by decide) rfl rfl (cX (qj qQ rfl (Rd.own [_, _, _] rfl rfl) ?_)))))))
 obtain ⟨ρ9, hρ9⟩ := hbo.acyc
 obtain ⟨k9, hk9⟩ := maxRank ((rs.getD o ([], [])).2) ρ9
 refine qZ (qA (A := [_])) ?_
 show XL _ _ _ _ _ _ _ (slH 27 1 o1 48 bc1 :: cellsH b3 [o1] 234 :: slH 2 1 u1 0 [] :: cellsH b4 [a1, a2] 72 :: cellsH b2 [sN, sN, sN, ii (0), ii (0), ii (0)] 76 :: cellsH b1 [arv, rsv] 32 :: L)
 refine qZ (qA (A := [_])) ?_
 show XL _ _ _ _ _ _ _ (cellsH b3 [o1] 234 :: slH 27 1 o1 48 bc1 :: slH 2 1 u1 0 [] :: cellsH b4 [a1, a2] 72 :: cellsH b2 [sN, sN, sN, ii (0), ii (0), ii (0)] 76 :: cellsH b1 [arv, rsv] 32 :: L)
 refine cX (qs (args := [ptr b3 0, a2]) call217 rfl (full_spec k9 hs1 hb1 hbo ha2 hσ hρ9 (fun m hm _ => hk9 m hm) (fun i hi => by have := hgro i hi; omega) (by omega)) ?_)
 rintro v12 _ _ _ ⟨hs8, rfl, rfl⟩
 refine qh (v12) rfl (XL.freezeF [] _ _ rfl (fun F7 le7 hz5 => ?_))
 replace hf2 := hf2.mono le7
 replace hf4 := hf4.mono le7
 have hf5 : IntsF F7 v12 ((fullX σ ((rs.getD o ([], [])).2))) := intsH.fz (xs := (fullX σ ((rs.getD o ([], [])).2))) hz5.fz
 have hfl17 : (fullX σ ((rs.getD o ([], [])).2)).length ≤ 60 := fullX_len
 skip
 refine qb (qc (qa (qf (v8) rfl (cX (jD <| qs (args := [v8]) call147 rfl (l2OrderL_spec hf2 (hlt := (by omega))) ?_)))))
 rintro v13 _ _ _ ⟨rfl, hs9, rfl⟩
 refine ⟨_, _, rfl, fun F8 le8 hz6 => ?_⟩
 replace hf2 := hf2.mono le8
 replace hf4 := hf4.mono le8
 replace hf5 := hf5.mono le8
 have hf6 : IntsF F8 v13 ((orderL ((fullX σ ((rs.getD o ([], [])).1))))) := intsH.fz (xs := (orderL ((fullX σ ((rs.getD o ([], [])).1))))) hz6.fz
 refine qh (v13) rfl ?_
 have hol18 := ord_len (t := (fullX σ ((rs.getD o ([], [])).1)))
 skip
 refine qb (qc (qc (qa (qf (v8) rfl (cX (qD qd rfl hf2.slv (cX (jH rfl rfl (qf (.bool (decide ((((((fullX σ ((rs.getD o ([], [])).1))).length : Nat) : Int) : Int) = 0))) rfl ?_)))))))))
 by_cases h1 : (((((fullX σ ((rs.getD o ([], [])).1))).length : Nat) : Int) : Int) = 0
 ·have hnil : fullX σ (Lr rs o) = [] ∨ fullX σ (leftT ar rs o p u) = [] ∨ fullX σ (Rr rs o) = [] := .inl (List.eq_nil_of_length_eq_zero (show ((fullX σ ((rs.getD o ([], [])).1))).length = 0 from by omega))
  refine qp (t := 73) rfl (vT h1) (qp (t := 73) rfl (vT h1) (qp (t := 73) rfl (vT h1) (cX (qS (.bool (true)) (vT h1) rfl (qf (.bool (true)) rfl (qp (t := 78) rfl rfl (qp (t := 78) rfl rfl (qp (t := 78) rfl rfl (cX (qS (.bool (true)) rfl rfl (qf (.bool (true)) rfl ?_)))))))))))
  refine qp (t := 83) rfl rfl (qp (t := 83) rfl rfl (qp (t := 83) rfl rfl (cX (qS (.bool (true)) rfl rfl (qb (jw rfl (qc (qa (cX (jq [sN, sN, sN, ii (0), ii (0), ii (0)] [sN, sN, sN, ii (0), ii (0), ii (0)] [(0, 1), (1, 1), (2, 1), (3, 1), (4, 1), (5, 1)] [] jo jp rfl (.cons rfl qq (.cons rfl qq (.cons rfl qq (.cons rfl qm (.cons rfl qm (.cons rfl qm PlacesAre.nil)))))) rfl CellsAre.nil (cX (jk [_, _, _, _] _ [sN, sN, sN, ii (0), ii (0), ii (0)] ji rfl rfl rfl (qv rfl (qv rfl (qv rfl (qv rfl (qv rfl (qv rfl jl)))))) rfl rfl rfl (qh (.bool (false)) rfl ?_)))))))))))))
  refine qb (qz (ql (qu (L' := L) [.agg #[sN, sN, sN, ii (0), ii (0), ii (0)], .bool (false)] (.tuple #[.agg #[sN, sN, sN, ii (0), ii (0), ii (0)], .bool (false)]) (.cell rfl (loadNV [sN, sN, sN, ii (0), ii (0), ii (0)] isAgg76 ji rfl (Rd.ownN [_, _, _, _] rfl rfl)) (.tmp rfl .nil)) rfl (qn (qn (qn (qn (qn (qn (qn le1 le2) le3) le4) le5) le6) le7) le8) rF (sD (sD (sD (sD (sD (sD sR)))))) ?_)))
  have e : pkF ar rs o p u = none := by first | exact pk_nil hsys ho hu hmt hmg hσ hnil | exact pk_order hsys ho hu hmt hmg hσ h24
  exact ⟨_, _, _, by rw [e]; rfl, by rw [e]; exact IntsF.nilV, by rw [e]; exact IntsF.nilV, by rw [e]; exact IntsF.nilV, rfl⟩
 have eL : fullX σ (rs.getD o ([], [])).1 = ap σ (rs.getD o ([], [])).1 := fullX_yes (fun e => by (have e9 : ((fullX σ ((rs.getD o ([], [])).1))).length = 0 := (congrArg List.length e :)); omega)
 have lL : (ap σ (rs.getD o ([], [])).1).length ≤ 60 := by rw [← eL]; exact fullX_len
 refine qr (t := 73) rfl (vF h1) (qi (v11) rfl (qr (t := 73) rfl (vF h1) (qD qd rfl hf4.slv (qr (t := 73) rfl (vF h1) (jH rfl rfl (cX (qT (.bool (decide ((((((fullX σ (leftT ar rs o p u))).length : Nat) : Int) : Int) = 0))) (vF h1) rfl (qf (.bool (decide ((((((fullX σ (leftT ar rs o p u))).length : Nat) : Int) : Int) = 0))) rfl ?_))))))))
 by_cases h2 : (((((fullX σ (leftT ar rs o p u))).length : Nat) : Int) : Int) = 0
 ·have hnil : fullX σ (Lr rs o) = [] ∨ fullX σ (leftT ar rs o p u) = [] ∨ fullX σ (Rr rs o) = [] := .inr <| .inl (List.eq_nil_of_length_eq_zero (show ((fullX σ (leftT ar rs o p u))).length = 0 from by omega))
  refine qp (t := 78) rfl (vT h2) (qp (t := 78) rfl (vT h2) (qp (t := 78) rfl (vT h2) (cX (qS (.bool (true)) (vT h2) rfl (qf (.bool (true)) rfl (qp (t := 83) rfl rfl (qp (t := 83) rfl rfl (qp (t := 83) rfl rfl (cX (qS (.bool (true)) rfl rfl (qb ?_)))))))))))
  refine jw rfl (qc (qa (cX (jq [sN, sN, sN, ii (0), ii (0), ii (0)] [sN, sN, sN, ii (0), ii (0), ii (0)] [(0, 1), (1, 1), (2, 1), (3, 1), (4, 1), (5, 1)] [] jo jp rfl (.cons rfl qq (.cons rfl qq (.cons rfl qq (.cons rfl qm (.cons rfl qm (.cons rfl qm PlacesAre.nil)))))) rfl CellsAre.nil (cX (jk [_, _, _, _] _ [sN, sN, sN, ii (0), ii (0), ii (0)] ji rfl rfl rfl (qv rfl (qv rfl (qv rfl (qv rfl (qv rfl (qv rfl jl)))))) rfl rfl rfl (qh (.bool (false)) rfl (qb (qz (ql (qu (L' := L) [.agg #[sN, sN, sN, ii (0), ii (0), ii (0)], .bool (false)] (.tuple #[.agg #[sN, sN, sN, ii (0), ii (0), ii (0)], .bool (false)]) (.cell rfl (loadNV [sN, sN, sN, ii (0), ii (0), ii (0)] isAgg76 ji rfl (Rd.ownN [_, _, _, _] rfl rfl)) (.tmp rfl .nil)) rfl (qn (qn (qn (qn (qn (qn (qn le1 le2) le3) le4) le5) le6) le7) le8) rF (sD (sD (sD (sD (sD (sD sR)))))) ?_)))))))))))
  have e : pkF ar rs o p u = none := by first | exact pk_nil hsys ho hu hmt hmg hσ hnil | exact pk_order hsys ho hu hmt hmg hσ h24
  exact ⟨_, _, _, by rw [e]; rfl, by rw [e]; exact IntsF.nilV, by rw [e]; exact IntsF.nilV, by rw [e]; exact IntsF.nilV, rfl⟩
 have eM : fullX σ (leftT ar rs o p u) = ap σ (leftT ar rs o p u) := fullX_yes (fun e => by (have e9 : ((fullX σ (leftT ar rs o p u))).length = 0 := (congrArg List.length e :)); omega)
 have lM : (ap σ (leftT ar rs o p u)).length ≤ 60 := by rw [← eM]; exact fullX_len
 refine qr (t := 78) rfl (vF h2) (qi (v12) rfl (qr (t := 78) rfl (vF h2) (qD qd rfl hf5.slv (qr (t := 78) rfl (vF h2) (jH rfl rfl (cX (qT (.bool (decide ((((((fullX σ ((rs.getD o ([], [])).2))).length : Nat) : Int) : Int) = 0))) (vF h2) rfl (qf (.bool (decide ((((((fullX σ ((rs.getD o ([], [])).2))).length : Nat) : Int) : Int) = 0))) rfl ?_))))))))
 by_cases h3 : (((((fullX σ ((rs.getD o ([], [])).2))).length : Nat) : Int) : Int) = 0
 ·have hnil : fullX σ (Lr rs o) = [] ∨ fullX σ (leftT ar rs o p u) = [] ∨ fullX σ (Rr rs o) = [] := .inr <| .inr (List.eq_nil_of_length_eq_zero (show ((fullX σ ((rs.getD o ([], [])).2))).length = 0 from by omega))
  refine qp (t := 83) rfl (vT h3) (qp (t := 83) rfl (vT h3) (qp (t := 83) rfl (vT h3) (cX (qS (.bool (true)) (vT h3) rfl (qb (jw rfl (qc (qa (cX (jq [sN, sN, sN, ii (0), ii (0), ii (0)] [sN, sN, sN, ii (0), ii (0), ii (0)] [(0, 1), (1, 1), (2, 1), (3, 1), (4, 1), (5, 1)] [] jo jp rfl (.cons rfl qq (.cons rfl qq (.cons rfl qq (.cons rfl qm (.cons rfl qm (.cons rfl qm PlacesAre.nil)))))) rfl CellsAre.nil (cX (jk [_, _, _, _] _ [sN, sN, sN, ii (0), ii (0), ii (0)] ji rfl rfl rfl (qv rfl (qv rfl (qv rfl (qv rfl (qv rfl (qv rfl jl)))))) rfl rfl rfl (qh (.bool (false)) rfl ?_)))))))))))))
  refine qb (qz (ql (qu (L' := L) [.agg #[sN, sN, sN, ii (0), ii (0), ii (0)], .bool (false)] (.tuple #[.agg #[sN, sN, sN, ii (0), ii (0), ii (0)], .bool (false)]) (.cell rfl (loadNV [sN, sN, sN, ii (0), ii (0), ii (0)] isAgg76 ji rfl (Rd.ownN [_, _, _, _] rfl rfl)) (.tmp rfl .nil)) rfl (qn (qn (qn (qn (qn (qn (qn le1 le2) le3) le4) le5) le6) le7) le8) rF (sD (sD (sD (sD (sD (sD sR)))))) ?_)))
  have e : pkF ar rs o p u = none := by first | exact pk_nil hsys ho hu hmt hmg hσ hnil | exact pk_order hsys ho hu hmt hmg hσ h24
  exact ⟨_, _, _, by rw [e]; rfl, by rw [e]; exact IntsF.nilV, by rw [e]; exact IntsF.nilV, by rw [e]; exact IntsF.nilV, rfl⟩
 have eR : fullX σ (rs.getD o ([], [])).2 = ap σ (rs.getD o ([], [])).2 := fullX_yes (fun e => by (have e9 : ((fullX σ ((rs.getD o ([], [])).2))).length = 0 := (congrArg List.length e :)); omega)
 have lR : (ap σ (rs.getD o ([], [])).2).length ≤ 60 := by rw [← eR]; exact fullX_len
 refine qr (t := 83) rfl (vF h3) (qi (v13) rfl (qr (t := 83) rfl (vF h3) (qD qd rfl hf6.slv (qr (t := 83) rfl (vF h3) (jM rfl rfl (cX (qT (.bool (decide ((((((orderL ((fullX σ ((rs.getD o ([], [])).1))))).length : Nat) : Int) : Int) > 24))) (vF h3) rfl (qb ?_))))))))
 refine qx (p := (((((orderL ((fullX σ ((rs.getD o ([], [])).1))))).length : Nat) : Int) : Int) > 24) rfl (fun h4 => ?_) (fun h4 => ?_)
 ·have h24 : 24 < (orderL (ap σ (rs.getD o ([], [])).1)).length := by rw [← eL]; omega
  refine qc (qa (cX (jq [sN, sN, sN, ii (0), ii (0), ii (0)] [sN, sN, sN, ii (0), ii (0), ii (0)] [(0, 1), (1, 1), (2, 1), (3, 1), (4, 1), (5, 1)] [] jo jp rfl (.cons rfl qq (.cons rfl qq (.cons rfl qq (.cons rfl qm (.cons rfl qm (.cons rfl qm PlacesAre.nil)))))) rfl CellsAre.nil (cX (jk [_, _, _, _] _ [sN, sN, sN, ii (0), ii (0), ii (0)] ji rfl rfl rfl (qv rfl (qv rfl (qv rfl (qv rfl (qv rfl (qv rfl jl)))))) rfl rfl rfl (qh (.bool (false)) rfl (qb (qz (ql (qu (L' := L) [.agg #[sN, sN, sN, ii (0), ii (0), ii (0)], .bool (false)] (.tuple #[.agg #[sN, sN, sN, ii (0), ii (0), ii (0)], .bool (false)]) (.cell rfl (loadNV [sN, sN, sN, ii (0), ii (0), ii (0)] isAgg76 ji rfl (Rd.ownN [_, _, _, _] rfl rfl)) (.tmp rfl .nil)) rfl (qn (qn (qn (qn (qn (qn (qn le1 le2) le3) le4) le5) le6) le7) le8) rF (sD (sD (sD (sD (sD (sD sR)))))) ?_))))))))))
  have e : pkF ar rs o p u = none := by first | exact pk_nil hsys ho hu hmt hmg hσ hnil | exact pk_order hsys ho hu hmt hmg hσ h24
  exact ⟨_, _, _, by rw [e]; rfl, by rw [e]; exact IntsF.nilV, by rw [e]; exact IntsF.nilV, by rw [e]; exact IntsF.nilV, rfl⟩
 have h24 : (orderL (ap σ (rs.getD o ([], [])).1)).length ≤ 24 := by rw [← eL]; omega
 refine qw (qc (qa (qf (v13) rfl (qf (v8) rfl (cX (jD <| qs (args := [v13, v8]) call146 rfl (l2ByL_spec hf6 hf2 (hno := (ord_nodup)) (hlo := (by omega)) (hlt := (by first | omega | (have := fullX_len (σ := σ) (t := (rs.getD o ([], [])).1); omega)))) ?_))))))
 rintro v14 _ _ _ ⟨rfl, hs10, rfl⟩
 refine ⟨_, _, rfl, fun F9 le9 hz7 => ?_⟩
 replace hf4 := hf4.mono le9
 replace hf5 := hf5.mono le9
 replace hf6 := hf6.mono le9
 have hf7 : IntsF F9 v14 ((byL ((orderL ((fullX σ ((rs.getD o ([], [])).1))))) ((fullX σ ((rs.getD o ([], [])).1))))) := intsH.fz (xs := (byL ((orderL ((fullX σ ((rs.getD o ([], [])).1))))) ((fullX σ ((rs.getD o ([], [])).1))))) hz7.fz
 skip
 refine qf (v13) rfl (qf (v11) rfl (cX (jD <| qs (args := [v13, v11]) call146 rfl (l2ByL_spec hf6 hf4 (hno := (ord_nodup)) (hlo := (by omega)) (hlt := (by first | omega | (have := fullX_len (σ := σ) (t := (rs.getD o ([], [])).1); omega)))) ?_)))
 rintro v15 _ _ _ ⟨rfl, hs11, rfl⟩
 refine ⟨_, _, rfl, fun F10 le10 hz8 => ?_⟩
 replace hf5 := hf5.mono le10
 replace hf6 := hf6.mono le10
 replace hf7 := hf7.mono le10
 have hf8 : IntsF F10 v15 ((byL ((orderL ((fullX σ ((rs.getD o ([], [])).1))))) ((fullX σ (leftT ar rs o p u))))) := intsH.fz (xs := (byL ((orderL ((fullX σ ((rs.getD o ([], [])).1))))) ((fullX σ (leftT ar rs o p u))))) hz8.fz
 skip
 refine qf (v13) rfl (qf (v12) rfl (cX (jD <| qs (args := [v13, v12]) call146 rfl (l2ByL_spec hf6 hf5 (hno := (ord_nodup)) (hlo := (by omega)) (hlt := (by first | omega | (have := fullX_len (σ := σ) (t := (rs.getD o ([], [])).1); omega)))) ?_)))
 rintro v16 _ _ _ ⟨rfl, hs12, rfl⟩
 refine ⟨_, _, rfl, fun F11 le11 hz9 => ?_⟩
 replace hf7 := hf7.mono le11
 replace hf8 := hf8.mono le11
 have hf9 : IntsF F11 v16 ((byL ((orderL ((fullX σ ((rs.getD o ([], [])).1))))) ((fullX σ ((rs.getD o ([], [])).2))))) := intsH.fz (xs := (byL ((orderL ((fullX σ ((rs.getD o ([], [])).1))))) ((fullX σ ((rs.getD o ([], [])).2))))) hz9.fz
 skip
 refine qf (ii ((p : Int))) rfl (qf (ii ((u : Int))) rfl (qf (ii ((o : Int))) rfl (cX (jq [v14, v15, v16, ii ((p : Int)), ii ((u : Int)), ii ((o : Int))] [sN, sN, sN, ii (0), ii (0), ii (0)] [(0, 1), (1, 1), (2, 1), (3, 1), (4, 1), (5, 1)] [(0, [v14]), (1, [v15]), (2, [v16]), (3, [ii ((p : Int))]), (4, [ii ((u : Int))]), (5, [ii ((o : Int))])] jo jp rfl (.cons rfl qq (.cons rfl qq (.cons rfl qq (.cons rfl qm (.cons rfl qm (.cons rfl qm PlacesAre.nil)))))) rfl (.cons (cells_one (qE hf7)) (.cons (cells_one (qE hf8)) (.cons (cells_one (qE hf9)) (.cons rfl (.cons rfl (.cons rfl CellsAre.nil)))))) (cX (jk [_, _, _, _] _ [v14, v15, v16, ii ((p : Int)), ii ((u : Int)), ii ((o : Int))] ji rfl rfl rfl (qv (je (qE hf7)) (qv (je (qE hf8)) (qv (je (qE hf9)) (qv rfl (qv rfl (qv rfl jl)))))) rfl rfl rfl (qh (.bool (true)) rfl (qb (qz (qu (L' := L) [.agg #[v14, v15, v16, ii ((p : Int)), ii ((u : Int)), ii ((o : Int))], .bool (true)] (.tuple #[.agg #[v14, v15, v16, ii ((p : Int)), ii ((u : Int)), ii ((o : Int))], .bool (true)]) (.cell rfl (loadNV [v14, v15, v16, ii ((p : Int)), ii ((u : Int)), ii ((o : Int))] isAgg76 ji rfl (Rd.ownN [_, _, _, _] rfl rfl)) (.tmp rfl .nil)) rfl (qn (qn (qn (qn (qn (qn (qn (qn (qn (qn le1 le2) le3) le4) le5) le6) le7) le8) le9) le10) le11) rF (sD (sD (sD (sD (sD (sD sR)))))) ?_))))))))))
 have e := pk_yes hsys ho hu hmt hmg hσ lL lM lR h24
 rw [← eL, ← eM, ← eR] at e
 exact ⟨_, _, _, by rw [e]; rfl, by rw [e]; exact hf7, by rw [e]; exact hf8, by rw [e]; exact hf9, rfl⟩
end Go.Proofs.Ytcdjpapjjoldeaa
set_option linter.unusedSimpArgs false
set_option linter.unusedVariables false
namespace Go.Proofs.Ytcdjpapjjoldeaa
open Go X M Try

/- spec.l11All -/
set_option maxHeartbeats 2000000 in
set_option maxRecDepth 20000 in
theorem all2_spec {F : FH} {L : List HP} {arv : Value} {ar : List Int} (har : IntsF F arv ar) {rsv : Value} {rs : List (List Int × List Int)} (hrs : PairsF F rsv rs) (hsys : sysOk ar rs = true) :
    Does prog 96 [.agg #[arv, rsv]] F (L) (fun v F' L' => ∃ (a : Value), (.tuple #[a, .bool ((peaksF ar rs).isSome)] : Value) = v ∧ (PeaksF F' a ((peaksF ar rs).getD [])) ∧ L = L') := by
 refine qI func96 rfl rfl rfl ?_
 have hrl := (sysOk_iff.1 hsys).2.1
 refine qc (qa (cX (ja [arv, rsv] rfl rfl ?_)))
 intro b1
 refine qh (sN) rfl (qh (.bool (false)) rfl (qb (qc (qa (cX (qU (s := 6) [] [sN, sN, sN, ii (0), ii (0), ii (0)] [] jz ji jp rfl (by decide) rfl CellsAre.nil rfl ?_))))))
 intro v1 hv1
 refine qh (v1) rfl (qb (qc (qa (cX (qo (1) qP rfl jv (by decide) rfl rfl (cX (qj jG rfl (Rd.own [_] rfl rfl) (cX (qD qW rfl hrs.slv (qh (ii ((rs.length : Int))) rfl (qb (qc (qc (qa (qh (ii (0)) rfl (qb (qF ?_)))))))))))))))))
 have hc1 : PeaksC F [] ([] : List PeakT) := (CO.nil : PeaksC F [] [])
 refine jg (α := Nat × Value × List PkT × List Value × Nat × FH) (fun xQ => [(1, ptr b1 0), (4, xQ.2.1), (5, ii ((rs.length : Int))), (6, ii (((xQ.1 : Nat) : Int)))]) (fun xQ => slH 76 6 xQ.2.1 xQ.2.2.2.2.1 xQ.2.2.2.1 :: cellsH b1 [arv, rsv] 32 :: L) (fun xQ F' => xQ.2.2.2.2.2 = F' ∧ F ≤ xQ.2.2.2.2.2 ∧ (IsSl xQ.2.1) ∧ (PeaksC xQ.2.2.2.2.2 xQ.2.2.2.1 xQ.2.2.1) ∧ (xQ.2.2.2.2.1 = xQ.2.2.1.length) ∧ (xQ.1 ≤ rs.length) ∧ (PkI ar rs (mO ar rs xQ.1) xQ.2.2.1)) (fun xQ => rs.length - xQ.1) (0, v1, [], [], 0, F) ⟨rfl, rfl, rfl, rfl, ⟨⟩⟩ (sC (sC sR)) ⟨rfl, FLe.refl _, ((isSl_lit hv1)), (hc1), (rfl), (by (try dsimp only) <;> omega), (PkI.start)⟩ ?_
 rintro ⟨o, ova, osa, csa, ma, G1⟩ rE _ _ ⟨rfl, leG, hova, hCa, hma, hbo, hIa⟩
 show X _ _ _ _ (envs [(1, ptr b1 0), (4, ova), (5, ii ((rs.length : Int))), (6, ii ((o : Int)))] rE) _ (slH 76 6 ova ma csa :: cellsH b1 [arv, rsv] 32 :: L)
 replace leG : F ≤ G1 := leG
 dsimp only at hova hCa hma hbo hIa
 have hlna := hIa.len
 have leG1 := leG
 replace har := har.mono leG1
 replace hrs := hrs.mono leG1
 refine qc (qc (qa (qf (ii ((o : Int))) rfl (qf (ii ((rs.length : Int))) rfl (cX (qG rfl rfl (qb ?_)))))))
 refine qx (p := (o : Int) < (rs.length : Int)) rfl (fun h1 => ?_) (fun h1 => ?_)
 ·refine qw (qc (qF (qc (qa (qh (ii (0)) rfl (qb (qF (jg (α := Nat × Value × List PkT × List Value × Nat × FH) (fun xQ => [(1, ptr b1 0), (4, xQ.2.1), (5, ii ((rs.length : Int))), (6, ii ((o : Int))), (7, ii (((xQ.1 : Nat) : Int)))]) (fun xQ => slH 76 6 xQ.2.1 xQ.2.2.2.2.1 xQ.2.2.2.1 :: cellsH b1 [arv, rsv] 32 :: L) (fun xQ F' => xQ.2.2.2.2.2 = F' ∧ G1 ≤ xQ.2.2.2.2.2 ∧ (IsSl xQ.2.1) ∧ (PeaksC xQ.2.2.2.2.2 xQ.2.2.2.1 xQ.2.2.1) ∧ (xQ.2.2.2.2.1 = xQ.2.2.1.length) ∧ (xQ.1 ≤ (rs.getD o ([], [])).1.length) ∧ (PkI ar rs (mO ar rs o ++ mP ar rs o xQ.1) xQ.2.2.1)) (fun xQ => (rs.getD o ([], [])).1.length - xQ.1) (0, ova, osa, csa, ma, G1) ⟨rfl, rfl, rfl, rfl, rfl, ⟨⟩⟩ (sC (sC sR)) ⟨rfl, FLe.refl _, (hova), (hCa), (by (try dsimp only); omega), (by (try dsimp only) <;> omega), (by (try dsimp only); simpa only [mP, List.append_nil] using hIa)⟩ ?_))))))))
  rintro ⟨p, ovb, osb, csb, mb, G2⟩ rE _ _ ⟨rfl, leG, hovb, hCb, hmb, hbp, hIb⟩
  show X _ _ _ _ (envs [(1, ptr b1 0), (4, ovb), (5, ii ((rs.length : Int))), (6, ii ((o : Int))), (7, ii ((p : Int)))] rE) _ (slH 76 6 ovb mb csb :: cellsH b1 [arv, rsv] 32 :: L)
  replace leG : G1 ≤ G2 := leG
  dsimp only at hovb hCb hmb hbp hIb
  have hlnb := hIb.len
  have hlo9 : 1 ≤ (rs.getD o ([], [])).1.length ∧ (rs.getD o ([], [])).1.length ≤ 60 := termOk_len (rule_L hsys (show o < rs.length by omega))
  have leG2 := leG
  replace har := har.mono leG2
  replace hrs := hrs.mono leG2
  replace hCa := hCa.mono leG2
  refine qc (qc (qa (qf (ii ((p : Int))) rfl (cX (qo (1) qP rfl jv (by decide) rfl rfl (cX (qj jG rfl (Rd.own [_] rfl rfl) (qf (ii ((o : Int))) rfl (cX (qk o qW jj rfl rfl rfl hrs.slv (by omega) rfl (cX (XOp.fieldE (o * 2) qR rfl qq (by decide) rfl rfl ?_))))))))))))
  obtain ⟨a1, a2, ha1, ha2, hr1, hr2⟩ := hrs.rd (i := o) (by omega)
  refine cX (qj qQ rfl (hr1 _) (cX (qD qd rfl ha1.slv (cX (qG rfl rfl (qb ?_))))))
  refine qx (p := (p : Int) < ((((rs.getD o ([], [])).1).length : Nat) : Int)) rfl (fun h2 => ?_) (fun h2 => ?_)
  ·refine qw (qc (qF (qc (qa (qh (ii (0)) rfl (qb (qF (jg (α := Nat × Value × List PkT × List Value × Nat × FH) (fun xQ => [(1, ptr b1 0), (4, xQ.2.1), (5, ii ((rs.length : Int))), (6, ii ((o : Int))), (7, ii ((p : Int))), (8, ii (((xQ.1 : Nat) : Int)))]) (fun xQ => slH 76 6 xQ.2.1 xQ.2.2.2.2.1 xQ.2.2.2.1 :: cellsH b1 [arv, rsv] 32 :: L) (fun xQ F' => xQ.2.2.2.2.2 = F' ∧ G2 ≤ xQ.2.2.2.2.2 ∧ (IsSl xQ.2.1) ∧ (PeaksC xQ.2.2.2.2.2 xQ.2.2.2.1 xQ.2.2.1) ∧ (xQ.2.2.2.2.1 = xQ.2.2.1.length) ∧ (xQ.1 ≤ rs.length) ∧ (PkI ar rs (mO ar rs o ++ mP ar rs o p ++ mU ar rs o p xQ.1) xQ.2.2.1)) (fun xQ => rs.length - xQ.1) (0, ovb, osb, csb, mb, G2) ⟨rfl, rfl, rfl, rfl, rfl, rfl, ⟨⟩⟩ (sC (sC sR)) ⟨rfl, FLe.refl _, (hovb), (hCb), (by (try dsimp only); omega), (by (try dsimp only) <;> omega), (by (try dsimp only); simpa only [mU, List.append_nil] using hIb)⟩ ?_))))))))
   rintro ⟨u, ovc, osc, csc, mc, G3⟩ rE _ _ ⟨rfl, leG, hovc, hCc, hmc, hbu, hIc⟩
   show X _ _ _ _ (envs [(1, ptr b1 0), (4, ovc), (5, ii ((rs.length : Int))), (6, ii ((o : Int))), (7, ii ((p : Int))), (8, ii ((u : Int)))] rE) _ (slH 76 6 ovc mc csc :: cellsH b1 [arv, rsv] 32 :: L)
   replace leG : G2 ≤ G3 := leG
   dsimp only at hovc hCc hmc hbu hIc
   have hlnc := hIc.len
   have leG3 := leG
   replace har := har.mono leG3
   replace hrs := hrs.mono leG3
   replace hCa := hCa.mono leG3
   replace hCb := hCb.mono leG3
   refine qc (qc (qa (qf (ii ((u : Int))) rfl (qf (ii ((rs.length : Int))) rfl (cX (qG rfl rfl (qb ?_)))))))
   refine qx (p := (u : Int) < (rs.length : Int)) rfl (fun h3 => ?_) (fun h3 => ?_)
   ·refine qw (qc (qF (qc (qc (qa (cX (qB [arv, rsv] jJ jC rfl rfl (Rd.ownN [_] rfl rfl) (qf (ii ((o : Int))) rfl (qf (ii ((p : Int))) rfl (qf (ii ((u : Int))) rfl (cX (qs (args := [.agg #[arv, rsv], ii (o : Int), ii (p : Int), ii (u : Int)]) call168 rfl (meets2_spec (o := o) (p := p) (u := u) har hrs (hsys := (hsys)) (ho := (by omega)) (hu := (by omega)) (hp := (by omega))) ?_))))))))))))
    rintro _ F1 _ le1 ⟨rfl, rfl⟩
    replace har := har.mono le1
    replace hrs := hrs.mono le1
    replace hCa := hCa.mono le1
    replace hCb := hCb.mono le1
    replace hCc := hCc.mono le1
    refine cX (jK rfl (qb ?_))
    refine qx (p := ¬(0 ≤ (rs.getD o ([], [])).1.getD p 0 ∧ meetB ar rs o p u = true)) rfl (fun h4 => ?_) (fun h4 => ?_)
    ·have hmt : ¬ (0 ≤ (rs.getD o ([], [])).1.getD p 0 ∧ meetB ar rs o p u = true) := h4
     refine jc (qt (qL (qa (qf (ii ((u : Int))) rfl (cX (qM (((u + 1 : Nat) : Int)) rfl rfl (by omega) (by omega) (qh (ii (((u + 1 : Nat) : Int))) rfl (qb ?_))))))))
     exact ⟨(u + 1, ovc, osc, csc, mc, F1), _, (qn leG3 le1), rF, ⟨rfl, rfl, rfl, rfl, rfl, rfl, ⟨⟩⟩, (sC (sC sR)), ⟨rfl, (qn leG3 le1), (hovc), (hCc), (by (try dsimp only); (try rw [List.length_append, List.length_singleton]); omega), (by (try dsimp only) <;> omega), (by (try dsimp only); first | (rw [mU_no hmt]; exact hIc) | (have h9 := hIc.next hpk hpl; rw [mU_yes hmt.1 hmt.2, ← List.append_assoc]; exact h9))⟩, (by omega)⟩
    have hmt : 0 ≤ (rs.getD o ([], [])).1.getD p 0 ∧ meetB ar rs o p u = true := (Classical.not_not.1 h4)
    refine qw (qc (qa (cX (qB [arv, rsv] jJ jC rfl rfl (Rd.ownN [_] rfl rfl) (qf (ii ((o : Int))) rfl (qf (ii ((p : Int))) rfl (qf (ii ((u : Int))) rfl (cX (qs (args := [.agg #[arv, rsv], ii (o : Int), ii (p : Int), ii (u : Int)]) call169 rfl (peak2_spec (o := o) (p := p) (u := u) har hrs (hsys := (hsys)) (ho := (by omega)) (hu := (by omega)) (hp := (by omega)) (hmt := (hmt.2))) ?_)))))))))
    rintro _ F2 _ le2 ⟨x1, x2, x3, rfl, hr3, hr4, hr5, rfl⟩
    replace hCa := hCa.mono le2
    replace hCb := hCb.mono le2
    replace hCc := hCc.mono le2
    refine qf (.tuple #[.agg #[x1, x2, x3, ii (((pkF ar rs o p u).getD P0).2.2.2.1), ii (((pkF ar rs o p u).getD P0).2.2.2.2.1), ii (((pkF ar rs o p u).getD P0).2.2.2.2.2)], .bool ((pkF ar rs o p u).isSome)]) rfl (cX (qY (.agg #[x1, x2, x3, ii (((pkF ar rs o p u).getD P0).2.2.2.1), ii (((pkF ar rs o p u).getD P0).2.2.2.2.1), ii (((pkF ar rs o p u).getD P0).2.2.2.2.2)]) rfl rfl (cX (qY (.bool ((pkF ar rs o p u).isSome)) rfl rfl (cX (jB [sN, sN, sN, ii (0), ii (0), ii (0)] jp rfl ?_))))))
    intro b2
    refine cX (jk [] _ [x1, x2, x3, ii (((pkF ar rs o p u).getD P0).2.2.2.1), ii (((pkF ar rs o p u).getD P0).2.2.2.2.1), ii (((pkF ar rs o p u).getD P0).2.2.2.2.2)] ji rfl rfl rfl (qv (je (qE hr3)) (qv (je (qE hr4)) (qv (je (qE hr5)) (qv rfl (qv rfl (qv rfl jl)))))) rfl rfl rfl (qh (.bool ((pkF ar rs o p u).isSome)) rfl (qb (qc (qc (qa (qf (.bool ((pkF ar rs o p u).isSome)) rfl (cX (jr rfl (qf (.bool (!((pkF ar rs o p u).isSome))) rfl ?_))))))))))
    by_cases h5 : (!((pkF ar rs o p u).isSome)) = true
    ·have hpk : (pkF ar rs o p u).isSome = false := Bool.not_inj (y := false) h5
     refine qp (t := 52) rfl (vB h5) (qp (t := 52) rfl (vB h5) (qp (t := 52) rfl (vB h5) (cX (qS (.bool (true)) (vB h5) rfl (qb (jw rfl (qc (qa (cX (qU (s := 6) [] [sN, sN, sN, ii (0), ii (0), ii (0)] [] jz ji jp rfl (by decide) rfl CellsAre.nil rfl ?_))))))))))
     intro v2 hv2
     refine qh (v2) rfl (qh (.bool (false)) rfl (qb ?_))
     have hc2 : PeaksC F2 [] ([] : List PeakT) := (CO.nil : PeaksC F2 [] [])
     refine X.freezeF [] _ _ rfl (fun F3 le3 hz1 => ?_)
     replace hCa := hCa.mono le3
     replace hCb := hCb.mono le3
     replace hCc := hCc.mono le3
     replace hr3 := hr3.mono le3
     replace hr4 := hr4.mono le3
     replace hr5 := hr5.mono le3
     replace hc2 := hc2.mono le3
     have hf1 : PeaksF F3 v2 (([] : List PeakT)) := CO.fz hc2 (by first | rfl | omega | (rw [List.length_set]; omega) | (simp; done)) hz1.fz
     refine qz (ql (qy (ql (ql (qy (qy (ql (ql (qy (qy (ql (ql (qy (ql (qu (L' := L) [v2, .bool (false)] (.tuple #[v2, .bool (false)]) (.tmp rfl (.tmp rfl .nil)) rfl (qn (qn (qn (qn (qn leG1 leG2) leG3) le1) le2) le3) rF (sD (sD (sD sR))) ?_)))))))))))))))
     have e : peaksF ar rs = none := peaks_no (ms := mO ar rs o ++ mP ar rs o p ++ mU ar rs o p u) (by have h9 := meets_pre (ar := ar) (rs := rs) (o := o) (p := p) (u := u) (by omega) (by show p < (rs.getD o ([], [])).1.length; omega) (by omega); rw [mU_yes hmt.1 hmt.2, ← List.append_assoc] at h9; exact h9) hIc (by first | exact .inl hpk | exact .inr hpl)
     exact ⟨_, by rw [e]; rfl, by rw [e]; exact hf1, rfl⟩
    rw [Bool.not_eq_true] at h5
    have hpk : (pkF ar rs o p u).isSome = true := Bool.not_inj (y := true) h5
    refine qr (t := 52) rfl (vB h5) (qi (ovc) rfl (qr (t := 52) rfl (vB h5) (qD jz rfl (SlV.own [_] rfl) (qr (t := 52) rfl (vB h5) (jH rfl rfl (cX (qT (.bool (decide ((((mc : Nat) : Int) : Int) = 64))) (vB h5) rfl (qb ?_))))))))
    refine qx (p := (((mc : Nat) : Int) : Int) = 64) rfl (fun h6 => ?_) (fun h6 => ?_)
    ·have hpl : osc.length = 64 := by omega
     refine qc (qa (cX (qU (s := 6) [] [sN, sN, sN, ii (0), ii (0), ii (0)] [] jz ji jp rfl (by decide) rfl CellsAre.nil rfl ?_)))
     intro v3 hv3
     refine qh (v3) rfl (qh (.bool (false)) rfl (qb ?_))
     have hc3 : PeaksC F2 [] ([] : List PeakT) := (CO.nil : PeaksC F2 [] [])
     refine X.freezeF [] _ _ rfl (fun F4 le4 hz2 => ?_)
     replace hCa := hCa.mono le4
     replace hCb := hCb.mono le4
     replace hCc := hCc.mono le4
     replace hr3 := hr3.mono le4
     replace hr4 := hr4.mono le4
     replace hr5 := hr5.mono le4
     replace hc3 := hc3.mono le4
     have hf2 : PeaksF F4 v3 (([] : List PeakT)) := CO.fz hc3 (by first | rfl | omega | (rw [List.length_set]; omega) | (simp; done)) hz2.fz
     refine qz (ql (qy (ql (ql (qy (qy (ql (ql (qy (qy (ql (ql (qy (ql (qu (L' := L) [v3, .bool (false)] (.tuple #[v3, .bool (false)]) (.tmp rfl (.tmp rfl .nil)) rfl (qn (qn (qn (qn (qn leG1 leG2) leG3) le1) le2) le4) rF (sD (sD (sD sR))) ?_)))))))))))))))
     have e : peaksF ar rs = none := peaks_no (ms := mO ar rs o ++ mP ar rs o p ++ mU ar rs o p u) (by have h9 := meets_pre (ar := ar) (rs := rs) (o := o) (p := p) (u := u) (by omega) (by show p < (rs.getD o ([], [])).1.length; omega) (by omega); rw [mU_yes hmt.1 hmt.2, ← List.append_assoc] at h9; exact h9) hIc (by first | exact .inl hpk | exact .inr hpl)
     exact ⟨_, by rw [e]; rfl, by rw [e]; exact hf2, rfl⟩
    have hpl : osc.length ≠ 64 := by omega
    refine qw (qa (qf (ovc) rfl (cX (qB [x1, x2, x3, ii (((pkF ar rs o p u).getD P0).2.2.2.1), ii (((pkF ar rs o p u).getD P0).2.2.2.2.1), ii (((pkF ar rs o p u).getD P0).2.2.2.2.2)] isAgg76 ji rfl rfl (Rd.ownN [] rfl rfl) (cX (qU (s := 6) [x1, x2, x3, ii (((pkF ar rs o p u).getD P0).2.2.2.1), ii (((pkF ar rs o p u).getD P0).2.2.2.2.1), ii (((pkF ar rs o p u).getD P0).2.2.2.2.2)] [sN, sN, sN, ii (0), ii (0), ii (0)] [(0, [x1, x2, x3, ii (((pkF ar rs o p u).getD P0).2.2.2.1), ii (((pkF ar rs o p u).getD P0).2.2.2.2.1), ii (((pkF ar rs o p u).getD P0).2.2.2.2.2)])] jz ji jp rfl (by decide) rfl (.cons rfl CellsAre.nil) rfl ?_))))))
    intro v4 hv4
    refine cX (XOp.append (m := 1) (bytes := 96) (cs := csc) [_, _] _ [x1, x2, x3, ii (((pkF ar rs o p u).getD P0).2.2.2.1), ii (((pkF ar rs o p u).getD P0).2.2.2.2.1), ii (((pkF ar rs o p u).getD P0).2.2.2.2.2)] jz typeInfo76 rfl rfl rfl rfl rfl rfl rfl (SlV.own [] rfl) rfl (Rd.lit [] rfl) (qv (je (qE hr3)) (qv (je (qE hr4)) (qv (je (qE hr5)) (qv rfl (qv rfl (qv rfl jl)))))) (by (try simp only [List.length_append, List.length_nil, List.length_cons, List.length_singleton]); omega) (by (try simp only [List.length_append, List.length_nil, List.length_cons, List.length_singleton]); omega) ?_)
    intro v5 hs1 hn1 hm1
    have hc4 := PeaksC.snoc hCc (y0 := ((pkF ar rs o p u).getD P0).1) (y1 := ((pkF ar rs o p u).getD P0).2.1) (y2 := ((pkF ar rs o p u).getD P0).2.2.1) (y3 := ((pkF ar rs o p u).getD P0).2.2.2.1) (y4 := ((pkF ar rs o p u).getD P0).2.2.2.2.1) (y5 := ((pkF ar rs o p u).getD P0).2.2.2.2.2) hr3 hr4 hr5
    refine qh (v5) rfl (qb (qa (qf (ii ((u : Int))) rfl (cX (qM (((u + 1 : Nat) : Int)) rfl rfl (by omega) (by omega) (qh (ii (((u + 1 : Nat) : Int))) rfl (qb ?_)))))))
    exact ⟨(u + 1, v5, osc ++ [(((pkF ar rs o p u).getD P0).1, ((pkF ar rs o p u).getD P0).2.1, ((pkF ar rs o p u).getD P0).2.2.1, ((pkF ar rs o p u).getD P0).2.2.2.1, ((pkF ar rs o p u).getD P0).2.2.2.2.1, ((pkF ar rs o p u).getD P0).2.2.2.2.2)], csc ++ [x1, x2, x3, ii (((pkF ar rs o p u).getD P0).2.2.2.1), ii (((pkF ar rs o p u).getD P0).2.2.2.2.1), ii (((pkF ar rs o p u).getD P0).2.2.2.2.2)], (mc) + 1, F2), _, (qn (qn leG3 le1) le2), rF, ⟨rfl, rfl, rfl, rfl, rfl, rfl, ⟨⟩⟩, (sD (sD (sC (sC sR)))), ⟨rfl, (qn (qn leG3 le1) le2), (hs1), (hc4), (by (try dsimp only); (try rw [List.length_append, List.length_singleton]); omega), (by (try dsimp only) <;> omega), (by (try dsimp only); first | (rw [mU_no hmt]; exact hIc) | (have h9 := hIc.next hpk hpl; rw [mU_yes hmt.1 hmt.2, ← List.append_assoc]; exact h9))⟩, (by omega)⟩
   refine jc (qt (qt (qL (qa (qf (ii ((p : Int))) rfl (cX (qM (((p + 1 : Nat) : Int)) rfl rfl (by omega) (by omega) (qh (ii (((p + 1 : Nat) : Int))) rfl (qb ?_)))))))))
   exact ⟨(p + 1, ovc, osc, csc, mc, G3), _, (qn leG2 leG3), rF, ⟨rfl, rfl, rfl, rfl, rfl, ⟨⟩⟩, (sC (sC sR)), ⟨rfl, (qn leG2 leG3), (hovc), (hCc), (by (try dsimp only); (try rw [List.length_append, List.length_singleton]); omega), (by (try dsimp only) <;> omega), (by (try dsimp only); have e9 : u = rs.length := (by omega); rw [e9] at hIc; simpa only [mP, List.append_assoc] using hIc)⟩, (by omega)⟩
  refine jc (qt (qt (qL (qa (qf (ii ((o : Int))) rfl (cX (qM (((o + 1 : Nat) : Int)) rfl rfl (by omega) (by omega) (qh (ii (((o + 1 : Nat) : Int))) rfl (qb ?_)))))))))
  exact ⟨(o + 1, ovb, osb, csb, mb, G2), _, (qn leG1 leG2), rF, ⟨rfl, rfl, rfl, rfl, ⟨⟩⟩, (sC (sC sR)), ⟨rfl, (qn leG1 leG2), (hovb), (hCb), (by (try dsimp only); (try rw [List.length_append, List.length_singleton]); omega), (by (try dsimp only) <;> omega), (by (try dsimp only); have e9 : p = (rs.getD o ([], [])).1.length := (by omega); rw [e9] at hIb; simpa only [mO, List.append_assoc] using hIb)⟩, (by omega)⟩
 refine jc (qt (qt (qL (qc (qa (qf (ova) rfl (qh (ova) rfl (qh (.bool (true)) rfl (qb (X.freezeF [] _ _ rfl (fun F5 le5 hz3 => ?_)))))))))))
 replace hCa := hCa.mono le5
 have hf3 : PeaksF F5 ova osa := CO.fz hCa (by first | rfl | omega | (rw [List.length_set]; omega) | (simp; done)) hz3.fz
 refine qz (qu (L' := L) [ova, .bool (true)] (.tuple #[ova, .bool (true)]) (.tmp rfl (.tmp rfl .nil)) rfl (qn leG1 le5) rF (sD sR) ?_)
 have e9 : o = rs.length := by omega
 rw [e9] at hIa
 have e := peaks_yes hIa
 exact ⟨_, by rw [e]; rfl, by rw [e]; exact hf3, rfl⟩

/- spec.PeaksOf -/
theorem sPeaksOf_spec {F : FH} {L : List HP} {arv : Value} {ar : List Int} (har : IntsF F arv ar) {rsv : Value} {rs : List (List Int × List Int)} (hrs : PairsF F rsv rs) (hla : ar.length ≤ 4000000) (hlr : rs.length ≤ 4000000) (hrb : ∀ i, i < rs.length → (rs.getD i ([], [])).1.length ≤ 4000000 ∧ (rs.getD i ([], [])).2.length ≤ 4000000) :
    Does prog 37 [.agg #[arv, rsv]] F (L) (fun v F' L' => ∃ (a : Value), (.tuple #[a, .bool ((psO ar rs).isSome)] : Value) = v ∧ (PeaksF F' a ((psO ar rs).getD [])) ∧ L = L') := by
 refine qI func37 rfl rfl rfl (qc (qa (cX (ja [arv, rsv] rfl rfl ?_))))
 intro b1
 refine qh (sN) rfl (qh (.bool (false)) rfl (qb (qc (qc (qa (cX (qB [arv, rsv] jJ jC rfl rfl (Rd.ownN [] rfl rfl) (cX (qs (args := [.agg #[arv, rsv]]) call95 rfl (sSystemOk_spec har hrs (hla := (by first | assumption | rfl | omega | simp)) (hlr := (by first | assumption | rfl | omega | simp)) (hrb := (by first | assumption | rfl | omega | simp))) ?_)))))))))
 rintro _ _ _ _ ⟨rfl, rfl, rfl⟩
 refine cX (jr rfl (qb ?_))
 refine X.cond (t := !(sysOk ar rs)) rfl (fun h1 => ?_) (fun h1 => ?_)
 ·have hsys : sysOk ar rs = false := Bool.not_inj (y := false) h1
  refine qc (qa (cX (qU (s := 6) [] [sN, sN, sN, ii (0), ii (0), ii (0)] [] jz ji jp rfl (by decide) rfl CellsAre.nil rfl ?_)))
  intro v1 hv1
  refine qh (v1) rfl (qh (.bool (false)) rfl (qb ?_))
  have hc1 : PeaksC F [] ([] : List PeakT) := (CO.nil : PeaksC F [] [])
  refine X.freezeF [] _ _ rfl (fun F1 le1 hz1 => ?_)
  replace har := har.mono le1
  replace hrs := hrs.mono le1
  replace hc1 := hc1.mono le1
  have hf1 : PeaksF F1 v1 (([] : List PeakT)) := CO.fz hc1 (by first | rfl | omega | (rw [List.length_set]; omega) | (simp; done)) hz1.fz
  refine qz (ql (qu (L' := L) [v1, .bool (false)] (.tuple #[v1, .bool (false)]) (.tmp rfl (.tmp rfl .nil)) rfl le1 rF (sD sR) ?_))
  have e := ps_no hsys
  exact ⟨_, by rw [e]; rfl, by rw [e]; exact hf1, rfl⟩
 have hsys : sysOk ar rs = true := Bool.not_inj (y := true) h1
 refine qw (qc (qa (cX (qB [arv, rsv] jJ jC rfl rfl (Rd.ownN [] rfl rfl) (cX (qs (args := [.agg #[arv, rsv]]) call96 rfl (all2_spec har hrs (hsys := (hsys))) ?_))))))
 rintro _ F2 _ le2 ⟨x1, rfl, hr1, rfl⟩
 refine cX (qY (x1) rfl rfl (cX (qY (.bool ((peaksF ar rs).isSome)) rfl rfl (qh (x1) rfl (qh (.bool ((peaksF ar rs).isSome)) rfl (qb (qz (qu (L' := L) [x1, .bool ((peaksF ar rs).isSome)] (.tuple #[x1, .bool ((peaksF ar rs).isSome)]) (.tmp rfl (.tmp rfl .nil)) rfl le2 rF (sD sR) ?_))))))))
 have e := ps_yes hsys
 exact ⟨_, by rw [e], by rw [e]; exact hr1, rfl⟩
end Go.Proofs.Ytcdjpapjjoldeaa
set_option linter.unusedSimpArgs false
set_option linter.unusedVariables false
namespace Go.Proofs.Ytcdjpapjjoldeaa
open Go X M Try
end Go.Proofs.Ytcdjpapjjoldeaa
set_option linter.unusedSimpArgs false
set_option linter.unusedVariables false
namespace Go.Proofs.Ytcdjpapjjoldeaa
open Go X M Try
end Go.Proofs.Ytcdjpapjjoldeaa
set_option linter.unusedSimpArgs false
set_option linter.unusedVariables false
namespace Go.Proofs.Ytcdjpapjjoldeaa
open Go X M Try

/- impl.linear -/
theorem linear_spec {F : FH} {L : List HP} {tv : Value} {t : List Int} (ht : IntsF F tv t) (hlt : t.length ≤ 4000000) :
    Does prog 239 [tv] F (L) (fun v F' L' => (.bool (decide (LinT t)) : Value) = v ∧ F = F' ∧ L = L') := by
 refine qI func239 rfl rfl rfl (qc (qa (qh (.bool (false)) rfl (qb (qc (qc (qa (qf (tv) rfl (cX (qD qd rfl ht.slv (qf (ii (0)) rfl (qb (qF (jg (α := Nat) (fun k => [(0, tv), (5, tv), (6, ii ((t.length : Int))), (7, ii ((k : Int)))]) (fun k => L) (fun k F' => F = F' ∧ (k ≤ t.length) ∧ (LinAt t k)) (fun k => t.length - k) 0 ⟨rfl, rfl, rfl, rfl, ⟨⟩⟩ sR ⟨rfl, (by (try dsimp only) <;> omega), (fun i hi => absurd hi (by omega))⟩ ?_))))))))))))))
 rintro k rE _ _ ⟨rfl, hk, hL⟩
 show X _ _ _ _ (envs [(0, tv), (5, tv), (6, ii ((t.length : Int))), (7, ii ((k : Int)))] rE) _ (L)
 refine qc (qa (cX (qG rfl rfl (qb (qc ?_)))))
 refine qx (p := (k : Int) < (t.length : Int)) rfl (fun h1 => ?_) (fun h1 => ?_)
 ·refine qw (qc (qF (qc (qa (qf (ii ((k : Int))) rfl (cX (qk k qd qm rfl rfl rfl ht.slv (by omega) (Nat.mul_one _) (cX (qj qC rfl (ht.rd (by omega)) (qh (ii ((k : Int))) rfl (qh (ii (t.getD k 0)) rfl (qb (qc (qa (qf (ii (t.getD k 0)) rfl (cX (qG rfl rfl (qf (.bool (decide ((t.getD k 0 : Int) < 0))) rfl ?_))))))))))))))))))
  by_cases h2 : (t.getD k 0 : Int) < 0
  ·refine qr (t := 14) rfl (vT h2) (qi (tv) rfl (qr (t := 14) rfl (vT h2) (qi (ii ((k : Int))) rfl (qr (t := 14) rfl (vT h2) (XOp.sliceI 0 k qd qm rfl ht rfl ⟨_, rfl⟩ (by omega) (by omega) ?_)))))
   intro v1 hv1 hn1
   refine qr (t := 14) rfl (vT h2) (qi (ii (t.getD k 0)) rfl (qr (t := 14) rfl (vT h2) (qs (args := [v1, ii (t.getD k 0)]) call218 rfl (Contains_spec (n := t.getD k 0) hv1 (hbd := (by simp; omega))) ?_)))
   rintro _ _ _ _ ⟨rfl, rfl, rfl⟩
   refine cX (qS (.bool (decide ((t.getD k 0) ∈ (((t.drop 0).take (k - 0)))))) (vT h2) rfl (qb ?_))
   refine qx (p := (t.getD k 0) ∈ (((t.drop 0).take (k - 0)))) rfl (fun h3 => ?_) (fun h3 => ?_)
   ·have hmm : t.getD k 0 ∈ t.take k := by simpa using h3
    refine qc (qa (qh (.bool (false)) rfl (qb (qz (qy (ql (ql (qy (ql (qu (L' := L) [.bool (false)] (.bool (false)) (.tmp rfl .nil) rfl rF rF sR ?_))))))))))
    exact ⟨(vB (decide_eq_false (lin_no (k := k) (by omega) (by omega) hmm))), rfl, rfl⟩
   have hmm : t.getD k 0 ∉ t.take k := by simpa using h3
   refine qw (qa (cX (qM (((k + 1 : Nat) : Int)) rfl rfl (by omega) (by omega) (qf (ii (((k + 1 : Nat) : Int))) rfl (qb ?_)))))
   exact ⟨k + 1, _, FLe.refl _, rF, ⟨rfl, rfl, rfl, rfl, ⟨⟩⟩, sR, ⟨rfl, (by (try dsimp only) <;> omega), (lin_next hL (by first | (left; omega) | (right; exact hmm)))⟩, (by omega)⟩
  refine qp (t := 14) rfl (vF h2) (qp (t := 14) rfl (vF h2) (qp (t := 14) rfl (vF h2) (qp (t := 14) rfl (vF h2) (qp (t := 14) rfl (vF h2) (cX (qT (.bool (false)) (vF h2) rfl (qb (jy rfl (qw (qa (cX (qM (((k + 1 : Nat) : Int)) rfl rfl (by omega) (by omega) ?_))))))))))))
  refine qf (ii (((k + 1 : Nat) : Int))) rfl (qb ?_)
  exact ⟨k + 1, _, FLe.refl _, rF, ⟨rfl, rfl, rfl, rfl, ⟨⟩⟩, sR, ⟨rfl, (by (try dsimp only) <;> omega), (lin_next hL (by first | (left; omega) | (right; exact hmm)))⟩, (by omega)⟩
 refine jc (qt (qt (qL (qc (qa (qh (.bool (true)) rfl (qb (qz (qu (L' := L) [.bool (true)] (.bool (true)) (.tmp rfl .nil) rfl rF rF sR ?_)))))))))
 exact ⟨(vB (decide_eq_true (lin_done hL (by omega)))), rfl, rfl⟩

/- impl.leftLinear -/
theorem leftLinear_spec {F : FH} {L : List HP} {rsv : Value} {rs : List (List Int × List Int)} (hrs : PairsF F rsv rs) (hlr : rs.length ≤ 4000000) (hrb : ∀ i, i < rs.length → (rs.getD i ([], [])).1.length ≤ 4000000) :
    Does prog 213 [rsv] F (L) (fun v F' L' => (.bool (decide (LinS rs)) : Value) = v ∧ F = F' ∧ L = L') := by
 refine qI func213 rfl rfl rfl (qc (qa (qh (.bool (false)) rfl (qb (qc (qc (qa (qf (rsv) rfl (cX (qD qW rfl hrs.slv (qf (ii (0)) rfl (qb (qF (jg (α := Nat) (fun k => [(5, rsv), (6, ii ((rs.length : Int))), (7, ii ((k : Int)))]) (fun k => L) (fun k F' => F = F' ∧ (k ≤ rs.length) ∧ (∀ i, i < k → LinT (rs.getD i ([], [])).1)) (fun k => rs.length - k) 0 ⟨rfl, rfl, rfl, ⟨⟩⟩ sR ⟨rfl, (by (try dsimp only) <;> omega), (fun i hi => absurd hi (by omega))⟩ ?_))))))))))))))
 rintro k rE _ _ ⟨rfl, hk, hall⟩
 show X _ _ _ _ (envs [(5, rsv), (6, ii ((rs.length : Int))), (7, ii ((k : Int)))] rE) _ (L)
 refine qc (qa (cX (qG rfl rfl (qb (qc ?_)))))
 refine qx (p := (k : Int) < (rs.length : Int)) rfl (fun h1 => ?_) (fun h1 => ?_)
 ·refine qw (qc (qF (qc (qa (cX (qk k qW jj rfl rfl rfl hrs.slv (by omega) rfl ?_))))))
  obtain ⟨a1, a2, ha1, ha2, hr1, hr2⟩ := hrs.rd (i := k) (by omega)
  refine cX (qB [a1, a2] isAgg72 jj rfl rfl (Rd.two (hr1 _) (hr2 _)) (cX (jB [sN, sN] zeroValue72 rfl ?_)))
  intro b1
  refine cX (jk [] _ [a1, a2] jj rfl rfl rfl (qv (je (qE ha1)) (qv (je (qE ha2)) jl)) rfl rfl rfl (qb (qc (qa (cX (qo (0) qR rfl qq (by decide) rfl rfl (cX (qj qQ rfl (Rd.own [] rfl rfl) (cX (qs (args := [a1]) call239 rfl (linear_spec ha1 (hlt := (hrb k (by omega)))) ?_))))))))))
  rintro _ _ _ _ ⟨rfl, rfl, rfl⟩
  refine cX (jK rfl (qb ?_))
  refine qx (p := ¬(LinT ((rs.getD k ([], [])).1))) rfl (fun h2 => ?_) (fun h2 => ?_)
  ·refine qc (qa (qh (.bool (false)) rfl (qb (qz (qy (ql (ql (qy (ql (qu (L' := L) [.bool (false)] (.bool (false)) (.tmp rfl .nil) rfl rF rF (sD sR) ?_))))))))))
   exact ⟨(vB (decide_eq_false (fun h9 => absurd (h9 k (by omega)) (by first | assumption | simp_all)))), rfl, rfl⟩
  refine qw (qa (cX (qM (((k + 1 : Nat) : Int)) rfl rfl (by omega) (by omega) (qf (ii (((k + 1 : Nat) : Int))) rfl (qb ?_)))))
  exact ⟨k + 1, _, FLe.refl _, rF, ⟨rfl, rfl, rfl, ⟨⟩⟩, (sD sR), ⟨rfl, (by (try dsimp only) <;> omega), (fun i hi => (Nat.lt_or_ge i k).elim (fun h => hall i h) (fun h => by obtain rfl : i = k := (by omega); first | assumption | exact Classical.not_not.1 (by assumption)))⟩, (by omega)⟩
 refine jc (qt (qt (qL (qc (qa (qh (.bool (true)) rfl (qb (qz (qu (L' := L) [.bool (true)] (.bool (true)) (.tmp rfl .nil) rfl rF rF sR ?_)))))))))
 exact ⟨(vB (decide_eq_true (fun i hi => hall i (by omega)))), rfl, rfl⟩

/- impl.LeftLinearIn -/
theorem LeftLinearIn_spec {F : FH} {L : List HP} {arv : Value} {ar : List Int} (har : IntsF F arv ar) {rsv : Value} {rs : List (List Int × List Int)} (hrs : PairsF F rsv rs) :
    Does prog 162 [.agg #[arv, rsv]] F (L) (fun v F' L' => (.bool (decide (sysOk ar rs = true ∧ LinS rs)) : Value) = v ∧ F = F' ∧ L = L') := by
 refine qI func162 rfl rfl rfl (qc (qa (cX (ja [arv, rsv] rfl rfl ?_))))
 intro b1
 refine qh (.bool (false)) rfl (qb (qc (qa (cX (qB [arv, rsv] jJ jC rfl rfl (Rd.ownN [] rfl rfl) (cX (qs (args := [.agg #[arv, rsv]]) call97 rfl (SystemOk_spec har hrs) ?_)))))))
 rintro _ _ _ _ ⟨rfl, rfl, rfl⟩
 refine qf (.bool (sysOk ar rs)) rfl ?_
 by_cases h1 : (sysOk ar rs) = true
 ·have hsys : sysOk ar rs = true := by simpa using h1
  have hrl := (sysOk_iff.1 hsys).2.1
  have hrb9 : ∀ i, i < rs.length → 1 ≤ (rs.getD i ([], [])).1.length ∧ (rs.getD i ([], [])).1.length ≤ 60 := fun i hi => termOk_len (rule_L hsys hi)
  refine qr (t := 5) rfl (vB h1) (qo (1) qP rfl jv (by decide) rfl rfl (qr (t := 5) rfl (vB h1) (qj jG rfl (Rd.own [] rfl rfl) (qr (t := 5) rfl (vB h1) (qs (args := [rsv]) call213 rfl (leftLinear_spec hrs (hlr := (by omega)) (hrb := (fun i hi => by have := hrb9 i hi; omega))) ?_)))))
  rintro _ _ _ _ ⟨rfl, rfl, rfl⟩
  refine cX (qS (.bool (decide (LinS rs))) (vB h1) rfl (qh (.bool (decide (LinS rs))) rfl (qb (qz (qu (L' := L) [.bool (decide (LinS rs))] (.bool (decide (LinS rs))) (.tmp rfl .nil) rfl rF rF (sD sR) ?_)))))
  exact ⟨(vB (by simp_all)), rfl, rfl⟩
 rw [Bool.not_eq_true] at h1
 have hsys : sysOk ar rs = false := by simpa using h1
 refine qp (t := 5) rfl (vB h1) (qp (t := 5) rfl (vB h1) (qp (t := 5) rfl (vB h1) (cX (qT (.bool (false)) (vB h1) rfl (qh (.bool (false)) rfl (qb (qz (qu (L' := L) [.bool (false)] (.bool (false)) (.tmp rfl .nil) rfl rF rF (sD sR) ?_))))))))
 exact ⟨(vB (by simp_all)), rfl, rfl⟩

/- spec.l1Count -/
theorem l1Count_spec {F : FH} {L : List HP} {tv : Value} {t : List Int} (ht : IntsF F tv t) {n : Int} (hlt : t.length ≤ 4000000) :
    Does prog 212 [tv, ii (n)] F (L) (fun v F' L' => (ii (((t.count n : Nat) : Int)) : Value) = v ∧ F = F' ∧ L = L') := by
 refine qI func212 rfl rfl rfl (qc (qa (qh (ii (0)) rfl (qb (qc (qa (qh (ii (0)) rfl (qb (qc (qc (qa (qh (ii (0)) rfl (qb (qF (jg (α := Nat × Nat) (fun xQ => [(0, tv), (1, ii (n)), (5, ii (((xQ.2 : Nat) : Int))), (6, ii (((xQ.1 : Nat) : Int)))]) (fun xQ => L) (fun xQ F' => F = F' ∧ (xQ.1 ≤ t.length) ∧ (xQ.2 = (t.take xQ.1).count n) ∧ (xQ.2 ≤ xQ.1)) (fun xQ => t.length - xQ.1) (0, 0) ⟨rfl, rfl, rfl, rfl, ⟨⟩⟩ sR ⟨rfl, (by (try dsimp only) <;> omega), (rfl), (by (try dsimp only) <;> omega)⟩ ?_)))))))))))))))
 rintro ⟨k, m⟩ rE _ _ ⟨rfl, hk, hm, hmk⟩
 show X _ _ _ _ (envs [(0, tv), (1, ii (n)), (5, ii ((m : Int))), (6, ii ((k : Int)))] rE) _ (L)
 dsimp only at hk hm hmk
 refine qc (qc (qa (qf (ii ((k : Int))) rfl (qf (tv) rfl (cX (qD qd rfl ht.slv (cX (qG rfl rfl (qb ?_)))))))))
 refine qx (p := (k : Int) < (t.length : Int)) rfl (fun h1 => ?_) (fun h1 => ?_)
 ·refine qw (qc (qF (qc (qa (qf (tv) rfl (qf (ii ((k : Int))) rfl (cX (qk k qd qm rfl rfl rfl ht.slv (by omega) (Nat.mul_one _) (cX (qj qC rfl (ht.rd (by omega)) (qf (ii (n)) rfl (cX (jH rfl rfl (qb ?_))))))))))))))
  refine qx (p := (t.getD k 0 : Int) = n) rfl (fun h2 => ?_) (fun h2 => ?_)
  ·refine qa (qf (ii ((m : Int))) rfl (cX (qM (((m + 1 : Nat) : Int)) rfl rfl (by omega) (by omega) (qh (ii (((m + 1 : Nat) : Int))) rfl (qb (qa (qf (ii ((k : Int))) rfl (cX (qM (((k + 1 : Nat) : Int)) rfl rfl (by omega) (by omega) (qh (ii (((k + 1 : Nat) : Int))) rfl (qb ?_)))))))))))
   exact ⟨(k + 1, m + 1), _, FLe.refl _, rF, ⟨rfl, rfl, (vI (by omega)), rfl, ⟨⟩⟩, sR, ⟨rfl, (by (try dsimp only) <;> omega), (by (try dsimp only); rw [count_take (by omega), ← hm]; rw [if_pos (by omega)]), (by (try dsimp only) <;> omega)⟩, (by omega)⟩
  refine qw (qa (qf (ii ((k : Int))) rfl (cX (qM (((k + 1 : Nat) : Int)) rfl rfl (by omega) (by omega) (qh (ii (((k + 1 : Nat) : Int))) rfl (qb ?_))))))
  exact ⟨(k + 1, m), _, FLe.refl _, rF, ⟨rfl, rfl, (vI (by omega)), rfl, ⟨⟩⟩, sR, ⟨rfl, (by (try dsimp only) <;> omega), (by (try dsimp only); rw [count_take (by omega), ← hm]; rw [if_neg (by omega)]; rfl), (by (try dsimp only) <;> omega)⟩, (by omega)⟩
 refine jc (qt (qt (qL (qc (qa (qf (ii ((m : Int))) rfl (qh (ii ((m : Int))) rfl (qb (qz (qu (L' := L) [ii ((m : Int))] (ii ((m : Int))) (.tmp rfl .nil) rfl rF rF sR ?_))))))))))
 exact ⟨(congrArg (fun n : Nat => Value.int .i64 (n : Int)) (by rw [hm, show k = t.length from by omega, List.take_length])), rfl, rfl⟩

/- spec.l2Linear -/
theorem l2Linear_spec {F : FH} {L : List HP} {tv : Value} {t : List Int} (ht : IntsF F tv t) (hlt : t.length ≤ 4000000) :
    Does prog 159 [tv] F (L) (fun v F' L' => (.bool (decide (LinT t)) : Value) = v ∧ F = F' ∧ L = L') := by
 refine qI func159 rfl rfl rfl (qc (qa (qh (.bool (false)) rfl (qb (qc (qc (qa (qh (ii (0)) rfl (qb (qF (jg (α := Nat) (fun k => [(0, tv), (3, ii ((k : Int)))]) (fun k => L) (fun k F' => F = F' ∧ (k ≤ t.length) ∧ (∀ i, i < k → t.getD i 0 < 0 → t.count (t.getD i 0) ≤ 1)) (fun k => t.length - k) 0 ⟨rfl, rfl, ⟨⟩⟩ sR ⟨rfl, (by (try dsimp only) <;> omega), (fun i hi => absurd hi (by omega))⟩ ?_)))))))))))
 rintro k rE _ _ ⟨rfl, hk, hL⟩
 show X _ _ _ _ (envs [(0, tv), (3, ii ((k : Int)))] rE) _ (L)
 refine qc (qc (qa (qf (ii ((k : Int))) rfl (qf (tv) rfl (cX (qD qd rfl ht.slv (cX (qG rfl rfl (qb ?_)))))))))
 refine qx (p := (k : Int) < (t.length : Int)) rfl (fun h1 => ?_) (fun h1 => ?_)
 ·refine qw (qc (qF (qc (qa (qf (tv) rfl (qf (ii ((k : Int))) rfl (cX (qk k qd qm rfl rfl rfl ht.slv (by omega) (Nat.mul_one _) (cX (qj qC rfl (ht.rd (by omega)) (cX (qG rfl rfl (qf (.bool (decide ((t.getD k 0 : Int) < 0))) rfl ?_)))))))))))))
  by_cases h2 : (t.getD k 0 : Int) < 0
  ·refine qr (t := 15) rfl (vT h2) (qi (tv) rfl (qr (t := 15) rfl (vT h2) (qi (tv) rfl (qr (t := 15) rfl (vT h2) (qi (ii ((k : Int))) rfl (qr (t := 15) rfl (vT h2) (qk k qd qm rfl rfl rfl ht.slv (by omega) (Nat.mul_one _) (qr (t := 15) rfl (vT h2) (qj qC rfl (ht.rd (by omega)) (qr (t := 15) rfl (vT h2) (qs (args := [tv, ii (t.getD k 0)]) call212 rfl (l1Count_spec (n := t.getD k 0) ht (hlt := (hlt))) ?_)))))))))))
   rintro _ _ _ _ ⟨rfl, rfl, rfl⟩
   refine qr (t := 15) rfl (vT h2) (jM rfl rfl (cX (qS (.bool (decide ((((t.count (t.getD k 0) : Nat) : Int) : Int) > 1))) (vT h2) rfl (qb ?_))))
   refine qx (p := (((t.count (t.getD k 0) : Nat) : Int) : Int) > 1) rfl (fun h3 => ?_) (fun h3 => ?_)
   ·refine qc (qa (qh (.bool (false)) rfl (qb (qz (qy (ql (ql (qy (ql (qu (L' := L) [.bool (false)] (.bool (false)) (.tmp rfl .nil) rfl rF rF sR ?_))))))))))
    exact ⟨(vB (decide_eq_false (fun h9 => by have := lin_count.1 h9 k (by omega) (by omega); omega))), rfl, rfl⟩
   refine qw (qa (qf (ii ((k : Int))) rfl (cX (qM (((k + 1 : Nat) : Int)) rfl rfl (by omega) (by omega) (qh (ii (((k + 1 : Nat) : Int))) rfl (qb ?_))))))
   exact ⟨k + 1, _, FLe.refl _, rF, ⟨rfl, rfl, ⟨⟩⟩, sR, ⟨rfl, (by (try dsimp only) <;> omega), (fun i hi h0 => (Nat.lt_or_ge i k).elim (fun h => hL i h h0) (fun h => by obtain rfl : i = k := (by omega); omega))⟩, (by omega)⟩
  refine qp (t := 15) rfl (vF h2) (qp (t := 15) rfl (vF h2) (qp (t := 15) rfl (vF h2) (qp (t := 15) rfl (vF h2) (qp (t := 15) rfl (vF h2) (qp (t := 15) rfl (vF h2) (qp (t := 15) rfl (vF h2) (cX (qT (.bool (false)) (vF h2) rfl (qb (jy rfl ?_))))))))))
  refine qw (qa (qf (ii ((k : Int))) rfl (cX (qM (((k + 1 : Nat) : Int)) rfl rfl (by omega) (by omega) (qh (ii (((k + 1 : Nat) : Int))) rfl (qb ?_))))))
  exact ⟨k + 1, _, FLe.refl _, rF, ⟨rfl, rfl, ⟨⟩⟩, sR, ⟨rfl, (by (try dsimp only) <;> omega), (fun i hi h0 => (Nat.lt_or_ge i k).elim (fun h => hL i h h0) (fun h => by obtain rfl : i = k := (by omega); omega))⟩, (by omega)⟩
 refine jc (qt (qt (qL (qc (qa (qh (.bool (true)) rfl (qb (qz (qu (L' := L) [.bool (true)] (.bool (true)) (.tmp rfl .nil) rfl rF rF sR ?_)))))))))
 exact ⟨(vB (decide_eq_true (lin_count.2 (fun i hi => hL i (by omega))))), rfl, rfl⟩

/- spec.LeftLinearIn -/
theorem sLeftLinearIn_spec {F : FH} {L : List HP} {arv : Value} {ar : List Int} (har : IntsF F arv ar) {rsv : Value} {rs : List (List Int × List Int)} (hrs : PairsF F rsv rs) (hla : ar.length ≤ 4000000) (hlr : rs.length ≤ 4000000) (hrb : ∀ i, i < rs.length → (rs.getD i ([], [])).1.length ≤ 4000000 ∧ (rs.getD i ([], [])).2.length ≤ 4000000) :
    Does prog 87 [.agg #[arv, rsv]] F (L) (fun v F' L' => (.bool (decide (sysOk ar rs = true ∧ LinS rs)) : Value) = v ∧ F = F' ∧ L = L') := by
 refine qI func87 rfl rfl rfl (qc (qa (cX (ja [arv, rsv] rfl rfl ?_))))
 intro b1
 refine qh (.bool (false)) rfl (qb (qc (qc (qa (cX (qB [arv, rsv] jJ jC rfl rfl (Rd.ownN [] rfl rfl) (cX (qs (args := [.agg #[arv, rsv]]) call95 rfl (sSystemOk_spec har hrs (hla := (by first | assumption | rfl | omega | simp)) (hlr := (by first | assumption | rfl | omega | simp)) (hrb := (by first | assumption | rfl | omega | simp))) ?_))))))))
 rintro _ _ _ _ ⟨rfl, rfl, rfl⟩
 refine cX (jr rfl (qb ?_))
 refine X.cond (t := !(sysOk ar rs)) rfl (fun h1 => ?_) (fun h1 => ?_)
 ·have hsys : sysOk ar rs = false := by simpa using h1
  refine qc (qa (qh (.bool (false)) rfl (qb (qz (ql (qu (L' := L) [.bool (false)] (.bool (false)) (.tmp rfl .nil) rfl rF rF (sD sR) ?_))))))
  exact ⟨(vB (decide_eq_false (fun h9 => by simp_all))), rfl, rfl⟩
 have hsys : sysOk ar rs = true := by simpa using h1
 have hrl := (sysOk_iff.1 hsys).2.1
 have hrb9 : ∀ i, i < rs.length → 1 ≤ (rs.getD i ([], [])).1.length ∧ (rs.getD i ([], [])).1.length ≤ 60 := fun i hi => termOk_len (rule_L hsys hi)
 refine qw (qc (qc (qa (qh (ii (0)) rfl (qb (qF (jg (α := Nat) (fun k => [(1, ptr b1 0), (3, ii ((k : Int)))]) (fun k => cellsH b1 [arv, rsv] 32 :: L) (fun k F' => F = F' ∧ (k ≤ rs.length) ∧ (∀ i, i < k → LinT (rs.getD i ([], [])).1)) (fun k => rs.length - k) 0 ⟨rfl, rfl, ⟨⟩⟩ (sC sR) ⟨rfl, (by (try dsimp only) <;> omega), (fun i hi => absurd hi (by omega))⟩ ?_)))))))
 rintro k rE _ _ ⟨rfl, hk, hall⟩
 show X _ _ _ _ (envs [(1, ptr b1 0), (3, ii ((k : Int)))] rE) _ (cellsH b1 [arv, rsv] 32 :: L)
 refine qc (qc (qa (qf (ii ((k : Int))) rfl (cX (qo (1) qP rfl jv (by decide) rfl rfl (cX (qj jG rfl (Rd.own [] rfl rfl) (cX (qD qW rfl hrs.slv (cX (qG rfl rfl (qb ?_))))))))))))
 refine qx (p := (k : Int) < (rs.length : Int)) rfl (fun h2 => ?_) (fun h2 => ?_)
 ·refine qw (qc (qF (qc (qa (cX (qo (1) qP rfl jv (by decide) rfl rfl (cX (qj jG rfl (Rd.own [] rfl rfl) (qf (ii ((k : Int))) rfl (cX (qk k qW jj rfl rfl rfl hrs.slv (by omega) rfl (cX (XOp.fieldE (k * 2) qR rfl qq (by decide) rfl rfl ?_)))))))))))))
  obtain ⟨a1, a2, ha1, ha2, hr1, hr2⟩ := hrs.rd (i := k) (by omega)
  refine cX (qj qQ rfl (hr1 _) (cX (qs (args := [a1]) call159 rfl (l2Linear_spec ha1 (hlt := ((hrb k (by omega)).1))) ?_)))
  rintro _ _ _ _ ⟨rfl, rfl, rfl⟩
  refine cX (jK rfl (qb ?_))
  refine qx (p := ¬(LinT ((rs.getD k ([], [])).1))) rfl (fun h3 => ?_) (fun h3 => ?_)
  ·refine qc (qa (qh (.bool (false)) rfl (qb (qz (qy (ql (ql (qy (ql (qu (L' := L) [.bool (false)] (.bool (false)) (.tmp rfl .nil) rfl rF rF (sD sR) ?_))))))))))
   exact ⟨(vB (decide_eq_false (fun h9 => absurd (h9.2 k (by omega)) (by first | assumption | simp_all)))), rfl, rfl⟩
  refine qw (qa (qf (ii ((k : Int))) rfl (cX (qM (((k + 1 : Nat) : Int)) rfl rfl (by omega) (by omega) (qh (ii (((k + 1 : Nat) : Int))) rfl (qb ?_))))))
  exact ⟨k + 1, _, FLe.refl _, rF, ⟨rfl, rfl, ⟨⟩⟩, (sC sR), ⟨rfl, (by (try dsimp only) <;> omega), (fun i hi => (Nat.lt_or_ge i k).elim (fun h => hall i h) (fun h => by obtain rfl : i = k := (by omega); first | assumption | exact Classical.not_not.1 (by assumption)))⟩, (by omega)⟩
 refine jc (qt (qt (qL (qc (qa (qh (.bool (true)) rfl (qb (qz (qu (L' := L) [.bool (true)] (.bool (true)) (.tmp rfl .nil) rfl rF rF (sD sR) ?_)))))))))
 exact ⟨(vB (decide_eq_true ⟨hsys, fun i hi => hall i (by omega)⟩)), rfl, rfl⟩
end Go.Proofs.Ytcdjpapjjoldeaa
set_option linter.unusedSimpArgs false
set_option linter.unusedVariables false
namespace Go.Proofs.Ytcdjpapjjoldeaa
open Go X M Try

/- impl.TrivialPeak -/
theorem TrivialPeak_spec {F : FH} {L : List HP} {tpv : Value} {tp : List Int} (htp : IntsF F tpv tp) {lfv : Value} {lf : List Int} (hlf : IntsF F lfv lf) {rtv : Value} {rt : List Int} (hrt : IntsF F rtv rt) {i1 : Int} {i2 : Int} {i3 : Int} (hb2 : lf.length ≤ 4000000) (hb3 : rt.length ≤ 4000000) :
    Does prog 59 [.agg #[tpv, lfv, rtv, ii (i1), ii (i2), ii (i3)]] F (L) (fun v F' L' => (.bool (trivB (tp, lf, rt, i1, i2, i3)) : Value) = v ∧ F = F' ∧ L = L') := by
 refine qI func59 rfl rfl rfl (qc (qa (cX (ja [tpv, lfv, rtv, ii (i1), ii (i2), ii (i3)] rfl rfl ?_))))
 intro b1
 refine qh (.bool (false)) rfl (qb (qc (qa (cX (qo (1) jo rfl qq (by decide) rfl rfl (cX (qj qQ rfl (Rd.own [] rfl rfl) (cX (qo (2) jo rfl qq (by decide) rfl rfl (cX (qj qQ rfl (Rd.own [] rfl rfl) (cX (qs (args := [lfv, rtv]) call67 rfl (Equal_spec hlf hrt (hbd := (by first | assumption | rfl | omega | (left; simp; done) | (right; simp; done)))) ?_)))))))))))))
 rintro _ _ _ _ ⟨rfl, rfl, rfl⟩
 refine qh (.bool (decide (lf = rt))) rfl (qb (qz (qu (L' := L) [.bool (decide (lf = rt))] (.bool (decide (lf = rt))) (.tmp rfl .nil) rfl rF rF (sD sR) ?_)))
 exact ⟨rfl, rfl, rfl⟩

/- spec.TrivialPeak -/
theorem sTrivialPeak_spec {F : FH} {L : List HP} {tpv : Value} {tp : List Int} (htp : IntsF F tpv tp) {lfv : Value} {lf : List Int} (hlf : IntsF F lfv lf) {rtv : Value} {rt : List Int} (hrt : IntsF F rtv rt) {i1 : Int} {i2 : Int} {i3 : Int} (hb2 : lf.length ≤ 4000000) (hb3 : rt.length ≤ 4000000) :
    Does prog 94 [.agg #[tpv, lfv, rtv, ii (i1), ii (i2), ii (i3)]] F (L) (fun v F' L' => (.bool (trivB (tp, lf, rt, i1, i2, i3)) : Value) = v ∧ F = F' ∧ L = L') := by
 refine qI func94 rfl rfl rfl (qc (qa (cX (ja [tpv, lfv, rtv, ii (i1), ii (i2), ii (i3)] rfl rfl ?_))))
 intro b1
 refine qh (.bool (false)) rfl (qb (qc (qa (cX (qo (1) jo rfl qq (by decide) rfl rfl (cX (qj qQ rfl (Rd.own [] rfl rfl) (cX (qo (2) jo rfl qq (by decide) rfl rfl (cX (qj qQ rfl (Rd.own [] rfl rfl) (cX (qs (args := [lfv, rtv]) call126 rfl (SameTerm_spec hlf hrt (hbd := (by first | assumption | rfl | omega | (left; simp; done) | (right; simp; done)))) ?_)))))))))))))
 rintro _ _ _ _ ⟨rfl, rfl, rfl⟩
 refine qh (.bool (decide (lf = rt))) rfl (qb (qz (qu (L' := L) [.bool (decide (lf = rt))] (.bool (decide (lf = rt))) (.tmp rfl .nil) rfl rF rF (sD sR) ?_)))
 exact ⟨rfl, rfl, rfl⟩

/- impl.allPeaks$1 -/
theorem allPeaks1W_spec {F : FH} {L : List HP} {tpv : Value} {tp : List Int} (htp : IntsF F tpv tp) {lfv : Value} {lf : List Int} (hlf : IntsF F lfv lf) {rtv : Value} {rt : List Int} (hrt : IntsF F rtv rt) {i1 : Int} {i2 : Int} {i3 : Int}  {b : Nat} (hzb : FzC F b [.func (.func 59) #[] #[]]) (hb2 : lf.length ≤ 4000000) (hb3 : rt.length ≤ 4000000) :
    Does prog 164 [.agg #[tpv, lfv, rtv, ii (i1), ii (i2), ii (i3)], ptr b 0] F (L) (fun v F' L' => (.bool (!(trivB (tp, lf, rt, i1, i2, i3))) : Value) = v ∧ F = F' ∧ L = L') := by
 refine qI func164 rfl rfl rfl (qc (qa (cX (ja [tpv, lfv, rtv, ii (i1), ii (i2), ii (i3)] rfl rfl ?_))))
 intro b1
 refine qh (.bool (false)) rfl (qb (qc (qa (cX (qj isAgg86 rfl (FzC.rd1 hzb rfl) (cX (qB [tpv, lfv, rtv, ii (i1), ii (i2), ii (i3)] isAgg76 ji rfl rfl (Rd.ownN [] rfl rfl) (cX (XOp.callV (first := []) (captured := []) (args := [.agg #[tpv, lfv, rtv, ii (i1), ii (i2), ii (i3)]]) call59 rfl rfl (TrivialPeak_spec htp hlf hrt (hb2 := (by first | assumption | rfl | omega | simp)) (hb3 := (by first | assumption | rfl | omega | simp))) ?_)))))))))
 rintro _ _ _ _ ⟨rfl, rfl, rfl⟩
 refine cX (jr rfl (qh (.bool (!(trivB (tp, lf, rt, i1, i2, i3)))) rfl (qb (qz (qu (L' := L) [.bool (!(trivB (tp, lf, rt, i1, i2, i3)))] (.bool (!(trivB (tp, lf, rt, i1, i2, i3)))) (.tmp rfl .nil) rfl rF rF (sD sR) ?_)))))
 exact ⟨(vB (by skip; simp_all)), rfl, rfl⟩

/- slices.IndexFunc[[]impl.Peak,impl.Peak] -/
theorem IndexFuncW_spec {F : FH} {L : List HP} {ksv : Value} {ks : List PkT} (hks : PeaksF F ksv ks)  {b : Nat} (hzb : FzC F b [.func (.func 59) #[] #[]]) (hlt : ks.length ≤ 4000000) (hbd : ∀ i, i < ks.length → (ks.getD i ([], [], [], 0, 0, 0)).2.1.length ≤ 4000000 ∧ (ks.getD i ([], [], [], 0, 0, 0)).2.2.1.length ≤ 4000000) :
    Does prog 172 [ksv, .func (.func 164) #[] #[ptr b 0]] F (L) (fun v F' L' => (ii (badG (trivB) ks) : Value) = v ∧ F = F' ∧ L = L') := by
 refine qI func172 rfl rfl rfl (qc (qa (qh (ii (0)) rfl (qb (qc (qc (qa (qf (ksv) rfl (cX (qD jz rfl hks.slv (qf (ii (0)) rfl (qb (qF (jg (α := Nat) (fun k => [(0, ksv), (1, .func (.func 164) #[] #[ptr b 0]), (7, ii ((ks.length : Int))), (8, ii ((k : Int)))]) (fun k => L) (fun k F' => F = F' ∧ (k ≤ ks.length) ∧ (∀ i, i < k → (trivB) (ks.getD i ([], [], [], 0, 0, 0)) = true)) (fun k => ks.length - k) 0 ⟨rfl, rfl, rfl, rfl, ⟨⟩⟩ sR ⟨rfl, (by (try dsimp only) <;> omega), (fun i hi => absurd hi (by omega))⟩ ?_))))))))))))))
 rintro k rE _ _ ⟨rfl, hk, hall⟩
 show X _ _ _ _ (envs [(0, ksv), (1, .func (.func 164) #[] #[ptr b 0]), (7, ii ((ks.length : Int))), (8, ii ((k : Int)))] rE) _ (L)
 refine qc (qa (cX (qG rfl rfl (qb (qc ?_)))))
 refine qx (p := (k : Int) < (ks.length : Int)) rfl (fun h1 => ?_) (fun h1 => ?_)
 ·refine qw (qc (qF (qc (qa (qf (ii ((k : Int))) rfl (qh (ii ((k : Int))) rfl (qb (qc (qa (qf (.func (.func 164) #[] #[ptr b 0]) rfl (qf (ksv) rfl (qf (ii ((k : Int))) rfl (cX (qk k jz ji rfl rfl rfl hks.slv (by omega) rfl ?_))))))))))))))
  obtain ⟨a1, a2, a3, ha1, ha2, ha3, hrg1, hq1⟩ := hks.rd (i := k) (by omega)
  refine cX (qB [a1, a2, a3, ii ((ks.getD k ([], [], [], 0, 0, 0)).2.2.2.1), ii ((ks.getD k ([], [], [], 0, 0, 0)).2.2.2.2.1), ii ((ks.getD k ([], [], [], 0, 0, 0)).2.2.2.2.2)] isAgg76 ji rfl rfl (Rd.all (hrg1 _)) (cX (XOp.callV (first := []) (captured := [ptr b 0]) (args := [.agg #[a1, a2, a3, ii ((ks.getD k ([], [], [], 0, 0, 0)).2.2.2.1), ii ((ks.getD k ([], [], [], 0, 0, 0)).2.2.2.2.1), ii ((ks.getD k ([], [], [], 0, 0, 0)).2.2.2.2.2)], ptr b 0]) call164 rfl rfl (allPeaks1W_spec ha1 ha2 ha3 hzb (hb2 := ((hbd k (by omega)).1)) (hb3 := ((hbd k (by omega)).2))) ?_)))
  rintro _ _ _ _ ⟨rfl, rfl, rfl⟩
  refine qb ?_
  refine X.cond (t := !(trivB (((ks.getD k ([], [], [], 0, 0, 0)).1), ((ks.getD k ([], [], [], 0, 0, 0)).2.1), ((ks.getD k ([], [], [], 0, 0, 0)).2.2.1), ((ks.getD k ([], [], [], 0, 0, 0)).2.2.2.1), ((ks.getD k ([], [], [], 0, 0, 0)).2.2.2.2.1), ((ks.getD k ([], [], [], 0, 0, 0)).2.2.2.2.2)))) rfl (fun h2 => ?_) (fun h2 => ?_)
  ·refine qc (qa (qf (ii ((k : Int))) rfl (qh (ii ((k : Int))) rfl (qb (qz (qy (ql (ql (qy (ql (qu (L' := L) [ii ((k : Int))] (ii ((k : Int))) (.tmp rfl .nil) rfl rF rF sR ?_)))))))))))
   exact ⟨(vI (badG_at (([], [], [], 0, 0, 0) : PkT) (by omega) (by simp_all) hall)), rfl, rfl⟩
  refine qw (qa (cX (qM (((k + 1 : Nat) : Int)) rfl rfl (by omega) (by omega) (qf (ii (((k + 1 : Nat) : Int))) rfl (qb ?_)))))
  exact ⟨k + 1, _, FLe.refl _, rF, ⟨rfl, rfl, rfl, rfl, ⟨⟩⟩, sR, ⟨rfl, (by (try dsimp only) <;> omega), (fun i hi => (Nat.lt_or_ge i k).elim (fun h => hall i h) (fun h => by obtain rfl : i = k := (by omega); simp_all))⟩, (by omega)⟩
 refine jc (qt (qt (qL (qc (qa (qh (ii (-1)) rfl (qb (qz (qu (L' := L) [ii (-1)] (ii (-1)) (.tmp rfl .nil) rfl rF rF sR ?_)))))))))
 exact ⟨(vI (badG_none (([], [], [], 0, 0, 0) : PkT) (fun i hi => hall i (by omega)))), rfl, rfl⟩

/- slices.ContainsFunc[[]impl.Peak,impl.Peak] -/
theorem ContainsFuncW_spec {F : FH} {L : List HP} {ksv : Value} {ks : List PkT} (hks : PeaksF F ksv ks)  {b : Nat} (hzb : FzC F b [.func (.func 59) #[] #[]]) (hlt : ks.length ≤ 4000000) (hbd : ∀ i, i < ks.length → (ks.getD i ([], [], [], 0, 0, 0)).2.1.length ≤ 4000000 ∧ (ks.getD i ([], [], [], 0, 0, 0)).2.2.1.length ≤ 4000000) :
    Does prog 163 [ksv, .func (.func 164) #[] #[ptr b 0]] F (L) (fun v F' L' => (.bool (decide (badG (trivB) ks ≥ 0)) : Value) = v ∧ F = F' ∧ L = L') := by
 refine qI func163 rfl rfl rfl (qc (qa (qh (.bool (false)) rfl (qb (qc (qa (qf (ksv) rfl (qf (.func (.func 164) #[] #[ptr b 0]) rfl (cX (qs (args := [ksv, .func (.func 164) #[] #[ptr b 0]]) call172 rfl (IndexFuncW_spec hks hzb (hlt := (by first | assumption | rfl | omega | simp)) (hbd := (by first | assumption | rfl | omega | simp))) ?_))))))))))
 rintro _ _ _ _ ⟨rfl, rfl, rfl⟩
 refine cX (jI rfl rfl (qh (.bool (decide ((badG (trivB) ks : Int) ≥ 0))) rfl (qb (qz (qu (L' := L) [.bool (decide ((badG (trivB) ks : Int) ≥ 0))] (.bool (decide ((badG (trivB) ks : Int) ≥ 0))) (.tmp rfl .nil) rfl rF rF sR ?_)))))
 exact ⟨rfl, rfl, rfl⟩

/- impl.allPeaks -/
set_option maxRecDepth 20000 in
theorem allPeaksW_spec {F : FH} {L : List HP} {arv : Value} {ar : List Int} (har : IntsF F arv ar) {rsv : Value} {rs : List (List Int × List Int)} (hrs : PairsF F rsv rs)  :
    Does prog 90 [.agg #[arv, rsv], .func (.func 59) #[] #[]] F (L) (fun v F' L' => (.bool (decide ((psO ar rs).isSome = true ∧ LinS rs ∧ ((psO ar rs).getD []).all (trivB) = true)) : Value) = v ∧ L = L') := by
 refine qI func90 rfl rfl rfl (qc (qa (cX (ja [arv, rsv] rfl rfl ?_))))
 intro b1
 refine cX (ja [.func (.func 59) #[] #[]] rfl rfl ?_)
 intro b2
 refine qh (.bool (false)) rfl (qb (qc (qc (qa (cX (qB [arv, rsv] jJ jC rfl rfl (Rd.ownN [_] rfl rfl) (cX (qs (args := [.agg #[arv, rsv]]) call162 rfl (LeftLinearIn_spec har hrs) ?_))))))))
 rintro _ _ _ _ ⟨rfl, rfl, rfl⟩
 refine cX (jK rfl (qb ?_))
 refine qx (p := ¬(sysOk ar rs = true ∧ LinS rs)) rfl (fun h1 => ?_) (fun h1 => ?_)
 ·have hll9 : ¬ (sysOk ar rs = true ∧ LinS rs) := by simpa using h1
  refine qc (qa (qh (.bool (false)) rfl (qb (qz (ql (qu (L' := L) [.bool (false)] (.bool (false)) (.tmp rfl .nil) rfl rF rF (sD (sD sR)) ?_))))))
  have e9 : ¬ ((psO ar rs).isSome = true ∧ LinS rs ∧ ((psO ar rs).getD []).all (trivB) = true) := fun h9 => hll9 ⟨psO_sys h9.1, h9.2.1⟩
  exact ⟨congrArg Value.bool (decide_eq_false e9), rfl⟩
 have hll9 : sysOk ar rs = true ∧ LinS rs := by simpa using h1
 have hsys := hll9.1
 have hps := ps_yes hsys
 have hnl := psO_len (ar := ar) (rs := rs)
 have hnb := psO_at (ar := ar) (rs := rs)
 have hno := psO_okAt (ar := ar) (rs := rs)
 rw [hps] at hnl hnb hno
 refine qw (qc (qa (cX (qB [arv, rsv] jJ jC rfl rfl (Rd.ownN [_] rfl rfl) (cX (qs (args := [.agg #[arv, rsv]]) call98 rfl (peaks_spec har hrs (hsys := (hsys))) ?_))))))
 rintro _ F1 _ le1 ⟨x1, rfl, hr1, hr2, rfl⟩
 refine qf (.tuple #[x1, .bool ((peaksF ar rs).isSome)]) rfl (cX (qY (x1) rfl rfl (cX (qY (.bool ((peaksF ar rs).isSome)) rfl rfl (qh (x1) rfl (qh (.bool ((peaksF ar rs).isSome)) rfl (qb (qc (qa (qf (.bool ((peaksF ar rs).isSome)) rfl (qf (.bool ((peaksF ar rs).isSome)) rfl ?_)))))))))))
 by_cases h2 : ((peaksF ar rs).isSome) = true
 ·refine qr (t := 16) rfl (vB h2) (qi (x1) rfl (qr (t := 16) rfl (vB h2) (XOp.makeFuncL [] [ptr b2 0] rfl rfl (XL.freeze [] _ _ rfl (fun F2 le2 hz1 => ?_)))))
  replace hr1 := hr1.mono le2
  have hf1 : FzC F2 b2 [.func (.func 59) #[] #[]] := Fz.cells hz1
  refine qr (t := 16) rfl (vB h2) (qs (args := [x1, .func (.func 164) #[] #[ptr b2 0]]) call163 rfl (ContainsFuncW_spec hr1 hf1 (hlt := (by omega)) (hbd := (fun i hi => by have h7 := hnb i hi; exact ⟨by omega, by omega⟩))) ?_)
  rintro _ _ _ _ ⟨rfl, rfl, rfl⟩
  refine qr (t := 16) rfl (vB h2) (jK rfl (cX (qS (.bool (decide (¬(badG (trivB) (((peaksF ar rs).getD [])) ≥ 0)))) (vB h2) rfl (qh (.bool (decide (¬(badG (trivB) (((peaksF ar rs).getD [])) ≥ 0)))) rfl (qb (qz (qu (L' := L) [.bool (decide (¬(badG (trivB) (((peaksF ar rs).getD [])) ≥ 0)))] (.bool (decide (¬(badG (trivB) (((peaksF ar rs).getD [])) ≥ 0)))) (.tmp rfl .nil) rfl (qn le1 le2) rF (sD sR) ?_)))))))
  rw [hps]
  exact ⟨congrArg Value.bool (by have h9 := hll9.2; have h8 := badG_iff (q := trivB) (l := (peaksF ar rs).getD []); cases hA : ((peaksF ar rs).getD []).all (trivB) <;> simp_all <;> omega), rfl⟩
 rw [Bool.not_eq_true] at h2
 refine qp (t := 16) rfl (vB h2) (qp (t := 16) rfl (vB h2) (qp (t := 16) rfl (vB h2) (qp (t := 16) rfl (vB h2) (cX (qT (.bool (false)) (vB h2) rfl (qh (.bool (false)) rfl (qb (qz (qu (L' := L) [.bool (false)] (.bool (false)) (.tmp rfl .nil) rfl le1 rF (sD (sD sR)) ?_)))))))))
 rw [hps]
 exact ⟨congrArg Value.bool (by have h9 := hll9.2; have h8 := badG_iff (q := trivB) (l := (peaksF ar rs).getD []); cases hA : ((peaksF ar rs).getD []).all (trivB) <;> simp_all <;> omega), rfl⟩

/- impl.WeaklyIn -/
theorem WeaklyIn_spec {F : FH} {L : List HP} {arv : Value} {ar : List Int} (har : IntsF F arv ar) {rsv : Value} {rs : List (List Int × List Int)} (hrs : PairsF F rsv rs) :
    Does prog 36 [.agg #[arv, rsv]] F (L) (fun v F' L' => (.bool (decide ((psO ar rs).isSome = true ∧ LinS rs ∧ ((psO ar rs).getD []).all (trivB) = true)) : Value) = v ∧ L = L') := by
 refine qI func36 rfl rfl rfl (qc (qa (cX (ja [arv, rsv] rfl rfl ?_))))
 intro b1
 refine qh (.bool (false)) rfl (qb (qc (qa (cX (qB [arv, rsv] jJ jC rfl rfl (Rd.ownN [] rfl rfl) (cX (qs (args := [.agg #[arv, rsv], .func (.func 59) #[] #[]]) call90 rfl (allPeaksW_spec har hrs) ?_)))))))
 rintro _ F1 _ le1 ⟨rfl, rfl⟩
 refine qh (.bool (decide ((psO ar rs).isSome = true ∧ LinS rs ∧ ((psO ar rs).getD []).all (trivB) = true))) rfl (qb (qz (qu (L' := L) [.bool (decide ((psO ar rs).isSome = true ∧ LinS rs ∧ ((psO ar rs).getD []).all (trivB) = true))] (.bool (decide ((psO ar rs).isSome = true ∧ LinS rs ∧ ((psO ar rs).getD []).all (trivB) = true))) (.tmp rfl .nil) rfl le1 rF (sD sR) ?_)))
 exact ⟨rfl, rfl⟩

/- spec.WeaklyIn -/
set_option maxRecDepth 20000 in
theorem sWeaklyIn_spec {F : FH} {L : List HP} {arv : Value} {ar : List Int} (har : IntsF F arv ar) {rsv : Value} {rs : List (List Int × List Int)} (hrs : PairsF F rsv rs) (hla : ar.length ≤ 4000000) (hlr : rs.length ≤ 4000000) (hrb : ∀ i, i < rs.length → (rs.getD i ([], [])).1.length ≤ 4000000 ∧ (rs.getD i ([], [])).2.length ≤ 4000000) :
    Does prog 35 [.agg #[arv, rsv]] F (L) (fun v F' L' => (.bool (decide ((psO ar rs).isSome = true ∧ LinS rs ∧ ((psO ar rs).getD []).all (trivB) = true)) : Value) = v ∧ L = L') := by
 refine qI func35 rfl rfl rfl ?_
 have hnl := psO_len (ar := ar) (rs := rs)
 have hnb := psO_at (ar := ar) (rs := rs)
 have hss := psO_sys (ar := ar) (rs := rs)
 refine qc (qa (cX (ja [arv, rsv] rfl rfl ?_)))
 intro b1
 refine qh (.bool (false)) rfl (qb (qc (qa (cX (qB [arv, rsv] jJ jC rfl rfl (Rd.ownN [] rfl rfl) (cX (qs (args := [.agg #[arv, rsv]]) call37 rfl (sPeaksOf_spec har hrs (hla := (by first | assumption | rfl | omega | simp)) (hlr := (by first | assumption | rfl | omega | simp)) (hrb := (by first | assumption | rfl | omega | simp))) ?_)))))))
 rintro _ F1 _ le1 ⟨x1, rfl, hr1, rfl⟩
 replace har := har.mono le1
 replace hrs := hrs.mono le1
 refine qf (.tuple #[x1, .bool ((psO ar rs).isSome)]) rfl (cX (qY (x1) rfl rfl (cX (qY (.bool ((psO ar rs).isSome)) rfl rfl (qh (x1) rfl (qh (.bool ((psO ar rs).isSome)) rfl (qb (qc (qc (qa (qf (.bool ((psO ar rs).isSome)) rfl (cX (jr rfl (qf (.bool (!((psO ar rs).isSome))) rfl ?_))))))))))))))
 by_cases h1 : (!((psO ar rs).isSome)) = true
 ·refine qp (t := 13) rfl (vB h1) (qp (t := 13) rfl (vB h1) (qp (t := 13) rfl (vB h1) (cX (qS (.bool (true)) (vB h1) rfl (qb (jw rfl (qc (qa (qh (.bool (false)) rfl (qb (qz (ql (qu (L' := L) [.bool (false)] (.bool (false)) (.tmp rfl .nil) rfl le1 rF (sD sR) ?_)))))))))))))
  exact ⟨congrArg Value.bool (decide_eq_false (by simp_all)), rfl⟩
 rw [Bool.not_eq_true] at h1
 refine qr (t := 13) rfl (vB h1) (qB [arv, rsv] jJ jC rfl rfl (Rd.ownN [] rfl rfl) (qr (t := 13) rfl (vB h1) (qs (args := [.agg #[arv, rsv]]) call87 rfl (sLeftLinearIn_spec har hrs (hla := (by first | assumption | rfl | omega | simp)) (hlr := (by first | assumption | rfl | omega | simp)) (hrb := (by first | assumption | rfl | omega | simp))) ?_)))
 rintro _ _ _ _ ⟨rfl, rfl, rfl⟩
 refine qr (t := 13) rfl (vB h1) (jK rfl (cX (qT (.bool (decide (¬(sysOk ar rs = true ∧ LinS rs)))) (vB h1) rfl (qb ?_))))
 refine qx (p := ¬(sysOk ar rs = true ∧ LinS rs)) rfl (fun h2 => ?_) (fun h2 => ?_)
 ·refine qc (qa (qh (.bool (false)) rfl (qb (qz (ql (qu (L' := L) [.bool (false)] (.bool (false)) (.tmp rfl .nil) rfl le1 rF (sD sR) ?_))))))
  exact ⟨congrArg Value.bool (decide_eq_false (by simp_all)), rfl⟩
 refine qw (qc (qc (qa (qh (ii (0)) rfl (qb (qF (jg (α := Nat) (fun k => [(3, x1), (5, ii ((k : Int)))]) (fun k => cellsH b1 [arv, rsv] 32 :: L) (fun k F' => F1 = F' ∧ (k ≤ ((psO ar rs).getD []).length) ∧ (∀ i, i < k → trivB (((psO ar rs).getD []).getD i ([], [], [], 0, 0, 0)) = true)) (fun k => ((psO ar rs).getD []).length - k) 0 ⟨rfl, rfl, ⟨⟩⟩ (sC sR) ⟨rfl, (by (try dsimp only) <;> omega), (fun i hi => absurd hi (by omega))⟩ ?_)))))))
 rintro k rE _ _ ⟨rfl, hk, hall⟩
 show X _ _ _ _ (envs [(3, x1), (5, ii ((k : Int)))] rE) _ (cellsH b1 [arv, rsv] 32 :: L)
 have hnbk := hnb k
 refine qc (qc (qa (qf (ii ((k : Int))) rfl (qf (x1) rfl (cX (qD jz rfl hr1.slv (cX (qG rfl rfl (qb ?_)))))))))
 refine qx (p := (k : Int) < (((((psO ar rs).getD [])).length : Nat) : Int)) rfl (fun h3 => ?_) (fun h3 => ?_)
 ·refine qw (qc (qF (qc (qa (qf (x1) rfl (qf (ii ((k : Int))) rfl (cX (qk k jz ji rfl rfl rfl hr1.slv (by omega) rfl ?_))))))))
  obtain ⟨a1, a2, a3, ha1, ha2, ha3, hrg1, hq1⟩ := hr1.rd (i := k) (by omega)
  refine cX (qB [a1, a2, a3, ii (((((psO ar rs).getD [])).getD k ([], [], [], 0, 0, 0)).2.2.2.1), ii (((((psO ar rs).getD [])).getD k ([], [], [], 0, 0, 0)).2.2.2.2.1), ii (((((psO ar rs).getD [])).getD k ([], [], [], 0, 0, 0)).2.2.2.2.2)] isAgg76 ji rfl rfl (Rd.all (hrg1 _)) (cX (qs (args := [.agg #[a1, a2, a3, ii (((((psO ar rs).getD [])).getD k ([], [], [], 0, 0, 0)).2.2.2.1), ii (((((psO ar rs).getD [])).getD k ([], [], [], 0, 0, 0)).2.2.2.2.1), ii (((((psO ar rs).getD [])).getD k ([], [], [], 0, 0, 0)).2.2.2.2.2)]]) call94 rfl (sTrivialPeak_spec ha1 ha2 ha3 (hb2 := (by have := hnbk (by omega); omega)) (hb3 := (by have := hnbk (by omega); omega))) ?_)))
  rintro _ _ _ _ ⟨rfl, rfl, rfl⟩
  refine cX (jr rfl (qb ?_))
  refine X.cond (t := !(trivB ((((((psO ar rs).getD [])).getD k ([], [], [], 0, 0, 0)).1), (((((psO ar rs).getD [])).getD k ([], [], [], 0, 0, 0)).2.1), (((((psO ar rs).getD [])).getD k ([], [], [], 0, 0, 0)).2.2.1), (((((psO ar rs).getD [])).getD k ([], [], [], 0, 0, 0)).2.2.2.1), (((((psO ar rs).getD [])).getD k ([], [], [], 0, 0, 0)).2.2.2.2.1), (((((psO ar rs).getD [])).getD k ([], [], [], 0, 0, 0)).2.2.2.2.2)))) rfl (fun h4 => ?_) (fun h4 => ?_)
  ·refine qc (qa (qh (.bool (false)) rfl (qb (qz (qy (ql (ql (qy (ql (qu (L' := L) [.bool (false)] (.bool (false)) (.tmp rfl .nil) rfl le1 rF (sD sR) ?_))))))))))
   exact ⟨congrArg Value.bool (decide_eq_false (fun h9 => by have h8 := (all_getD_iff (([], [], [], 0, 0, 0) : PkT)).1 h9.2.2 k (by omega); simp_all)), rfl⟩
  refine qw (qa (qf (ii ((k : Int))) rfl (cX (qM (((k + 1 : Nat) : Int)) rfl rfl (by omega) (by omega) (qh (ii (((k + 1 : Nat) : Int))) rfl (qb ?_))))))
  exact ⟨k + 1, _, FLe.refl _, rF, ⟨rfl, rfl, ⟨⟩⟩, (sC sR), ⟨rfl, (by (try dsimp only) <;> omega), (fun i hi => (Nat.lt_or_ge i k).elim (fun h => hall i h) (fun h => by obtain rfl : i = k := (by omega); simp_all))⟩, (by omega)⟩
 refine jc (qt (qt (qL (qc (qa (qh (.bool (true)) rfl (qb (qz (qu (L' := L) [.bool (true)] (.bool (true)) (.tmp rfl .nil) rfl le1 rF (sD sR) ?_)))))))))
 exact ⟨congrArg Value.bool (decide_eq_true ⟨by simp_all, by simp_all, (all_getD_iff (([], [], [], 0, 0, 0) : PkT)).2 (fun i hi => hall i (by omega))⟩), rfl⟩
end Go.Proofs.Ytcdjpapjjoldeaa
set_option linter.unusedSimpArgs false
set_option linter.unusedVariables false
namespace Go.Proofs.Ytcdjpapjjoldeaa
open Go X M Try

/- laws.FnExactWeaklyIn -/
set_option maxRecDepth 20000 in
theorem FnExactWeaklyIn_does {F : FH} {L : List HP} {arv : Value} {ar : List Int} (har : IntsF F arv ar) {rsv : Value} {rs : List (List Int × List Int)} (hrs : PairsF F rsv rs) (hlar : ar.length ≤ 9223372036854775807) (hlrs : rs.length ≤ 9223372036854775807) (hbrs : ∀ i, i < rs.length → (rs.getD i ([], [])).1.length ≤ 9223372036854775807 ∧ (rs.getD i ([], [])).2.length ≤ 9223372036854775807) :
    Does prog 6 [.agg #[arv, rsv]] F (L) (fun v F' L' => (.bool (true) : Value) = v ∧ F = F' ∧ L = L') := by
 refine qI func6 rfl rfl rfl (qc (qa (cX (ja [arv, rsv] rfl rfl ?_))))
 intro b1
 refine qh (.bool (false)) rfl (qb (qc (qa (qh (ii (1048576)) rfl (qb (qc (qa (cX (qB [arv, rsv] isAgg58 sizeOf58 rfl rfl (Rd.ownN [] rfl rfl) (qf (ii (1048576)) rfl (cX (qs (args := [.agg #[arv, rsv], ii (1048576)]) call30 rfl (szSystem_spec (z := 1048576) har hrs (hz := (by first | assumption | rfl | omega | simp)) (hal := (by first | assumption | rfl | omega | simp)) (hrl := (by first | assumption | rfl | omega | simp)) (hrb := (by first | assumption | rfl | omega | simp))) ?_))))))))))))
 rintro _ _ _ _ ⟨rfl, rfl, rfl⟩
 refine qh (ii (dec 1048576 (ar.length + szR rs))) rfl (qb (qc (qc (qa (qf (ii (dec 1048576 (ar.length + szR rs))) rfl (cX (qG rfl rfl (qb ?_))))))))
 refine qx (p := (dec 1048576 (ar.length + szR rs) : Int) < 0) rfl (fun h1 => ?_) (fun h1 => ?_)
 ·refine qc (qa (qh (.bool (true)) rfl (qb (qz (ql (qu (L' := L) [.bool (true)] (.bool (true)) (.tmp rfl .nil) rfl rF rF (sD sR) ?_))))))
  exact ⟨rfl, rfl, rfl⟩
 have hd1 := dec_le2 h1 (by omega)
 have hzrs := szR_le (rs := rs)
 have hirs := hzrs.2
 have hcrs : ∀ i, i < rs.length → (rs.getD i ([], [])).1.length ≤ 4000000 ∧ (rs.getD i ([], [])).2.length ≤ 4000000 := fun i hi => by have := hirs i hi; omega
 have hfrs := flatPair_len rs
 refine qw (qc (qa (cX (qB [arv, rsv] isAgg58 sizeOf58 rfl rfl (Rd.ownN [] rfl rfl) (cX (XOp.thawL (id (qs (args := [.agg #[arv, rsv]]) call32 rfl (toSystem_spec har hrs (hla := (by first | assumption | rfl | omega | simp)) (hrl := (by first | assumption | rfl | omega | simp)) (hrb := (by first | assumption | rfl | omega | simp))) ?_))))))))
 rintro _ F1 _ le1 ⟨x1, x2, rfl, hr1, hr2, hr3, rfl⟩
 refine ⟨[intsH 2 x1 ar, pairsD 2 72 x2 rs], hr3, ?_⟩
 show XL _ _ _ _ _ _ _ (intsH 2 x1 ar :: pairsD 2 72 x2 rs :: cellsH b1 [arv, rsv] 58 :: L)
 refine XL.freezeF [] _ _ rfl (fun F2 le2 hz1 => ?_)
 replace har := har.mono le2
 replace hrs := hrs.mono le2
 have hf1 : IntsF F2 x1 ar := intsH.fz (xs := ar) hz1.fz
 refine XL.freezeF [] _ _ rfl (fun F3 le3 hz2 => ?_)
 replace har := har.mono le3
 replace hrs := hrs.mono le3
 replace hf1 := hf1.mono le3
 have hf2 : PairsF F3 x2 rs := pairsD.fz hz2.fz
 refine cX (qs (args := [.agg #[x1, x2]]) call35 rfl (sWeaklyIn_spec hf1 hf2 (hla := (by first | assumption | rfl | omega | simp)) (hlr := (by first | assumption | rfl | omega | simp)) (hrb := (by first | assumption | rfl | omega | simp))) ?_)
 rintro _ F4 _ le4 ⟨rfl, rfl⟩
 replace har := har.mono le4
 replace hrs := hrs.mono le4
 refine qh (.bool (decide ((psO ar rs).isSome = true ∧ LinS rs ∧ ((psO ar rs).getD []).all (trivB) = true))) rfl (qb (qc (qa (cX (qB [arv, rsv] isAgg58 sizeOf58 rfl rfl (Rd.ownN [] rfl rfl) (cX (XOp.thawL (id (qs (args := [.agg #[arv, rsv]]) call32 rfl (toSystem_spec har hrs (hla := (by first | assumption | rfl | omega | simp)) (hrl := (by first | assumption | rfl | omega | simp)) (hrb := (by first | assumption | rfl | omega | simp))) ?_)))))))))
 rintro _ F5 _ le5 ⟨x3, x4, rfl, hr4, hr5, hr6, rfl⟩
 refine ⟨[intsH 2 x3 ar, pairsD 2 72 x4 rs], hr6, ?_⟩
 show XL _ _ _ _ _ _ _ (intsH 2 x3 ar :: pairsD 2 72 x4 rs :: cellsH b1 [arv, rsv] 58 :: L)
 refine cX (jB [sN, sN] zeroValue32 rfl ?_)
 intro b2
 refine cX (jk [] _ [x3, x4] jC rfl rfl rfl (qv (je (qE hr4)) (qv (je (PairsF.isSl hr5)) jl)) rfl rfl rfl (qb (qc (qa (cX (qB [x3, x4] jJ jC rfl rfl (Rd.ownN [] rfl rfl) (XL.freezeF [_] _ _ rfl (fun F6 le6 hz3 => ?_))))))))
 replace har := har.mono le6
 replace hrs := hrs.mono le6
 have hf3 : IntsF F6 x3 ar := intsH.fz (xs := ar) hz3.fz
 refine XL.freezeF [_] _ _ rfl (fun F7 le7 hz4 => ?_)
 replace har := har.mono le7
 replace hrs := hrs.mono le7
 replace hf3 := hf3.mono le7
 have hf4 : PairsF F7 x4 rs := pairsD.fz hz4.fz
 refine cX (qs (args := [.agg #[x3, x4]]) call36 rfl (WeaklyIn_spec hf3 hf4) ?_)
 rintro _ F8 _ le8 ⟨rfl, rfl⟩
 replace har := har.mono le8
 replace hrs := hrs.mono le8
 replace hf3 := hf3.mono le8
 replace hf4 := hf4.mono le8
 refine qh (.bool (decide ((psO ar rs).isSome = true ∧ LinS rs ∧ ((psO ar rs).getD []).all (trivB) = true))) rfl (qb (qc (qc (qa (qf (.bool (decide ((psO ar rs).isSome = true ∧ LinS rs ∧ ((psO ar rs).getD []).all (trivB) = true))) rfl (qf (.bool (decide ((psO ar rs).isSome = true ∧ LinS rs ∧ ((psO ar rs).getD []).all (trivB) = true))) rfl (cX (XOp.neB (a := decide ((psO ar rs).isSome = true ∧ LinS rs ∧ ((psO ar rs).getD []).all (trivB) = true)) (b := decide ((psO ar rs).isSome = true ∧ LinS rs ∧ ((psO ar rs).getD []).all (trivB) = true)) runUnderlying4 rfl rfl (qb ?_)))))))))
 refine qx (p := (decide ((psO ar rs).isSome = true ∧ LinS rs ∧ ((psO ar rs).getD []).all (trivB) = true)) ≠ (decide ((psO ar rs).isSome = true ∧ LinS rs ∧ ((psO ar rs).getD []).all (trivB) = true))) rfl (fun h2 => ?_) (fun h2 => ?_)
 ·exact absurd rfl h2
 refine qw (qc (qc ?_))
 refine X.drawG [cellsH b2 [x3, x4] 32, cellsH b1 [arv, rsv] 58] L 3 [] [[], [], [1]] [] (phiG [pe (.agg #[x3, x4]), pe (.agg #[arv, rsv]), fun FF us v => (.agg #[((aggAt v 0)), ((aggAt v 1))] : Value) = v ∧ (IntsF FF ((aggAt v 0)) ar) ∧ (PairsF FF ((aggAt v 1)) rs)]) (ownL []) mixed rfl rfl (by kernel_rfl) (by kernel_rfl) (MonoG.get (m1 (m1 (mC (fun le h => ⟨h.1, h.2.1.mono le, h.2.2.mono le⟩) MonoG.nil)))) ?_ ?_
 ·refine gD (fun W Fs R lF z9 => ?_) ?_
  ·replace har := har.mono lF
   replace hrs := hrs.mono lF
   replace hf3 := hf3.mono lF
   replace hf4 := hf4.mono lF
   refine qg (qB [x3, x4] jJ jC rfl rfl (Rd.ownN [] rfl rfl) ?_)
   exact ⟨rfl, rfl⟩
  refine gD (fun W Fs R lF z9 => ?_) ?_
  ·replace har := har.mono lF
   replace hrs := hrs.mono lF
   replace hf3 := hf3.mono lF
   replace hf4 := hf4.mono lF
   refine qg (qB [arv, rsv] isAgg58 sizeOf58 rfl rfl (Rd.ownN [_] rfl rfl) ?_)
   exact ⟨rfl, rfl⟩
  refine gD (fun W Fs R lF z9 => ?_) ?_
  ·replace har := har.mono lF
   replace hrs := hrs.mono lF
   replace hf3 := hf3.mono lF
   replace hf4 := hf4.mono lF
   rw [eS (l := [(1, _)]) ⟨z9 1 rfl, ⟨⟩⟩]
   refine qg (qs (args := [.agg #[arv, rsv]]) call32 rfl (toSystem_spec har hrs (hla := (by first | assumption | rfl | omega | simp)) (hrl := (by first | assumption | rfl | omega | simp)) (hrb := (by first | assumption | rfl | omega | simp))) ?_)
   rintro _ F10 _ le10 ⟨x7, x8, rfl, hr10, hr11, hr12, rfl⟩
   replace hf3 := hf3.mono le10
   replace hf4 := hf4.mono le10
   exact ⟨⟨rfl, hr10, hr11⟩, rfl⟩
  exact stepsG.nil
 intro W F11 le11 hphi
 obtain ⟨e2, f2_1hr1, f2_1hr2⟩ := hphi 2 (by decide)
 generalize hu1 : ((aggAt (W 2) 0)) = u1 at e2 f2_1hr1 f2_1hr2
 generalize hu2 : ((aggAt (W 2) 1)) = u2 at e2 f2_1hr1 f2_1hr2
 rw [eS (l := [(0, _), (2, (.agg #[u1, u2]))]) ⟨(hphi 0 (by decide)), (e2).symm, ⟨⟩⟩]
 replace hf3 := hf3.mono le11
 replace hf4 := hf4.mono le11
 show XL _ _ _ _ _ _ _ (cellsH b2 [x3, x4] 32 :: cellsH b1 [arv, rsv] 58 :: L)
 refine cX (qs (args := [.agg #[x3, x4], .agg #[u1, u2]]) call34 rfl (eqSystem_spec hf3 hf4 f2_1hr1 f2_1hr2 (hcl := (by first | assumption | rfl | omega | simp)) (hal := (by first | assumption | rfl | omega | simp)) (hbd := (by first | assumption | rfl | omega | simp))) ?_)
 rintro _ _ _ _ ⟨rfl, rfl, rfl⟩
 refine cX (jK rfl (qb ?_))
 refine qx (p := ¬(ar = ar ∧ rs = rs)) rfl (fun h3 => ?_) (fun h3 => ?_)
 ·exact absurd (by first | rfl | exact ⟨rfl, rfl⟩ | exact ⟨⟨rfl, rfl⟩, rfl, rfl⟩ | simp) h3
 refine qw (qc (qa (qh (.bool (true)) rfl (qb (qz (qu (L' := L) [.bool (true)] (.bool (true)) (.tmp rfl .nil) rfl rF (qn (qn (qn (qn (qn (qn le2 le3) le4) le6) le7) le8) le11) (sD (sD sR)) ?_))))))
 exact ⟨rfl, rfl, rfl⟩
end Go.Proofs.Ytcdjpapjjoldeaa
