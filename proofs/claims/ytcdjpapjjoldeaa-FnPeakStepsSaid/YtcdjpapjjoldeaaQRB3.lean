/-
  Walks, one after the other (part 4).
-/
import Derived.Test.YtcdjpapjjoldeaaQRL2
import Derived.Test.YtcdjpapjjoldeaaQRB2
import Derived.Test.YtcdjpapjjoldeaaQRB0
set_option linter.unusedSimpArgs false
set_option linter.unusedVariables false
namespace Go.Proofs.Ytcdjpapjjoldeaa
open Go X M Try

/- spec.l11Away -/
theorem away2_spec {F : FH} {L : List HP} {tv : Value} {t : List Int} (ht : IntsF F tv t) {k : Int} (hk24 : k = 24) (hlt : t.length ≤ 4000000) (htg : ∀ i, i < t.length → -4000000 ≤ t.getD i 0) :
    Does prog 216 [tv, ii (k)] F (L) (fun v F' L' => F = F' ∧ IsSl v ∧ intsH 2 v (awayL t) :: L = L') := by
 refine ym func216 rfl rfl rfl (qX (qH (jc (sN) rfl (qI (qX (qH (cX (jQ (s := 1) [] [ii (0)] [] qU js yv rfl (by decide) rfl CellsAre.nil rfl ?_))))))))
 intro v1 hv1
 refine jc (v1) rfl (qI (qX (qX (qH (jc (ii (0)) rfl (qI (yf (yI (α := Nat × Value × List Int) (fun xQ => [(0, tv), (1, ii (k)), (5, xQ.2.1), (6, ii (((xQ.1 : Nat) : Int)))]) (fun xQ => intsH 2 xQ.2.1 xQ.2.2 :: L) (fun xQ F' => F = F' ∧ (IsSl xQ.2.1) ∧ (xQ.1 ≤ t.length) ∧ (xQ.2.2 = awayL (t.take xQ.1)) ∧ (xQ.2.2.length = xQ.1)) (fun xQ => t.length - xQ.1) (0, v1, []) ⟨rfl, rfl, rfl, rfl, ⟨⟩⟩ (sC sR) ⟨rfl, ((yH hv1)), (by (try dsimp only) <;> omega), (rfl), (rfl)⟩ ?_))))))))
 rintro ⟨j, ov, os⟩ rE _ _ ⟨rfl, hov, hj, hos, hol⟩
 show X _ _ _ _ (envs [(0, tv), (1, ii (k)), (5, ov), (6, ii ((j : Int)))] rE) _ (intsH 2 ov os :: L)
 dsimp only at hov hj hos hol
 have hgj := htg j
 refine qX (qX (qH (jb (ii ((j : Int))) rfl (jb (tv) rfl (cX (jZ qU rfl ht.slv (cX (yo rfl rfl (qI ?_)))))))))
 refine jV (p := (j : Int) < (t.length : Int)) rfl (fun h1 => ?_) (fun h1 => ?_)
 ·refine jU (qX (yf (qX (qH (jb (tv) rfl (jb (ii ((j : Int))) rfl (cX (jq j qU js rfl rfl rfl ht.slv (by omega) (Nat.mul_one _) (cX (jj yd rfl (ht.rd (by omega)) (cX (yo rfl rfl (qI ?_)))))))))))))
  refine jV (p := (t.getD j 0 : Int) < 0) rfl (fun h2 => ?_) (fun h2 => ?_)
  ·refine qH (jb (ov) rfl (jb (tv) rfl (jb (ii ((j : Int))) rfl (cX (jq j qU js rfl rfl rfl ht.slv (by omega) (Nat.mul_one _) (cX (jj yd rfl (ht.rd (by omega)) (jb (ii (k)) rfl (cX (yx ((t.getD j 0) - k) rfl rfl (by omega) (by omega) (cX (jQ (s := 1) [ii ((t.getD j 0) - k)] [ii (0)] [(0, [ii ((t.getD j 0) - k)])] qU js yv rfl (by decide) rfl (.cons rfl CellsAre.nil) rfl ?_))))))))))))
   intro v2 hv2
   refine cX (Qi (u := (t.getD j 0) - k) [_] _ qU typeInfo2 rfl rfl rfl rfl rfl rfl (SlV.own [] rfl) (Rd.sl [] rfl rfl) (by (try simp only [List.length_append, List.length_nil, List.length_cons, List.length_singleton, List.length_take, List.length_drop]); omega) ?_)
   intro v3 hs1 hn1
   refine jc (v3) rfl (qI (qH (jb (ii ((j : Int))) rfl (cX (yj (((j + 1 : Nat) : Int)) rfl rfl (by omega) (by omega) (jc (ii (((j + 1 : Nat) : Int))) rfl (qI ?_)))))))
   exact ⟨(j + 1, v3, os ++ [(t.getD j 0) - k]), _, FLe.refl _, rF, ⟨rfl, rfl, rfl, rfl, ⟨⟩⟩, (sD (sC sR)), ⟨rfl, (hs1), (by (try dsimp only) <;> omega), (by (try dsimp only); rw [hos]; exact (away_take (by omega) (by first | (left; constructor <;> omega) | (right; constructor <;> omega))).symm), (by (try dsimp only); rw [List.length_append, List.length_singleton]; omega)⟩, (by omega)⟩
  refine qH (jb (ov) rfl (jb (tv) rfl (jb (ii ((j : Int))) rfl (cX (jq j qU js rfl rfl rfl ht.slv (by omega) (Nat.mul_one _) (cX (jj yd rfl (ht.rd (by omega)) (cX (jQ (s := 1) [ii (t.getD j 0)] [ii (0)] [(0, [ii (t.getD j 0)])] qU js yv rfl (by decide) rfl (.cons rfl CellsAre.nil) rfl ?_)))))))))
  intro v4 hv3
  refine cX (Qi (u := t.getD j 0) [_] _ qU typeInfo2 rfl rfl rfl rfl rfl rfl (SlV.own [] rfl) (Rd.sl [] rfl rfl) (by (try simp only [List.length_append, List.length_nil, List.length_cons, List.length_singleton, List.length_take, List.length_drop]); omega) ?_)
  intro v5 hs2 hn2
  refine jc (v5) rfl (qI (qH (jb (ii ((j : Int))) rfl (cX (yj (((j + 1 : Nat) : Int)) rfl rfl (by omega) (by omega) (jc (ii (((j + 1 : Nat) : Int))) rfl (qI ?_)))))))
  exact ⟨(j + 1, v5, os ++ [t.getD j 0]), _, FLe.refl _, rF, ⟨rfl, rfl, rfl, rfl, ⟨⟩⟩, (sD (sC sR)), ⟨rfl, (hs2), (by (try dsimp only) <;> omega), (by (try dsimp only); rw [hos]; exact (away_take (by omega) (by first | (left; constructor <;> omega) | (right; constructor <;> omega))).symm), (by (try dsimp only); rw [List.length_append, List.length_singleton]; omega)⟩, (by omega)⟩
 refine yB (jO (jO (yk (qX (qH (jb (ov) rfl (jc (ov) rfl (qI (jW (jR (L' := intsH 2 ov os :: L) [ov] (ov) (.tmp rfl .nil) rfl rF rF (sC sR) ?_))))))))))
 refine ⟨rfl, hov, ?_⟩
 have hxs : (awayL t : List Int) = os := by rw [hos, show j = t.length from by omega, List.take_length]
 exact congrArg (fun z => intsH 2 _ z :: L) hxs

/- spec.l11Full -/
set_option maxHeartbeats 1000000 in
theorem full_step {k : Nat} (ih : ∀ k9 : Nat, k9 < k → ∀ {F : FH} {L : List HP} {ub : Nat} {ov : Value} {ocs : List Value} {ar : List Int} {bl : RowL} (hov : IsSl ov) (hC : RowsC F ocs bl) (hb : BOk ar bl) {σ : Sbs} {ρ : Int → Nat} {tv : Value} {t : List Int} (ht : IntsF F tv t) (hσ : Sol bl σ) (hρ : Acyc bl ρ) (htk : ∀ m ∈ t, m < 0 → ρ m < k9) (htg : ∀ i, i < t.length → -48 ≤ t.getD i 0) (htl : t.length ≤ 200), Does prog 217 [ptr ub 0, tv] F (cellsH ub [ov] 234 :: slH 27 1 ov 48 ocs :: L) (fun v F' L' => IsSl v ∧ F = F' ∧ intsH 2 v ((fullX σ t)) :: cellsH ub [ov] 234 :: slH 27 1 ov 48 ocs :: L = L')) {F : FH} {L : List HP} {ub : Nat} {ov : Value} {ocs : List Value} {ar : List Int} {bl : RowL} (hov : IsSl ov) (hC : RowsC F ocs bl) (hb : BOk ar bl) {σ : Sbs} {ρ : Int → Nat} {tv : Value} {t : List Int} (ht : IntsF F tv t) (hσ : Sol bl σ) (hρ : Acyc bl ρ) (htk : ∀ m ∈ t, m < 0 → ρ m < k) (htg : ∀ i, i < t.length → -48 ≤ t.getD i 0) (htl : t.length ≤ 200) :
    Does prog 217 [ptr ub 0, tv] F (cellsH ub [ov] 234 :: slH 27 1 ov 48 ocs :: L) (fun v F' L' => IsSl v ∧ F = F' ∧ intsH 2 v ((fullX σ t)) :: cellsH ub [ov] 234 :: slH 27 1 ov 48 ocs :: L = L') := by
 refine ym func217 rfl rfl rfl ?_
 have hbl := hb.len
 refine qX (qH (jc (sN) rfl (qI (qX (qH (cX (jQ (s := 1) [] [ii (0)] [] qU js yv rfl (by decide) rfl CellsAre.nil rfl ?_)))))))
 intro v1 hv1
 refine jc (v1) rfl (qI (qX (qX (qH (jc (ii (0)) rfl (qI (yf (yI (α := Nat × Value × List Int) (fun xQ => [(0, ptr ub 0), (1, tv), (5, xQ.2.1), (6, ii (((xQ.1 : Nat) : Int)))]) (fun xQ => intsH 2 xQ.2.1 xQ.2.2 :: cellsH ub [ov] 234 :: slH 27 1 ov 48 ocs :: L) (fun xQ F' => F = F' ∧ (IsSl xQ.2.1) ∧ (xQ.1 ≤ t.length) ∧ (xQ.2.2 = ap σ (t.take xQ.1)) ∧ (xQ.2.2.length ≤ 60)) (fun xQ => t.length - xQ.1) (0, v1, []) ⟨rfl, rfl, rfl, rfl, ⟨⟩⟩ (sC (sC (sC sR))) ⟨rfl, ((yH hv1)), (by (try dsimp only) <;> omega), (by simp [ap]), (Nat.zero_le _)⟩ ?_))))))))
 rintro ⟨j, wv, ws⟩ rE _ _ ⟨rfl, hwv, hj, hws, hwl⟩
 show X _ _ _ _ (envs [(0, ptr ub 0), (1, tv), (5, wv), (6, ii ((j : Int)))] rE) _ (intsH 2 wv ws :: cellsH ub [ov] 234 :: slH 27 1 ov 48 ocs :: L)
 dsimp only at hwv hj hws hwl
 have hgj := fun h : j < t.length => htg j h
 have hwl2 : ws.length = (ap σ (t.take j)).length := congrArg List.length hws
 refine qX (qX (qH (jb (ii ((j : Int))) rfl (jb (tv) rfl (cX (jZ qU rfl ht.slv (cX (yo rfl rfl (qI ?_)))))))))
 refine jV (p := (j : Int) < (t.length : Int)) rfl (fun h1 => ?_) (fun h1 => ?_)
 ·refine jU (qX (yf (qX (qX ?_))))
  by_cases h2 : (t.getD j 0 : Int) ≥ 0
  ·have hsj : σ (t.getD j 0) = [(t.getD j 0)] := hσ.sym (by omega)
   refine yN [intsH 2 wv ws, cellsH ub [ov] 234, slH 27 1 ov 48 ocs] L 15 [] [[], [], [0, 1], [2], [3], [4], [5], [5, 6], [5, 7], [5, 8], [5], [5], [5, 10, 11], [5, 12], [5, 13]] (phiL [qe tv, qe (ii ((j : Int)) : Value), qe (.pointer (some (elemA tv (j)))), qe (ii (t.getD j 0)), qe (.bool (decide ((t.getD j 0 : Int) ≥ 0)) : Value), qe (.bool (decide ((t.getD j 0 : Int) ≥ 0)) : Value), qe undef, qe undef, qe undef, qe undef, qe undef, qe undef, qe undef, qe undef, qe undef]) (ownL []) mixed rfl rfl (by kernel_rfl) ?_ ?_
   ·refine pD (fun W R z9 => ?_) ?_
    ·refine je (jk (tv) rfl ?_)
     exact ⟨rfl, rfl, rfl⟩
    refine pD (fun W R z9 => ?_) ?_
    ·refine je (jk (ii ((j : Int))) rfl ?_)
     exact ⟨rfl, rfl, rfl⟩
    refine pD (fun W R z9 => ?_) ?_
    ·rw [eS (l := [(0, _), (1, _)]) ⟨z9 0 rfl, z9 1 rfl, ⟨⟩⟩]
     refine je (jq j qU js rfl rfl rfl ht.slv (by omega) (Nat.mul_one _) ?_)
     exact ⟨rfl, rfl, rfl⟩
    refine pD (fun W R z9 => ?_) ?_
    ·rw [eS (l := [(2, _)]) ⟨z9 2 rfl, ⟨⟩⟩]
     refine je (jj yd rfl (ht.rd (by omega)) ?_)
     exact ⟨rfl, rfl, rfl⟩
    refine pD (fun W R z9 => ?_) ?_
    ·rw [eS (l := [(3, _)]) ⟨z9 3 rfl, ⟨⟩⟩]
     refine je (XOp.geq rfl rfl ?_)
     exact ⟨rfl, rfl, rfl⟩
    refine pD (fun W R z9 => ?_) ?_
    ·rw [eS (l := [(4, _)]) ⟨z9 4 rfl, ⟨⟩⟩]
     refine je (jk (.bool (decide ((t.getD j 0 : Int) ≥ 0))) rfl ?_)
     exact ⟨rfl, rfl, rfl⟩
    refine pD (fun W R z9 => ?_) ?_
    ·rw [eS (l := [(5, _)]) ⟨z9 5 rfl, ⟨⟩⟩]
     exact yA (t := 20) rfl (vT h2) ⟨rfl, rfl, rfl⟩
    refine pD (fun W R z9 => ?_) ?_
    ·rw [eS (l := [(5, _), (6, undef)]) ⟨z9 5 rfl, z9 6 rfl, ⟨⟩⟩]
     exact yA (t := 20) rfl (vT h2) ⟨rfl, rfl, rfl⟩
    refine pD (fun W R z9 => ?_) ?_
    ·rw [eS (l := [(5, _), (7, undef)]) ⟨z9 5 rfl, z9 7 rfl, ⟨⟩⟩]
     exact yA (t := 20) rfl (vT h2) ⟨rfl, rfl, rfl⟩
    refine pD (fun W R z9 => ?_) ?_
    ·rw [eS (l := [(5, _), (8, undef)]) ⟨z9 5 rfl, z9 8 rfl, ⟨⟩⟩]
     exact yA (t := 20) rfl (vT h2) ⟨rfl, rfl, rfl⟩
    refine pD (fun W R z9 => ?_) ?_
    ·rw [eS (l := [(5, _)]) ⟨z9 5 rfl, ⟨⟩⟩]
     exact yA (t := 20) rfl (vT h2) ⟨rfl, rfl, rfl⟩
    refine pD (fun W R z9 => ?_) ?_
    ·rw [eS (l := [(5, _)]) ⟨z9 5 rfl, ⟨⟩⟩]
     exact yA (t := 20) rfl (vT h2) ⟨rfl, rfl, rfl⟩
    refine pD (fun W R z9 => ?_) ?_
    ·rw [eS (l := [(5, _), (10, undef), (11, undef)]) ⟨z9 5 rfl, z9 10 rfl, z9 11 rfl, ⟨⟩⟩]
     exact yA (t := 20) rfl (vT h2) ⟨rfl, rfl, rfl⟩
    refine pD (fun W R z9 => ?_) ?_
    ·rw [eS (l := [(5, _), (12, undef)]) ⟨z9 5 rfl, z9 12 rfl, ⟨⟩⟩]
     exact yA (t := 20) rfl (vT h2) ⟨rfl, rfl, rfl⟩
    refine pD (fun W R z9 => ?_) ?_
    ·rw [eS (l := [(5, _), (13, undef)]) ⟨z9 5 rfl, z9 13 rfl, ⟨⟩⟩]
     exact yA (t := 20) rfl (vT h2) ⟨rfl, rfl, rfl⟩
    exact stepsP.nil
   intro W hphi
   rw [eS (l := [(5, _), (9, undef), (14, undef)]) ⟨(hphi 5 (by decide)), (hphi 9 (by decide)), (hphi 14 (by decide)), ⟨⟩⟩]
   show XL _ _ _ _ _ _ _ (intsH 2 wv ws :: cellsH ub [ov] 234 :: slH 27 1 ov 48 ocs :: L)
   refine jA (t := 20) rfl (vT h2) (jA (t := 20) rfl (vT h2) (jA (t := 20) rfl (vT h2) (jA (t := 20) rfl (vT h2) (cX (yp (.bool (true)) (vT h2) rfl (qI (yX rfl (qH (jb (wv) rfl (jb (tv) rfl ?_))))))))))
   refine jb (ii ((j : Int))) rfl (cX (jq j qU js rfl rfl rfl ht.slv (by omega) (Nat.mul_one _) (cX (jj yd rfl (ht.rd (by omega)) (cX (jQ (s := 1) [ii (t.getD j 0)] [ii (0)] [(0, [ii (t.getD j 0)])] qU js yv rfl (by decide) rfl (.cons rfl CellsAre.nil) rfl ?_))))))
   intro v2 hv2
   refine cX (Qi (u := t.getD j 0) [_] _ qU typeInfo2 rfl rfl rfl rfl rfl rfl (SlV.own [] rfl) (Rd.sl [] rfl rfl) (by (try simp only [List.length_append, List.length_nil, List.length_cons, List.length_singleton, List.length_take, List.length_drop]); omega) ?_)
   intro v3 hs1 hn1
   refine jc (v3) rfl (qI (qX (qH (jb (v3) rfl (cX (jZ qU rfl (intsH.slv [_] rfl) (cX (Qf rfl rfl (qI ?_)))))))))
   refine jV (p := ((((ws ++ [t.getD j 0]).length : Nat) : Int) : Int) > 60) rfl (fun h3 => ?_) (fun h3 => ?_)
   ·have hnext : ws ++ [t.getD j 0] = ws ++ σ (t.getD j 0) := by rw [hsj]
    have hbig2 : 60 < (ws ++ σ (t.getD j 0)).length := by rw [← hnext]; omega
    refine qX (qH (cX (jQ (s := 1) [] [ii (0)] [] qU js yv rfl (by decide) rfl CellsAre.nil rfl ?_)))
    intro v4 hv3
    refine jc (v4) rfl (qI (jW (ya (jw (jw (ya (jw (jR (L' := intsH 2 v4 ([]) :: cellsH ub [ov] 234 :: slH 27 1 ov 48 ocs :: L) [v4] (v4) (.tmp rfl .nil) rfl rF rF (sC (sD (sD (sC (sC sR))))) ?_))))))))
    have e9 : fullX σ t = [] := full_no (σ := σ) (j := j) (by omega) (by rw [List.length_append] at hbig2; omega)
    rw [e9]
    exact ⟨(yH hv3), rfl, rfl⟩
   have hnext : ws ++ [t.getD j 0] = ws ++ σ (t.getD j 0) := by rw [hsj]
   have hnlen : (ws ++ [t.getD j 0]).length ≤ 60 := by omega
   refine jU (qH (jb (ii ((j : Int))) rfl (cX (yj (((j + 1 : Nat) : Int)) rfl rfl (by omega) (by omega) (jc (ii (((j + 1 : Nat) : Int))) rfl (qI ?_))))))
   exact ⟨(j + 1, v3, ws ++ [t.getD j 0]), _, FLe.refl _, rF, ⟨rfl, rfl, rfl, rfl, ⟨⟩⟩, (sD (sC (sC (sC sR)))), ⟨rfl, (hs1), (by (try dsimp only) <;> omega), (by (try dsimp only); rw [ap_take (by omega), ← hws]; exact hnext), (by (try dsimp only); exact hnlen)⟩, (by omega)⟩
  have hj0 : t.getD j 0 < 0 := by omega
  have hgj2 := hgj (by omega)
  have hrj := htk _ (mem_of_getD (k := j) (by omega) rfl) hj0
  refine yN [intsH 2 wv ws, cellsH ub [ov] 234, slH 27 1 ov 48 ocs] L 15 [] [[], [], [0, 1], [2], [3], [4], [5], [5, 6], [5, 7], [5, 8], [5], [5], [5, 10, 11], [5, 12], [5, 13]] (phiL [qe tv, qe (ii ((j : Int)) : Value), qe (.pointer (some (elemA tv (j)))), qe (ii (t.getD j 0)), qe (.bool (decide ((t.getD j 0 : Int) ≥ 0)) : Value), qe (.bool (decide ((t.getD j 0 : Int) ≥ 0)) : Value), qe (ptr ub 0), qe (ptr ub 0), qe (ptr ub 0), qe ov, qe tv, qe (ii ((j : Int)) : Value), qe (.pointer (some (elemA tv (j)))), qe (ii (t.getD j 0)), qe (ii ((-1) - (t.getD j 0)))]) (ownL []) mixed rfl rfl (by kernel_rfl) ?_ ?_
  ·refine pD (fun W R z9 => ?_) ?_
   ·refine je (jk (tv) rfl ?_)
    exact ⟨rfl, rfl, rfl⟩
   refine pD (fun W R z9 => ?_) ?_
   ·refine je (jk (ii ((j : Int))) rfl ?_)
    exact ⟨rfl, rfl, rfl⟩
   refine pD (fun W R z9 => ?_) ?_
   ·rw [eS (l := [(0, _), (1, _)]) ⟨z9 0 rfl, z9 1 rfl, ⟨⟩⟩]
    refine je (jq j qU js rfl rfl rfl ht.slv (by omega) (Nat.mul_one _) ?_)
    exact ⟨rfl, rfl, rfl⟩
   refine pD (fun W R z9 => ?_) ?_
   ·rw [eS (l := [(2, _)]) ⟨z9 2 rfl, ⟨⟩⟩]
    refine je (jj yd rfl (ht.rd (by omega)) ?_)
    exact ⟨rfl, rfl, rfl⟩
   refine pD (fun W R z9 => ?_) ?_
   ·rw [eS (l := [(3, _)]) ⟨z9 3 rfl, ⟨⟩⟩]
    refine je (XOp.geq rfl rfl ?_)
    exact ⟨rfl, rfl, rfl⟩
   refine pD (fun W R z9 => ?_) ?_
   ·rw [eS (l := [(4, _)]) ⟨z9 4 rfl, ⟨⟩⟩]
    refine je (jk (.bool (decide ((t.getD j 0 : Int) ≥ 0))) rfl ?_)
    exact ⟨rfl, rfl, rfl⟩
   refine pD (fun W R z9 => ?_) ?_
   ·rw [eS (l := [(5, _)]) ⟨z9 5 rfl, ⟨⟩⟩]
    refine yh (t := 20) rfl (vF h2) (jk (ptr ub 0) rfl ?_)
    exact ⟨rfl, rfl, rfl⟩
   refine pD (fun W R z9 => ?_) ?_
   ·rw [eS (l := [(5, _), (6, _)]) ⟨z9 5 rfl, z9 6 rfl, ⟨⟩⟩]
    refine yh (t := 20) rfl (vF h2) (yw rfl ?_)
    exact ⟨rfl, rfl, rfl⟩
   refine pD (fun W R z9 => ?_) ?_
   ·rw [eS (l := [(5, _), (7, _)]) ⟨z9 5 rfl, z9 7 rfl, ⟨⟩⟩]
    refine yh (t := 20) rfl (vF h2) (jE (0) Qu rfl yT (by decide) rfl rfl ?_)
    exact ⟨rfl, rfl, rfl⟩
   refine pD (fun W R z9 => ?_) ?_
   ·rw [eS (l := [(5, _), (8, _)]) ⟨z9 5 rfl, z9 8 rfl, ⟨⟩⟩]
    refine yh (t := 20) rfl (vF h2) (jj Qv rfl (Rd.own [_] rfl rfl) ?_)
    exact ⟨rfl, rfl, rfl⟩
   refine pD (fun W R z9 => ?_) ?_
   ·rw [eS (l := [(5, _)]) ⟨z9 5 rfl, ⟨⟩⟩]
    refine yh (t := 20) rfl (vF h2) (jk (tv) rfl ?_)
    exact ⟨rfl, rfl, rfl⟩
   refine pD (fun W R z9 => ?_) ?_
   ·rw [eS (l := [(5, _)]) ⟨z9 5 rfl, ⟨⟩⟩]
    refine yh (t := 20) rfl (vF h2) (jk (ii ((j : Int))) rfl ?_)
    exact ⟨rfl, rfl, rfl⟩
   refine pD (fun W R z9 => ?_) ?_
   ·rw [eS (l := [(5, _), (10, _), (11, _)]) ⟨z9 5 rfl, z9 10 rfl, z9 11 rfl, ⟨⟩⟩]
    refine yh (t := 20) rfl (vF h2) (jq j qU js rfl rfl rfl ht.slv (by omega) (Nat.mul_one _) ?_)
    exact ⟨rfl, rfl, rfl⟩
   refine pD (fun W R z9 => ?_) ?_
   ·rw [eS (l := [(5, _), (12, _)]) ⟨z9 5 rfl, z9 12 rfl, ⟨⟩⟩]
    refine yh (t := 20) rfl (vF h2) (jj yd rfl (ht.rd (by omega)) ?_)
    exact ⟨rfl, rfl, rfl⟩
   refine pD (fun W R z9 => ?_) ?_
   ·rw [eS (l := [(5, _), (13, _)]) ⟨z9 5 rfl, z9 13 rfl, ⟨⟩⟩]
    refine yh (t := 20) rfl (vF h2) (yx ((-1) - (t.getD j 0)) rfl rfl (by omega) (by omega) ?_)
    exact ⟨rfl, rfl, rfl⟩
   exact stepsP.nil
  intro W hphi
  rw [eS (l := [(5, _), (9, _), (14, _)]) ⟨(hphi 5 (by decide)), (hphi 9 (by decide)), (hphi 14 (by decide)), ⟨⟩⟩]
  show XL _ _ _ _ _ _ _ (intsH 2 wv ws :: cellsH ub [ov] 234 :: slH 27 1 ov 48 ocs :: L)
  refine jB (t := 20) rfl (vF h2) (jq (((-1) - (t.getD j 0)).toNat) jX jF rfl rfl (by omega) (SlV.own [_, _] rfl) (by omega) (Nat.mul_one _) ?_)
  obtain ⟨a1, ha1, he1⟩ := hC.get (i := ((-1) - (t.getD j 0)).toNat) (by omega)
  refine jB (t := 20) rfl (vF h2) (jj yt rfl (Rd.sl [_, _] rfl he1) (jB (t := 20) rfl (vF h2) (jZ qU rfl ha1.slv (jB (t := 20) rfl (vF h2) (yU rfl rfl (cX (yl (.bool (decide ((((((bl.getD (((-1) - (t.getD j 0)).toNat) [])).length : Nat) : Int) : Int) = 0))) (vF h2) rfl (qI ?_))))))))
  refine jV (p := (((((bl.getD (((-1) - (t.getD j 0)).toNat) [])).length : Nat) : Int) : Int) = 0) rfl (fun h4 => ?_) (fun h4 => ?_)
  ·have hsj : σ (t.getD j 0) = [(t.getD j 0)] := hσ.free (by rw [lkN_get hj0]; exact List.eq_nil_of_length_eq_zero (by unfold varIx; omega))
   refine qH (jb (wv) rfl (jb (tv) rfl (jb (ii ((j : Int))) rfl (cX (jq j qU js rfl rfl rfl ht.slv (by omega) (Nat.mul_one _) (cX (jj yd rfl (ht.rd (by omega)) (cX (jQ (s := 1) [ii (t.getD j 0)] [ii (0)] [(0, [ii (t.getD j 0)])] qU js yv rfl (by decide) rfl (.cons rfl CellsAre.nil) rfl ?_)))))))))
   intro v5 hv4
   refine cX (Qi (u := t.getD j 0) [_] _ qU typeInfo2 rfl rfl rfl rfl rfl rfl (SlV.own [] rfl) (Rd.sl [] rfl rfl) (by (try simp only [List.length_append, List.length_nil, List.length_cons, List.length_singleton, List.length_take, List.length_drop]); omega) ?_)
   intro v6 hs2 hn2
   refine jc (v6) rfl (qI (qX (qH (jb (v6) rfl (cX (jZ qU rfl (intsH.slv [_] rfl) (cX (Qf rfl rfl (qI ?_)))))))))
   refine jV (p := ((((ws ++ [t.getD j 0]).length : Nat) : Int) : Int) > 60) rfl (fun h5 => ?_) (fun h5 => ?_)
   ·have hnext : ws ++ [t.getD j 0] = ws ++ σ (t.getD j 0) := by rw [hsj]
    have hbig2 : 60 < (ws ++ σ (t.getD j 0)).length := by rw [← hnext]; omega
    refine qX (qH (cX (jQ (s := 1) [] [ii (0)] [] qU js yv rfl (by decide) rfl CellsAre.nil rfl ?_)))
    intro v7 hv5
    refine jc (v7) rfl (qI (jW (ya (jw (jw (ya (jw (jR (L' := intsH 2 v7 ([]) :: cellsH ub [ov] 234 :: slH 27 1 ov 48 ocs :: L) [v7] (v7) (.tmp rfl .nil) rfl rF rF (sC (sD (sD (sC (sC sR))))) ?_))))))))
    have e9 : fullX σ t = [] := full_no (σ := σ) (j := j) (by omega) (by rw [List.length_append] at hbig2; omega)
    rw [e9]
    exact ⟨(yH hv5), rfl, rfl⟩
   have hnext : ws ++ [t.getD j 0] = ws ++ σ (t.getD j 0) := by rw [hsj]
   have hnlen : (ws ++ [t.getD j 0]).length ≤ 60 := by omega
   refine jU (qH (jb (ii ((j : Int))) rfl (cX (yj (((j + 1 : Nat) : Int)) rfl rfl (by omega) (by omega) (jc (ii (((j + 1 : Nat) : Int))) rfl (qI ?_))))))
   exact ⟨(j + 1, v6, ws ++ [t.getD j 0]), _, FLe.refl _, rF, ⟨rfl, rfl, rfl, rfl, ⟨⟩⟩, (sD (sC (sC (sC sR)))), ⟨rfl, (hs2), (by (try dsimp only) <;> omega), (by (try dsimp only); rw [ap_take (by omega), ← hws]; exact hnext), (by (try dsimp only); exact hnlen)⟩, (by omega)⟩
  have hlj : lkN bl (t.getD j 0) ≠ [] := fun e => by (have e9 : (bl.getD (varIx (t.getD j 0)) []).length = 0 := by rw [← lkN_get hj0, e]; rfl); unfold varIx at e9; omega
  have hwj := hb.wt _ hj0 hlj
  rw [lkN_get hj0] at hwj
  have hsj : σ (t.getD j 0) = ap σ (bl.getD (varIx (t.getD j 0)) []) := by rw [hσ.bound hlj, lkN_get hj0]
  have hfl : (fullX σ (bl.getD (-1 - (t.getD j 0)).toNat [])).length ≤ 60 := fullX_len
  refine qX ?_
  refine yN [intsH 2 wv ws, cellsH ub [ov] 234, slH 27 1 ov 48 ocs] L 12 [] [[], [], [1], [2], [3], [], [], [5, 6], [7], [8], [4, 9], [10]] (phiL [qe (ptr ub 0), qe (ptr ub 0), qe (ptr ub 0), qe (ptr ub 0), qe ov, qe tv, qe (ii ((j : Int)) : Value), qe (.pointer (some (elemA tv (j)))), qe (ii (t.getD j 0)), qe (ii ((-1) - (t.getD j 0))), qe (.pointer (some (elemA ov (((-1) - (t.getD j 0)).toNat)))), qe a1]) (ownL []) mixed rfl rfl (by kernel_rfl) ?_ ?_
  ·refine pD (fun W R z9 => ?_) ?_
   ·refine je (jk (ptr ub 0) rfl ?_)
    exact ⟨rfl, rfl, rfl⟩
   refine pD (fun W R z9 => ?_) ?_
   ·refine je (jk (ptr ub 0) rfl ?_)
    exact ⟨rfl, rfl, rfl⟩
   refine pD (fun W R z9 => ?_) ?_
   ·rw [eS (l := [(1, _)]) ⟨z9 1 rfl, ⟨⟩⟩]
    refine je (yw rfl ?_)
    exact ⟨rfl, rfl, rfl⟩
   refine pD (fun W R z9 => ?_) ?_
   ·rw [eS (l := [(2, _)]) ⟨z9 2 rfl, ⟨⟩⟩]
    refine je (jE (0) Qu rfl yT (by decide) rfl rfl ?_)
    exact ⟨rfl, rfl, rfl⟩
   refine pD (fun W R z9 => ?_) ?_
   ·rw [eS (l := [(3, _)]) ⟨z9 3 rfl, ⟨⟩⟩]
    refine je (jj Qv rfl (Rd.own [_] rfl rfl) ?_)
    exact ⟨rfl, rfl, rfl⟩
   refine pD (fun W R z9 => ?_) ?_
   ·refine je (jk (tv) rfl ?_)
    exact ⟨rfl, rfl, rfl⟩
   refine pD (fun W R z9 => ?_) ?_
   ·refine je (jk (ii ((j : Int))) rfl ?_)
    exact ⟨rfl, rfl, rfl⟩
   refine pD (fun W R z9 => ?_) ?_
   ·rw [eS (l := [(5, _), (6, _)]) ⟨z9 5 rfl, z9 6 rfl, ⟨⟩⟩]
    refine je (jq j qU js rfl rfl rfl ht.slv (by omega) (Nat.mul_one _) ?_)
    exact ⟨rfl, rfl, rfl⟩
   refine pD (fun W R z9 => ?_) ?_
   ·rw [eS (l := [(7, _)]) ⟨z9 7 rfl, ⟨⟩⟩]
    refine je (jj yd rfl (ht.rd (by omega)) ?_)
    exact ⟨rfl, rfl, rfl⟩
   refine pD (fun W R z9 => ?_) ?_
   ·rw [eS (l := [(8, _)]) ⟨z9 8 rfl, ⟨⟩⟩]
    refine je (yx ((-1) - (t.getD j 0)) rfl rfl (by omega) (by omega) ?_)
    exact ⟨rfl, rfl, rfl⟩
   refine pD (fun W R z9 => ?_) ?_
   ·rw [eS (l := [(4, _), (9, _)]) ⟨z9 4 rfl, z9 9 rfl, ⟨⟩⟩]
    refine je (jq (((-1) - (t.getD j 0)).toNat) jX jF rfl rfl (by omega) (SlV.own [_, _] rfl) (by omega) (Nat.mul_one _) ?_)
    exact ⟨rfl, rfl, rfl⟩
   refine pD (fun W R z9 => ?_) ?_
   ·rw [eS (l := [(10, _)]) ⟨z9 10 rfl, ⟨⟩⟩]
    refine je (jj yt rfl (Rd.sl [_, _] rfl he1) ?_)
    exact ⟨rfl, rfl, rfl⟩
   exact stepsP.nil
  intro W hphi
  rw [eS (l := [(0, _), (11, _)]) ⟨(hphi 0 (by decide)), (hphi 11 (by decide)), ⟨⟩⟩]
  show XL _ _ _ _ _ _ _ (intsH 2 wv ws :: cellsH ub [ov] 234 :: slH 27 1 ov 48 ocs :: L)
  refine yK (ye (A := [_, _])) ?_
  show XL _ _ _ _ _ _ _ (slH 27 1 ov 48 ocs :: intsH 2 wv ws :: cellsH ub [ov] 234 :: L)
  refine yK (ye (A := [_, _])) ?_
  show XL _ _ _ _ _ _ _ (cellsH ub [ov] 234 :: slH 27 1 ov 48 ocs :: intsH 2 wv ws :: L)
  refine cX (jL (args := [ptr ub 0, a1]) call217 rfl (ih _ hrj hov hC hb ha1 hσ hρ (fun m hm h0 => hρ _ hj0 m (by rw [lkN_get hj0]; exact hm) h0) (fun i hi => hwj.geD hi) (by have := hwj.len; unfold varIx at this; omega)) ?_)
  rintro v8 _ _ _ ⟨hs3, rfl, rfl⟩
  refine jc (v8) rfl (qI (qX (qX (qH (jb (v8) rfl (cX (jZ qU rfl (intsH.slv [] rfl) (cX (yU rfl rfl (qI ?_))))))))))
  refine jV (p := (((((fullX σ ((bl.getD (((-1) - (t.getD j 0)).toNat) [])))).length : Nat) : Int) : Int) = 0) rfl (fun h6 => ?_) (fun h6 => ?_)
  ·have hbig := (fullX_nil hwj.len.1 (hσ.good hb)).1 (List.eq_nil_of_length_eq_zero (by unfold varIx; omega))
   refine qX (qH (cX (jQ (s := 1) [] [ii (0)] [] qU js yv rfl (by decide) rfl CellsAre.nil rfl ?_)))
   intro v9 hv6
   refine jc (v9) rfl (qI (jW (jw (jw (ya (jw (jw (ya (jw (jR (L' := intsH 2 v9 ([]) :: cellsH ub [ov] 234 :: slH 27 1 ov 48 ocs :: L) [v9] (v9) (.tmp rfl .nil) rfl rF rF (sC (sD (sC (sC (sD sR))))) ?_))))))))))
   have e9 : fullX σ t = [] := full_no (σ := σ) (j := j) (by omega) (by rw [hsj]; omega)
   rw [e9]
   exact ⟨(yH hv6), rfl, rfl⟩
  have hfx : fullX σ (bl.getD (varIx (t.getD j 0)) []) = ap σ (bl.getD (varIx (t.getD j 0)) []) := fullX_yes (fun e => by (have e9 : (fullX σ (bl.getD (varIx (t.getD j 0)) [])).length = 0 := by rw [e]; rfl); unfold varIx at e9; omega)
  refine jU (qH (jb (wv) rfl (jb (v8) rfl (Qd [] _ _ rfl (fun F1 le1 hz1 => ?_)))))
  have hf1 : IntsF F1 v8 ((fullX σ ((bl.getD (((-1) - (t.getD j 0)).toNat) [])))) := intsH.fz (xs := (fullX σ ((bl.getD (((-1) - (t.getD j 0)).toNat) [])))) hz1.fz
  refine cX (Qk [_, _] _ qU typeInfo2 rfl rfl rfl rfl rfl rfl hf1 (by (try simp only [List.length_append, List.length_nil, List.length_cons, List.length_singleton, List.length_take, List.length_drop]); omega) ?_)
  intro v10 hs4 hn3 hm1
  refine jc (v10) rfl (qI (qX (qH (jb (v10) rfl (cX (jZ qU rfl (intsH.slv [_, _] rfl) (cX (Qf rfl rfl (qI ?_)))))))))
  refine jV (p := ((((ws ++ ((fullX σ ((bl.getD (((-1) - (t.getD j 0)).toNat) []))))).length : Nat) : Int) : Int) > 60) rfl (fun h7 => ?_) (fun h7 => ?_)
  ·have hnext : ws ++ ((fullX σ ((bl.getD (((-1) - (t.getD j 0)).toNat) [])))) = ws ++ σ (t.getD j 0) := by rw [hsj, ← hfx]; rfl
   have hbig2 : 60 < (ws ++ σ (t.getD j 0)).length := by rw [← hnext]; omega
   refine qX (qH (cX (jQ (s := 1) [] [ii (0)] [] qU js yv rfl (by decide) rfl CellsAre.nil rfl ?_)))
   intro v11 hv7
   refine jc (v11) rfl (qI (jW (ya (jw (jw (ya (jw (jR (L' := intsH 2 v11 ([]) :: cellsH ub [ov] 234 :: slH 27 1 ov 48 ocs :: L) [v11] (v11) (.tmp rfl .nil) rfl rF le1 (sC (sC (sC (sD sR)))) ?_))))))))
   have e9 : fullX σ t = [] := full_no (σ := σ) (j := j) (by omega) (by rw [List.length_append] at hbig2; omega)
   rw [e9]
   exact ⟨(yH hv7), rfl, rfl⟩
  have hnext : ws ++ ((fullX σ ((bl.getD (((-1) - (t.getD j 0)).toNat) [])))) = ws ++ σ (t.getD j 0) := by rw [hsj, ← hfx]; rfl
  have hnlen : (ws ++ ((fullX σ ((bl.getD (((-1) - (t.getD j 0)).toNat) []))))).length ≤ 60 := by omega
  refine jU (qH (jb (ii ((j : Int))) rfl (cX (yj (((j + 1 : Nat) : Int)) rfl rfl (by omega) (by omega) (jc (ii (((j + 1 : Nat) : Int))) rfl (qI ?_))))))
  exact ⟨(j + 1, v10, ws ++ ((fullX σ ((bl.getD (((-1) - (t.getD j 0)).toNat) []))))), _, FLe.refl _, le1, ⟨rfl, rfl, rfl, rfl, ⟨⟩⟩, (yn (ye (A := [_])) (yn (ye (A := [_])) (yn (ye (A := [_, _])) (sC (sC (sC sR)))))), ⟨rfl, (hs4), (by (try dsimp only) <;> omega), (by (try dsimp only); rw [ap_take (by omega), ← hws]; exact hnext), (by (try dsimp only); exact hnlen)⟩, (by omega)⟩
 refine yB (jO (jO (yk (qX (qH (jb (wv) rfl (jc (wv) rfl (qI (jW (jR (L' := intsH 2 wv ws :: cellsH ub [ov] 234 :: slH 27 1 ov 48 ocs :: L) [wv] (wv) (.tmp rfl .nil) rfl rF rF (sC (sC (sC sR))) ?_))))))))))
 have e9 : fullX σ t = ws := (full_end (by omega) (by omega)).trans hws.symm
 rw [e9]
 exact ⟨hwv, rfl, rfl⟩

theorem full_spec (k : Nat) : ∀ {F : FH} {L : List HP} {ub : Nat} {ov : Value} {ocs : List Value} {ar : List Int} {bl : RowL} (hov : IsSl ov) (hC : RowsC F ocs bl) (hb : BOk ar bl) {σ : Sbs} {ρ : Int → Nat} {tv : Value} {t : List Int} (ht : IntsF F tv t) (hσ : Sol bl σ) (hρ : Acyc bl ρ) (htk : ∀ m ∈ t, m < 0 → ρ m < k) (htg : ∀ i, i < t.length → -48 ≤ t.getD i 0) (htl : t.length ≤ 200), Does prog 217 [ptr ub 0, tv] F (cellsH ub [ov] 234 :: slH 27 1 ov 48 ocs :: L) (fun v F' L' => IsSl v ∧ F = F' ∧ intsH 2 v ((fullX σ t)) :: cellsH ub [ov] 234 :: slH 27 1 ov 48 ocs :: L = L') := by
  induction k using Nat.strongRecOn with
  | _ k ih =>
    intros
    exact full_step ih (by assumption) (by assumption) (by assumption) (by assumption) (by assumption) (by assumption) (by assumption) (by assumption) (by assumption)


/- spec.l11Try -/
set_option maxHeartbeats 1000000 in
set_option maxRecDepth 20000 in
theorem try_spec {F : FH} {L : List HP} {arv : Value} {ar : List Int} (har : IntsF F arv ar) {rsv : Value} {rs : List (List Int × List Int)} (hrs : PairsF F rsv rs) {o : Nat} {p : Nat} {u : Nat} (hsys : sysOk ar rs = true) (ho : o < rs.length) (hu : u < rs.length) (hp : p < (rs.getD o ([], [])).1.length) :
    Does prog 214 [.agg #[arv, rsv], ii ((o : Int)), ii ((p : Int)), ii ((u : Int))] F (L) (fun v F' L' => ∃ (x : Bool) (b7 : Nat) (o7 : Value) (bc : List Value) (l9 : RowL), (.tuple #[ptr b7 0, .bool x] : Value) = v ∧ IsSl o7 ∧ RowsC F' bc l9 ∧ (x = true → MguP ar rs o p u l9) ∧ (x = false → ∀ θ, GoodS ar θ → ap θ (sub ar (rs.getD o ([], [])).1 p) ≠ ap θ (awayL (rs.getD u ([], [])).1)) ∧ cellsH b7 [o7] 234 :: slH 27 1 o7 48 bc :: L = L') := by
 refine ym func214 rfl rfl rfl ?_
 have hlo : termOk ar (rs.getD o ([], [])).1 = true := rule_L hsys ho
 have hllo : 1 ≤ (rs.getD o ([], [])).1.length ∧ (rs.getD o ([], [])).1.length ≤ 60 := termOk_len hlo
 have hglo : ∀ k, k < (rs.getD o ([], [])).1.length → -24 ≤ (rs.getD o ([], [])).1.getD k 0 := fun k h => termOk_ge hlo h
 have hlu : termOk ar (rs.getD u ([], [])).1 = true := rule_L hsys hu
 have hllu : 1 ≤ (rs.getD u ([], [])).1.length ∧ (rs.getD u ([], [])).1.length ≤ 60 := termOk_len hlu
 have hglu : ∀ k, k < (rs.getD u ([], [])).1.length → -24 ≤ (rs.getD u ([], [])).1.getD k 0 := fun k h => termOk_ge hlu h
 have hro : termOk ar (rs.getD o ([], [])).2 = true := rule_R hsys ho
 have hlro : 1 ≤ (rs.getD o ([], [])).2.length ∧ (rs.getD o ([], [])).2.length ≤ 60 := termOk_len hro
 have hgro : ∀ k, k < (rs.getD o ([], [])).2.length → -24 ≤ (rs.getD o ([], [])).2.getD k 0 := fun k h => termOk_ge hro h
 have hru : termOk ar (rs.getD u ([], [])).2 = true := rule_R hsys hu
 have hlru : 1 ≤ (rs.getD u ([], [])).2.length ∧ (rs.getD u ([], [])).2.length ≤ 60 := termOk_len hru
 have hgru : ∀ k, k < (rs.getD u ([], [])).2.length → -24 ≤ (rs.getD u ([], [])).2.getD k 0 := fun k h => termOk_ge hru h
 have hrl := (sysOk_iff.1 hsys).2.1
 have hsig := (sysOk_iff.1 hsys).1
 have hsl := sigOk_spec hsig
 have hee := (termW_of hlo).endN hp
 refine qX (qH (cX (yD [arv, rsv] rfl rfl ?_)))
 intro b1
 refine jc ((.pointer none)) rfl (jc (.bool (false)) rfl (qI (qX (qH (cX (XOp.makeSlice (n := 48) (bytes := 24) [sN] jX jF typeInfo27 rfl Qn rfl rfl rfl rfl (by omega) (by omega) ?_))))))
 intro v1 hv1
 rw [nils]
 have hc1 : RowsC F _ _ := RowsC.nils 48
 refine cX (yJ [v1] [sN] [(0, 1)] [(0, [v1])] Qu zeroValue234 rfl (.cons rfl yT PlacesAre.nil) rfl (.cons (cells_one (yH hv1)) CellsAre.nil) (cX (yD [v1] rfl rfl ?_)))
 intro b2
 refine jc (ptr b2 0) rfl (qI (qX (qH (cX (jE (1) yq rfl yZ (by decide) rfl rfl (cX (jj Qj rfl (Rd.own [_, _] rfl rfl) (jb (ii ((o : Int))) rfl (cX (jq o yy yS rfl rfl rfl hrs.slv (by omega) rfl (cX (Qh (o * 2) yu rfl jF (by decide) rfl rfl ?_))))))))))))
 obtain ⟨a1, a2, ha1, ha2, hr1, hr2⟩ := hrs.rd (i := o) (by omega)
 refine cX (jj yt rfl (hr1 _) (jc (a1) rfl (qI (qX (qH (cX (jE (0) yq rfl ys (by decide) rfl rfl (cX (yc [arv] yF ys rfl rfl (Rd.ownN [_, _] rfl rfl) (jb (a1) rfl (jb (ii ((p : Int))) rfl (cX (jL (args := [.agg #[arv], a1, ii (p : Int)]) call215 rfl (l13End_spec (q := p) har ha1 (ho := (termW_of hlo)) (hp := (hp))) ?_)))))))))))))
 rintro _ _ _ _ ⟨rfl, rfl, rfl⟩
 refine jc (ii (((endN ar ((rs.getD o ([], [])).1) p : Nat) : Int))) rfl (qI (qX (X.free0 mixed (by kernel_rfl) (by kernel_rfl) (fun _ _ _ _ _ h => by obtain ⟨h1 | h1, _⟩ := h <;> cases h1) (fun _ _ _ h => by obtain ⟨h1 | h1, _⟩ := h <;> cases h1) ?_)))
 obtain ⟨a3, a4, ha3, ha4, hr3, hr4⟩ := hrs.rd (i := u) (by omega)
 refine XA.drawG [cellsH b2 [v1] 234, slH 27 1 v1 48 ((List.replicate 48 (sN))), cellsH b1 [arv, rsv] 32] L 15 [[], [], [], [], [], [], [], [], [], [], [], [], [], [], []] [[], [], [1], [], [], [], [], [4, 5, 6], [], [8], [], [9, 10], [11], [12], [13]] [[], [], [], [], [], [], [], [], [], [], [], [], [], [], []] (phiG [fun FF us v => v = ptr b2 0, fun FF us v => v = ptr b1 0, fun FF us v => v = (.agg #[arv] : Value), fun FF us v => v = ptr b2 0, fun FF us v => v = a1, fun FF us v => v = (ii ((p : Int)) : Value), fun FF us v => v = (ii (((endN ar ((rs.getD o ([], [])).1) p : Nat) : Int)) : Value), fun FF us v => (v : Value) = v ∧ (IntsF FF v ((((rs.getD o ([], [])).1).drop p).take ((endN ar ((rs.getD o ([], [])).1) p) - p))) ∧ (isNil v = isNil a1), fun FF us v => v = ptr b1 1, fun FF us v => v = rsv, fun FF us v => v = (ii ((u : Int)) : Value), fun FF us v => v = (.pointer (some (elemA rsv (u * 2))) : Value), fun FF us v => v = (.pointer (some (elemA rsv (u * 2))) : Value), fun FF us v => v = a3, fun FF us v => ((v) : Value) = v ∧ (IntsF FF (v) (awayL ((rs.getD u ([], [])).1)))]) (ownL [fun us v => [], fun us v => [], fun us v => [], fun us v => [], fun us v => [], fun us v => [], fun us v => [], fun us v => [], fun us v => [], fun us v => [], fun us v => [], fun us v => [], fun us v => [], fun us v => [], fun us v => []]) rfl rfl (by kernel_rfl) (by kernel_rfl) (MonoG.get (mC (fun le h => h) (mC (fun le h => h) (mC (fun le h => h) (mC (fun le h => h) (mC (fun le h => h) (mC (fun le h => h) (mC (fun le h => h) (mC (fun le h => ⟨h.1, h.2.1.mono le, h.2.2⟩) (mC (fun le h => h) (mC (fun le h => h) (mC (fun le h => h) (mC (fun le h => h) (mC (fun le h => h) (mC (fun le h => h) (mC (fun le h => ⟨h.1, h.2.mono le⟩) MonoG.nil)))))))))))))))) ?_ ?_
 ·refine gD (fun W Fs R lF z9 => ?_) ?_
  ·refine je (jk (ptr b2 0) rfl ?_)
   exact ⟨rfl, rfl⟩
  refine gD (fun W Fs R lF z9 => ?_) ?_
  ·refine je (jE (0) yq rfl ys (by decide) rfl rfl ?_)
   exact ⟨rfl, rfl⟩
  refine gD (fun W Fs R lF z9 => ?_) ?_
  ·replace har := har.mono lF
   replace hrs := hrs.mono lF
   replace hc1 := hc1.mono lF
   replace ha1 := ha1.mono lF
   replace ha3 := ha3.mono lF
   replace hr3 := Rd.monoA hr3 lF
   rw [eS (l := [(1, _)]) ⟨z9 1 rfl, ⟨⟩⟩]
   refine je (yc [arv] yF ys rfl rfl (Rd.ownN [_, _] rfl rfl) ?_)
   exact ⟨rfl, rfl⟩
  refine gD (fun W Fs R lF z9 => ?_) ?_
  ·refine je (jk (ptr b2 0) rfl ?_)
   exact ⟨rfl, rfl⟩
  refine gD (fun W Fs R lF z9 => ?_) ?_
  ·refine je (jk (a1) rfl ?_)
   exact ⟨rfl, rfl⟩
  refine gD (fun W Fs R lF z9 => ?_) ?_
  ·refine je (jk (ii ((p : Int))) rfl ?_)
   exact ⟨rfl, rfl⟩
  refine gD (fun W Fs R lF z9 => ?_) ?_
  ·refine je (jk (ii (((endN ar ((rs.getD o ([], [])).1) p : Nat) : Int))) rfl ?_)
   exact ⟨rfl, rfl⟩
  refine gD (fun W Fs R lF z9 => ?_) ?_
  ·replace har := har.mono lF
   replace hrs := hrs.mono lF
   replace hc1 := hc1.mono lF
   replace ha1 := ha1.mono lF
   replace ha3 := ha3.mono lF
   replace hr3 := Rd.monoA hr3 lF
   rw [eS (l := [(4, _), (5, _), (6, _)]) ⟨z9 4 rfl, z9 5 rfl, z9 6 rfl, ⟨⟩⟩]
   refine je (Qp p (endN ar ((rs.getD o ([], [])).1) p) qU js rfl ha1 ⟨_, rfl⟩ ⟨_, rfl⟩ (by omega) (by omega) ?_)
   intro v4 hv3 hn2
   exact ⟨⟨rfl, hv3, hn2⟩, rfl⟩
  refine gD (fun W Fs R lF z9 => ?_) ?_
  ·refine je (jE (1) yq rfl yZ (by decide) rfl rfl ?_)
   exact ⟨rfl, rfl⟩
  refine gD (fun W Fs R lF z9 => ?_) ?_
  ·replace har := har.mono lF
   replace hrs := hrs.mono lF
   replace hc1 := hc1.mono lF
   replace ha3 := ha3.mono lF
   replace hr3 := Rd.monoA hr3 lF
   rw [eS (l := [(8, _)]) ⟨z9 8 rfl, ⟨⟩⟩]
   refine je (jj Qj rfl (Rd.own [_, _] rfl rfl) ?_)
   exact ⟨rfl, rfl⟩
  refine gD (fun W Fs R lF z9 => ?_) ?_
  ·refine je (jk (ii ((u : Int))) rfl ?_)
   exact ⟨rfl, rfl⟩
  refine gD (fun W Fs R lF z9 => ?_) ?_
  ·replace har := har.mono lF
   replace hrs := hrs.mono lF
   replace hc1 := hc1.mono lF
   replace ha3 := ha3.mono lF
   replace hr3 := Rd.monoA hr3 lF
   rw [eS (l := [(9, _), (10, _)]) ⟨z9 9 rfl, z9 10 rfl, ⟨⟩⟩]
   refine je (jq u yy yS rfl rfl rfl hrs.slv (by omega) rfl ?_)
   exact ⟨rfl, rfl⟩
  refine gD (fun W Fs R lF z9 => ?_) ?_
  ·rw [eS (l := [(11, _)]) ⟨z9 11 rfl, ⟨⟩⟩]
   refine je (Qh (u * 2) yu rfl jF (by decide) rfl rfl ?_)
   exact ⟨rfl, rfl⟩
  refine gD (fun W Fs R lF z9 => ?_) ?_
  ·replace har := har.mono lF
   replace hc1 := hc1.mono lF
   replace ha3 := ha3.mono lF
   replace hr3 := Rd.monoA hr3 lF
   rw [eS (l := [(12, _)]) ⟨z9 12 rfl, ⟨⟩⟩]
   refine je (jj yt rfl (hr3 _) ?_)
   exact ⟨rfl, rfl⟩
  refine gD (fun W Fs R lF z9 => ?_) ?_
  ·replace har := har.mono lF
   replace hc1 := hc1.mono lF
   replace ha3 := ha3.mono lF
   rw [eS (l := [(13, _)]) ⟨z9 13 rfl, ⟨⟩⟩]
   refine je (Qo <| jL (args := [a3, ii (24)]) call216 rfl (away2_spec (k := 24) ha3 (hk24 := (rfl)) (hlt := (by omega)) (htg := (fun i hi => by have := hglu i hi; omega))) ?_)
   rintro v5 _ _ _ ⟨rfl, hs2, rfl⟩
   refine ⟨_, _, rfl, fun F1 le1 hz1 => ?_⟩
   replace har := har.mono le1
   replace hc1 := hc1.mono le1
   have hf1 : IntsF F1 v5 ((awayL ((rs.getD u ([], [])).1))) := intsH.fz (xs := (awayL ((rs.getD u ([], [])).1))) hz1.fz
   exact ⟨⟨rfl, hf1⟩, rfl⟩
  exact stepsG.nil
 intro W F2 le2 hphi
 obtain ⟨e7, f7_1hv, f7_1hn⟩ := hphi 7 (by decide)
 obtain ⟨e14, f14_1ha⟩ := hphi 14 (by decide)
 generalize hu1 : (W 7) = u1 at e7 f7_1hv f7_1hn e14 f14_1ha
 generalize hu2 : ((W 14)) = u2 at e7 f7_1hv f7_1hn e14 f14_1ha
 rw [eS (l := [(0, _), (2, _), (3, _), (7, u1), (14, u2)]) ⟨(hphi 0 (by decide)), (hphi 2 (by decide)), (hphi 3 (by decide)), hu1, hu2, ⟨⟩⟩]
 replace har := har.mono le2
 replace hc1 := hc1.mono le2
 show XL _ _ _ _ _ _ _ (cellsH b2 [v1] 234 :: slH 27 1 v1 48 ((List.replicate 48 (sN))) :: cellsH b1 [arv, rsv] 32 :: L)
 refine yK (ye (A := [_])) ?_
 show XL _ _ _ _ _ _ _ (slH 27 1 v1 48 ((List.replicate 48 (sN))) :: cellsH b2 [v1] 234 :: cellsH b1 [arv, rsv] 32 :: L)
 refine yK (ye (A := [_])) ?_
 show XL _ _ _ _ _ _ _ (cellsH b2 [v1] 234 :: slH 27 1 v1 48 ((List.replicate 48 (sN))) :: cellsH b1 [arv, rsv] 32 :: L)
 refine cX (jL (args := [.agg #[arv], ptr b2 0, u1, u2]) call240 rfl (meet_spec har ((yH hv1)) hc1 f7_1hv f14_1ha (termW_of (sub_ok hlo hp)) (away_W hlu)) ?_)
 rintro _ F3 _ le3 ⟨x1, bc1, l1, rfl, hb1, hy1, hn3, rfl⟩
 refine jc (ptr b2 0) rfl (jc (.bool (x1)) rfl (qI (jW (jR (L' := cellsH b2 [v1] 234 :: slH 27 1 v1 48 bc1 :: L) [ptr b2 0, .bool (x1)] (.tuple #[ptr b2 0, .bool (x1)]) (.tmp rfl (.tmp rfl .nil)) rfl (jl le2 le3) rF (sC (sC (sD sR))) ?_))))
 exact ⟨_, _, _, _, _, rfl, (yH hv1), hb1, hy1, hn3, rfl⟩

/- spec.l2Order -/
theorem l2OrderL_spec {F : FH} {L : List HP} {tv : Value} {t : List Int} (ht : IntsF F tv t) (hlt : t.length ≤ 4000000) :
    Does prog 147 [tv] F (L) (fun v F' L' => F = F' ∧ IsSl v ∧ intsH 2 v (orderL t) :: L = L') := by
 refine ym func147 rfl rfl rfl (qX (qH (jc (sN) rfl (qI (qX (qH (cX (jQ (s := 1) [] [ii (0)] [] qU js yv rfl (by decide) rfl CellsAre.nil rfl ?_))))))))
 intro v1 hv1
 refine jc (v1) rfl (qI (qX (qX (qH (jc (ii (0)) rfl (qI (yf (yI (α := Nat × Value × List Int × FH) (fun xQ => [(0, tv), (3, xQ.2.1), (4, ii (((xQ.1 : Nat) : Int)))]) (fun xQ => intsH 2 xQ.2.1 xQ.2.2.1 :: L) (fun xQ F' => xQ.2.2.2 = F' ∧ F ≤ xQ.2.2.2 ∧ (IsSl xQ.2.1) ∧ (xQ.1 ≤ t.length) ∧ (xQ.2.2.1 = orderL (t.take xQ.1)) ∧ (xQ.2.2.1.length ≤ xQ.1)) (fun xQ => t.length - xQ.1) (0, v1, [], F) ⟨rfl, rfl, rfl, ⟨⟩⟩ (sC sR) ⟨rfl, FLe.refl _, ((yH hv1)), (by (try dsimp only) <;> omega), (rfl), (Nat.le_refl _)⟩ ?_))))))))
 rintro ⟨j, ov, os, G1⟩ rE _ _ ⟨rfl, leG, hov, hj, hos, hol⟩
 show X _ _ _ _ (envs [(0, tv), (3, ov), (4, ii ((j : Int)))] rE) _ (intsH 2 ov os :: L)
 replace leG : F ≤ G1 := leG
 dsimp only at hov hj hos hol
 have leG1 := leG
 replace ht := ht.mono leG1
 refine qX (qX (qH (jb (ii ((j : Int))) rfl (jb (tv) rfl (cX (jZ qU rfl ht.slv (cX (yo rfl rfl (qI ?_)))))))))
 refine jV (p := (j : Int) < (t.length : Int)) rfl (fun h1 => ?_) (fun h1 => ?_)
 ·refine jU (qX (yf (qX (qH (jb (tv) rfl (jb (ii ((j : Int))) rfl (cX (jq j qU js rfl rfl rfl ht.slv (by omega) (Nat.mul_one _) (cX (jj yd rfl (ht.rd (by omega)) (cX (yo rfl rfl (jb (.bool (decide ((t.getD j 0 : Int) < 0))) rfl ?_)))))))))))))
  by_cases h2 : (t.getD j 0 : Int) < 0
  ·refine jB (t := 17) rfl (vT h2) (jk (ov) rfl (jB (t := 17) rfl (vT h2) (jk (tv) rfl (jB (t := 17) rfl (vT h2) (jk (ii ((j : Int))) rfl (jB (t := 17) rfl (vT h2) (jq j qU js rfl rfl rfl ht.slv (by omega) (Nat.mul_one _) (jB (t := 17) rfl (vT h2) (jj yd rfl (ht.rd (by omega)) (jB (t := 17) rfl (vT h2) (XOp.lend [] _ _ rfl (fun F1 le1 hz1 => ?_))))))))))))
   have hf1 : IntsF _ ov os := intsH.fz (xs := os) hz1
   refine id (jL (args := [ov, ii (t.getD j 0)]) call206 rfl (l1Has_spec (n := t.getD j 0) hf1 (hbd := (by first | assumption | rfl | omega | simp))) ?_)
   rintro _ _ _ _ ⟨rfl, rfl, rfl⟩
   show XL _ _ _ _ _ _ _ (intsH 2 ov os :: L)
   refine jB (t := 17) rfl (vT h2) (Qw rfl (cX (yp (.bool (decide (¬((t.getD j 0) ∈ os)))) (vT h2) rfl (qI ?_))))
   refine jV (p := ¬((t.getD j 0) ∈ os)) rfl (fun h3 => ?_) (fun h3 => ?_)
   ·have hor := h3
    refine qH (jb (ov) rfl (jb (tv) rfl (jb (ii ((j : Int))) rfl (cX (jq j qU js rfl rfl rfl ht.slv (by omega) (Nat.mul_one _) (cX (jj yd rfl (ht.rd (by omega)) (cX (jQ (s := 1) [ii (t.getD j 0)] [ii (0)] [(0, [ii (t.getD j 0)])] qU js yv rfl (by decide) rfl (.cons rfl CellsAre.nil) rfl ?_)))))))))
    intro v2 hv2
    refine cX (Qi (u := t.getD j 0) [_] _ qU typeInfo2 rfl rfl rfl rfl rfl rfl (SlV.own [] rfl) (Rd.sl [] rfl rfl) (by (try simp only [List.length_append, List.length_nil, List.length_cons, List.length_singleton, List.length_take, List.length_drop]); omega) ?_)
    intro v3 hs1 hn1
    refine jc (v3) rfl (qI (qH (jb (ii ((j : Int))) rfl (cX (yj (((j + 1 : Nat) : Int)) rfl rfl (by omega) (by omega) (jc (ii (((j + 1 : Nat) : Int))) rfl (qI ?_)))))))
    exact ⟨(j + 1, v3, os ++ [t.getD j 0], G1), _, leG1, rF, ⟨rfl, rfl, rfl, ⟨⟩⟩, (sD (sC sR)), ⟨rfl, leG1, (hs1), (by (try dsimp only) <;> omega), (by (try dsimp only); first | exact ord_skip (by omega) hos (.inl (by omega)) | exact ord_skip (by omega) hos (.inr (by simpa using hor)) | exact ord_add (by omega) hos (by omega) (by simpa using hor)), (by (try dsimp only); (try rw [List.length_append, List.length_singleton]); omega)⟩, (by omega)⟩
   have hor := h3
   refine jU (qH (jb (ii ((j : Int))) rfl (cX (yj (((j + 1 : Nat) : Int)) rfl rfl (by omega) (by omega) (jc (ii (((j + 1 : Nat) : Int))) rfl (qI ?_))))))
   exact ⟨(j + 1, ov, os, G1), _, leG1, rF, ⟨rfl, rfl, rfl, ⟨⟩⟩, (sC sR), ⟨rfl, leG1, (hov), (by (try dsimp only) <;> omega), (by (try dsimp only); first | exact ord_skip (by omega) hos (.inl (by omega)) | exact ord_skip (by omega) hos (.inr (by simpa using hor)) | exact ord_add (by omega) hos (by omega) (by simpa using hor)), (by (try dsimp only); (try rw [List.length_append, List.length_singleton]); omega)⟩, (by omega)⟩
  refine jA (t := 17) rfl (vF h2) (jA (t := 17) rfl (vF h2) (jA (t := 17) rfl (vF h2) (jA (t := 17) rfl (vF h2) (jA (t := 17) rfl (vF h2) (jA (t := 17) rfl (vF h2) (jA (t := 17) rfl (vF h2) (cX (yl (.bool (false)) (vF h2) rfl (qI (yV rfl ?_))))))))))
  refine jU (qH (jb (ii ((j : Int))) rfl (cX (yj (((j + 1 : Nat) : Int)) rfl rfl (by omega) (by omega) (jc (ii (((j + 1 : Nat) : Int))) rfl (qI ?_))))))
  exact ⟨(j + 1, ov, os, G1), _, leG1, rF, ⟨rfl, rfl, rfl, ⟨⟩⟩, (sC sR), ⟨rfl, leG1, (hov), (by (try dsimp only) <;> omega), (by (try dsimp only); first | exact ord_skip (by omega) hos (.inl (by omega)) | exact ord_skip (by omega) hos (.inr (by simpa using hor)) | exact ord_add (by omega) hos (by omega) (by simpa using hor)), (by (try dsimp only); (try rw [List.length_append, List.length_singleton]); omega)⟩, (by omega)⟩
 refine yB (jO (jO (yk (qX (qH (jb (ov) rfl (jc (ov) rfl (qI (jW (jR (L' := intsH 2 ov os :: L) [ov] (ov) (.tmp rfl .nil) rfl rF leG1 (sC sR) ?_))))))))))
 refine ⟨rfl, hov, ?_⟩
 have hxs : (orderL t : List Int) = os := by rw [hos, show j = t.length from by omega, List.take_length]
 exact congrArg (fun z => intsH 2 _ z :: L) hxs

/- spec.l2By -/
theorem l2ByL_spec {F : FH} {L : List HP} {wv : Value} {w : List Int} (hw : IntsF F wv w) {tv : Value} {t : List Int} (ht : IntsF F tv t) (hno : w.Nodup) (hlo : w.length ≤ 4000000) (hlt : t.length ≤ 4000000) :
    Does prog 146 [wv, tv] F (L) (fun v F' L' => F = F' ∧ IsSl v ∧ intsH 2 v (byL w t) :: L = L') := by
 refine ym func146 rfl rfl rfl (qX (qH (jc (sN) rfl (qI (qX (qH (cX (jQ (s := 1) [] [ii (0)] [] qU js yv rfl (by decide) rfl CellsAre.nil rfl ?_))))))))
 intro v1 hv1
 refine jc (v1) rfl (qI (qX (qX (qH (jc (ii (0)) rfl (qI (yf (yI (α := Nat × Value × List Int) (fun xQ => [(0, wv), (1, tv), (5, xQ.2.1), (6, ii (((xQ.1 : Nat) : Int)))]) (fun xQ => intsH 2 xQ.2.1 xQ.2.2 :: L) (fun xQ F' => F = F' ∧ (IsSl xQ.2.1) ∧ (xQ.1 ≤ t.length) ∧ (xQ.2.2 = byL w (t.take xQ.1)) ∧ (xQ.2.2.length = xQ.1)) (fun xQ => t.length - xQ.1) (0, v1, []) ⟨rfl, rfl, rfl, rfl, ⟨⟩⟩ (sC sR) ⟨rfl, ((yH hv1)), (by (try dsimp only) <;> omega), (rfl), (rfl)⟩ ?_))))))))
 rintro ⟨j, ov, os⟩ rE _ _ ⟨rfl, hov, hj, hos, hol⟩
 show X _ _ _ _ (envs [(0, wv), (1, tv), (5, ov), (6, ii ((j : Int)))] rE) _ (intsH 2 ov os :: L)
 dsimp only at hov hj hos hol
 refine qX (qX (qH (jb (ii ((j : Int))) rfl (jb (tv) rfl (cX (jZ qU rfl ht.slv (cX (yo rfl rfl (qI ?_)))))))))
 refine jV (p := (j : Int) < (t.length : Int)) rfl (fun h1 => ?_) (fun h1 => ?_)
 ·refine jU (qX (yf (qX (qH (jb (tv) rfl (jb (ii ((j : Int))) rfl (cX (jq j qU js rfl rfl rfl ht.slv (by omega) (Nat.mul_one _) (cX (jj yd rfl (ht.rd (by omega)) (jc (ii (t.getD j 0)) rfl (qI (qX (qX (qH (jc (ii (0)) rfl (qI (yf (yI (α := Nat × Int) (fun xQ => [(0, wv), (1, tv), (5, ov), (6, ii ((j : Int))), (7, ii (xQ.2)), (8, ii (((xQ.1 : Nat) : Int)))]) (fun xQ => intsH 2 ov os :: L) (fun xQ F' => F = F' ∧ (xQ.1 ≤ w.length) ∧ (xQ.2 = byN w xQ.1 (t.getD j 0))) (fun xQ => w.length - xQ.1) (0, (t.getD j 0)) ⟨rfl, rfl, rfl, rfl, rfl, rfl, ⟨⟩⟩ (sC sR) ⟨rfl, (by (try dsimp only) <;> omega), (by_start)⟩ ?_)))))))))))))))))))
  rintro ⟨k, n⟩ rE _ _ ⟨rfl, hk, hn⟩
  show X _ _ _ _ (envs [(0, wv), (1, tv), (5, ov), (6, ii ((j : Int))), (7, ii (n)), (8, ii ((k : Int)))] rE) _ (intsH 2 ov os :: L)
  dsimp only at hk hn
  refine qX (qX (qH (jb (ii ((k : Int))) rfl (jb (wv) rfl (cX (jZ qU rfl hw.slv (cX (yo rfl rfl (jb (.bool (decide ((k : Int) < (w.length : Int)))) rfl ?_)))))))))
  by_cases h2 : (k : Int) < (w.length : Int)
  ·refine jB (t := 24) rfl (vT h2) (jk (tv) rfl (jB (t := 24) rfl (vT h2) (jk (ii ((j : Int))) rfl (jB (t := 24) rfl (vT h2) (jq j qU js rfl rfl rfl ht.slv (by omega) (Nat.mul_one _) (jB (t := 24) rfl (vT h2) (jj yd rfl (ht.rd (by omega)) (jB (t := 24) rfl (vT h2) (yo rfl rfl (cX (yp (.bool (decide ((t.getD j 0 : Int) < 0))) (vT h2) rfl (qI ?_))))))))))))
   refine jV (p := (t.getD j 0 : Int) < 0) rfl (fun h3 => ?_) (fun h3 => ?_)
   ·refine jU (qX (yf (qX ?_)))
    refine yN [intsH 2 ov os] L 8 [] [[], [], [0, 1], [2], [], [], [4, 5], [6]] (phiL [qe wv, qe (ii ((k : Int)) : Value), qe (.pointer (some (elemA wv (k)))), qe (ii (w.getD k 0)), qe tv, qe (ii ((j : Int)) : Value), qe (.pointer (some (elemA tv (j)))), qe (ii (t.getD j 0))]) (ownL []) mixed rfl rfl (by kernel_rfl) ?_ ?_
    ·refine pD (fun W R z9 => ?_) ?_
     ·refine je (jk (wv) rfl ?_)
      exact ⟨rfl, rfl, rfl⟩
     refine pD (fun W R z9 => ?_) ?_
     ·refine je (jk (ii ((k : Int))) rfl ?_)
      exact ⟨rfl, rfl, rfl⟩
     refine pD (fun W R z9 => ?_) ?_
     ·rw [eS (l := [(0, _), (1, _)]) ⟨z9 0 rfl, z9 1 rfl, ⟨⟩⟩]
      refine je (jq k qU js rfl rfl rfl hw.slv (by omega) (Nat.mul_one _) ?_)
      exact ⟨rfl, rfl, rfl⟩
     refine pD (fun W R z9 => ?_) ?_
     ·rw [eS (l := [(2, _)]) ⟨z9 2 rfl, ⟨⟩⟩]
      refine je (jj yd rfl (hw.rd (by omega)) ?_)
      exact ⟨rfl, rfl, rfl⟩
     refine pD (fun W R z9 => ?_) ?_
     ·refine je (jk (tv) rfl ?_)
      exact ⟨rfl, rfl, rfl⟩
     refine pD (fun W R z9 => ?_) ?_
     ·refine je (jk (ii ((j : Int))) rfl ?_)
      exact ⟨rfl, rfl, rfl⟩
     refine pD (fun W R z9 => ?_) ?_
     ·rw [eS (l := [(4, _), (5, _)]) ⟨z9 4 rfl, z9 5 rfl, ⟨⟩⟩]
      refine je (jq j qU js rfl rfl rfl ht.slv (by omega) (Nat.mul_one _) ?_)
      exact ⟨rfl, rfl, rfl⟩
     refine pD (fun W R z9 => ?_) ?_
     ·rw [eS (l := [(6, _)]) ⟨z9 6 rfl, ⟨⟩⟩]
      refine je (jj yd rfl (ht.rd (by omega)) ?_)
      exact ⟨rfl, rfl, rfl⟩
     exact stepsP.nil
    intro W hphi
    rw [eS (l := [(3, _), (7, _)]) ⟨(hphi 3 (by decide)), (hphi 7 (by decide)), ⟨⟩⟩]
    show XL _ _ _ _ _ _ _ (intsH 2 ov os :: L)
    refine cX (yU rfl rfl (qI ?_))
    refine jV (p := (w.getD k 0 : Int) = t.getD j 0) rfl (fun h4 => ?_) (fun h4 => ?_)
    ·refine qH (jb (ii ((k : Int))) rfl (cX (yx ((-1) - ((k : Int))) rfl rfl (by omega) (by omega) (jc (ii ((-1) - ((k : Int)))) rfl (qI (qH (jb (ii ((k : Int))) rfl (cX (yj (((k + 1 : Nat) : Int)) rfl rfl (by omega) (by omega) (jc (ii (((k + 1 : Nat) : Int))) rfl (qI ?_)))))))))))
     exact ⟨(k + 1, (-1) - ((k : Int))), _, FLe.refl _, rF, ⟨rfl, rfl, rfl, rfl, rfl, rfl, ⟨⟩⟩, (sC sR), ⟨rfl, (by (try dsimp only) <;> omega), (by (try dsimp only); exact by_hit hno (by omega) (by omega) (by omega))⟩, (by omega)⟩
    refine jU (qH (jb (ii ((k : Int))) rfl (cX (yj (((k + 1 : Nat) : Int)) rfl rfl (by omega) (by omega) (jc (ii (((k + 1 : Nat) : Int))) rfl (qI ?_))))))
    exact ⟨(k + 1, n), _, FLe.refl _, rF, ⟨rfl, rfl, rfl, rfl, rfl, rfl, ⟨⟩⟩, (sC sR), ⟨rfl, (by (try dsimp only) <;> omega), (by (try dsimp only); rw [hn]; exact by_miss (by omega) (by omega))⟩, (by omega)⟩
   refine yB (jO (jO (yk (qH (jb (ov) rfl (jb (ii (n)) rfl (cX (jQ (s := 1) [ii (n)] [ii (0)] [(0, [ii (n)])] qU js yv rfl (by decide) rfl (.cons rfl CellsAre.nil) rfl ?_))))))))
   intro v2 hv2
   refine cX (Qi (u := n) [_] _ qU typeInfo2 rfl rfl rfl rfl rfl rfl (SlV.own [] rfl) (Rd.sl [] rfl rfl) (by (try simp only [List.length_append, List.length_nil, List.length_cons, List.length_singleton, List.length_take, List.length_drop]); omega) ?_)
   intro v3 hs1 hn1
   refine jc (v3) rfl (qI (qH (jb (ii ((j : Int))) rfl (cX (yj (((j + 1 : Nat) : Int)) rfl rfl (by omega) (by omega) (jc (ii (((j + 1 : Nat) : Int))) rfl (qI ?_)))))))
   exact ⟨(j + 1, v3, os ++ [n]), _, FLe.refl _, rF, ⟨rfl, rfl, rfl, rfl, ⟨⟩⟩, (sD (sC sR)), ⟨rfl, (hs1), (by (try dsimp only) <;> omega), (by (try dsimp only); rw [hos]; exact by_take (by omega) (by_done hn (by omega))), (by (try dsimp only); rw [List.length_append, List.length_singleton]; omega)⟩, (by omega)⟩
  refine jA (t := 24) rfl (vF h2) (jA (t := 24) rfl (vF h2) (jA (t := 24) rfl (vF h2) (jA (t := 24) rfl (vF h2) (jA (t := 24) rfl (vF h2) (cX (yl (.bool (false)) (vF h2) rfl (qI (yV rfl (yB (jO (jO (yk (qH ?_)))))))))))))
  refine jb (ov) rfl (jb (ii (n)) rfl (cX (jQ (s := 1) [ii (n)] [ii (0)] [(0, [ii (n)])] qU js yv rfl (by decide) rfl (.cons rfl CellsAre.nil) rfl ?_)))
  intro v4 hv3
  refine cX (Qi (u := n) [_] _ qU typeInfo2 rfl rfl rfl rfl rfl rfl (SlV.own [] rfl) (Rd.sl [] rfl rfl) (by (try simp only [List.length_append, List.length_nil, List.length_cons, List.length_singleton, List.length_take, List.length_drop]); omega) ?_)
  intro v5 hs2 hn2
  refine jc (v5) rfl (qI (qH (jb (ii ((j : Int))) rfl (cX (yj (((j + 1 : Nat) : Int)) rfl rfl (by omega) (by omega) (jc (ii (((j + 1 : Nat) : Int))) rfl (qI ?_)))))))
  exact ⟨(j + 1, v5, os ++ [n]), _, FLe.refl _, rF, ⟨rfl, rfl, rfl, rfl, ⟨⟩⟩, (sD (sC sR)), ⟨rfl, (hs2), (by (try dsimp only) <;> omega), (by (try dsimp only); rw [hos]; exact by_take (by omega) (by_done hn (by omega))), (by (try dsimp only); rw [List.length_append, List.length_singleton]; omega)⟩, (by omega)⟩
 refine yB (jO (jO (yk (qX (qH (jb (ov) rfl (jc (ov) rfl (qI (jW (jR (L' := intsH 2 ov os :: L) [ov] (ov) (.tmp rfl .nil) rfl rF rF (sC sR) ?_))))))))))
 refine ⟨rfl, hov, ?_⟩
 have hxs : (byL w t : List Int) = os := by rw [hos, show j = t.length from by omega, List.take_length]
 exact congrArg (fun z => intsH 2 _ z :: L) hxs

/- spec.l11Meets -/
theorem meets2_spec {F : FH} {L : List HP} {arv : Value} {ar : List Int} (har : IntsF F arv ar) {rsv : Value} {rs : List (List Int × List Int)} (hrs : PairsF F rsv rs) {o : Nat} {p : Nat} {u : Nat} (hsys : sysOk ar rs = true) (ho : o < rs.length) (hu : u < rs.length) (hp : p < (rs.getD o ([], [])).1.length) :
    Does prog 168 [.agg #[arv, rsv], ii ((o : Int)), ii ((p : Int)), ii ((u : Int))] F (L) (fun v F' L' => (.bool (decide (0 ≤ (rs.getD o ([], [])).1.getD p 0 ∧ meetB ar rs o p u = true)) : Value) = v ∧ L = L') := by
 refine ym func168 rfl rfl rfl ?_
 have hlo : termOk ar (rs.getD o ([], [])).1 = true := rule_L hsys ho
 have hllo : 1 ≤ (rs.getD o ([], [])).1.length ∧ (rs.getD o ([], [])).1.length ≤ 60 := termOk_len hlo
 have hglo : ∀ k, k < (rs.getD o ([], [])).1.length → -24 ≤ (rs.getD o ([], [])).1.getD k 0 := fun k h => termOk_ge hlo h
 have hlu : termOk ar (rs.getD u ([], [])).1 = true := rule_L hsys hu
 have hllu : 1 ≤ (rs.getD u ([], [])).1.length ∧ (rs.getD u ([], [])).1.length ≤ 60 := termOk_len hlu
 have hglu : ∀ k, k < (rs.getD u ([], [])).1.length → -24 ≤ (rs.getD u ([], [])).1.getD k 0 := fun k h => termOk_ge hlu h
 have hro : termOk ar (rs.getD o ([], [])).2 = true := rule_R hsys ho
 have hlro : 1 ≤ (rs.getD o ([], [])).2.length ∧ (rs.getD o ([], [])).2.length ≤ 60 := termOk_len hro
 have hgro : ∀ k, k < (rs.getD o ([], [])).2.length → -24 ≤ (rs.getD o ([], [])).2.getD k 0 := fun k h => termOk_ge hro h
 have hru : termOk ar (rs.getD u ([], [])).2 = true := rule_R hsys hu
 have hlru : 1 ≤ (rs.getD u ([], [])).2.length ∧ (rs.getD u ([], [])).2.length ≤ 60 := termOk_len hru
 have hgru : ∀ k, k < (rs.getD u ([], [])).2.length → -24 ≤ (rs.getD u ([], [])).2.getD k 0 := fun k h => termOk_ge hru h
 have hrl := (sysOk_iff.1 hsys).2.1
 have hsig := (sysOk_iff.1 hsys).1
 have hsl := sigOk_spec hsig
 have hee := (termW_of hlo).endN hp
 refine qX (qH (cX (yD [arv, rsv] rfl rfl ?_)))
 intro b1
 refine jc (.bool (false)) rfl (qI (qX (qH (cX (jE (1) yq rfl yZ (by decide) rfl rfl (cX (jj Qj rfl (Rd.own [] rfl rfl) (jb (ii ((o : Int))) rfl (cX (jq o yy yS rfl rfl rfl hrs.slv (by omega) rfl (cX (Qh (o * 2) yu rfl jF (by decide) rfl rfl ?_))))))))))))
 obtain ⟨a1, a2, ha1, ha2, hr1, hr2⟩ := hrs.rd (i := o) (by omega)
 refine cX (jj yt rfl (hr1 _) (jc (a1) rfl (qI (qX (qX (qH (jb (ii ((p : Int))) rfl (jb (a1) rfl (cX (jZ qU rfl ha1.slv (cX (yx ((((((rs.getD o ([], [])).1).length : Nat) : Int)) - 1) rfl rfl (by omega) (by omega) (cX (jL (args := [ii ((p : Int)), ii (0), ii ((((((rs.getD o ([], [])).1).length : Nat) : Int)) - 1)]) call112 rfl (l1In_spec (n := (p : Int)) (a := 0) (b := (((((rs.getD o ([], [])).1).length : Nat) : Int)) - 1)) ?_))))))))))))))
 rintro _ _ _ _ ⟨rfl, rfl, rfl⟩
 refine cX (Qw rfl (jb (.bool (decide (¬(0 ≤ ((p : Int)) ∧ ((p : Int)) ≤ ((((((rs.getD o ([], [])).1).length : Nat) : Int)) - 1))))) rfl ?_))
 by_cases h1 : ¬(0 ≤ ((p : Int)) ∧ ((p : Int)) ≤ ((((((rs.getD o ([], [])).1).length : Nat) : Int)) - 1))
 ·refine jA (t := 24) rfl (vT h1) (jA (t := 24) rfl (vT h1) (jA (t := 24) rfl (vT h1) (jA (t := 24) rfl (vT h1) (jA (t := 24) rfl (vT h1) (cX (yp (.bool (true)) (vT h1) rfl (jb (.bool (true)) rfl (jA (t := 31) rfl rfl (jA (t := 31) rfl rfl (jA (t := 31) rfl rfl ?_))))))))))
  refine XL.noU (t := 34) rfl rfl (XL.noU (t := 34) rfl rfl (XL.noU (t := 34) rfl rfl (jA (t := 31) rfl rfl (cX (yp (.bool (true)) rfl rfl (qI (yX rfl (qX (qH (jc (.bool (false)) rfl (qI ?_)))))))))))
  refine jW (jw (jR (L' := L) [.bool (false)] (.bool (false)) (.tmp rfl .nil) rfl rF rF (sD sR) ?_))
  have e9 : ¬ (0 ≤ (rs.getD o ([], [])).1.getD p 0 ∧ meetB ar rs o p u = true) := by first | (rintro ⟨h8, h9⟩; omega) | (rintro ⟨h8, h9⟩; rw [meet_self (by omega)] at h9; cases h9)
  exact ⟨congrArg Value.bool (decide_eq_false e9), rfl⟩
 refine jB (t := 24) rfl (vF h1) (jk (a1) rfl (jB (t := 24) rfl (vF h1) (jk (ii ((p : Int))) rfl (jB (t := 24) rfl (vF h1) (jq p qU js rfl rfl rfl ha1.slv (by omega) (Nat.mul_one _) (jB (t := 24) rfl (vF h1) (jj yd rfl (ha1.rd (by omega)) (jB (t := 24) rfl (vF h1) (yo rfl rfl (cX (yl (.bool (decide ((((rs.getD o ([], [])).1).getD p 0 : Int) < 0))) (vF h1) rfl (jb (.bool (decide ((((rs.getD o ([], [])).1).getD p 0 : Int) < 0))) rfl ?_))))))))))))
 by_cases h2 : (((rs.getD o ([], [])).1).getD p 0 : Int) < 0
 ·refine jA (t := 31) rfl (vT h2) (jA (t := 31) rfl (vT h2) (jA (t := 31) rfl (vT h2) (XL.noU (t := 34) rfl rfl (XL.noU (t := 34) rfl rfl (XL.noU (t := 34) rfl rfl (jA (t := 31) rfl (vT h2) (cX (yp (.bool (true)) (vT h2) rfl (qI (yX rfl ?_))))))))))
  refine qX (qH (jc (.bool (false)) rfl (qI (jW (jw (jR (L' := L) [.bool (false)] (.bool (false)) (.tmp rfl .nil) rfl rF rF (sD sR) ?_))))))
  have e9 : ¬ (0 ≤ (rs.getD o ([], [])).1.getD p 0 ∧ meetB ar rs o p u = true) := by first | (rintro ⟨h8, h9⟩; omega) | (rintro ⟨h8, h9⟩; rw [meet_self (by omega)] at h9; cases h9)
  exact ⟨congrArg Value.bool (decide_eq_false e9), rfl⟩
 refine jB (t := 31) rfl (vF h2) (jk (ii ((p : Int))) rfl (jB (t := 31) rfl (vF h2) (yU rfl rfl (jB (t := 31) rfl (vF h2) (jk (.bool (decide ((p : Int) = 0))) rfl ?_)))))
 by_cases h3 : (p : Int) = 0
 ·refine jB (t := 34) rfl (vT h3) (jk (ii ((o : Int))) rfl (jB (t := 34) rfl (vT h3) (jk (ii ((u : Int))) rfl (jB (t := 34) rfl (vT h3) (yU rfl rfl (jB (t := 31) rfl (vF h2) (yp (.bool (decide ((o : Int) = (u : Int)))) (vT h3) rfl (cX (yl (.bool (decide ((o : Int) = (u : Int)))) (vF h2) rfl (qI ?_))))))))))
  refine jV (p := (o : Int) = (u : Int)) rfl (fun h4 => ?_) (fun h4 => ?_)
  ·refine qX (qH (jc (.bool (false)) rfl (qI (jW (jw (jR (L' := L) [.bool (false)] (.bool (false)) (.tmp rfl .nil) rfl rF rF (sD sR) ?_))))))
   have e9 : ¬ (0 ≤ (rs.getD o ([], [])).1.getD p 0 ∧ meetB ar rs o p u = true) := by first | (rintro ⟨h8, h9⟩; omega) | (rintro ⟨h8, h9⟩; rw [meet_self (by omega)] at h9; cases h9)
   exact ⟨congrArg Value.bool (decide_eq_false e9), rfl⟩
  refine jU (qX (qH (cX (yc [arv, rsv] yY yP rfl rfl (Rd.ownN [] rfl rfl) (jb (ii ((o : Int))) rfl (jb (ii ((p : Int))) rfl (jb (ii ((u : Int))) rfl (cX (jL (args := [.agg #[arv, rsv], ii (o : Int), ii (p : Int), ii (u : Int)]) call214 rfl (try_spec (o := o) (p := p) (u := u) har hrs hsys (by omega) (by omega) (by first | assumption | omega)) ?_)))))))))
  rintro _ F1 _ le1 ⟨x1, b2, o1, bc1, l1, rfl, hs1, hb1, hy1, hn1, rfl⟩
  replace har := har.mono le1
  replace hrs := hrs.mono le1
  refine jb (.tuple #[ptr b2 0, .bool (x1)]) rfl (cX (yr (ptr b2 0) rfl rfl (cX (yr (.bool (x1)) rfl rfl (jc (ptr b2 0) rfl (jc (.bool (x1)) rfl (qI (qX (qH (jb (.bool (x1)) rfl (jc (.bool (x1)) rfl (qI (jW (jR (L' := L) [.bool (x1)] (.bool (x1)) (.tmp rfl .nil) rfl le1 rF (sD (sD (sD sR))) ?_))))))))))))))
  have e9 : x1 = decide (0 ≤ (rs.getD o ([], [])).1.getD p 0 ∧ meetB ar rs o p u = true) := by
    cases h9 : x1 with
    | true => exact (decide_eq_true ⟨by omega, meet_yes (by omega) (hy1 h9)⟩).symm
    | false => exact (decide_eq_false (fun h => by rw [meet_no (hn1 h9)] at h; cases h.2)).symm
  exact ⟨congrArg Value.bool e9.symm, rfl⟩
 refine jA (t := 34) rfl (vF h3) (jA (t := 34) rfl (vF h3) (jA (t := 34) rfl (vF h3) (jB (t := 31) rfl (vF h2) (yl (.bool (false)) (vF h3) rfl (cX (yl (.bool (false)) (vF h2) rfl (qI (yV rfl (jU (qX (qH (cX (yc [arv, rsv] yY yP rfl rfl (Rd.ownN [] rfl rfl) (jb (ii ((o : Int))) rfl ?_))))))))))))))
 refine jb (ii ((p : Int))) rfl (jb (ii ((u : Int))) rfl (cX (jL (args := [.agg #[arv, rsv], ii (o : Int), ii (p : Int), ii (u : Int)]) call214 rfl (try_spec (o := o) (p := p) (u := u) har hrs hsys (by omega) (by omega) (by first | assumption | omega)) ?_)))
 rintro _ F2 _ le2 ⟨x2, b3, o2, bc2, l2, rfl, hs2, hb2, hy2, hn2, rfl⟩
 refine jb (.tuple #[ptr b3 0, .bool (x2)]) rfl (cX (yr (ptr b3 0) rfl rfl (cX (yr (.bool (x2)) rfl rfl (jc (ptr b3 0) rfl (jc (.bool (x2)) rfl (qI (qX (qH (jb (.bool (x2)) rfl (jc (.bool (x2)) rfl (qI (jW (jR (L' := L) [.bool (x2)] (.bool (x2)) (.tmp rfl .nil) rfl le2 rF (sD (sD (sD sR))) ?_))))))))))))))
 have e9 : x2 = decide (0 ≤ (rs.getD o ([], [])).1.getD p 0 ∧ meetB ar rs o p u = true) := by
   cases h9 : x2 with
   | true => exact (decide_eq_true ⟨by omega, meet_yes (by omega) (hy2 h9)⟩).symm
   | false => exact (decide_eq_false (fun h => by rw [meet_no (hn2 h9)] at h; cases h.2)).symm
 exact ⟨congrArg Value.bool e9.symm, rfl⟩

/- spec.l11Peak -/
set_option maxHeartbeats 2000000 in
set_option maxRecDepth 20000 in
theorem peak2_spec {F : FH} {L : List HP} {arv : Value} {ar : List Int} (har : IntsF F arv ar) {rsv : Value} {rs : List (List Int × List Int)} (hrs : PairsF F rsv rs) {o : Nat} {p : Nat} {u : Nat} (hsys : sysOk ar rs = true) (ho : o < rs.length) (hu : u < rs.length) (hp : p < (rs.getD o ([], [])).1.length) (hmt : meetB ar rs o p u = true) :
    Does prog 169 [.agg #[arv, rsv], ii ((o : Int)), ii ((p : Int)), ii ((u : Int))] F (L) (fun v F' L' => ∃ (a : Value), ∃ (b : Value), ∃ (c : Value), (.tuple #[.agg #[a, b, c, ii (((pkF ar rs o p u).getD P0).2.2.2.1), ii (((pkF ar rs o p u).getD P0).2.2.2.2.1), ii (((pkF ar rs o p u).getD P0).2.2.2.2.2)], .bool ((pkF ar rs o p u).isSome)] : Value) = v ∧ (IntsF F' a ((pkF ar rs o p u).getD P0).1) ∧ (IntsF F' b ((pkF ar rs o p u).getD P0).2.1) ∧ (IntsF F' c ((pkF ar rs o p u).getD P0).2.2.1) ∧ L = L') := by
 refine ym func169 rfl rfl rfl ?_
 have hlo : termOk ar (rs.getD o ([], [])).1 = true := rule_L hsys ho
 have hllo : 1 ≤ (rs.getD o ([], [])).1.length ∧ (rs.getD o ([], [])).1.length ≤ 60 := termOk_len hlo
 have hglo : ∀ k, k < (rs.getD o ([], [])).1.length → -24 ≤ (rs.getD o ([], [])).1.getD k 0 := fun k h => termOk_ge hlo h
 have hlu : termOk ar (rs.getD u ([], [])).1 = true := rule_L hsys hu
 have hllu : 1 ≤ (rs.getD u ([], [])).1.length ∧ (rs.getD u ([], [])).1.length ≤ 60 := termOk_len hlu
 have hglu : ∀ k, k < (rs.getD u ([], [])).1.length → -24 ≤ (rs.getD u ([], [])).1.getD k 0 := fun k h => termOk_ge hlu h
 have hro : termOk ar (rs.getD o ([], [])).2 = true := rule_R hsys ho
 have hlro : 1 ≤ (rs.getD o ([], [])).2.length ∧ (rs.getD o ([], [])).2.length ≤ 60 := termOk_len hro
 have hgro : ∀ k, k < (rs.getD o ([], [])).2.length → -24 ≤ (rs.getD o ([], [])).2.getD k 0 := fun k h => termOk_ge hro h
 have hru : termOk ar (rs.getD u ([], [])).2 = true := rule_R hsys hu
 have hlru : 1 ≤ (rs.getD u ([], [])).2.length ∧ (rs.getD u ([], [])).2.length ≤ 60 := termOk_len hru
 have hgru : ∀ k, k < (rs.getD u ([], [])).2.length → -24 ≤ (rs.getD u ([], [])).2.getD k 0 := fun k h => termOk_ge hru h
 have hrl := (sysOk_iff.1 hsys).2.1
 have hsig := (sysOk_iff.1 hsys).1
 have hsl := sigOk_spec hsig
 have hee := (termW_of hlo).endN hp
 have hal := away_len (l := (rs.getD u ([], [])).2)
 refine qX (qH (cX (yD [arv, rsv] rfl rfl ?_)))
 intro b1
 refine cX (Qe [sN, sN, sN, ii (0), ii (0), ii (0)] Qc rfl ?_)
 intro b2
 refine jc (.bool (false)) rfl (qI (qX (qH (cX (yc [arv, rsv] yY yP rfl rfl (Rd.ownN [_] rfl rfl) (jb (ii ((o : Int))) rfl (jb (ii ((p : Int))) rfl (jb (ii ((u : Int))) rfl (cX (jL (args := [.agg #[arv, rsv], ii (o : Int), ii (p : Int), ii (u : Int)]) call214 rfl (try_spec (o := o) (p := p) (u := u) har hrs hsys (by omega) (by omega) (by first | assumption | omega)) ?_))))))))))
 rintro _ F1 _ le1 ⟨x1, b3, o1, bc1, l1, rfl, hs1, hb1, hy1, hn1, rfl⟩
 replace har := har.mono le1
 replace hrs := hrs.mono le1
 refine jb (.tuple #[ptr b3 0, .bool (x1)]) rfl (cX (yr (ptr b3 0) rfl rfl (cX (yr (.bool (x1)) rfl rfl (jc (ptr b3 0) rfl (jc (.bool (x1)) rfl ?_))))))
 have hxt : x1 = true := by
   cases h9 : x1 with
   | true => rfl
   | false => have h8 := hn1 h9; rw [meet_no h8] at hmt; cases hmt
 have hmg := hy1 hxt
 have hbo := hmg.ok
 obtain ⟨σ, hσ⟩ := hbo.sol
 have hgs := hσ.good hbo
 obtain ⟨hLg, hLl, hLp⟩ := left_ok (ar := ar) (rs := rs) (o := o) (u := u) (p := p) hsys ho hu
 refine qI (qX (qH (cX (jE (1) yq rfl yZ (by decide) rfl rfl (cX (jj Qj rfl (Rd.own [_, _, _] rfl rfl) (jb (ii ((o : Int))) rfl (cX (jq o yy yS rfl rfl rfl hrs.slv (by omega) rfl ?_)))))))))
 obtain ⟨a1, a2, ha1, ha2, hr1, hr2⟩ := hrs.rd (i := o) (by omega)
 refine cX (yc [a1, a2] isAgg72 yS rfl rfl (Rd.two (hr1 _) (hr2 _)) (cX (Qe [sN, sN] yW rfl ?_)))
 intro b4
 refine cX (yL [] _ [a1, a2] yS rfl rfl rfl (jT (yE (yi ha1)) (jT (yE (yi ha2)) yM)) rfl rfl rfl (qI (qX (qH (cX (jE (0) yq rfl ys (by decide) rfl rfl (cX (yc [arv] yF ys rfl rfl (Rd.ownN [_, _, _, _] rfl rfl) (cX (jE (0) yu rfl jF (by decide) rfl rfl (cX (jj yt rfl (Rd.own [] rfl rfl) (jb (ii ((p : Int))) rfl (cX (jL (args := [.agg #[arv], a1, ii (p : Int)]) call215 rfl (l13End_spec (q := p) har ha1 (ho := (termW_of hlo)) (hp := (hp))) ?_)))))))))))))))
 rintro _ _ _ _ ⟨rfl, rfl, rfl⟩
 refine jc (ii (((endN ar ((rs.getD o ([], [])).1) p : Nat) : Int))) rfl (qI (qX ?_))
 obtain ⟨a3, a4, ha3, ha4, hr3, hr4⟩ := hrs.rd (i := u) (by omega)
 refine X.drawG [cellsH b4 [a1, a2] 72, cellsH b3 [o1] 234, slH 27 1 o1 48 bc1, cellsH b2 [sN, sN, sN, ii (0), ii (0), ii (0)] 76, cellsH b1 [arv, rsv] 32] L 12 [] [[], [], [1], [], [2, 3], [0, 4], [], [6], [], [7, 8], [9], [10]] [] (phiG [fun FF us v => ∃ b, v = .slice (some ⟨b, 0, none⟩) 0 0, pe (ptr b4 0), pe a1, pe (ii ((p : Int)) : Value), fun FF us v => (v : Value) = v ∧ (IntsF FF v ((((rs.getD o ([], [])).1).drop 0).take (p - 0))) ∧ (isNil v = isNil a1), fun FF us v => IsSl v, pe (ptr b1 1), pe rsv, pe (ii ((u : Int)) : Value), pe (.pointer (some (elemA rsv (u * 2)))), pe (.pointer (some (elemA rsv (u * 2 + 1)))), pe a4]) (ownL [fun us v => [slH 2 1 v 0 []], o0, o0, o0, o0, fun us v => [intsH 2 (v) (((((rs.getD o ([], [])).1).drop 0).take (p - 0)))]]) mixed rfl rfl (by kernel_rfl) (by kernel_rfl) (MonoG.get (mC (fun le h => h) (mC (fun le h => h) (m1 (m1 (mC (fun le h => ⟨h.1, h.2.1.mono le, h.2.2⟩) (mC (fun le h => h) (mC (fun le h => h) (m1 (m1 (m1 (m1 (m1 MonoG.nil))))))))))))) ?_ ?_
 ·refine gD (fun W Fs R lF z9 => ?_) ?_
  ·replace har := har.mono lF
   replace hrs := hrs.mono lF
   replace hb1 := hb1.mono lF
   replace ha1 := ha1.mono lF
   replace ha2 := ha2.mono lF
   replace ha4 := ha4.mono lF
   replace hr4 := Rd.monoA hr4 lF
   refine je (jQ (s := 1) [] [ii (0)] [] qU js yv rfl (by decide) rfl CellsAre.nil rfl ?_)
   intro v3 hv3
   exact ⟨hv3, rfl⟩
  refine gD (fun W Fs R lF z9 => ?_) ?_
  ·refine je (jE (0) yu rfl jF (by decide) rfl rfl ?_)
   exact ⟨rfl, rfl⟩
  refine gD (fun W Fs R lF z9 => ?_) ?_
  ·replace har := har.mono lF
   replace hrs := hrs.mono lF
   replace hb1 := hb1.mono lF
   replace ha1 := ha1.mono lF
   replace ha2 := ha2.mono lF
   replace ha4 := ha4.mono lF
   replace hr4 := Rd.monoA hr4 lF
   rw [eS (l := [(1, _)]) ⟨z9 1 rfl, ⟨⟩⟩]
   refine je (jj yt rfl (Rd.own [] rfl rfl) ?_)
   exact ⟨rfl, rfl⟩
  refine gD (fun W Fs R lF z9 => ?_) ?_
  ·refine je (jk (ii ((p : Int))) rfl ?_)
   exact ⟨rfl, rfl⟩
  refine gD (fun W Fs R lF z9 => ?_) ?_
  ·replace har := har.mono lF
   replace hrs := hrs.mono lF
   replace hb1 := hb1.mono lF
   replace ha1 := ha1.mono lF
   replace ha2 := ha2.mono lF
   replace ha4 := ha4.mono lF
   replace hr4 := Rd.monoA hr4 lF
   rw [eS (l := [(2, _), (3, _)]) ⟨z9 2 rfl, z9 3 rfl, ⟨⟩⟩]
   refine je (Qp 0 p qU js rfl ha1 rfl ⟨_, rfl⟩ (by omega) (by omega) ?_)
   intro v4 hv4 hn3
   exact ⟨⟨rfl, hv4, hn3⟩, rfl⟩
  refine gD (fun W Fs R lF z9 => ?_) ?_
  ·have f0 : ∃ b, (W 0) = .slice (some ⟨b, 0, none⟩) 0 0 := z9 0 rfl
   obtain ⟨e4, f4_1hv, f4_1hn⟩ := z9 4 rfl
   replace har := har.mono lF
   replace hrs := hrs.mono lF
   replace hb1 := hb1.mono lF
   replace ha1 := ha1.mono lF
   replace ha2 := ha2.mono lF
   replace ha4 := ha4.mono lF
   replace hr4 := Rd.monoA hr4 lF
   rw [eS (l := [(4, (W 4))]) ⟨(e4).symm, ⟨⟩⟩]
   refine je (XOp.appendE qU typeInfo2 rfl rfl rfl rfl rfl f0 f4_1hv (by (try simp only [List.length_append, List.length_nil, List.length_cons, List.length_singleton, List.length_take, List.length_drop]); omega) ?_)
   intro v5 hs2
   exact ⟨hs2, rfl⟩
  refine gD (fun W Fs R lF z9 => ?_) ?_
  ·refine je (jE (1) yq rfl yZ (by decide) rfl rfl ?_)
   exact ⟨rfl, rfl⟩
  refine gD (fun W Fs R lF z9 => ?_) ?_
  ·replace har := har.mono lF
   replace hrs := hrs.mono lF
   replace hb1 := hb1.mono lF
   replace ha1 := ha1.mono lF
   replace ha2 := ha2.mono lF
   replace ha4 := ha4.mono lF
   replace hr4 := Rd.monoA hr4 lF
   rw [eS (l := [(6, _)]) ⟨z9 6 rfl, ⟨⟩⟩]
   refine je (jj Qj rfl (Rd.own [_, _, _, _] rfl rfl) ?_)
   exact ⟨rfl, rfl⟩
  refine gD (fun W Fs R lF z9 => ?_) ?_
  ·refine je (jk (ii ((u : Int))) rfl ?_)
   exact ⟨rfl, rfl⟩
  refine gD (fun W Fs R lF z9 => ?_) ?_
  ·replace har := har.mono lF
   replace hrs := hrs.mono lF
   replace hb1 := hb1.mono lF
   replace ha1 := ha1.mono lF
   replace ha2 := ha2.mono lF
   replace ha4 := ha4.mono lF
   replace hr4 := Rd.monoA hr4 lF
   rw [eS (l := [(7, _), (8, _)]) ⟨z9 7 rfl, z9 8 rfl, ⟨⟩⟩]
   refine je (jq u yy yS rfl rfl rfl hrs.slv (by omega) rfl ?_)
   exact ⟨rfl, rfl⟩
  refine gD (fun W Fs R lF z9 => ?_) ?_
  ·rw [eS (l := [(9, _)]) ⟨z9 9 rfl, ⟨⟩⟩]
   refine je (Qh (u * 2 + 1) yu rfl jF (by decide) rfl rfl ?_)
   exact ⟨rfl, rfl⟩
  refine gD (fun W Fs R lF z9 => ?_) ?_
  ·replace har := har.mono lF
   replace hb1 := hb1.mono lF
   replace ha1 := ha1.mono lF
   replace ha2 := ha2.mono lF
   replace ha4 := ha4.mono lF
   replace hr4 := Rd.monoA hr4 lF
   rw [eS (l := [(10, _)]) ⟨z9 10 rfl, ⟨⟩⟩]
   refine je (jj yt rfl (hr4 _) ?_)
   exact ⟨rfl, rfl⟩
  exact stepsG.nil
 intro W F2 le2 hphi
 have f0 : ∃ b, (W 0) = .slice (some ⟨b, 0, none⟩) 0 0 := hphi 0 (by decide)
 obtain ⟨e4, f4_1hv, f4_1hn⟩ := hphi 4 (by decide)
 have f5 : IsSl (W 5) := hphi 5 (by decide)
 generalize hu0 : W 0 = u1 at f0 e4 f4_1hv f4_1hn f5
 generalize hu1 : (W 4) = u2 at f0 e4 f4_1hv f4_1hn f5
 generalize hu5 : W 5 = u3 at f0 e4 f4_1hv f4_1hn f5
 rw [eS (l := [(0, u1), (5, u3), (11, _)]) ⟨hu0, hu5, (hphi 11 (by decide)), ⟨⟩⟩]
 replace hb1 := hb1.mono le2
 replace ha1 := ha1.mono le2
 replace ha2 := ha2.mono le2
 replace ha4 := ha4.mono le2
 show XL _ _ _ _ _ _ _ (slH 2 1 u1 0 [] :: intsH 2 u3 (((((rs.getD o ([], [])).1).drop 0).take (p - 0))) :: cellsH b4 [a1, a2] 72 :: cellsH b3 [o1] 234 :: slH 27 1 o1 48 bc1 :: cellsH b2 [sN, sN, sN, ii (0), ii (0), ii (0)] 76 :: cellsH b1 [arv, rsv] 32 :: L)
 refine cX (Qo <| jL (args := [a4, ii (24)]) call216 rfl (away2_spec (k := 24) ha4 (hk24 := (rfl)) (hlt := (by omega)) (htg := (fun i hi => by have := hgru i hi; omega))) ?_)
 rintro v6 _ _ _ ⟨rfl, hs3, rfl⟩
 refine ⟨_, _, rfl, fun F3 le3 hz1 => ?_⟩
 replace hb1 := hb1.mono le3
 replace ha1 := ha1.mono le3
 replace ha2 := ha2.mono le3
 have hf1 : IntsF F3 v6 ((awayL ((rs.getD u ([], [])).2))) := intsH.fz (xs := (awayL ((rs.getD u ([], [])).2))) hz1.fz
 refine cX (Qk [_] _ qU typeInfo2 rfl rfl rfl rfl rfl rfl hf1 (by (try simp only [List.length_append, List.length_nil, List.length_cons, List.length_singleton, List.length_take, List.length_drop]); omega) ?_)
 intro v7 hs4 hn4 hm1
 refine jc (v7) rfl (qI (qX (qH (jb (ptr b3 0) rfl (cX (jE (0) yu rfl jF (by decide) rfl rfl (cX (jj yt rfl (Rd.own [_, _] rfl rfl) ?_))))))))
 obtain ⟨ρ9, hρ9⟩ := hbo.acyc
 obtain ⟨k9, hk9⟩ := maxRank ((rs.getD o ([], [])).1) ρ9
 refine yK (ye (A := [_, _, _, _])) ?_
 show XL _ _ _ _ _ _ _ (slH 27 1 o1 48 bc1 :: slH 2 1 u1 0 [] :: intsH 2 v7 ((((((rs.getD o ([], [])).1).drop 0).take (p - 0))) ++ ((awayL ((rs.getD u ([], [])).2)))) :: cellsH b4 [a1, a2] 72 :: cellsH b3 [o1] 234 :: cellsH b2 [sN, sN, sN, ii (0), ii (0), ii (0)] 76 :: cellsH b1 [arv, rsv] 32 :: L)
 refine yK (ye (A := [_, _, _, _])) ?_
 show XL _ _ _ _ _ _ _ (cellsH b3 [o1] 234 :: slH 27 1 o1 48 bc1 :: slH 2 1 u1 0 [] :: intsH 2 v7 ((((((rs.getD o ([], [])).1).drop 0).take (p - 0))) ++ ((awayL ((rs.getD u ([], [])).2)))) :: cellsH b4 [a1, a2] 72 :: cellsH b2 [sN, sN, sN, ii (0), ii (0), ii (0)] 76 :: cellsH b1 [arv, rsv] 32 :: L)
 refine cX (jL (args := [ptr b3 0, a1]) call217 rfl (full_spec k9 hs1 hb1 hbo ha1 hσ hρ9 (fun m hm _ => hk9 m hm) (fun i hi => by have := hglo i hi; omega) (by omega)) ?_)
 rintro v8 _ _ _ ⟨hs5, rfl, rfl⟩
 refine jc (v8) rfl (Qd [] _ _ rfl (fun F4 le4 hz2 => ?_))
 replace hb1 := hb1.mono le4
 replace ha1 := ha1.mono le4
 replace ha2 := ha2.mono le4
 have hf2 : IntsF F4 v8 ((fullX σ ((rs.getD o ([], [])).1))) := intsH.fz (xs := (fullX σ ((rs.getD o ([], [])).1))) hz2.fz
 have hfl15 : (fullX σ ((rs.getD o ([], [])).1)).length ≤ 60 := fullX_len
 skip
 refine qI (qX (qH (jb (ptr b3 0) rfl (jb (v7) rfl (cX (jE (0) yu rfl jF (by decide) rfl rfl (cX (jj yt rfl (Rd.own [_, _, _, _] rfl rfl) (jb (ii (((endN ar ((rs.getD o ([], [])).1) p : Nat) : Int))) rfl (cX (Qp (endN ar ((rs.getD o ([], [])).1) p) (((rs.getD o ([], [])).1).length) qU js rfl ha1 ⟨_, rfl⟩ rfl (by omega) (by omega) ?_)))))))))))
 intro v9 hv5 hn5
 refine cX (Qk [_, _, _] _ qU typeInfo2 rfl rfl rfl rfl rfl rfl hv5 (by (try simp only [List.length_append, List.length_nil, List.length_cons, List.length_singleton, List.length_take, List.length_drop]); omega) ?_)
 intro v10 hs6 hn6 hm2
 refine Qd [_, _, _] _ _ rfl (fun F5 le5 hz3 => ?_)
 replace hb1 := hb1.mono le5
 replace ha2 := ha2.mono le5
 replace hf2 := hf2.mono le5
 have hf3 : IntsF F5 v10 (((((((rs.getD o ([], [])).1).drop 0).take (p - 0))) ++ ((awayL ((rs.getD u ([], [])).2)))) ++ (((((rs.getD o ([], [])).1).drop (endN ar ((rs.getD o ([], [])).1) p)).take ((((rs.getD o ([], [])).1).length) - (endN ar ((rs.getD o ([], [])).1) p))))) := intsH.fz (xs := ((((((rs.getD o ([], [])).1).drop 0).take (p - 0))) ++ ((awayL ((rs.getD u ([], [])).2)))) ++ (((((rs.getD o ([], [])).1).drop (endN ar ((rs.getD o ([], [])).1) p)).take ((((rs.getD o ([], [])).1).length) - (endN ar ((rs.getD o ([], [])).1) p))))) hz3.fz
 skip
 obtain ⟨ρ9, hρ9⟩ := hbo.acyc
 obtain ⟨k9, hk9⟩ := maxRank (((((((rs.getD o ([], [])).1).drop 0).take (p - 0))) ++ ((awayL ((rs.getD u ([], [])).2)))) ++ (((((rs.getD o ([], [])).1).drop (endN ar ((rs.getD o ([], [])).1) p)).take ((((rs.getD o ([], [])).1).length) - (endN ar ((rs.getD o ([], [])).1) p))))) ρ9
 have hLE9 : ((((((rs.getD o ([], [])).1).drop 0).take (p - 0))) ++ ((awayL ((rs.getD u ([], [])).2)))) ++ (((((rs.getD o ([], [])).1).drop (endN ar ((rs.getD o ([], [])).1) p)).take ((((rs.getD o ([], [])).1).length) - (endN ar ((rs.getD o ([], [])).1) p)))) = leftT ar rs o p u := left_eq
 refine yK (ye (A := [_])) ?_
 show XL _ _ _ _ _ _ _ (slH 27 1 o1 48 bc1 :: cellsH b3 [o1] 234 :: slH 2 1 u1 0 [] :: cellsH b4 [a1, a2] 72 :: cellsH b2 [sN, sN, sN, ii (0), ii (0), ii (0)] 76 :: cellsH b1 [arv, rsv] 32 :: L)
 refine yK (ye (A := [_])) ?_
 show XL _ _ _ _ _ _ _ (cellsH b3 [o1] 234 :: slH 27 1 o1 48 bc1 :: slH 2 1 u1 0 [] :: cellsH b4 [a1, a2] 72 :: cellsH b2 [sN, sN, sN, ii (0), ii (0), ii (0)] 76 :: cellsH b1 [arv, rsv] 32 :: L)
 refine cX (jL (args := [ptr b3 0, v10]) call217 rfl (full_spec k9 hs1 hb1 hbo hf3 hσ hρ9 (fun m hm _ => hk9 m hm) (by rw [hLE9]; exact hLg) (by rw [hLE9]; exact hLl)) ?_)
 rintro v11 _ _ _ ⟨hs7, rfl, rfl⟩
 refine jc (v11) rfl (Qd [] _ _ rfl (fun F6 le6 hz4 => ?_))
 replace hb1 := hb1.mono le6
 replace ha2 := ha2.mono le6
 replace hf2 := hf2.mono le6
 have hf4 : IntsF F6 v11 ((fullX σ (((((((rs.getD o ([], [])).1).drop 0).take (p - 0))) ++ ((awayL ((rs.getD u ([], [])).2)))) ++ (((((rs.getD o ([], [])).1).drop (endN ar ((rs.getD o ([], [])).1) p)).take ((((rs.getD o ([], [])).1).length) - (endN ar ((rs.getD o ([], [])).1) p))))))) := intsH.fz (xs := (fullX σ (((((((rs.getD o ([], [])).1).drop 0).take (p - 0))) ++ ((awayL ((rs.getD u ([], [])).2)))) ++ (((((rs.getD o ([], [])).1).drop (endN ar ((rs.getD o ([], [])).1) p)).take ((((rs.getD o ([], [])).1).length) - (endN ar ((rs.getD o ([], [])).1) p))))))) hz4.fz
 rw [hLE9] at hf4
 have hfl16 : (fullX σ (leftT ar rs o p u)).length ≤ 60 := fullX_len
 skip
 refine qI (qX (qH (jb (ptr b3 0) rfl (cX (jE (1) yu rfl jF (by decide) rfl rfl (cX (jj yt rfl (Rd.own [_, _, _] rfl rfl) ?_)))))))
 obtain ⟨ρ9, hρ9⟩ := hbo.acyc
 obtain ⟨k9, hk9⟩ := maxRank ((rs.getD o ([], [])).2) ρ9
 refine yK (ye (A := [_])) ?_
 show XL _ _ _ _ _ _ _ (slH 27 1 o1 48 bc1 :: cellsH b3 [o1] 234 :: slH 2 1 u1 0 [] :: cellsH b4 [a1, a2] 72 :: cellsH b2 [sN, sN, sN, ii (0), ii (0), ii (0)] 76 :: cellsH b1 [arv, rsv] 32 :: L)
 refine yK (ye (A := [_])) ?_
 show XL _ _ _ _ _ _ _ (cellsH b3 [o1] 234 :: slH 27 1 o1 48 bc1 :: slH 2 1 u1 0 [] :: cellsH b4 [a1, a2] 72 :: cellsH b2 [sN, sN, sN, ii (0), ii (0), ii (0)] 76 :: cellsH b1 [arv, rsv] 32 :: L)
 refine cX (jL (args := [ptr b3 0, a2]) call217 rfl (full_spec k9 hs1 hb1 hbo ha2 hσ hρ9 (fun m hm _ => hk9 m hm) (fun i hi => by have := hgro i hi; omega) (by omega)) ?_)
 rintro v12 _ _ _ ⟨hs8, rfl, rfl⟩
 refine jc (v12) rfl (Qd [] _ _ rfl (fun F7 le7 hz5 => ?_))
 replace hf2 := hf2.mono le7
 replace hf4 := hf4.mono le7
 have hf5 : IntsF F7 v12 ((fullX σ ((rs.getD o ([], [])).2))) := intsH.fz (xs := (fullX σ ((rs.getD o ([], [])).2))) hz5.fz
 have hfl17 : (fullX σ ((rs.getD o ([], [])).2)).length ≤ 60 := fullX_len
 skip
 refine qI (qX (qH (jb (v8) rfl (cX (Qo <| jL (args := [v8]) call147 rfl (l2OrderL_spec hf2 (hlt := (by omega))) ?_)))))
 rintro v13 _ _ _ ⟨rfl, hs9, rfl⟩
 refine ⟨_, _, rfl, fun F8 le8 hz6 => ?_⟩
 replace hf2 := hf2.mono le8
 replace hf4 := hf4.mono le8
 replace hf5 := hf5.mono le8
 have hf6 : IntsF F8 v13 ((orderL ((fullX σ ((rs.getD o ([], [])).1))))) := intsH.fz (xs := (orderL ((fullX σ ((rs.getD o ([], [])).1))))) hz6.fz
 refine jc (v13) rfl ?_
 have hol18 := ord_len (t := (fullX σ ((rs.getD o ([], [])).1)))
 skip
 refine qI (qX (qX (qH (jb (v8) rfl (cX (jZ qU rfl hf2.slv (cX (yU rfl rfl (jb (.bool (decide ((((((fullX σ ((rs.getD o ([], [])).1))).length : Nat) : Int) : Int) = 0))) rfl ?_)))))))))
 by_cases h1 : (((((fullX σ ((rs.getD o ([], [])).1))).length : Nat) : Int) : Int) = 0
 ·have hnil : fullX σ (Lr rs o) = [] ∨ fullX σ (leftT ar rs o p u) = [] ∨ fullX σ (Rr rs o) = [] := .inl (List.eq_nil_of_length_eq_zero (show ((fullX σ ((rs.getD o ([], [])).1))).length = 0 from by omega))
  refine jA (t := 73) rfl (vT h1) (jA (t := 73) rfl (vT h1) (jA (t := 73) rfl (vT h1) (cX (yp (.bool (true)) (vT h1) rfl (jb (.bool (true)) rfl (jA (t := 78) rfl rfl (jA (t := 78) rfl rfl (jA (t := 78) rfl rfl (cX (yp (.bool (true)) rfl rfl (jb (.bool (true)) rfl ?_)))))))))))
  refine jA (t := 83) rfl rfl (jA (t := 83) rfl rfl (jA (t := 83) rfl rfl (cX (yp (.bool (true)) rfl rfl (qI (yX rfl (qX (qH (cX (yJ [sN, sN, sN, ii (0), ii (0), ii (0)] [sN, sN, sN, ii (0), ii (0), ii (0)] [(0, 1), (1, 1), (2, 1), (3, 1), (4, 1), (5, 1)] [] yg Qc rfl (.cons rfl jF (.cons rfl jF (.cons rfl jF (.cons rfl js (.cons rfl js (.cons rfl js PlacesAre.nil)))))) rfl CellsAre.nil (cX (yL [_, _, _, _] _ [sN, sN, sN, ii (0), ii (0), ii (0)] yC rfl rfl rfl (jT rfl (jT rfl (jT rfl (jT rfl (jT rfl (jT rfl yM)))))) rfl rfl rfl (jc (.bool (false)) rfl ?_)))))))))))))
  refine qI (jW (jw (jR (L' := L) [.agg #[sN, sN, sN, ii (0), ii (0), ii (0)], .bool (false)] (.tuple #[.agg #[sN, sN, sN, ii (0), ii (0), ii (0)], .bool (false)]) (.cell rfl (loadNV [sN, sN, sN, ii (0), ii (0), ii (0)] Qy yC rfl (Rd.ownN [_, _, _, _] rfl rfl)) (.tmp rfl .nil)) rfl (jl (jl (jl (jl (jl (jl (jl le1 le2) le3) le4) le5) le6) le7) le8) rF (sD (sD (sD (sD (sD (sD sR)))))) ?_)))
  have e : pkF ar rs o p u = none := by first | exact pk_nil hsys ho hu hmt hmg hσ hnil | exact pk_order hsys ho hu hmt hmg hσ h24
  exact ⟨_, _, _, by rw [e]; rfl, by rw [e]; exact IntsF.nilV, by rw [e]; exact IntsF.nilV, by rw [e]; exact IntsF.nilV, rfl⟩
 have eL : fullX σ (rs.getD o ([], [])).1 = ap σ (rs.getD o ([], [])).1 := fullX_yes (fun e => by (have e9 : ((fullX σ ((rs.getD o ([], [])).1))).length = 0 := (congrArg List.length e :)); omega)
 have lL : (ap σ (rs.getD o ([], [])).1).length ≤ 60 := by rw [← eL]; exact fullX_len
 refine jB (t := 73) rfl (vF h1) (jk (v11) rfl (jB (t := 73) rfl (vF h1) (jZ qU rfl hf4.slv (jB (t := 73) rfl (vF h1) (yU rfl rfl (cX (yl (.bool (decide ((((((fullX σ (leftT ar rs o p u))).length : Nat) : Int) : Int) = 0))) (vF h1) rfl (jb (.bool (decide ((((((fullX σ (leftT ar rs o p u))).length : Nat) : Int) : Int) = 0))) rfl ?_))))))))
 by_cases h2 : (((((fullX σ (leftT ar rs o p u))).length : Nat) : Int) : Int) = 0
 ·have hnil : fullX σ (Lr rs o) = [] ∨ fullX σ (leftT ar rs o p u) = [] ∨ fullX σ (Rr rs o) = [] := .inr <| .inl (List.eq_nil_of_length_eq_zero (show ((fullX σ (leftT ar rs o p u))).length = 0 from by omega))
  refine jA (t := 78) rfl (vT h2) (jA (t := 78) rfl (vT h2) (jA (t := 78) rfl (vT h2) (cX (yp (.bool (true)) (vT h2) rfl (jb (.bool (true)) rfl (jA (t := 83) rfl rfl (jA (t := 83) rfl rfl (jA (t := 83) rfl rfl (cX (yp (.bool (true)) rfl rfl (qI ?_)))))))))))
  refine yX rfl (qX (qH (cX (yJ [sN, sN, sN, ii (0), ii (0), ii (0)] [sN, sN, sN, ii (0), ii (0), ii (0)] [(0, 1), (1, 1), (2, 1), (3, 1), (4, 1), (5, 1)] [] yg Qc rfl (.cons rfl jF (.cons rfl jF (.cons rfl jF (.cons rfl js (.cons rfl js (.cons rfl js PlacesAre.nil)))))) rfl CellsAre.nil (cX (yL [_, _, _, _] _ [sN, sN, sN, ii (0), ii (0), ii (0)] yC rfl rfl rfl (jT rfl (jT rfl (jT rfl (jT rfl (jT rfl (jT rfl yM)))))) rfl rfl rfl (jc (.bool (false)) rfl (qI (jW (jw (jR (L' := L) [.agg #[sN, sN, sN, ii (0), ii (0), ii (0)], .bool (false)] (.tuple #[.agg #[sN, sN, sN, ii (0), ii (0), ii (0)], .bool (false)]) (.cell rfl (loadNV [sN, sN, sN, ii (0), ii (0), ii (0)] Qy yC rfl (Rd.ownN [_, _, _, _] rfl rfl)) (.tmp rfl .nil)) rfl (jl (jl (jl (jl (jl (jl (jl le1 le2) le3) le4) le5) le6) le7) le8) rF (sD (sD (sD (sD (sD (sD sR)))))) ?_)))))))))))
  have e : pkF ar rs o p u = none := by first | exact pk_nil hsys ho hu hmt hmg hσ hnil | exact pk_order hsys ho hu hmt hmg hσ h24
  exact ⟨_, _, _, by rw [e]; rfl, by rw [e]; exact IntsF.nilV, by rw [e]; exact IntsF.nilV, by rw [e]; exact IntsF.nilV, rfl⟩
 have eM : fullX σ (leftT ar rs o p u) = ap σ (leftT ar rs o p u) := fullX_yes (fun e => by (have e9 : ((fullX σ (leftT ar rs o p u))).length = 0 := (congrArg List.length e :)); omega)
 have lM : (ap σ (leftT ar rs o p u)).length ≤ 60 := by rw [← eM]; exact fullX_len
 refine jB (t := 78) rfl (vF h2) (jk (v12) rfl (jB (t := 78) rfl (vF h2) (jZ qU rfl hf5.slv (jB (t := 78) rfl (vF h2) (yU rfl rfl (cX (yl (.bool (decide ((((((fullX σ ((rs.getD o ([], [])).2))).length : Nat) : Int) : Int) = 0))) (vF h2) rfl (jb (.bool (decide ((((((fullX σ ((rs.getD o ([], [])).2))).length : Nat) : Int) : Int) = 0))) rfl ?_))))))))
 by_cases h3 : (((((fullX σ ((rs.getD o ([], [])).2))).length : Nat) : Int) : Int) = 0
 ·have hnil : fullX σ (Lr rs o) = [] ∨ fullX σ (leftT ar rs o p u) = [] ∨ fullX σ (Rr rs o) = [] := .inr <| .inr (List.eq_nil_of_length_eq_zero (show ((fullX σ ((rs.getD o ([], [])).2))).length = 0 from by omega))
  refine jA (t := 83) rfl (vT h3) (jA (t := 83) rfl (vT h3) (jA (t := 83) rfl (vT h3) (cX (yp (.bool (true)) (vT h3) rfl (qI (yX rfl (qX (qH (cX (yJ [sN, sN, sN, ii (0), ii (0), ii (0)] [sN, sN, sN, ii (0), ii (0), ii (0)] [(0, 1), (1, 1), (2, 1), (3, 1), (4, 1), (5, 1)] [] yg Qc rfl (.cons rfl jF (.cons rfl jF (.cons rfl jF (.cons rfl js (.cons rfl js (.cons rfl js PlacesAre.nil)))))) rfl CellsAre.nil (cX (yL [_, _, _, _] _ [sN, sN, sN, ii (0), ii (0), ii (0)] yC rfl rfl rfl (jT rfl (jT rfl (jT rfl (jT rfl (jT rfl (jT rfl yM)))))) rfl rfl rfl (jc (.bool (false)) rfl ?_)))))))))))))
  refine qI (jW (jw (jR (L' := L) [.agg #[sN, sN, sN, ii (0), ii (0), ii (0)], .bool (false)] (.tuple #[.agg #[sN, sN, sN, ii (0), ii (0), ii (0)], .bool (false)]) (.cell rfl (loadNV [sN, sN, sN, ii (0), ii (0), ii (0)] Qy yC rfl (Rd.ownN [_, _, _, _] rfl rfl)) (.tmp rfl .nil)) rfl (jl (jl (jl (jl (jl (jl (jl le1 le2) le3) le4) le5) le6) le7) le8) rF (sD (sD (sD (sD (sD (sD sR)))))) ?_)))
  have e : pkF ar rs o p u = none := by first | exact pk_nil hsys ho hu hmt hmg hσ hnil | exact pk_order hsys ho hu hmt hmg hσ h24
  exact ⟨_, _, _, by rw [e]; rfl, by rw [e]; exact IntsF.nilV, by rw [e]; exact IntsF.nilV, by rw [e]; exact IntsF.nilV, rfl⟩
 have eR : fullX σ (rs.getD o ([], [])).2 = ap σ (rs.getD o ([], [])).2 := fullX_yes (fun e => by (have e9 : ((fullX σ ((rs.getD o ([], [])).2))).length = 0 := (congrArg List.length e :)); omega)
 have lR : (ap σ (rs.getD o ([], [])).2).length ≤ 60 := by rw [← eR]; exact fullX_len
 refine jB (t := 83) rfl (vF h3) (jk (v13) rfl (jB (t := 83) rfl (vF h3) (jZ qU rfl hf6.slv (jB (t := 83) rfl (vF h3) (Qf rfl rfl (cX (yl (.bool (decide ((((((orderL ((fullX σ ((rs.getD o ([], [])).1))))).length : Nat) : Int) : Int) > 24))) (vF h3) rfl (qI ?_))))))))
 refine jV (p := (((((orderL ((fullX σ ((rs.getD o ([], [])).1))))).length : Nat) : Int) : Int) > 24) rfl (fun h4 => ?_) (fun h4 => ?_)
 ·have h24 : 24 < (orderL (ap σ (rs.getD o ([], [])).1)).length := by rw [← eL]; omega
  refine qX (qH (cX (yJ [sN, sN, sN, ii (0), ii (0), ii (0)] [sN, sN, sN, ii (0), ii (0), ii (0)] [(0, 1), (1, 1), (2, 1), (3, 1), (4, 1), (5, 1)] [] yg Qc rfl (.cons rfl jF (.cons rfl jF (.cons rfl jF (.cons rfl js (.cons rfl js (.cons rfl js PlacesAre.nil)))))) rfl CellsAre.nil (cX (yL [_, _, _, _] _ [sN, sN, sN, ii (0), ii (0), ii (0)] yC rfl rfl rfl (jT rfl (jT rfl (jT rfl (jT rfl (jT rfl (jT rfl yM)))))) rfl rfl rfl (jc (.bool (false)) rfl (qI (jW (jw (jR (L' := L) [.agg #[sN, sN, sN, ii (0), ii (0), ii (0)], .bool (false)] (.tuple #[.agg #[sN, sN, sN, ii (0), ii (0), ii (0)], .bool (false)]) (.cell rfl (loadNV [sN, sN, sN, ii (0), ii (0), ii (0)] Qy yC rfl (Rd.ownN [_, _, _, _] rfl rfl)) (.tmp rfl .nil)) rfl (jl (jl (jl (jl (jl (jl (jl le1 le2) le3) le4) le5) le6) le7) le8) rF (sD (sD (sD (sD (sD (sD sR)))))) ?_))))))))))
  have e : pkF ar rs o p u = none := by first | exact pk_nil hsys ho hu hmt hmg hσ hnil | exact pk_order hsys ho hu hmt hmg hσ h24
  exact ⟨_, _, _, by rw [e]; rfl, by rw [e]; exact IntsF.nilV, by rw [e]; exact IntsF.nilV, by rw [e]; exact IntsF.nilV, rfl⟩
 have h24 : (orderL (ap σ (rs.getD o ([], [])).1)).length ≤ 24 := by rw [← eL]; omega
 refine jU (qX (qH (jb (v13) rfl (jb (v8) rfl (cX (Qo <| jL (args := [v13, v8]) call146 rfl (l2ByL_spec hf6 hf2 (hno := (ord_nodup)) (hlo := (by omega)) (hlt := (by first | omega | (have := fullX_len (σ := σ) (t := (rs.getD o ([], [])).1); omega)))) ?_))))))
 rintro v14 _ _ _ ⟨rfl, hs10, rfl⟩
 refine ⟨_, _, rfl, fun F9 le9 hz7 => ?_⟩
 replace hf4 := hf4.mono le9
 replace hf5 := hf5.mono le9
 replace hf6 := hf6.mono le9
 have hf7 : IntsF F9 v14 ((byL ((orderL ((fullX σ ((rs.getD o ([], [])).1))))) ((fullX σ ((rs.getD o ([], [])).1))))) := intsH.fz (xs := (byL ((orderL ((fullX σ ((rs.getD o ([], [])).1))))) ((fullX σ ((rs.getD o ([], [])).1))))) hz7.fz
 skip
 refine jb (v13) rfl (jb (v11) rfl (cX (Qo <| jL (args := [v13, v11]) call146 rfl (l2ByL_spec hf6 hf4 (hno := (ord_nodup)) (hlo := (by omega)) (hlt := (by first | omega | (have := fullX_len (σ := σ) (t := (rs.getD o ([], [])).1); omega)))) ?_)))
 rintro v15 _ _ _ ⟨rfl, hs11, rfl⟩
 refine ⟨_, _, rfl, fun F10 le10 hz8 => ?_⟩
 replace hf5 := hf5.mono le10
 replace hf6 := hf6.mono le10
 replace hf7 := hf7.mono le10
 have hf8 : IntsF F10 v15 ((byL ((orderL ((fullX σ ((rs.getD o ([], [])).1))))) ((fullX σ (leftT ar rs o p u))))) := intsH.fz (xs := (byL ((orderL ((fullX σ ((rs.getD o ([], [])).1))))) ((fullX σ (leftT ar rs o p u))))) hz8.fz
 skip
 refine jb (v13) rfl (jb (v12) rfl (cX (Qo <| jL (args := [v13, v12]) call146 rfl (l2ByL_spec hf6 hf5 (hno := (ord_nodup)) (hlo := (by omega)) (hlt := (by first | omega | (have := fullX_len (σ := σ) (t := (rs.getD o ([], [])).1); omega)))) ?_)))
 rintro v16 _ _ _ ⟨rfl, hs12, rfl⟩
 refine ⟨_, _, rfl, fun F11 le11 hz9 => ?_⟩
 replace hf7 := hf7.mono le11
 replace hf8 := hf8.mono le11
 have hf9 : IntsF F11 v16 ((byL ((orderL ((fullX σ ((rs.getD o ([], [])).1))))) ((fullX σ ((rs.getD o ([], [])).2))))) := intsH.fz (xs := (byL ((orderL ((fullX σ ((rs.getD o ([], [])).1))))) ((fullX σ ((rs.getD o ([], [])).2))))) hz9.fz
 skip
 refine jb (ii ((p : Int))) rfl (jb (ii ((u : Int))) rfl (jb (ii ((o : Int))) rfl (cX (yJ [v14, v15, v16, ii ((p : Int)), ii ((u : Int)), ii ((o : Int))] [sN, sN, sN, ii (0), ii (0), ii (0)] [(0, 1), (1, 1), (2, 1), (3, 1), (4, 1), (5, 1)] [(0, [v14]), (1, [v15]), (2, [v16]), (3, [ii ((p : Int))]), (4, [ii ((u : Int))]), (5, [ii ((o : Int))])] yg Qc rfl (.cons rfl jF (.cons rfl jF (.cons rfl jF (.cons rfl js (.cons rfl js (.cons rfl js PlacesAre.nil)))))) rfl (.cons (cells_one (yi hf7)) (.cons (cells_one (yi hf8)) (.cons (cells_one (yi hf9)) (.cons rfl (.cons rfl (.cons rfl CellsAre.nil)))))) (cX (yL [_, _, _, _] _ [v14, v15, v16, ii ((p : Int)), ii ((u : Int)), ii ((o : Int))] yC rfl rfl rfl (jT (yE (yi hf7)) (jT (yE (yi hf8)) (jT (yE (yi hf9)) (jT rfl (jT rfl (jT rfl yM)))))) rfl rfl rfl (jc (.bool (true)) rfl (qI (jW (jR (L' := L) [.agg #[v14, v15, v16, ii ((p : Int)), ii ((u : Int)), ii ((o : Int))], .bool (true)] (.tuple #[.agg #[v14, v15, v16, ii ((p : Int)), ii ((u : Int)), ii ((o : Int))], .bool (true)]) (.cell rfl (loadNV [v14, v15, v16, ii ((p : Int)), ii ((u : Int)), ii ((o : Int))] Qy yC rfl (Rd.ownN [_, _, _, _] rfl rfl)) (.tmp rfl .nil)) rfl (jl (jl (jl (jl (jl (jl (jl (jl (jl (jl le1 le2) le3) le4) le5) le6) le7) le8) le9) le10) le11) rF (sD (sD (sD (sD (sD (sD sR)))))) ?_))))))))))
 have e := pk_yes hsys ho hu hmt hmg hσ lL lM lR h24
 rw [← eL, ← eM, ← eR] at e
 exact ⟨_, _, _, by rw [e]; rfl, by rw [e]; exact hf7, by rw [e]; exact hf8, by rw [e]; exact hf9, rfl⟩

/- spec.l11All -/
set_option maxHeartbeats 2000000 in
set_option maxRecDepth 20000 in
theorem all2_spec {F : FH} {L : List HP} {arv : Value} {ar : List Int} (har : IntsF F arv ar) {rsv : Value} {rs : List (List Int × List Int)} (hrs : PairsF F rsv rs) (hsys : sysOk ar rs = true) :
    Does prog 96 [.agg #[arv, rsv]] F (L) (fun v F' L' => ∃ (a : Value), (.tuple #[a, .bool ((peaksF ar rs).isSome)] : Value) = v ∧ (PeaksF F' a ((peaksF ar rs).getD [])) ∧ L = L') := by
 refine ym func96 rfl rfl rfl ?_
 have hrl := (sysOk_iff.1 hsys).2.1
 refine qX (qH (cX (yD [arv, rsv] rfl rfl ?_)))
 intro b1
 refine jc (sN) rfl (jc (.bool (false)) rfl (qI (qX (qH (cX (jQ (s := 6) [] [sN, sN, sN, ii (0), ii (0), ii (0)] [] yG yC Qc rfl (by decide) rfl CellsAre.nil rfl ?_))))))
 intro v1 hv1
 refine jc (v1) rfl (qI (qX (qH (cX (jE (1) yq rfl yZ (by decide) rfl rfl (cX (jj Qj rfl (Rd.own [_] rfl rfl) (cX (jZ yy rfl hrs.slv (jc (ii ((rs.length : Int))) rfl (qI (qX (qX (qH (jc (ii (0)) rfl (qI (yf ?_)))))))))))))))))
 have hc1 : PeaksC F [] ([] : List PeakT) := (CO.nil : PeaksC F [] [])
 refine yI (α := Nat × Value × List PkT × List Value × Nat × FH) (fun xQ => [(1, ptr b1 0), (4, xQ.2.1), (5, ii ((rs.length : Int))), (6, ii (((xQ.1 : Nat) : Int)))]) (fun xQ => slH 76 6 xQ.2.1 xQ.2.2.2.2.1 xQ.2.2.2.1 :: cellsH b1 [arv, rsv] 32 :: L) (fun xQ F' => xQ.2.2.2.2.2 = F' ∧ F ≤ xQ.2.2.2.2.2 ∧ (IsSl xQ.2.1) ∧ (PeaksC xQ.2.2.2.2.2 xQ.2.2.2.1 xQ.2.2.1) ∧ (xQ.2.2.2.2.1 = xQ.2.2.1.length) ∧ (xQ.1 ≤ rs.length) ∧ (PkI ar rs (mO ar rs xQ.1) xQ.2.2.1)) (fun xQ => rs.length - xQ.1) (0, v1, [], [], 0, F) ⟨rfl, rfl, rfl, rfl, ⟨⟩⟩ (sC (sC sR)) ⟨rfl, FLe.refl _, ((yH hv1)), (hc1), (rfl), (by (try dsimp only) <;> omega), (PkI.start)⟩ ?_
 rintro ⟨o, ova, osa, csa, ma, G1⟩ rE _ _ ⟨rfl, leG, hova, hCa, hma, hbo, hIa⟩
 show X _ _ _ _ (envs [(1, ptr b1 0), (4, ova), (5, ii ((rs.length : Int))), (6, ii ((o : Int)))] rE) _ (slH 76 6 ova ma csa :: cellsH b1 [arv, rsv] 32 :: L)
 replace leG : F ≤ G1 := leG
 dsimp only at hova hCa hma hbo hIa
 have hlna := hIa.len
 have leG1 := leG
 replace har := har.mono leG1
 replace hrs := hrs.mono leG1
 refine qX (qX (qH (jb (ii ((o : Int))) rfl (jb (ii ((rs.length : Int))) rfl (cX (yo rfl rfl (qI ?_)))))))
 refine jV (p := (o : Int) < (rs.length : Int)) rfl (fun h1 => ?_) (fun h1 => ?_)
 ·refine jU (qX (yf (qX (qH (jc (ii (0)) rfl (qI (yf (yI (α := Nat × Value × List PkT × List Value × Nat × FH) (fun xQ => [(1, ptr b1 0), (4, xQ.2.1), (5, ii ((rs.length : Int))), (6, ii ((o : Int))), (7, ii (((xQ.1 : Nat) : Int)))]) (fun xQ => slH 76 6 xQ.2.1 xQ.2.2.2.2.1 xQ.2.2.2.1 :: cellsH b1 [arv, rsv] 32 :: L) (fun xQ F' => xQ.2.2.2.2.2 = F' ∧ G1 ≤ xQ.2.2.2.2.2 ∧ (IsSl xQ.2.1) ∧ (PeaksC xQ.2.2.2.2.2 xQ.2.2.2.1 xQ.2.2.1) ∧ (xQ.2.2.2.2.1 = xQ.2.2.1.length) ∧ (xQ.1 ≤ (rs.getD o ([], [])).1.length) ∧ (PkI ar rs (mO ar rs o ++ mP ar rs o xQ.1) xQ.2.2.1)) (fun xQ => (rs.getD o ([], [])).1.length - xQ.1) (0, ova, osa, csa, ma, G1) ⟨rfl, rfl, rfl, rfl, rfl, ⟨⟩⟩ (sC (sC sR)) ⟨rfl, FLe.refl _, (hova), (hCa), (by (try dsimp only); omega), (by (try dsimp only) <;> omega), (by (try dsimp only); simpa only [mP, List.append_nil] using hIa)⟩ ?_))))))))
  rintro ⟨p, ovb, osb, csb, mb, G2⟩ rE _ _ ⟨rfl, leG, hovb, hCb, hmb, hbp, hIb⟩
  show X _ _ _ _ (envs [(1, ptr b1 0), (4, ovb), (5, ii ((rs.length : Int))), (6, ii ((o : Int))), (7, ii ((p : Int)))] rE) _ (slH 76 6 ovb mb csb :: cellsH b1 [arv, rsv] 32 :: L)
  replace leG : G1 ≤ G2 := leG
  dsimp only at hovb hCb hmb hbp hIb
  have hlnb := hIb.len
  have hlo9 : 1 ≤ (rs.getD o ([], [])).1.length ∧ (rs.getD o ([], [])).1.length ≤ 60 := termOk_len (rule_L hsys (show o < rs.length by omega))
  have leG2 := leG
  replace har := har.mono leG2
  replace hrs := hrs.mono leG2
  replace hCa := hCa.mono leG2
  refine qX (qX (qH (jb (ii ((p : Int))) rfl (cX (jE (1) yq rfl yZ (by decide) rfl rfl (cX (jj Qj rfl (Rd.own [_] rfl rfl) (jb (ii ((o : Int))) rfl (cX (jq o yy yS rfl rfl rfl hrs.slv (by omega) rfl (cX (Qh (o * 2) yu rfl jF (by decide) rfl rfl ?_))))))))))))
  obtain ⟨a1, a2, ha1, ha2, hr1, hr2⟩ := hrs.rd (i := o) (by omega)
  refine cX (jj yt rfl (hr1 _) (cX (jZ qU rfl ha1.slv (cX (yo rfl rfl (qI ?_))))))
  refine jV (p := (p : Int) < ((((rs.getD o ([], [])).1).length : Nat) : Int)) rfl (fun h2 => ?_) (fun h2 => ?_)
  ·refine jU (qX (yf (qX (qH (jc (ii (0)) rfl (qI (yf (yI (α := Nat × Value × List PkT × List Value × Nat × FH) (fun xQ => [(1, ptr b1 0), (4, xQ.2.1), (5, ii ((rs.length : Int))), (6, ii ((o : Int))), (7, ii ((p : Int))), (8, ii (((xQ.1 : Nat) : Int)))]) (fun xQ => slH 76 6 xQ.2.1 xQ.2.2.2.2.1 xQ.2.2.2.1 :: cellsH b1 [arv, rsv] 32 :: L) (fun xQ F' => xQ.2.2.2.2.2 = F' ∧ G2 ≤ xQ.2.2.2.2.2 ∧ (IsSl xQ.2.1) ∧ (PeaksC xQ.2.2.2.2.2 xQ.2.2.2.1 xQ.2.2.1) ∧ (xQ.2.2.2.2.1 = xQ.2.2.1.length) ∧ (xQ.1 ≤ rs.length) ∧ (PkI ar rs (mO ar rs o ++ mP ar rs o p ++ mU ar rs o p xQ.1) xQ.2.2.1)) (fun xQ => rs.length - xQ.1) (0, ovb, osb, csb, mb, G2) ⟨rfl, rfl, rfl, rfl, rfl, rfl, ⟨⟩⟩ (sC (sC sR)) ⟨rfl, FLe.refl _, (hovb), (hCb), (by (try dsimp only); omega), (by (try dsimp only) <;> omega), (by (try dsimp only); simpa only [mU, List.append_nil] using hIb)⟩ ?_))))))))
   rintro ⟨u, ovc, osc, csc, mc, G3⟩ rE _ _ ⟨rfl, leG, hovc, hCc, hmc, hbu, hIc⟩
   show X _ _ _ _ (envs [(1, ptr b1 0), (4, ovc), (5, ii ((rs.length : Int))), (6, ii ((o : Int))), (7, ii ((p : Int))), (8, ii ((u : Int)))] rE) _ (slH 76 6 ovc mc csc :: cellsH b1 [arv, rsv] 32 :: L)
   replace leG : G2 ≤ G3 := leG
   dsimp only at hovc hCc hmc hbu hIc
   have hlnc := hIc.len
   have leG3 := leG
   replace har := har.mono leG3
   replace hrs := hrs.mono leG3
   replace hCa := hCa.mono leG3
   replace hCb := hCb.mono leG3
   refine qX (qX (qH (jb (ii ((u : Int))) rfl (jb (ii ((rs.length : Int))) rfl (cX (yo rfl rfl (qI ?_)))))))
   refine jV (p := (u : Int) < (rs.length : Int)) rfl (fun h3 => ?_) (fun h3 => ?_)
   ·refine jU (qX (yf (qX (qX (qH (cX (yc [arv, rsv] yY yP rfl rfl (Rd.ownN [_] rfl rfl) (jb (ii ((o : Int))) rfl (jb (ii ((p : Int))) rfl (jb (ii ((u : Int))) rfl (cX (jL (args := [.agg #[arv, rsv], ii (o : Int), ii (p : Int), ii (u : Int)]) call168 rfl (meets2_spec (o := o) (p := p) (u := u) har hrs (hsys := (hsys)) (ho := (by omega)) (hu := (by omega)) (hp := (by omega))) ?_))))))))))))
    rintro _ F1 _ le1 ⟨rfl, rfl⟩
    replace har := har.mono le1
    replace hrs := hrs.mono le1
    replace hCa := hCa.mono le1
    replace hCb := hCb.mono le1
    replace hCc := hCc.mono le1
    refine cX (Qw rfl (qI ?_))
    refine jV (p := ¬(0 ≤ (rs.getD o ([], [])).1.getD p 0 ∧ meetB ar rs o p u = true)) rfl (fun h4 => ?_) (fun h4 => ?_)
    ·have hmt : ¬ (0 ≤ (rs.getD o ([], [])).1.getD p 0 ∧ meetB ar rs o p u = true) := h4
     refine yB (jO (yk (qH (jb (ii ((u : Int))) rfl (cX (yj (((u + 1 : Nat) : Int)) rfl rfl (by omega) (by omega) (jc (ii (((u + 1 : Nat) : Int))) rfl (qI ?_))))))))
     exact ⟨(u + 1, ovc, osc, csc, mc, F1), _, (jl leG3 le1), rF, ⟨rfl, rfl, rfl, rfl, rfl, rfl, ⟨⟩⟩, (sC (sC sR)), ⟨rfl, (jl leG3 le1), (hovc), (hCc), (by (try dsimp only); (try rw [List.length_append, List.length_singleton]); omega), (by (try dsimp only) <;> omega), (by (try dsimp only); first | (rw [mU_no hmt]; exact hIc) | (have h9 := hIc.next hpk hpl; rw [mU_yes hmt.1 hmt.2, ← List.append_assoc]; exact h9))⟩, (by omega)⟩
    have hmt : 0 ≤ (rs.getD o ([], [])).1.getD p 0 ∧ meetB ar rs o p u = true := (Classical.not_not.1 h4)
    refine jU (qX (qH (cX (yc [arv, rsv] yY yP rfl rfl (Rd.ownN [_] rfl rfl) (jb (ii ((o : Int))) rfl (jb (ii ((p : Int))) rfl (jb (ii ((u : Int))) rfl (cX (jL (args := [.agg #[arv, rsv], ii (o : Int), ii (p : Int), ii (u : Int)]) call169 rfl (peak2_spec (o := o) (p := p) (u := u) har hrs (hsys := (hsys)) (ho := (by omega)) (hu := (by omega)) (hp := (by omega)) (hmt := (hmt.2))) ?_)))))))))
    rintro _ F2 _ le2 ⟨x1, x2, x3, rfl, hr3, hr4, hr5, rfl⟩
    replace hCa := hCa.mono le2
    replace hCb := hCb.mono le2
    replace hCc := hCc.mono le2
    refine jb (.tuple #[.agg #[x1, x2, x3, ii (((pkF ar rs o p u).getD P0).2.2.2.1), ii (((pkF ar rs o p u).getD P0).2.2.2.2.1), ii (((pkF ar rs o p u).getD P0).2.2.2.2.2)], .bool ((pkF ar rs o p u).isSome)]) rfl (cX (yr (.agg #[x1, x2, x3, ii (((pkF ar rs o p u).getD P0).2.2.2.1), ii (((pkF ar rs o p u).getD P0).2.2.2.2.1), ii (((pkF ar rs o p u).getD P0).2.2.2.2.2)]) rfl rfl (cX (yr (.bool ((pkF ar rs o p u).isSome)) rfl rfl (cX (Qe [sN, sN, sN, ii (0), ii (0), ii (0)] Qc rfl ?_))))))
    intro b2
    refine cX (yL [] _ [x1, x2, x3, ii (((pkF ar rs o p u).getD P0).2.2.2.1), ii (((pkF ar rs o p u).getD P0).2.2.2.2.1), ii (((pkF ar rs o p u).getD P0).2.2.2.2.2)] yC rfl rfl rfl (jT (yE (yi hr3)) (jT (yE (yi hr4)) (jT (yE (yi hr5)) (jT rfl (jT rfl (jT rfl yM)))))) rfl rfl rfl (jc (.bool ((pkF ar rs o p u).isSome)) rfl (qI (qX (qX (qH (jb (.bool ((pkF ar rs o p u).isSome)) rfl (cX (yR rfl (jb (.bool (!((pkF ar rs o p u).isSome))) rfl ?_))))))))))
    by_cases h5 : (!((pkF ar rs o p u).isSome)) = true
    ·have hpk : (pkF ar rs o p u).isSome = false := Bool.not_inj (y := false) h5
     refine jA (t := 52) rfl (vB h5) (jA (t := 52) rfl (vB h5) (jA (t := 52) rfl (vB h5) (cX (yp (.bool (true)) (vB h5) rfl (qI (yX rfl (qX (qH (cX (jQ (s := 6) [] [sN, sN, sN, ii (0), ii (0), ii (0)] [] yG yC Qc rfl (by decide) rfl CellsAre.nil rfl ?_))))))))))
     intro v2 hv2
     refine jc (v2) rfl (jc (.bool (false)) rfl (qI ?_))
     have hc2 : PeaksC F2 [] ([] : List PeakT) := (CO.nil : PeaksC F2 [] [])
     refine yz [] _ _ rfl (fun F3 le3 hz1 => ?_)
     replace hCa := hCa.mono le3
     replace hCb := hCb.mono le3
     replace hCc := hCc.mono le3
     replace hr3 := hr3.mono le3
     replace hr4 := hr4.mono le3
     replace hr5 := hr5.mono le3
     replace hc2 := hc2.mono le3
     have hf1 : PeaksF F3 v2 (([] : List PeakT)) := CO.fz hc2 (by first | rfl | omega | (rw [List.length_set]; omega) | (simp; done)) hz1.fz
     refine jW (jw (ya (jw (jw (ya (ya (jw (jw (ya (ya (jw (jw (ya (jw (jR (L' := L) [v2, .bool (false)] (.tuple #[v2, .bool (false)]) (.tmp rfl (.tmp rfl .nil)) rfl (jl (jl (jl (jl (jl leG1 leG2) leG3) le1) le2) le3) rF (sD (sD (sD sR))) ?_)))))))))))))))
     have e : peaksF ar rs = none := peaks_no (ms := mO ar rs o ++ mP ar rs o p ++ mU ar rs o p u) (by have h9 := meets_pre (ar := ar) (rs := rs) (o := o) (p := p) (u := u) (by omega) (by show p < (rs.getD o ([], [])).1.length; omega) (by omega); rw [mU_yes hmt.1 hmt.2, ← List.append_assoc] at h9; exact h9) hIc (by first | exact .inl hpk | exact .inr hpl)
     exact ⟨_, by rw [e]; rfl, by rw [e]; exact hf1, rfl⟩
    rw [Bool.not_eq_true] at h5
    have hpk : (pkF ar rs o p u).isSome = true := Bool.not_inj (y := true) h5
    refine jB (t := 52) rfl (vB h5) (jk (ovc) rfl (jB (t := 52) rfl (vB h5) (jZ yG rfl (SlV.own [_] rfl) (jB (t := 52) rfl (vB h5) (yU rfl rfl (cX (yl (.bool (decide ((((mc : Nat) : Int) : Int) = 64))) (vB h5) rfl (qI ?_))))))))
    refine jV (p := (((mc : Nat) : Int) : Int) = 64) rfl (fun h6 => ?_) (fun h6 => ?_)
    ·have hpl : osc.length = 64 := by omega
     refine qX (qH (cX (jQ (s := 6) [] [sN, sN, sN, ii (0), ii (0), ii (0)] [] yG yC Qc rfl (by decide) rfl CellsAre.nil rfl ?_)))
     intro v3 hv3
     refine jc (v3) rfl (jc (.bool (false)) rfl (qI ?_))
     have hc3 : PeaksC F2 [] ([] : List PeakT) := (CO.nil : PeaksC F2 [] [])
     refine yz [] _ _ rfl (fun F4 le4 hz2 => ?_)
     replace hCa := hCa.mono le4
     replace hCb := hCb.mono le4
     replace hCc := hCc.mono le4
     replace hr3 := hr3.mono le4
     replace hr4 := hr4.mono le4
     replace hr5 := hr5.mono le4
     replace hc3 := hc3.mono le4
     have hf2 : PeaksF F4 v3 (([] : List PeakT)) := CO.fz hc3 (by first | rfl | omega | (rw [List.length_set]; omega) | (simp; done)) hz2.fz
     refine jW (jw (ya (jw (jw (ya (ya (jw (jw (ya (ya (jw (jw (ya (jw (jR (L' := L) [v3, .bool (false)] (.tuple #[v3, .bool (false)]) (.tmp rfl (.tmp rfl .nil)) rfl (jl (jl (jl (jl (jl leG1 leG2) leG3) le1) le2) le4) rF (sD (sD (sD sR))) ?_)))))))))))))))
     have e : peaksF ar rs = none := peaks_no (ms := mO ar rs o ++ mP ar rs o p ++ mU ar rs o p u) (by have h9 := meets_pre (ar := ar) (rs := rs) (o := o) (p := p) (u := u) (by omega) (by show p < (rs.getD o ([], [])).1.length; omega) (by omega); rw [mU_yes hmt.1 hmt.2, ← List.append_assoc] at h9; exact h9) hIc (by first | exact .inl hpk | exact .inr hpl)
     exact ⟨_, by rw [e]; rfl, by rw [e]; exact hf2, rfl⟩
    have hpl : osc.length ≠ 64 := by omega
    refine jU (qH (jb (ovc) rfl (cX (yc [x1, x2, x3, ii (((pkF ar rs o p u).getD P0).2.2.2.1), ii (((pkF ar rs o p u).getD P0).2.2.2.2.1), ii (((pkF ar rs o p u).getD P0).2.2.2.2.2)] Qy yC rfl rfl (Rd.ownN [] rfl rfl) (cX (jQ (s := 6) [x1, x2, x3, ii (((pkF ar rs o p u).getD P0).2.2.2.1), ii (((pkF ar rs o p u).getD P0).2.2.2.2.1), ii (((pkF ar rs o p u).getD P0).2.2.2.2.2)] [sN, sN, sN, ii (0), ii (0), ii (0)] [(0, [x1, x2, x3, ii (((pkF ar rs o p u).getD P0).2.2.2.1), ii (((pkF ar rs o p u).getD P0).2.2.2.2.1), ii (((pkF ar rs o p u).getD P0).2.2.2.2.2)])] yG yC Qc rfl (by decide) rfl (.cons rfl CellsAre.nil) rfl ?_))))))
    intro v4 hv4
    refine cX (XOp.append (m := 1) (bytes := 96) (cs := csc) [_, _] _ [x1, x2, x3, ii (((pkF ar rs o p u).getD P0).2.2.2.1), ii (((pkF ar rs o p u).getD P0).2.2.2.2.1), ii (((pkF ar rs o p u).getD P0).2.2.2.2.2)] yG typeInfo76 rfl rfl rfl rfl rfl rfl rfl (SlV.own [] rfl) rfl (Rd.lit [] rfl) (jT (yE (yi hr3)) (jT (yE (yi hr4)) (jT (yE (yi hr5)) (jT rfl (jT rfl (jT rfl yM)))))) (by (try simp only [List.length_append, List.length_nil, List.length_cons, List.length_singleton]); omega) (by (try simp only [List.length_append, List.length_nil, List.length_cons, List.length_singleton]); omega) ?_)
    intro v5 hs1 hn1 hm1
    have hc4 := PeaksC.snoc hCc (y0 := ((pkF ar rs o p u).getD P0).1) (y1 := ((pkF ar rs o p u).getD P0).2.1) (y2 := ((pkF ar rs o p u).getD P0).2.2.1) (y3 := ((pkF ar rs o p u).getD P0).2.2.2.1) (y4 := ((pkF ar rs o p u).getD P0).2.2.2.2.1) (y5 := ((pkF ar rs o p u).getD P0).2.2.2.2.2) hr3 hr4 hr5
    refine jc (v5) rfl (qI (qH (jb (ii ((u : Int))) rfl (cX (yj (((u + 1 : Nat) : Int)) rfl rfl (by omega) (by omega) (jc (ii (((u + 1 : Nat) : Int))) rfl (qI ?_)))))))
    exact ⟨(u + 1, v5, osc ++ [(((pkF ar rs o p u).getD P0).1, ((pkF ar rs o p u).getD P0).2.1, ((pkF ar rs o p u).getD P0).2.2.1, ((pkF ar rs o p u).getD P0).2.2.2.1, ((pkF ar rs o p u).getD P0).2.2.2.2.1, ((pkF ar rs o p u).getD P0).2.2.2.2.2)], csc ++ [x1, x2, x3, ii (((pkF ar rs o p u).getD P0).2.2.2.1), ii (((pkF ar rs o p u).getD P0).2.2.2.2.1), ii (((pkF ar rs o p u).getD P0).2.2.2.2.2)], (mc) + 1, F2), _, (jl (jl leG3 le1) le2), rF, ⟨rfl, rfl, rfl, rfl, rfl, rfl, ⟨⟩⟩, (sD (sD (sC (sC sR)))), ⟨rfl, (jl (jl leG3 le1) le2), (hs1), (hc4), (by (try dsimp only); (try rw [List.length_append, List.length_singleton]); omega), (by (try dsimp only) <;> omega), (by (try dsimp only); first | (rw [mU_no hmt]; exact hIc) | (have h9 := hIc.next hpk hpl; rw [mU_yes hmt.1 hmt.2, ← List.append_assoc]; exact h9))⟩, (by omega)⟩
   refine yB (jO (jO (yk (qH (jb (ii ((p : Int))) rfl (cX (yj (((p + 1 : Nat) : Int)) rfl rfl (by omega) (by omega) (jc (ii (((p + 1 : Nat) : Int))) rfl (qI ?_)))))))))
   exact ⟨(p + 1, ovc, osc, csc, mc, G3), _, (jl leG2 leG3), rF, ⟨rfl, rfl, rfl, rfl, rfl, ⟨⟩⟩, (sC (sC sR)), ⟨rfl, (jl leG2 leG3), (hovc), (hCc), (by (try dsimp only); (try rw [List.length_append, List.length_singleton]); omega), (by (try dsimp only) <;> omega), (by (try dsimp only); have e9 : u = rs.length := (by omega); rw [e9] at hIc; simpa only [mP, List.append_assoc] using hIc)⟩, (by omega)⟩
  refine yB (jO (jO (yk (qH (jb (ii ((o : Int))) rfl (cX (yj (((o + 1 : Nat) : Int)) rfl rfl (by omega) (by omega) (jc (ii (((o + 1 : Nat) : Int))) rfl (qI ?_)))))))))
  exact ⟨(o + 1, ovb, osb, csb, mb, G2), _, (jl leG1 leG2), rF, ⟨rfl, rfl, rfl, rfl, ⟨⟩⟩, (sC (sC sR)), ⟨rfl, (jl leG1 leG2), (hovb), (hCb), (by (try dsimp only); (try rw [List.length_append, List.length_singleton]); omega), (by (try dsimp only) <;> omega), (by (try dsimp only); have e9 : p = (rs.getD o ([], [])).1.length := (by omega); rw [e9] at hIb; simpa only [mO, List.append_assoc] using hIb)⟩, (by omega)⟩
 refine yB (jO (jO (yk (qX (qH (jb (ova) rfl (jc (ova) rfl (jc (.bool (true)) rfl (qI (yz [] _ _ rfl (fun F5 le5 hz3 => ?_)))))))))))
 replace hCa := hCa.mono le5
 have hf3 : PeaksF F5 ova osa := CO.fz hCa (by first | rfl | omega | (rw [List.length_set]; omega) | (simp; done)) hz3.fz
 refine jW (jR (L' := L) [ova, .bool (true)] (.tuple #[ova, .bool (true)]) (.tmp rfl (.tmp rfl .nil)) rfl (jl leG1 le5) rF (sD sR) ?_)
 have e9 : o = rs.length := by omega
 rw [e9] at hIa
 have e := peaks_yes hIa
 exact ⟨_, by rw [e]; rfl, by rw [e]; exact hf3, rfl⟩

/- spec.PeaksOf -/
theorem sPeaksOf_spec {F : FH} {L : List HP} {arv : Value} {ar : List Int} (har : IntsF F arv ar) {rsv : Value} {rs : List (List Int × List Int)} (hrs : PairsF F rsv rs) (hla : ar.length ≤ 4000000) (hlr : rs.length ≤ 4000000) (hrb : ∀ i, i < rs.length → (rs.getD i ([], [])).1.length ≤ 4000000 ∧ (rs.getD i ([], [])).2.length ≤ 4000000) :
    Does prog 37 [.agg #[arv, rsv]] F (L) (fun v F' L' => ∃ (a : Value), (.tuple #[a, .bool ((psO ar rs).isSome)] : Value) = v ∧ (PeaksF F' a ((psO ar rs).getD [])) ∧ L = L') := by
 refine ym func37 rfl rfl rfl (qX (qH (cX (yD [arv, rsv] rfl rfl ?_))))
 intro b1
 refine jc (sN) rfl (jc (.bool (false)) rfl (qI (qX (qX (qH (cX (yc [arv, rsv] yY yP rfl rfl (Rd.ownN [] rfl rfl) (cX (jL (args := [.agg #[arv, rsv]]) call95 rfl (sSystemOk_spec har hrs (hla := (by first | assumption | rfl | omega | simp)) (hlr := (by first | assumption | rfl | omega | simp)) (hrb := (by first | assumption | rfl | omega | simp))) ?_)))))))))
 rintro _ _ _ _ ⟨rfl, rfl, rfl⟩
 refine cX (yR rfl (qI ?_))
 refine X.cond (t := !(sysOk ar rs)) rfl (fun h1 => ?_) (fun h1 => ?_)
 ·have hsys : sysOk ar rs = false := Bool.not_inj (y := false) h1
  refine qX (qH (cX (jQ (s := 6) [] [sN, sN, sN, ii (0), ii (0), ii (0)] [] yG yC Qc rfl (by decide) rfl CellsAre.nil rfl ?_)))
  intro v1 hv1
  refine jc (v1) rfl (jc (.bool (false)) rfl (qI ?_))
  have hc1 : PeaksC F [] ([] : List PeakT) := (CO.nil : PeaksC F [] [])
  refine yz [] _ _ rfl (fun F1 le1 hz1 => ?_)
  replace har := har.mono le1
  replace hrs := hrs.mono le1
  replace hc1 := hc1.mono le1
  have hf1 : PeaksF F1 v1 (([] : List PeakT)) := CO.fz hc1 (by first | rfl | omega | (rw [List.length_set]; omega) | (simp; done)) hz1.fz
  refine jW (jw (jR (L' := L) [v1, .bool (false)] (.tuple #[v1, .bool (false)]) (.tmp rfl (.tmp rfl .nil)) rfl le1 rF (sD sR) ?_))
  have e := ps_no hsys
  exact ⟨_, by rw [e]; rfl, by rw [e]; exact hf1, rfl⟩
 have hsys : sysOk ar rs = true := Bool.not_inj (y := true) h1
 refine jU (qX (qH (cX (yc [arv, rsv] yY yP rfl rfl (Rd.ownN [] rfl rfl) (cX (jL (args := [.agg #[arv, rsv]]) call96 rfl (all2_spec har hrs (hsys := (hsys))) ?_))))))
 rintro _ F2 _ le2 ⟨x1, rfl, hr1, rfl⟩
 refine cX (yr (x1) rfl rfl (cX (yr (.bool ((peaksF ar rs).isSome)) rfl rfl (jc (x1) rfl (jc (.bool ((peaksF ar rs).isSome)) rfl (qI (jW (jR (L' := L) [x1, .bool ((peaksF ar rs).isSome)] (.tuple #[x1, .bool ((peaksF ar rs).isSome)]) (.tmp rfl (.tmp rfl .nil)) rfl le2 rF (sD sR) ?_))))))))
 have e := ps_yes hsys
 exact ⟨_, by rw [e], by rw [e]; exact hr1, rfl⟩

/- impl.PeaksOf -/
theorem PeaksOf_spec {F : FH} {L : List HP} {arv : Value} {ar : List Int} (har : IntsF F arv ar) {rsv : Value} {rs : List (List Int × List Int)} (hrs : PairsF F rsv rs) :
    Does prog 38 [.agg #[arv, rsv]] F (L) (fun v F' L' => ∃ (a : Value), (.tuple #[a, .bool ((psO ar rs).isSome)] : Value) = v ∧ (PeaksF F' a ((psO ar rs).getD [])) ∧ (Fresh F F' (star [peaksD 2 76 a ((psO ar rs).getD [])])) ∧ L = L') := by
 refine ym func38 rfl rfl rfl (qX (qH (cX (yD [arv, rsv] rfl rfl ?_))))
 intro b1
 refine jc (sN) rfl (jc (.bool (false)) rfl (qI (qX (qX (qH (cX (yc [arv, rsv] yY yP rfl rfl (Rd.ownN [] rfl rfl) (cX (jL (args := [.agg #[arv, rsv]]) call97 rfl (SystemOk_spec har hrs) ?_)))))))))
 rintro _ _ _ _ ⟨rfl, rfl, rfl⟩
 refine cX (yR rfl (qI ?_))
 refine X.cond (t := !(sysOk ar rs)) rfl (fun h1 => ?_) (fun h1 => ?_)
 ·have hsys : sysOk ar rs = false := Bool.not_inj (y := false) h1
  refine qX (qH (jc (sN) rfl (jc (.bool (false)) rfl (qI (jW (jw (jR (L' := L) [sN, .bool (false)] (.tuple #[sN, .bool (false)]) (.tmp rfl (.tmp rfl .nil)) rfl rF rF (sD sR) ?_)))))))
  have e := ps_no hsys
  exact ⟨_, by rw [e]; rfl, by rw [e]; exact SlOf.nilV, by rw [e]; exact Fresh.empty ⟨[], [], nilPeaksD, rfl, rfl⟩, rfl⟩
 have hsys : sysOk ar rs = true := Bool.not_inj (y := true) h1
 refine jU (qX (qH (cX (yc [arv, rsv] yY yP rfl rfl (Rd.ownN [] rfl rfl) (cX (jL (args := [.agg #[arv, rsv]]) call98 rfl (peaks_spec har hrs (hsys := (hsys))) ?_))))))
 rintro _ F1 _ le1 ⟨x1, rfl, hr1, hr2, rfl⟩
 refine cX (yr (x1) rfl rfl (cX (yr (.bool ((peaksF ar rs).isSome)) rfl rfl (jc (x1) rfl (jc (.bool ((peaksF ar rs).isSome)) rfl (qI (jW (jR (L' := L) [x1, .bool ((peaksF ar rs).isSome)] (.tuple #[x1, .bool ((peaksF ar rs).isSome)]) (.tmp rfl (.tmp rfl .nil)) rfl le1 rF (sD sR) ?_))))))))
 have e := ps_yes hsys
 exact ⟨_, by rw [e], by rw [e]; exact hr1, by rw [e]; exact hr2, rfl⟩

/- impl.TrivialPeak -/
theorem TrivialPeak_spec {F : FH} {L : List HP} {tpv : Value} {tp : List Int} (htp : IntsF F tpv tp) {lfv : Value} {lf : List Int} (hlf : IntsF F lfv lf) {rtv : Value} {rt : List Int} (hrt : IntsF F rtv rt) {i1 : Int} {i2 : Int} {i3 : Int} (hb2 : lf.length ≤ 4000000) (hb3 : rt.length ≤ 4000000) :
    Does prog 59 [.agg #[tpv, lfv, rtv, ii (i1), ii (i2), ii (i3)]] F (L) (fun v F' L' => (.bool (trivB (tp, lf, rt, i1, i2, i3)) : Value) = v ∧ F = F' ∧ L = L') := by
 refine ym func59 rfl rfl rfl (qX (qH (cX (yD [tpv, lfv, rtv, ii (i1), ii (i2), ii (i3)] rfl rfl ?_))))
 intro b1
 refine jc (.bool (false)) rfl (qI (qX (qH (cX (jE (1) yg rfl jF (by decide) rfl rfl (cX (jj yt rfl (Rd.own [] rfl rfl) (cX (jE (2) yg rfl jF (by decide) rfl rfl (cX (jj yt rfl (Rd.own [] rfl rfl) (cX (jL (args := [lfv, rtv]) call67 rfl (Equal_spec hlf hrt (hbd := (by first | assumption | rfl | omega | (left; simp; done) | (right; simp; done)))) ?_)))))))))))))
 rintro _ _ _ _ ⟨rfl, rfl, rfl⟩
 refine jc (.bool (decide (lf = rt))) rfl (qI (jW (jR (L' := L) [.bool (decide (lf = rt))] (.bool (decide (lf = rt))) (.tmp rfl .nil) rfl rF rF (sD sR) ?_)))
 exact ⟨rfl, rfl, rfl⟩

/- laws.big -/
theorem big_spec {F : FH} {L : List HP} {bsv : Value} {bs : List Int} (hbs : BytesF F bsv bs) :
    Does prog 11 [bsv] F (L) (fun v F' L' => (.bool (decide ((bs.length : Int) > 4096)) : Value) = v ∧ F = F' ∧ L = L') := by
 refine ym func11 rfl rfl rfl (qX (qH (jc (.bool (false)) rfl (qI (qX (qH (jb (bsv) rfl (cX (jZ runUnderlying22 rfl hbs.slv (cX (Qf rfl rfl (jc (.bool (decide (((bs.length : Int) : Int) > 4096))) rfl (qI (jW (jR (L' := L) [.bool (decide (((bs.length : Int) : Int) > 4096))] (.bool (decide (((bs.length : Int) : Int) > 4096))) (.tmp rfl .nil) rfl rF rF sR ?_)))))))))))))))
 exact ⟨rfl, rfl, rfl⟩

/- laws.roll -/
theorem roll_spec {F : FH} {L : List HP} {bsv : Value} {bs : List Int} (hbs : BytesF F bsv bs) (hlb : bs.length ≤ 4000000) {s : Int} :
    Does prog 12 [bsv, .int .u64 (s)] F (L) (fun v F' L' => ∃ cb : Nat, (ptr cb 0 : Value) = v ∧ F = F' ∧ curH .u64 88 cb bsv bs.length :: L = L') := by
 refine ym func12 rfl rfl rfl (qX (qH (jc ((.pointer none)) rfl (qI (qX (qH (jb (bsv) rfl (jb (.int .u64 (s)) rfl (cX (XOp.mulW (a := s) (b := 7919) rfl rfl ?_))))))))))
 intro r1
 refine jb (bsv) rfl (cX (jZ runUnderlying22 rfl hbs.slv (cX (XOp.convW (k' := .i64) (a := (bs.length : Int)) runUnderlying3 runUnderlying26 rfl ?_))))
 intro r2
 refine cX (XOp.addW (a := r1) (b := r2) rfl rfl ?_)
 intro r3
 refine cX (yJ [bsv, ii (0), .int .u64 (r3)] [sN, ii (0), .int .u64 (0)] [(0, 1), (1, 1), (2, 1)] [(0, [bsv]), (2, [.int .u64 (r3)])] Qq zeroValue88 rfl (.cons rfl sizeOf22 (.cons rfl Qm (.cons rfl sizeOf26 PlacesAre.nil))) rfl (.cons (cells_one (BytesF.isSl hbs)) (.cons rfl CellsAre.nil)) (cX (yD [bsv, ii (0), .int .u64 (r3)] rfl rfl ?_)))
 intro b1
 refine jc (ptr b1 0) rfl (qI (qX (qX (qH (jc (ii (0)) rfl (qI (yf (yI (α := Nat × Int) (fun xQ => [(0, bsv), (5, ptr b1 0), (6, ii (((xQ.1 : Nat) : Int)))]) (fun xQ => cellsH b1 [bsv, ii (0), .int .u64 (xQ.2)] 88 :: L) (fun xQ F' => F = F' ∧ (xQ.1 ≤ bs.length)) (fun xQ => bs.length - xQ.1) (0, r3) ⟨rfl, rfl, rfl, ⟨⟩⟩ (sC sR) ⟨rfl, (Nat.zero_le _)⟩ ?_))))))))
 rintro ⟨k, h⟩ rE _ _ ⟨rfl, hk⟩
 show X _ _ _ _ (envs [(0, bsv), (5, ptr b1 0), (6, ii ((k : Int)))] rE) _ (cellsH b1 [bsv, ii (0), .int .u64 (h)] 88 :: L)
 dsimp only at hk
 refine qX (qX (qH (jb (ii ((k : Int))) rfl (jb (bsv) rfl (cX (jZ runUnderlying22 rfl hbs.slv (cX (yo rfl rfl (qI ?_)))))))))
 refine jV (p := (k : Int) < (bs.length : Int)) rfl (fun h1 => ?_) (fun h1 => ?_)
 ·refine jU (qX (yf ?_))
  refine X.drawG [cellsH b1 [bsv, ii (0), .int .u64 (h)] 88] L 13 [] [[], [], [1], [2], [3], [4], [], [], [6, 7], [8], [9], [5, 10], [11]] [] (phiG [pe (ptr b1 0), pe (ptr b1 0), pe (ptr b1 0), pe (ptr b1 2), pe (.int .u64 (h)), fun FF us v => (.int .u64 ((intAt v)) : Value) = v, pe bsv, pe (ii ((k : Int)) : Value), pe (.pointer (some (elemA bsv (k)))), pe (.int .u8 (bs.getD k 0)), fun FF us v => (.int .u64 ((intAt v)) : Value) = v, fun FF us v => (.int .u64 ((intAt v)) : Value) = v, fun FF us v => (.int .u64 ((intAt v)) : Value) = v]) (ownL []) mixed rfl rfl (by kernel_rfl) (by kernel_rfl) (MonoG.get (m1 (m1 (m1 (m1 (m1 (mC (fun le h => h) (m1 (m1 (m1 (m1 (mC (fun le h => h) (mC (fun le h => h) (mC (fun le h => h) MonoG.nil)))))))))))))) ?_ ?_
  ·refine gD (fun W Fs R lF z9 => ?_) ?_
   ·refine je (jk (ptr b1 0) rfl ?_)
    exact ⟨rfl, rfl⟩
   refine gD (fun W Fs R lF z9 => ?_) ?_
   ·refine je (jk (ptr b1 0) rfl ?_)
    exact ⟨rfl, rfl⟩
   refine gD (fun W Fs R lF z9 => ?_) ?_
   ·replace hbs := hbs.mono lF
    rw [eS (l := [(1, _)]) ⟨z9 1 rfl, ⟨⟩⟩]
    refine je (yw rfl ?_)
    exact ⟨rfl, rfl⟩
   refine gD (fun W Fs R lF z9 => ?_) ?_
   ·rw [eS (l := [(2, _)]) ⟨z9 2 rfl, ⟨⟩⟩]
    refine je (jE (2) Qq rfl sizeOf26 (by decide) rfl rfl ?_)
    exact ⟨rfl, rfl⟩
   refine gD (fun W Fs R lF z9 => ?_) ?_
   ·replace hbs := hbs.mono lF
    rw [eS (l := [(3, _)]) ⟨z9 3 rfl, ⟨⟩⟩]
    refine je (jj isAgg26 rfl (Rd.own [] rfl rfl) ?_)
    exact ⟨rfl, rfl⟩
   refine gD (fun W Fs R lF z9 => ?_) ?_
   ·rw [eS (l := [(4, _)]) ⟨z9 4 rfl, ⟨⟩⟩]
    refine je (XOp.mulW (a := h) (b := 1099511628211) rfl rfl ?_)
    intro r8
    exact ⟨rfl, rfl⟩
   refine gD (fun W Fs R lF z9 => ?_) ?_
   ·refine je (jk (bsv) rfl ?_)
    exact ⟨rfl, rfl⟩
   refine gD (fun W Fs R lF z9 => ?_) ?_
   ·refine je (jk (ii ((k : Int))) rfl ?_)
    exact ⟨rfl, rfl⟩
   refine gD (fun W Fs R lF z9 => ?_) ?_
   ·replace hbs := hbs.mono lF
    rw [eS (l := [(6, _), (7, _)]) ⟨z9 6 rfl, z9 7 rfl, ⟨⟩⟩]
    refine je (jq k runUnderlying22 sizeOf5 rfl rfl rfl hbs.slv (by omega) (Nat.mul_one _) ?_)
    exact ⟨rfl, rfl⟩
   refine gD (fun W Fs R lF z9 => ?_) ?_
   ·replace hbs := hbs.mono lF
    rw [eS (l := [(8, _)]) ⟨z9 8 rfl, ⟨⟩⟩]
    refine je (jj isAgg5 rfl (hbs.rd (by omega) _) ?_)
    exact ⟨rfl, rfl⟩
   refine gD (fun W Fs R lF z9 => ?_) ?_
   ·replace hbs := hbs.mono lF
    rw [eS (l := [(9, _)]) ⟨z9 9 rfl, ⟨⟩⟩]
    refine je (XOp.convW (k' := .u8) (a := bs.getD k 0) runUnderlying5 runUnderlying26 rfl ?_)
    intro r9
    exact ⟨rfl, rfl⟩
   refine gD (fun W Fs R lF z9 => ?_) ?_
   ·have e5 : (.int .u64 ((intAt (W 5))) : Value) = (W 5) := z9 5 rfl
    have e10 : (.int .u64 ((intAt (W 10))) : Value) = (W 10) := z9 10 rfl
    rw [eS (l := [(5, (.int .u64 ((intAt (W 5))))), (10, (.int .u64 ((intAt (W 10)))))]) ⟨(e5).symm, (e10).symm, ⟨⟩⟩]
    refine je (XOp.addW (a := (intAt (W 5))) (b := (intAt (W 10))) rfl rfl ?_)
    intro r10
    exact ⟨rfl, rfl⟩
   refine gD (fun W Fs R lF z9 => ?_) ?_
   ·have e11 : (.int .u64 ((intAt (W 11))) : Value) = (W 11) := z9 11 rfl
    rw [eS (l := [(11, (.int .u64 ((intAt (W 11)))))]) ⟨(e11).symm, ⟨⟩⟩]
    refine je (XOp.addW (a := (intAt (W 11))) (b := 3) rfl rfl ?_)
    intro r11
    exact ⟨rfl, rfl⟩
   exact stepsG.nil
  intro W F1 le1 hphi
  have e5 : (.int .u64 ((intAt (W 5))) : Value) = (W 5) := hphi 5 (by decide)
  have e10 : (.int .u64 ((intAt (W 10))) : Value) = (W 10) := hphi 10 (by decide)
  have e11 : (.int .u64 ((intAt (W 11))) : Value) = (W 11) := hphi 11 (by decide)
  have e12 : (.int .u64 ((intAt (W 12))) : Value) = (W 12) := hphi 12 (by decide)
  generalize hu1 : (intAt (W 5)) = u1 at e5 e10 e11 e12
  generalize hu2 : (intAt (W 10)) = u2 at e5 e10 e11 e12
  generalize hu3 : (intAt (W 11)) = u3 at e5 e10 e11 e12
  generalize hu4 : (intAt (W 12)) = u4 at e5 e10 e11 e12
  rw [eS (l := [(0, _), (12, (.int .u64 (u4)))]) ⟨(hphi 0 (by decide)), (e12).symm, ⟨⟩⟩]
  show XL _ _ _ _ _ _ _ (cellsH b1 [bsv, ii (0), .int .u64 (h)] 88 :: L)
  refine cX (yw rfl (cX (jE (2) Qq rfl sizeOf26 (by decide) rfl rfl (cX (Qb [] _ [bsv, ii (0), .int .u64 (u4)] sizeOf26 rfl rfl rfl rfl rfl rfl (qI (qH (jb (ii ((k : Int))) rfl (cX (yj (((k + 1 : Nat) : Int)) rfl rfl (by omega) (by omega) (jc (ii (((k + 1 : Nat) : Int))) rfl (qI ?_))))))))))))
  exact ⟨(k + 1, u4), _, FLe.refl _, le1, ⟨rfl, rfl, rfl, ⟨⟩⟩, (sC sR), ⟨rfl, (by (try dsimp only) <;> omega)⟩, (by omega)⟩
 refine yB (jO (jO (yk (qX (qH (jb (ptr b1 0) rfl (jc (ptr b1 0) rfl (qI (jW (jR (L' := curH .u64 88 b1 bsv bs.length :: L) [ptr b1 0] (ptr b1 0) (.tmp rfl .nil) rfl rF rF (Sub.keep (curH.of (by omega) (by omega)) sR) ?_))))))))))
 exact ⟨_, rfl, rfl, rfl⟩

/- (*laws.dice).below -/
theorem below_spec0 {F : FH} {L : List HP} {cb : Nat} {bsv : Value} {bs : List Int} (hbs : BytesF F bsv bs) (hbl : bs.length ≤ 4000000) {i h n : Int} (h0 : 0 ≤ i) (h1 : i ≤ bs.length) (hn : 1 ≤ n ∧ n ≤ 1000000) :
    Does prog 14 [ptr cb 0, ii (n)] F (cellsH cb [bsv, ii (i), .int .u64 (h)] 88 :: L) (fun v F' L' => (F = F' ∧ ∃ x : Int, (.int .i64 x : Value) = v ∧ (0 ≤ x ∧ x < n)) ∧ ∃ i' h' : Int, 0 ≤ i' ∧ i' ≤ bs.length ∧ cellsH cb [bsv, ii (i'), .int .u64 (h')] 88 :: L = L') := by
 refine ym func14 rfl rfl rfl (qX (qH (jc (ii (0)) rfl (qI (qX (qH (jb (ptr cb 0) rfl (jb (ptr cb 0) rfl (cX (yw rfl (cX (jE (2) Qq rfl sizeOf26 (by decide) rfl rfl (cX (jj isAgg26 rfl (Rd.own [] rfl rfl) (cX (XOp.mulW (a := h) (b := 6364136223846793005) rfl rfl ?_))))))))))))))))
 intro r1
 refine cX (XOp.addW (a := r1) (b := 1442695040888963407) rfl rfl ?_)
 intro r2
 refine cX (yw rfl (cX (jE (2) Qq rfl sizeOf26 (by decide) rfl rfl (cX (Qb [] _ [bsv, ii (i), .int .u64 (r2)] sizeOf26 rfl rfl rfl rfl rfl rfl (qI (qX (qH (jb (ptr cb 0) rfl (cX (yw rfl (cX (jE (2) Qq rfl sizeOf26 (by decide) rfl rfl (cX (jj isAgg26 rfl (Rd.own [] rfl rfl) (cX (XOp.shrW (a := r2) (b := 33) rfl rfl (by decide) ?_)))))))))))))))))
 intro r3
 refine cX (XOp.andW (a := r3) (b := 16777215) rfl rfl rfl (by decide) ?_)
 intro r4 hr1
 refine cX (XOp.convI (k' := .u64) (a := r4) (r4) runUnderlying26 runUnderlying2 rfl (IntWalk.i64_in _ (by omega)) (jc (ii (r4)) rfl (qI (qX (qX ?_)))))
 refine yN [cellsH cb [bsv, ii (i), .int .u64 (r2)] 88] L 9 [] [[], [0], [1], [2], [], [4], [5], [6], [7]] (phiL [qe (ptr cb 0), qe (ptr cb 0), qe (ptr cb 1), qe (ii (i)), qe (ptr cb 0), qe (ptr cb 0), qe (ptr cb 0), qe bsv, qe (ii ((bs.length : Int)) : Value)]) (ownL []) mixed rfl rfl (by kernel_rfl) ?_ ?_
 ·refine pD (fun W R z9 => ?_) ?_
  ·refine je (jk (ptr cb 0) rfl ?_)
   exact ⟨rfl, rfl, rfl⟩
  refine pD (fun W R z9 => ?_) ?_
  ·rw [eS (l := [(0, _)]) ⟨z9 0 rfl, ⟨⟩⟩]
   refine je (yw rfl ?_)
   exact ⟨rfl, rfl, rfl⟩
  refine pD (fun W R z9 => ?_) ?_
  ·rw [eS (l := [(1, _)]) ⟨z9 1 rfl, ⟨⟩⟩]
   refine je (jE (1) Qq rfl Qm (by decide) rfl rfl ?_)
   exact ⟨rfl, rfl, rfl⟩
  refine pD (fun W R z9 => ?_) ?_
  ·rw [eS (l := [(2, _)]) ⟨z9 2 rfl, ⟨⟩⟩]
   refine je (jj isAgg3 rfl (Rd.own [] rfl rfl) ?_)
   exact ⟨rfl, rfl, rfl⟩
  refine pD (fun W R z9 => ?_) ?_
  ·refine je (jk (ptr cb 0) rfl ?_)
   exact ⟨rfl, rfl, rfl⟩
  refine pD (fun W R z9 => ?_) ?_
  ·rw [eS (l := [(4, _)]) ⟨z9 4 rfl, ⟨⟩⟩]
   refine je (yw rfl ?_)
   exact ⟨rfl, rfl, rfl⟩
  refine pD (fun W R z9 => ?_) ?_
  ·rw [eS (l := [(5, _)]) ⟨z9 5 rfl, ⟨⟩⟩]
   refine je (jE (0) Qq rfl sizeOf22 (by decide) rfl rfl ?_)
   exact ⟨rfl, rfl, rfl⟩
  refine pD (fun W R z9 => ?_) ?_
  ·rw [eS (l := [(6, _)]) ⟨z9 6 rfl, ⟨⟩⟩]
   refine je (jj isAgg22 rfl (Rd.own [] rfl rfl) ?_)
   exact ⟨rfl, rfl, rfl⟩
  refine pD (fun W R z9 => ?_) ?_
  ·rw [eS (l := [(7, _)]) ⟨z9 7 rfl, ⟨⟩⟩]
   refine je (jZ runUnderlying22 rfl hbs.slv ?_)
   exact ⟨rfl, rfl, rfl⟩
  exact stepsP.nil
 intro W hphi
 rw [eS (l := [(3, _), (8, _)]) ⟨(hphi 3 (by decide)), (hphi 8 (by decide)), ⟨⟩⟩]
 show XL _ _ _ _ _ _ _ (cellsH cb [bsv, ii (i), .int .u64 (r2)] 88 :: L)
 refine cX (yo rfl rfl (qI ?_))
 refine jV (p := (i : Int) < (bs.length : Int)) rfl (fun h1 => ?_) (fun h1 => ?_)
 ·have hrg := hbs.range (i := i.toNat) (by omega)
  refine qX ?_
  refine yN [cellsH cb [bsv, ii (i), .int .u64 (r2)] 88] L 12 [] [[], [], [1], [2], [3], [], [5], [6], [7], [4, 8], [9], [10]] (phiL [qe (ii (r4)), qe (ptr cb 0), qe (ptr cb 0), qe (ptr cb 0), qe bsv, qe (ptr cb 0), qe (ptr cb 0), qe (ptr cb 1), qe (ii (i)), qe (.pointer (some (elemA bsv ((i).toNat)))), qe (.int .u8 (bs.getD ((i).toNat) 0)), qe (ii (bs.getD ((i).toNat) 0))]) (ownL []) mixed rfl rfl (by kernel_rfl) ?_ ?_
  ·refine pD (fun W R z9 => ?_) ?_
   ·refine je (jk (ii (r4)) rfl ?_)
    exact ⟨rfl, rfl, rfl⟩
   refine pD (fun W R z9 => ?_) ?_
   ·refine je (jk (ptr cb 0) rfl ?_)
    exact ⟨rfl, rfl, rfl⟩
   refine pD (fun W R z9 => ?_) ?_
   ·rw [eS (l := [(1, _)]) ⟨z9 1 rfl, ⟨⟩⟩]
    refine je (yw rfl ?_)
    exact ⟨rfl, rfl, rfl⟩
   refine pD (fun W R z9 => ?_) ?_
   ·rw [eS (l := [(2, _)]) ⟨z9 2 rfl, ⟨⟩⟩]
    refine je (jE (0) Qq rfl sizeOf22 (by decide) rfl rfl ?_)
    exact ⟨rfl, rfl, rfl⟩
   refine pD (fun W R z9 => ?_) ?_
   ·rw [eS (l := [(3, _)]) ⟨z9 3 rfl, ⟨⟩⟩]
    refine je (jj isAgg22 rfl (Rd.own [] rfl rfl) ?_)
    exact ⟨rfl, rfl, rfl⟩
   refine pD (fun W R z9 => ?_) ?_
   ·refine je (jk (ptr cb 0) rfl ?_)
    exact ⟨rfl, rfl, rfl⟩
   refine pD (fun W R z9 => ?_) ?_
   ·rw [eS (l := [(5, _)]) ⟨z9 5 rfl, ⟨⟩⟩]
    refine je (yw rfl ?_)
    exact ⟨rfl, rfl, rfl⟩
   refine pD (fun W R z9 => ?_) ?_
   ·rw [eS (l := [(6, _)]) ⟨z9 6 rfl, ⟨⟩⟩]
    refine je (jE (1) Qq rfl Qm (by decide) rfl rfl ?_)
    exact ⟨rfl, rfl, rfl⟩
   refine pD (fun W R z9 => ?_) ?_
   ·rw [eS (l := [(7, _)]) ⟨z9 7 rfl, ⟨⟩⟩]
    refine je (jj isAgg3 rfl (Rd.own [] rfl rfl) ?_)
    exact ⟨rfl, rfl, rfl⟩
   refine pD (fun W R z9 => ?_) ?_
   ·rw [eS (l := [(4, _), (8, _)]) ⟨z9 4 rfl, z9 8 rfl, ⟨⟩⟩]
    refine je (jq ((i).toNat) runUnderlying22 sizeOf5 rfl rfl (by omega) hbs.slv (by omega) (Nat.mul_one _) ?_)
    exact ⟨rfl, rfl, rfl⟩
   refine pD (fun W R z9 => ?_) ?_
   ·rw [eS (l := [(9, _)]) ⟨z9 9 rfl, ⟨⟩⟩]
    refine je (jj isAgg5 rfl (hbs.rd (by omega) _) ?_)
    exact ⟨rfl, rfl, rfl⟩
   refine pD (fun W R z9 => ?_) ?_
   ·rw [eS (l := [(10, _)]) ⟨z9 10 rfl, ⟨⟩⟩]
    refine je (XOp.convI (k' := .u8) (a := bs.getD ((i).toNat) 0) (bs.getD ((i).toNat) 0) runUnderlying5 runUnderlying2 rfl (IntWalk.i64_in _ (by omega)) ?_)
    exact ⟨rfl, rfl, rfl⟩
   exact stepsP.nil
  intro W hphi
  rw [eS (l := [(0, _), (11, _)]) ⟨(hphi 0 (by decide)), (hphi 11 (by decide)), ⟨⟩⟩]
  show XL _ _ _ _ _ _ _ (cellsH cb [bsv, ii (i), .int .u64 (r2)] 88 :: L)
  refine cX (yj (r4 + (bs.getD ((i).toNat) 0)) rfl rfl (by omega) (by omega) (jc (ii (r4 + (bs.getD ((i).toNat) 0))) rfl (qI (qH (jb (ptr cb 0) rfl (jb (ptr cb 0) rfl (cX (yw rfl (cX (jE (1) Qq rfl Qm (by decide) rfl rfl (cX (jj isAgg3 rfl (Rd.own [] rfl rfl) (cX (yj (i + 1) rfl rfl (by omega) (by omega) (cX (yw rfl ?_))))))))))))))))
  refine cX (jE (1) Qq rfl Qm (by decide) rfl rfl (cX (Qb [] _ [bsv, ii (i + 1), .int .u64 (r2)] Qm rfl rfl rfl rfl rfl rfl (qI (qX (qH (jb (ii (r4 + (bs.getD ((i).toNat) 0))) rfl (jb (ii (n)) rfl (cX (XOp.remV (a := r4 + (bs.getD ((i).toNat) 0)) (b := n) rfl rfl (by omega) (by omega) ?_))))))))))
  intro r5 hr2
  refine jc (ii (r5)) rfl (qI (jW (jR (L' := cellsH cb [bsv, ii (i + 1), .int .u64 (r2)] 88 :: L) [ii (r5)] (ii (r5)) (.tmp rfl .nil) rfl rF rF (sC sR) ?_)))
  exact ⟨⟨rfl, _, rfl, hr2⟩, _, _, by omega, by omega, rfl⟩
 refine jU (qX (qH (jb (ii (r4)) rfl (jb (ii (n)) rfl (cX (XOp.remV (a := r4) (b := n) rfl rfl (by omega) (by omega) ?_))))))
 intro r6 hr3
 refine jc (ii (r6)) rfl (qI (jW (jR (L' := cellsH cb [bsv, ii (i), .int .u64 (r2)] 88 :: L) [ii (r6)] (ii (r6)) (.tmp rfl .nil) rfl rF rF (sC sR) ?_)))
 exact ⟨⟨rfl, _, rfl, hr3⟩, _, _, by omega, by omega, rfl⟩
theorem below_spec {F : FH} {L : List HP} {cb : Nat} {bsv : Value} {bs : List Int} (hbs : BytesF F bsv bs) (hbl : bs.length ≤ 4000000) {n : Int} (hn : 1 ≤ n ∧ n ≤ 1000000) : Does prog 14 [ptr cb 0, .int .i64 n] F (curH .u64 88 cb bsv bs.length :: L) (fun v F' L' => (F = F' ∧ ∃ (x : Int), (.int .i64 x : Value) = v ∧ (0 ≤ x ∧ x < n)) ∧ curH .u64 88 cb bsv bs.length :: L = L') :=
  Does.cur (Q := fun v F' => F = F' ∧ ∃ (x : Int), (.int .i64 x : Value) = v ∧ (0 ≤ x ∧ x < n)) fun i h h0 h1 => below_spec0 hbs hbl h0 h1 hn

/- laws.w9Sig -/
theorem w9Sig_spec {F : FH} {L : List HP} :
    Does prog 106 [] F (L) (fun v F' L' => ∃ (a : Value), (.agg #[a] : Value) = v ∧ (IntsF F' a [2, 1, 0]) ∧ L = L') := by
 refine ym func106 rfl rfl rfl (qX (qH (cX (Qe [sN] zeroValue29 rfl ?_))))
 intro b1
 refine qI (qX (qH (cX (jQ (s := 1) [ii (2), ii (1), ii (0)] [ii (0)] [(0, [ii (2)]), (1, [ii (1)]), (2, [ii (0)])] qU js yv rfl (by decide) rfl (.cons rfl (.cons rfl (.cons rfl CellsAre.nil))) rfl ?_))))
 intro v1 hv1
 refine cX (yJ [v1] [sN] [(0, 1)] [(0, [v1])] Ql zeroValue29 rfl (.cons rfl jF PlacesAre.nil) rfl (.cons (cells_one (yH hv1)) CellsAre.nil) (cX (yL [_] _ [v1] ys rfl rfl rfl (jT (yE (yH hv1)) yM) rfl rfl rfl (qI ?_))))
 show X _ _ _ _ _ _ (intsH 2 v1 ([2, 1, 0] : List Int) :: cellsH b1 [v1] 29 :: L)
 refine yz [] _ _ rfl (fun F1 le1 hz1 => ?_)
 have hf1 : IntsF F1 v1 ([2, 1, 0]) := intsH.fz (xs := [2, 1, 0]) hz1.fz
 refine jW (jR (L' := L) [.agg #[v1]] (.agg #[v1]) (.cell rfl (loadNV [v1] yF ys rfl (Rd.ownN [] rfl rfl)) .nil) rfl le1 rF (sD sR) ?_)
 exact ⟨_, rfl, hf1, rfl⟩

/- laws.w9Term -/
theorem w9Term_spec_step {dp : Nat} (ih : ∀ m : Nat, m < dp → ∀ {F : FH} {L : List HP} {cb : Nat} {bsv : Value} {bs : List Int} (hbs : BytesF F bsv bs) (hbl : bs.length ≤ 4000000) {vs : Int} (hdp : m ≤ 4) (hvs : 0 ≤ vs ∧ vs ≤ 24), Does prog 110 [ptr cb 0, ii ((m : Int)), ii (vs)] F (curH .u64 88 cb bsv bs.length :: L) (fun v F' L' => ∃ a : Value, ((a : Value) = v ∧ IsSl a) ∧ drawnH 2 a (fun t => 1 ≤ t.length ∧ t.length ≤ szB m) :: curH .u64 88 cb bsv bs.length :: L = L')) {F : FH} {L : List HP} {cb : Nat} {bsv : Value} {bs : List Int} (hbs : BytesF F bsv bs) (hbl : bs.length ≤ 4000000) {vs : Int} (hdp : dp ≤ 4) (hvs : 0 ≤ vs ∧ vs ≤ 24) :
    Does prog 110 [ptr cb 0, ii (((dp : Nat) : Int)), ii (vs)] F (curH .u64 88 cb bsv bs.length :: L) (fun v F' L' => ∃ a : Value, ((a : Value) = v ∧ IsSl a) ∧ drawnH 2 a (fun t => 1 ≤ t.length ∧ t.length ≤ szB dp) :: curH .u64 88 cb bsv bs.length :: L = L') := by
 refine ym func110 rfl rfl rfl ?_
 have hz9 := szB_le (d := dp - 1) (e := 3) (by omega)
 have hz8 : szB 3 = 15 := rfl
 have hz7 := szB_pos (dp - 1)
 refine qX (qH (jc (sN) rfl (qI (qX (qX (qH (jb (ii (vs)) rfl (cX (Qf rfl rfl (jb (.bool (decide ((vs : Int) > 0))) rfl ?_))))))))))
 by_cases h1 : (vs : Int) > 0
 ·refine jB (t := 12) rfl (vT h1) (jk (ptr cb 0) rfl (jB (t := 12) rfl (vT h1) (jL (args := [ptr cb 0, ii (3)]) call14 rfl (Does.at [] (below_spec (n := 3) hbs (by omega) (hn := (by first | assumption | rfl | omega | simp)))) ?_)))
  rintro _ _ _ _ ⟨⟨rfl, x1, rfl, hr1⟩, rfl⟩
  show XL _ _ _ _ _ _ _ (curH .u64 88 cb bsv bs.length :: L)
  refine jB (t := 12) rfl (vT h1) (yU rfl rfl (cX (yp (.bool (decide ((x1 : Int) = 0))) (vT h1) rfl (qI ?_))))
  refine jV (p := (x1 : Int) = 0) rfl (fun h2 => ?_) (fun h2 => ?_)
  ·refine qX (qH (jb (ptr cb 0) rfl (jb (ii (vs)) rfl (cX (jL (args := [ptr cb 0, ii (vs)]) call14 rfl (Does.at [] (below_spec (n := vs) hbs (by omega) (hn := (by first | assumption | rfl | omega | simp)))) ?_)))))
   rintro _ _ _ _ ⟨⟨rfl, x2, rfl, hr2⟩, rfl⟩
   show XL _ _ _ _ _ _ _ (curH .u64 88 cb bsv bs.length :: L)
   refine cX (yx ((-1) - x2) rfl rfl (by omega) (by omega) (cX (jQ (s := 1) [ii ((-1) - x2)] [ii (0)] [(0, [ii ((-1) - x2)])] qU js yv rfl (by decide) rfl (.cons rfl CellsAre.nil) rfl ?_)))
   intro v1 hv1
   refine jc (v1) rfl (qI (jW (jw (jR (L' := drawnH 2 v1 (fun t => 1 ≤ t.length ∧ t.length ≤ szB dp) :: curH .u64 88 cb bsv bs.length :: L) [v1] (v1) (.tmp rfl .nil) rfl rF rF (yn (sC (sC sR)) (Sub.keep (drawnH.of (t := [(-1) - x2]) (⟨Nat.le_refl _, szB_pos dp⟩)) sR)) ?_))))
   exact ⟨_, ⟨rfl, (yH hv1)⟩, rfl⟩
  refine jU (qX (qH (jb (ptr cb 0) rfl (cX (jL (args := [ptr cb 0, ii (3)]) call14 rfl (Does.at [] (below_spec (n := 3) hbs (by omega) (hn := (by first | assumption | rfl | omega | simp)))) ?_)))))
  rintro _ _ _ _ ⟨⟨rfl, x3, rfl, hr3⟩, rfl⟩
  show XL _ _ _ _ _ _ _ (curH .u64 88 cb bsv bs.length :: L)
  refine jc (ii (x3)) rfl (qI (qX (qX (qH (jb (ii (((dp : Nat) : Int))) rfl (cX (XOp.leq rfl rfl (qI ?_))))))))
  refine jV (p := (((dp : Nat) : Int) : Int) ≤ 1) rfl (fun h3 => ?_) (fun h3 => ?_)
  ·refine qH (jc (ii (2)) rfl (qI (qX (qH (jb (ii (2)) rfl (cX (jQ (s := 1) [ii (2)] [ii (0)] [(0, [ii (2)])] qU js yv rfl (by decide) rfl (.cons rfl CellsAre.nil) rfl ?_)))))))
   intro v2 hv2
   refine jc (v2) rfl (qI (qX (qX (qH ?_))))
   show XL _ _ _ _ _ _ _ (intsH 2 v2 ([2] : List Int) :: curH .u64 88 cb bsv bs.length :: L)
   skip
   refine jb (ii (2)) rfl (jc (ii (2)) rfl (qI (yf (yI (α := Nat × Value × List Int × FH) (fun xQ => [(0, ptr cb 0), (1, ii (((dp : Nat) : Int))), (2, ii (vs)), (8, xQ.2.1), (9, ii (((xQ.1 : Nat) : Int)))]) (fun xQ => intsH 2 xQ.2.1 xQ.2.2.1 :: curH .u64 88 cb bsv bs.length :: L) (fun xQ F' => xQ.2.2.2 = F' ∧ F ≤ xQ.2.2.2 ∧ (IsSl xQ.2.1) ∧ (2 ≤ (xQ.1 : Int) ∧ xQ.1 ≤ 2) ∧ (1 ≤ xQ.2.2.1.length) ∧ (xQ.2.2.1.length ≤ 1 + (xQ.1 - ((2 : Int)).toNat) * szB (dp - 1))) (fun xQ => 2 - xQ.1) (((2 : Int)).toNat, v2, [2], F) ⟨rfl, rfl, rfl, rfl, (vI (by omega)), ⟨⟩⟩ (sC (sC sR)) ⟨rfl, FLe.refl _, ((yH hv2)), (by (try dsimp only); omega), (by (try dsimp only); simp), (by (try dsimp only); simp)⟩ ?_))))
   rintro ⟨k, ov, os, G1⟩ rE _ _ ⟨rfl, leG, hov, hk, h19, hol⟩
   show X _ _ _ _ (envs [(0, ptr cb 0), (1, ii (((dp : Nat) : Int))), (2, ii (vs)), (8, ov), (9, ii ((k : Int)))] rE) _ (intsH 2 ov os :: curH .u64 88 cb bsv bs.length :: L)
   replace leG : F ≤ G1 := leG
   dsimp only at hov hk h19 hol
   have hmu : (k - ((2 : Int)).toNat) * szB (dp - 1) ≤ 2 * szB (dp - 1) := Nat.mul_le_mul_right _ (by omega)
   have leG1 := leG
   replace hbs := hbs.mono leG1
   refine qX (qX (qH (jb (ii ((k : Int))) rfl (cX (yo rfl rfl (qI ?_))))))
   refine jV (p := (k : Int) < 2) rfl (fun h4 => ?_) (fun h4 => ?_)
   ·refine jU (qX (yf (qH (jb (ov) rfl (jb (ptr cb 0) rfl (jb (ii (((dp : Nat) : Int))) rfl (cX (yx (((dp - 1 : Nat) : Int)) rfl rfl (by omega) (by omega) (jb (ii (vs)) rfl (cX (jL (args := [ptr cb 0, ii ((dp - 1 : Nat) : Int), ii (vs)]) call110 rfl (Does.atO [_] (ih (dp - 1) (by omega) (vs := vs) hbs (by omega) (hdp := (by first | assumption | rfl | omega | simp)) (hvs := (by first | assumption | rfl | omega | simp)))) ?_)))))))))))
    rintro _ F4 _ le4 ⟨x5, ⟨rfl, hsl1⟩, rfl⟩
    replace hbs := hbs.mono le4
    show XL _ _ _ _ _ _ _ (drawnH 2 x5 (fun t => 1 ≤ t.length ∧ t.length ≤ szB (dp - 1)) :: intsH 2 ov os :: curH .u64 88 cb bsv bs.length :: L)
    refine XL.undraw [] rfl (fun t1 hq9 => ?_)
    obtain ⟨q1, q2⟩ := hq9
    show XL _ _ _ _ _ _ _ (intsH 2 x5 t1 :: intsH 2 ov os :: curH .u64 88 cb bsv bs.length :: L)
    refine Qd [] _ _ rfl (fun F5 le5 hz1 => ?_)
    replace hbs := hbs.mono le5
    have hf1 : IntsF F5 x5 t1 := intsH.fz (xs := t1) hz1.fz
    refine cX (Qk [] _ qU typeInfo2 rfl rfl rfl rfl rfl rfl hf1 (by (try simp only [List.length_append, List.length_nil, List.length_cons, List.length_singleton, List.length_take, List.length_drop]); omega) ?_)
    intro v3 hs1 hn1 hm1
    refine jc (v3) rfl (qI (qH (jb (ii ((k : Int))) rfl (cX (yj (((k + 1 : Nat) : Int)) rfl rfl (by omega) (by omega) (jc (ii (((k + 1 : Nat) : Int))) rfl (qI ?_)))))))
    exact ⟨(k + 1, v3, os ++ t1, F5), _, (jl (jl leG1 le4) le5), rF, ⟨rfl, rfl, rfl, rfl, rfl, ⟨⟩⟩, (sC (sC sR)), ⟨rfl, (jl (jl leG1 le4) le5), (hs1), (by (try dsimp only); omega), (by (try dsimp only); rw [List.length_append]; omega), (by (try dsimp only); rw [List.length_append, show k + 1 - ((2 : Int)).toNat = (k - ((2 : Int)).toNat) + 1 from by omega, Nat.succ_mul]; omega)⟩, (by omega)⟩
   refine yB (jO (jO (yk (qX (qH (jb (ov) rfl (jc (ov) rfl (qI (jW (jR (L' := drawnH 2 ov (fun t => 1 ≤ t.length ∧ t.length ≤ szB dp) :: curH .u64 88 cb bsv bs.length :: L) [ov] (ov) (.tmp rfl .nil) rfl leG1 rF (yn (sC (sC sR)) (Sub.keep (drawnH.of (t := os) (⟨h19, by first | (have h9 := szB_next (d := dp) (by omega); omega) | (have h8 : k - ((2 : Int)).toNat = 0 := (by omega); rw [h8, Nat.zero_mul] at hol; have := szB_pos dp; omega)⟩)) sR)) ?_))))))))))
   exact ⟨_, ⟨rfl, hov⟩, rfl⟩
  refine jU (qX (qH (jb (ii (x3)) rfl (cX (jQ (s := 1) [ii (x3)] [ii (0)] [(0, [ii (x3)])] qU js yv rfl (by decide) rfl (.cons rfl CellsAre.nil) rfl ?_)))))
  intro v4 hv3
  refine jc (v4) rfl (qI (qX (qX (qH ?_))))
  show XL _ _ _ _ _ _ _ (intsH 2 v4 ([x3] : List Int) :: curH .u64 88 cb bsv bs.length :: L)
  skip
  refine jb (ii (x3)) rfl (jc (ii (x3)) rfl (qI (yf (yI (α := Nat × Value × List Int × FH) (fun xQ => [(0, ptr cb 0), (1, ii (((dp : Nat) : Int))), (2, ii (vs)), (8, xQ.2.1), (9, ii (((xQ.1 : Nat) : Int)))]) (fun xQ => intsH 2 xQ.2.1 xQ.2.2.1 :: curH .u64 88 cb bsv bs.length :: L) (fun xQ F' => xQ.2.2.2 = F' ∧ F ≤ xQ.2.2.2 ∧ (IsSl xQ.2.1) ∧ (x3 ≤ (xQ.1 : Int) ∧ xQ.1 ≤ 2) ∧ (1 ≤ xQ.2.2.1.length) ∧ (xQ.2.2.1.length ≤ 1 + (xQ.1 - ((x3 : Int)).toNat) * szB (dp - 1))) (fun xQ => 2 - xQ.1) (((x3 : Int)).toNat, v4, [x3], F) ⟨rfl, rfl, rfl, rfl, (vI (by omega)), ⟨⟩⟩ (sC (sC sR)) ⟨rfl, FLe.refl _, ((yH hv3)), (by (try dsimp only); omega), (by (try dsimp only); simp), (by (try dsimp only); simp)⟩ ?_))))
  rintro ⟨k, ov, os, G2⟩ rE _ _ ⟨rfl, leG, hov, hk, h19, hol⟩
  show X _ _ _ _ (envs [(0, ptr cb 0), (1, ii (((dp : Nat) : Int))), (2, ii (vs)), (8, ov), (9, ii ((k : Int)))] rE) _ (intsH 2 ov os :: curH .u64 88 cb bsv bs.length :: L)
  replace leG : F ≤ G2 := leG
  dsimp only at hov hk h19 hol
  have hmu : (k - ((x3 : Int)).toNat) * szB (dp - 1) ≤ 2 * szB (dp - 1) := Nat.mul_le_mul_right _ (by omega)
  have leG2 := leG
  replace hbs := hbs.mono leG2
  refine qX (qX (qH (jb (ii ((k : Int))) rfl (cX (yo rfl rfl (qI ?_))))))
  refine jV (p := (k : Int) < 2) rfl (fun h5 => ?_) (fun h5 => ?_)
  ·refine jU (qX (yf (qH (jb (ov) rfl (jb (ptr cb 0) rfl (jb (ii (((dp : Nat) : Int))) rfl (cX (yx (((dp - 1 : Nat) : Int)) rfl rfl (by omega) (by omega) (jb (ii (vs)) rfl (cX (jL (args := [ptr cb 0, ii ((dp - 1 : Nat) : Int), ii (vs)]) call110 rfl (Does.atO [_] (ih (dp - 1) (by omega) (vs := vs) hbs (by omega) (hdp := (by first | assumption | rfl | omega | simp)) (hvs := (by first | assumption | rfl | omega | simp)))) ?_)))))))))))
   rintro _ F6 _ le6 ⟨x7, ⟨rfl, hsl2⟩, rfl⟩
   replace hbs := hbs.mono le6
   show XL _ _ _ _ _ _ _ (drawnH 2 x7 (fun t => 1 ≤ t.length ∧ t.length ≤ szB (dp - 1)) :: intsH 2 ov os :: curH .u64 88 cb bsv bs.length :: L)
   refine XL.undraw [] rfl (fun t2 hq9 => ?_)
   obtain ⟨q3, q4⟩ := hq9
   show XL _ _ _ _ _ _ _ (intsH 2 x7 t2 :: intsH 2 ov os :: curH .u64 88 cb bsv bs.length :: L)
   refine Qd [] _ _ rfl (fun F7 le7 hz2 => ?_)
   replace hbs := hbs.mono le7
   have hf2 : IntsF F7 x7 t2 := intsH.fz (xs := t2) hz2.fz
   refine cX (Qk [] _ qU typeInfo2 rfl rfl rfl rfl rfl rfl hf2 (by (try simp only [List.length_append, List.length_nil, List.length_cons, List.length_singleton, List.length_take, List.length_drop]); omega) ?_)
   intro v5 hs2 hn2 hm2
   refine jc (v5) rfl (qI (qH (jb (ii ((k : Int))) rfl (cX (yj (((k + 1 : Nat) : Int)) rfl rfl (by omega) (by omega) (jc (ii (((k + 1 : Nat) : Int))) rfl (qI ?_)))))))
   exact ⟨(k + 1, v5, os ++ t2, F7), _, (jl (jl leG2 le6) le7), rF, ⟨rfl, rfl, rfl, rfl, rfl, ⟨⟩⟩, (sC (sC sR)), ⟨rfl, (jl (jl leG2 le6) le7), (hs2), (by (try dsimp only); omega), (by (try dsimp only); rw [List.length_append]; omega), (by (try dsimp only); rw [List.length_append, show k + 1 - ((x3 : Int)).toNat = (k - ((x3 : Int)).toNat) + 1 from by omega, Nat.succ_mul]; omega)⟩, (by omega)⟩
  refine yB (jO (jO (yk (qX (qH (jb (ov) rfl (jc (ov) rfl (qI (jW (jR (L' := drawnH 2 ov (fun t => 1 ≤ t.length ∧ t.length ≤ szB dp) :: curH .u64 88 cb bsv bs.length :: L) [ov] (ov) (.tmp rfl .nil) rfl leG2 rF (yn (sC (sC sR)) (Sub.keep (drawnH.of (t := os) (⟨h19, by first | (have h9 := szB_next (d := dp) (by omega); omega) | (have h8 : k - ((x3 : Int)).toNat = 0 := (by omega); rw [h8, Nat.zero_mul] at hol; have := szB_pos dp; omega)⟩)) sR)) ?_))))))))))
  exact ⟨_, ⟨rfl, hov⟩, rfl⟩
 refine jA (t := 12) rfl (vF h1) (jA (t := 12) rfl (vF h1) (jA (t := 12) rfl (vF h1) (cX (yl (.bool (false)) (vF h1) rfl (qI (yV rfl (jU (qX (qH (jb (ptr cb 0) rfl (cX (jL (args := [ptr cb 0, ii (3)]) call14 rfl (Does.at [] (below_spec (n := 3) hbs (by omega) (hn := (by first | assumption | rfl | omega | simp)))) ?_))))))))))))
 rintro _ _ _ _ ⟨⟨rfl, x8, rfl, hr4⟩, rfl⟩
 show XL _ _ _ _ _ _ _ (curH .u64 88 cb bsv bs.length :: L)
 refine jc (ii (x8)) rfl (qI (qX (qX (qH (jb (ii (((dp : Nat) : Int))) rfl (cX (XOp.leq rfl rfl (qI ?_))))))))
 refine jV (p := (((dp : Nat) : Int) : Int) ≤ 1) rfl (fun h6 => ?_) (fun h6 => ?_)
 ·refine qH (jc (ii (2)) rfl (qI (qX (qH (jb (ii (2)) rfl (cX (jQ (s := 1) [ii (2)] [ii (0)] [(0, [ii (2)])] qU js yv rfl (by decide) rfl (.cons rfl CellsAre.nil) rfl ?_)))))))
  intro v6 hv4
  refine jc (v6) rfl (qI (qX (qX (qH ?_))))
  show XL _ _ _ _ _ _ _ (intsH 2 v6 ([2] : List Int) :: curH .u64 88 cb bsv bs.length :: L)
  skip
  refine jb (ii (2)) rfl (jc (ii (2)) rfl (qI (yf (yI (α := Nat × Value × List Int × FH) (fun xQ => [(0, ptr cb 0), (1, ii (((dp : Nat) : Int))), (2, ii (vs)), (8, xQ.2.1), (9, ii (((xQ.1 : Nat) : Int)))]) (fun xQ => intsH 2 xQ.2.1 xQ.2.2.1 :: curH .u64 88 cb bsv bs.length :: L) (fun xQ F' => xQ.2.2.2 = F' ∧ F ≤ xQ.2.2.2 ∧ (IsSl xQ.2.1) ∧ (2 ≤ (xQ.1 : Int) ∧ xQ.1 ≤ 2) ∧ (1 ≤ xQ.2.2.1.length) ∧ (xQ.2.2.1.length ≤ 1 + (xQ.1 - ((2 : Int)).toNat) * szB (dp - 1))) (fun xQ => 2 - xQ.1) (((2 : Int)).toNat, v6, [2], F) ⟨rfl, rfl, rfl, rfl, (vI (by omega)), ⟨⟩⟩ (sC (sC sR)) ⟨rfl, FLe.refl _, ((yH hv4)), (by (try dsimp only); omega), (by (try dsimp only); simp), (by (try dsimp only); simp)⟩ ?_))))
  rintro ⟨k, ov, os, G3⟩ rE _ _ ⟨rfl, leG, hov, hk, h19, hol⟩
  show X _ _ _ _ (envs [(0, ptr cb 0), (1, ii (((dp : Nat) : Int))), (2, ii (vs)), (8, ov), (9, ii ((k : Int)))] rE) _ (intsH 2 ov os :: curH .u64 88 cb bsv bs.length :: L)
  replace leG : F ≤ G3 := leG
  dsimp only at hov hk h19 hol
  have hmu : (k - ((2 : Int)).toNat) * szB (dp - 1) ≤ 2 * szB (dp - 1) := Nat.mul_le_mul_right _ (by omega)
  have leG3 := leG
  replace hbs := hbs.mono leG3
  refine qX (qX (qH (jb (ii ((k : Int))) rfl (cX (yo rfl rfl (qI ?_))))))
  refine jV (p := (k : Int) < 2) rfl (fun h7 => ?_) (fun h7 => ?_)
  ·refine jU (qX (yf (qH (jb (ov) rfl (jb (ptr cb 0) rfl (jb (ii (((dp : Nat) : Int))) rfl (cX (yx (((dp - 1 : Nat) : Int)) rfl rfl (by omega) (by omega) (jb (ii (vs)) rfl (cX (jL (args := [ptr cb 0, ii ((dp - 1 : Nat) : Int), ii (vs)]) call110 rfl (Does.atO [_] (ih (dp - 1) (by omega) (vs := vs) hbs (by omega) (hdp := (by first | assumption | rfl | omega | simp)) (hvs := (by first | assumption | rfl | omega | simp)))) ?_)))))))))))
   rintro _ F9 _ le9 ⟨x10, ⟨rfl, hsl3⟩, rfl⟩
   replace hbs := hbs.mono le9
   show XL _ _ _ _ _ _ _ (drawnH 2 x10 (fun t => 1 ≤ t.length ∧ t.length ≤ szB (dp - 1)) :: intsH 2 ov os :: curH .u64 88 cb bsv bs.length :: L)
   refine XL.undraw [] rfl (fun t3 hq9 => ?_)
   obtain ⟨q5, q6⟩ := hq9
   show XL _ _ _ _ _ _ _ (intsH 2 x10 t3 :: intsH 2 ov os :: curH .u64 88 cb bsv bs.length :: L)
   refine Qd [] _ _ rfl (fun F10 le10 hz3 => ?_)
   replace hbs := hbs.mono le10
   have hf3 : IntsF F10 x10 t3 := intsH.fz (xs := t3) hz3.fz
   refine cX (Qk [] _ qU typeInfo2 rfl rfl rfl rfl rfl rfl hf3 (by (try simp only [List.length_append, List.length_nil, List.length_cons, List.length_singleton, List.length_take, List.length_drop]); omega) ?_)
   intro v7 hs3 hn3 hm3
   refine jc (v7) rfl (qI (qH (jb (ii ((k : Int))) rfl (cX (yj (((k + 1 : Nat) : Int)) rfl rfl (by omega) (by omega) (jc (ii (((k + 1 : Nat) : Int))) rfl (qI ?_)))))))
   exact ⟨(k + 1, v7, os ++ t3, F10), _, (jl (jl leG3 le9) le10), rF, ⟨rfl, rfl, rfl, rfl, rfl, ⟨⟩⟩, (sC (sC sR)), ⟨rfl, (jl (jl leG3 le9) le10), (hs3), (by (try dsimp only); omega), (by (try dsimp only); rw [List.length_append]; omega), (by (try dsimp only); rw [List.length_append, show k + 1 - ((2 : Int)).toNat = (k - ((2 : Int)).toNat) + 1 from by omega, Nat.succ_mul]; omega)⟩, (by omega)⟩
  refine yB (jO (jO (yk (qX (qH (jb (ov) rfl (jc (ov) rfl (qI (jW (jR (L' := drawnH 2 ov (fun t => 1 ≤ t.length ∧ t.length ≤ szB dp) :: curH .u64 88 cb bsv bs.length :: L) [ov] (ov) (.tmp rfl .nil) rfl leG3 rF (yn (sC (sC sR)) (Sub.keep (drawnH.of (t := os) (⟨h19, by first | (have h9 := szB_next (d := dp) (by omega); omega) | (have h8 : k - ((2 : Int)).toNat = 0 := (by omega); rw [h8, Nat.zero_mul] at hol; have := szB_pos dp; omega)⟩)) sR)) ?_))))))))))
  exact ⟨_, ⟨rfl, hov⟩, rfl⟩
 refine jU (qX (qH (jb (ii (x8)) rfl (cX (jQ (s := 1) [ii (x8)] [ii (0)] [(0, [ii (x8)])] qU js yv rfl (by decide) rfl (.cons rfl CellsAre.nil) rfl ?_)))))
 intro v8 hv5
 refine jc (v8) rfl (qI (qX (qX (qH ?_))))
 show XL _ _ _ _ _ _ _ (intsH 2 v8 ([x8] : List Int) :: curH .u64 88 cb bsv bs.length :: L)
 skip
 refine jb (ii (x8)) rfl (jc (ii (x8)) rfl (qI (yf (yI (α := Nat × Value × List Int × FH) (fun xQ => [(0, ptr cb 0), (1, ii (((dp : Nat) : Int))), (2, ii (vs)), (8, xQ.2.1), (9, ii (((xQ.1 : Nat) : Int)))]) (fun xQ => intsH 2 xQ.2.1 xQ.2.2.1 :: curH .u64 88 cb bsv bs.length :: L) (fun xQ F' => xQ.2.2.2 = F' ∧ F ≤ xQ.2.2.2 ∧ (IsSl xQ.2.1) ∧ (x8 ≤ (xQ.1 : Int) ∧ xQ.1 ≤ 2) ∧ (1 ≤ xQ.2.2.1.length) ∧ (xQ.2.2.1.length ≤ 1 + (xQ.1 - ((x8 : Int)).toNat) * szB (dp - 1))) (fun xQ => 2 - xQ.1) (((x8 : Int)).toNat, v8, [x8], F) ⟨rfl, rfl, rfl, rfl, (vI (by omega)), ⟨⟩⟩ (sC (sC sR)) ⟨rfl, FLe.refl _, ((yH hv5)), (by (try dsimp only); omega), (by (try dsimp only); simp), (by (try dsimp only); simp)⟩ ?_))))
 rintro ⟨k, ov, os, G4⟩ rE _ _ ⟨rfl, leG, hov, hk, h19, hol⟩
 show X _ _ _ _ (envs [(0, ptr cb 0), (1, ii (((dp : Nat) : Int))), (2, ii (vs)), (8, ov), (9, ii ((k : Int)))] rE) _ (intsH 2 ov os :: curH .u64 88 cb bsv bs.length :: L)
 replace leG : F ≤ G4 := leG
 dsimp only at hov hk h19 hol
 have hmu : (k - ((x8 : Int)).toNat) * szB (dp - 1) ≤ 2 * szB (dp - 1) := Nat.mul_le_mul_right _ (by omega)
 have leG4 := leG
 replace hbs := hbs.mono leG4
 refine qX (qX (qH (jb (ii ((k : Int))) rfl (cX (yo rfl rfl (qI ?_))))))
 refine jV (p := (k : Int) < 2) rfl (fun h8 => ?_) (fun h8 => ?_)
 ·refine jU (qX (yf (qH (jb (ov) rfl (jb (ptr cb 0) rfl (jb (ii (((dp : Nat) : Int))) rfl (cX (yx (((dp - 1 : Nat) : Int)) rfl rfl (by omega) (by omega) (jb (ii (vs)) rfl (cX (jL (args := [ptr cb 0, ii ((dp - 1 : Nat) : Int), ii (vs)]) call110 rfl (Does.atO [_] (ih (dp - 1) (by omega) (vs := vs) hbs (by omega) (hdp := (by first | assumption | rfl | omega | simp)) (hvs := (by first | assumption | rfl | omega | simp)))) ?_)))))))))))
  rintro _ F11 _ le11 ⟨x12, ⟨rfl, hsl4⟩, rfl⟩
  show XL _ _ _ _ _ _ _ (drawnH 2 x12 (fun t => 1 ≤ t.length ∧ t.length ≤ szB (dp - 1)) :: intsH 2 ov os :: curH .u64 88 cb bsv bs.length :: L)
  refine XL.undraw [] rfl (fun t4 hq9 => ?_)
  obtain ⟨q7, q8⟩ := hq9
  show XL _ _ _ _ _ _ _ (intsH 2 x12 t4 :: intsH 2 ov os :: curH .u64 88 cb bsv bs.length :: L)
  refine Qd [] _ _ rfl (fun F12 le12 hz4 => ?_)
  have hf4 : IntsF F12 x12 t4 := intsH.fz (xs := t4) hz4.fz
  refine cX (Qk [] _ qU typeInfo2 rfl rfl rfl rfl rfl rfl hf4 (by (try simp only [List.length_append, List.length_nil, List.length_cons, List.length_singleton, List.length_take, List.length_drop]); omega) ?_)
  intro v9 hs4 hn4 hm4
  refine jc (v9) rfl (qI (qH (jb (ii ((k : Int))) rfl (cX (yj (((k + 1 : Nat) : Int)) rfl rfl (by omega) (by omega) (jc (ii (((k + 1 : Nat) : Int))) rfl (qI ?_)))))))
  exact ⟨(k + 1, v9, os ++ t4, F12), _, (jl (jl leG4 le11) le12), rF, ⟨rfl, rfl, rfl, rfl, rfl, ⟨⟩⟩, (sC (sC sR)), ⟨rfl, (jl (jl leG4 le11) le12), (hs4), (by (try dsimp only); omega), (by (try dsimp only); rw [List.length_append]; omega), (by (try dsimp only); rw [List.length_append, show k + 1 - ((x8 : Int)).toNat = (k - ((x8 : Int)).toNat) + 1 from by omega, Nat.succ_mul]; omega)⟩, (by omega)⟩
 refine yB (jO (jO (yk (qX (qH (jb (ov) rfl (jc (ov) rfl (qI (jW (jR (L' := drawnH 2 ov (fun t => 1 ≤ t.length ∧ t.length ≤ szB dp) :: curH .u64 88 cb bsv bs.length :: L) [ov] (ov) (.tmp rfl .nil) rfl leG4 rF (yn (sC (sC sR)) (Sub.keep (drawnH.of (t := os) (⟨h19, by first | (have h9 := szB_next (d := dp) (by omega); omega) | (have h8 : k - ((x8 : Int)).toNat = 0 := (by omega); rw [h8, Nat.zero_mul] at hol; have := szB_pos dp; omega)⟩)) sR)) ?_))))))))))
 exact ⟨_, ⟨rfl, hov⟩, rfl⟩

theorem w9Term_spec (dp : Nat) : ∀ {F : FH} {L : List HP} {cb : Nat} {bsv : Value} {bs : List Int} (hbs : BytesF F bsv bs) (hbl : bs.length ≤ 4000000) {vs : Int} (hdp : dp ≤ 4) (hvs : 0 ≤ vs ∧ vs ≤ 24), Does prog 110 [ptr cb 0, ii (((dp : Nat) : Int)), ii (vs)] F (curH .u64 88 cb bsv bs.length :: L) (fun v F' L' => ∃ a : Value, ((a : Value) = v ∧ IsSl a) ∧ drawnH 2 a (fun t => 1 ≤ t.length ∧ t.length ≤ szB dp) :: curH .u64 88 cb bsv bs.length :: L = L') := by
  induction dp using Nat.strongRecOn with
  | _ dp ih =>
    intros
    exact w9Term_spec_step ih (by assumption) (by assumption) (by assumption) (by assumption)

/- spec.l1Into -/
theorem l1Into_spec {F : FH} {L : List HP} {xsv : Value} {xs : List Int} (hxs : IntsF F xsv xs) {n : Int} (hxb : ∀ x ∈ xs, 0 ≤ x ∧ x ≤ 24) (hn : 0 ≤ n ∧ n ≤ 24) (hlx : xs.length ≤ 1000) :
    Does prog 241 [xsv, ii (n)] F (L) (fun v F' L' => ∃ (a : Value), ∃ (os : List Int), (a : Value) = v ∧ (IntsF F' a os) ∧ (os.length ≤ xs.length + 1) ∧ (∀ x ∈ os, 0 ≤ x ∧ x ≤ 24) ∧ L = L') := by
 refine ym func241 rfl rfl rfl (qX (qH (jc (sN) rfl (qI (qX (qH (jc (ii (0)) rfl (qI (qX (yf (yI (α := Nat) (fun k => [(0, xsv), (1, ii (n)), (5, ii ((k : Int)))]) (fun k => L) (fun k F' => F = F' ∧ (k ≤ xs.length)) (fun k => xs.length - k) 0 ⟨rfl, rfl, rfl, ⟨⟩⟩ sR ⟨rfl, (Nat.zero_le _)⟩ ?_)))))))))))
 rintro k rE _ _ ⟨rfl, hk⟩
 show X _ _ _ _ (envs [(0, xsv), (1, ii (n)), (5, ii ((k : Int)))] rE) _ (L)
 refine qX (qX (qH (jb (ii ((k : Int))) rfl (jb (xsv) rfl (cX (jZ qU rfl hxs.slv (cX (yo rfl rfl (jb (.bool (decide ((k : Int) < (xs.length : Int)))) rfl ?_)))))))))
 by_cases h1 : (k : Int) < (xs.length : Int)
 ·refine jB (t := 11) rfl (vT h1) (jk (xsv) rfl (jB (t := 11) rfl (vT h1) (jk (ii ((k : Int))) rfl (jB (t := 11) rfl (vT h1) (jq k qU js rfl rfl rfl hxs.slv (by omega) (Nat.mul_one _) (jB (t := 11) rfl (vT h1) (jj yd rfl (hxs.rd (by omega)) (jB (t := 11) rfl (vT h1) (jk (ii (n)) rfl (jB (t := 11) rfl (vT h1) (yo rfl rfl (cX (yp (.bool (decide ((xs.getD k 0 : Int) < n))) (vT h1) rfl (qI ?_))))))))))))))
  refine jV (p := (xs.getD k 0 : Int) < n) rfl (fun h2 => ?_) (fun h2 => ?_)
  ·refine jU (yf (qH (jb (ii ((k : Int))) rfl (cX (yj (((k + 1 : Nat) : Int)) rfl rfl (by omega) (by omega) (jc (ii (((k + 1 : Nat) : Int))) rfl (qI ?_)))))))
   exact ⟨k + 1, _, FLe.refl _, rF, ⟨rfl, rfl, rfl, ⟨⟩⟩, sR, ⟨rfl, (by (try dsimp only) <;> omega)⟩, (by omega)⟩
  refine yB (jO (jO (yk (qX (qX (qH (jb (ii ((k : Int))) rfl (jb (xsv) rfl (cX (jZ qU rfl hxs.slv (cX (yo rfl rfl (jb (.bool (decide ((k : Int) < (xs.length : Int)))) rfl (jB (t := 25) rfl (vT h1) (jk (xsv) rfl (jB (t := 25) rfl (vT h1) (jk (ii ((k : Int))) rfl (jB (t := 25) rfl (vT h1) (jq k qU js rfl rfl rfl hxs.slv (by omega) (Nat.mul_one _) ?_)))))))))))))))))))
  refine jB (t := 25) rfl (vT h1) (jj yd rfl (hxs.rd (by omega)) (jB (t := 25) rfl (vT h1) (jk (ii (n)) rfl (jB (t := 25) rfl (vT h1) (yU rfl rfl (cX (yp (.bool (decide ((xs.getD k 0 : Int) = n))) (vT h1) rfl (qI ?_))))))))
  refine jV (p := (xs.getD k 0 : Int) = n) rfl (fun h3 => ?_) (fun h3 => ?_)
  ·refine qX (qH (jb (xsv) rfl (jc (xsv) rfl (qI (jW (jw (jR (L' := L) [xsv] (xsv) (.tmp rfl .nil) rfl rF rF sR ?_)))))))
   exact ⟨_, _, rfl, hxs, by omega, hxb, rfl⟩
  refine jU (qX (qH (jb (xsv) rfl (jb (ii ((k : Int))) rfl (cX (Qp 0 k qU js rfl hxs rfl ⟨_, rfl⟩ (by omega) (by omega) ?_))))))
  intro v1 hv1 hn1
  refine cX (jL (args := [v1]) call193 rfl (l1Copy_spec hv1 (hlt := (by simp; omega))) ?_)
  rintro v2 _ _ _ ⟨rfl, hs1, rfl⟩
  refine jb (ii (n)) rfl (cX (jQ (s := 1) [ii (n)] [ii (0)] [(0, [ii (n)])] qU js yv rfl (by decide) rfl (.cons rfl CellsAre.nil) rfl ?_))
  intro v3 hv2
  refine cX (Qi (u := n) [_] _ qU typeInfo2 rfl rfl rfl rfl rfl rfl (SlV.own [] rfl) (Rd.sl [] rfl rfl) (by (try simp only [List.length_append, List.length_nil, List.length_cons, List.length_singleton, List.length_take, List.length_drop]); omega) ?_)
  intro v4 hs2 hn2
  refine jc (v4) rfl (qI (qX (qH (jb (v4) rfl (jb (xsv) rfl (jb (ii ((k : Int))) rfl (cX (Qp k ((xs).length) qU js rfl hxs ⟨_, rfl⟩ rfl (by omega) (by omega) ?_))))))))
  intro v5 hv3 hn3
  refine cX (Qk [_] _ qU typeInfo2 rfl rfl rfl rfl rfl rfl hv3 (by (try simp only [List.length_append, List.length_nil, List.length_cons, List.length_singleton, List.length_take, List.length_drop]); omega) ?_)
  intro v6 hs3 hn4 hm1
  refine jc (v6) rfl (qI (yz [_] _ _ rfl (fun F1 le1 hz1 => ?_)))
  replace hxs := hxs.mono le1
  have hf1 : IntsF F1 v6 (((((((xs.drop 0).take (k - 0))))) ++ [n]) ++ (((xs.drop k).take (((xs).length) - k)))) := intsH.fz (xs := ((((((xs.drop 0).take (k - 0))))) ++ [n]) ++ (((xs.drop k).take (((xs).length) - k)))) hz1.fz
  refine jW (jR (L' := L) [v6] (v6) (.tmp rfl .nil) rfl le1 rF (sD sR) ?_)
  exact ⟨_, _, rfl, hf1, by simp only [List.length_append, List.length_take, List.length_drop, List.length_singleton]; omega, fun x hx => by simp only [List.mem_append, List.mem_singleton] at hx; rcases hx with (hx | hx) | hx <;> first | exact hxb x (List.mem_of_mem_drop (List.mem_of_mem_take hx)) | exact hxb x (List.mem_of_mem_take hx) | exact hxb x (List.mem_of_mem_drop hx) | (rw [hx]; exact hn), rfl⟩
 refine jA (t := 11) rfl (vF h1) (jA (t := 11) rfl (vF h1) (jA (t := 11) rfl (vF h1) (jA (t := 11) rfl (vF h1) (jA (t := 11) rfl (vF h1) (jA (t := 11) rfl (vF h1) (cX (yl (.bool (false)) (vF h1) rfl (qI (yV rfl (yB (jO (jO (yk ?_)))))))))))))
 refine qX (qX (qH (jb (ii ((k : Int))) rfl (jb (xsv) rfl (cX (jZ qU rfl hxs.slv (cX (yo rfl rfl (jb (.bool (decide ((k : Int) < (xs.length : Int)))) rfl (jA (t := 25) rfl (vF h1) (jA (t := 25) rfl (vF h1) (jA (t := 25) rfl (vF h1) (jA (t := 25) rfl (vF h1) ?_)))))))))))))
 refine jA (t := 25) rfl (vF h1) (jA (t := 25) rfl (vF h1) (cX (yl (.bool (false)) (vF h1) rfl (qI (yV rfl (jU (qX (qH (jb (xsv) rfl (jb (ii ((k : Int))) rfl (cX (Qp 0 k qU js rfl hxs rfl ⟨_, rfl⟩ (by omega) (by omega) ?_))))))))))))
 intro v7 hv4 hn5
 refine cX (jL (args := [v7]) call193 rfl (l1Copy_spec hv4 (hlt := (by simp; omega))) ?_)
 rintro v8 _ _ _ ⟨rfl, hs4, rfl⟩
 refine jb (ii (n)) rfl (cX (jQ (s := 1) [ii (n)] [ii (0)] [(0, [ii (n)])] qU js yv rfl (by decide) rfl (.cons rfl CellsAre.nil) rfl ?_))
 intro v9 hv5
 refine cX (Qi (u := n) [_] _ qU typeInfo2 rfl rfl rfl rfl rfl rfl (SlV.own [] rfl) (Rd.sl [] rfl rfl) (by (try simp only [List.length_append, List.length_nil, List.length_cons, List.length_singleton, List.length_take, List.length_drop]); omega) ?_)
 intro v10 hs5 hn6
 refine jc (v10) rfl (qI (qX (qH (jb (v10) rfl (jb (xsv) rfl (jb (ii ((k : Int))) rfl (cX (Qp k ((xs).length) qU js rfl hxs ⟨_, rfl⟩ rfl (by omega) (by omega) ?_))))))))
 intro v11 hv6 hn7
 refine cX (Qk [_] _ qU typeInfo2 rfl rfl rfl rfl rfl rfl hv6 (by (try simp only [List.length_append, List.length_nil, List.length_cons, List.length_singleton, List.length_take, List.length_drop]); omega) ?_)
 intro v12 hs6 hn8 hm2
 refine jc (v12) rfl (qI (yz [_] _ _ rfl (fun F2 le2 hz2 => ?_)))
 have hf2 : IntsF F2 v12 (((((((xs.drop 0).take (k - 0))))) ++ [n]) ++ (((xs.drop k).take (((xs).length) - k)))) := intsH.fz (xs := ((((((xs.drop 0).take (k - 0))))) ++ [n]) ++ (((xs.drop k).take (((xs).length) - k)))) hz2.fz
 refine jW (jR (L' := L) [v12] (v12) (.tmp rfl .nil) rfl le2 rF (sD sR) ?_)
 exact ⟨_, _, rfl, hf2, by simp only [List.length_append, List.length_take, List.length_drop, List.length_singleton]; omega, fun x hx => by simp only [List.mem_append, List.mem_singleton] at hx; rcases hx with (hx | hx) | hx <;> first | exact hxb x (List.mem_of_mem_drop (List.mem_of_mem_take hx)) | exact hxb x (List.mem_of_mem_take hx) | exact hxb x (List.mem_of_mem_drop hx) | (rw [hx]; exact hn), rfl⟩

/- spec.l2Vars -/
theorem l2Vars_spec {F : FH} {L : List HP} {tv : Value} {t : List Int} (ht : IntsF F tv t) (hlt : t.length ≤ 60) (htg : ∀ k, k < t.length → -24 ≤ t.getD k 0) :
    Does prog 220 [tv] F (L) (fun v F' L' => ∃ (a : Value), ∃ (os : List Int), (a : Value) = v ∧ (IntsF F' a os) ∧ (os.length ≤ t.length) ∧ (∀ x ∈ os, 0 ≤ x ∧ x ≤ 24) ∧ L = L') := by
 refine ym func220 rfl rfl rfl (qX (qH (jc (sN) rfl (qI (qX (qH (cX (jQ (s := 1) [] [ii (0)] [] qU js yv rfl (by decide) rfl CellsAre.nil rfl ?_))))))))
 intro v1 hv1
 refine jc (v1) rfl (qI (qX (qX (qH ?_))))
 show XL _ _ _ _ _ _ _ (intsH 2 v1 ([] : List Int) :: L)
 refine Qd [] _ _ rfl (fun F1 le1 hz1 => ?_)
 replace ht := ht.mono le1
 have hf1 : IntsF F1 v1 ([]) := intsH.fz (xs := []) hz1.fz
 skip
 refine jc (ii (0)) rfl (qI (yf (yI (α := Nat × Value × List Int × FH) (fun xQ => [(0, tv), (3, xQ.2.1), (4, ii (((xQ.1 : Nat) : Int)))]) (fun xQ => L) (fun xQ F' => xQ.2.2.2 = F' ∧ F1 ≤ xQ.2.2.2 ∧ (IntsF xQ.2.2.2 xQ.2.1 xQ.2.2.1) ∧ (xQ.1 ≤ t.length) ∧ (xQ.2.2.1.length ≤ xQ.1) ∧ (∀ x ∈ xQ.2.2.1, 0 ≤ x ∧ x ≤ 24)) (fun xQ => t.length - xQ.1) (0, v1, [], F1) ⟨rfl, rfl, rfl, ⟨⟩⟩ sR ⟨rfl, FLe.refl _, (hf1), (Nat.zero_le _), (by simp), (fun x hx => by simp at hx)⟩ ?_)))
 rintro ⟨k, ov, os, G1⟩ rE _ _ ⟨rfl, leG, hov, hk, hol, hob⟩
 show X _ _ _ _ (envs [(0, tv), (3, ov), (4, ii ((k : Int)))] rE) _ (L)
 replace leG : F1 ≤ G1 := leG
 dsimp only at hov hk hol hob
 have htk := htg k
 have leG1 := leG
 replace ht := ht.mono leG1
 refine qX (qX (qH (jb (ii ((k : Int))) rfl (jb (tv) rfl (cX (jZ qU rfl ht.slv (cX (yo rfl rfl (qI ?_)))))))))
 refine jV (p := (k : Int) < (t.length : Int)) rfl (fun h1 => ?_) (fun h1 => ?_)
 ·refine jU (qX (yf (qX (qH (jb (tv) rfl (jb (ii ((k : Int))) rfl (cX (jq k qU js rfl rfl rfl ht.slv (by omega) (Nat.mul_one _) (cX (jj yd rfl (ht.rd (by omega)) (cX (yo rfl rfl (qI ?_)))))))))))))
  refine jV (p := (t.getD k 0 : Int) < 0) rfl (fun h2 => ?_) (fun h2 => ?_)
  ·refine qH (jb (ov) rfl (jb (tv) rfl (jb (ii ((k : Int))) rfl (cX (jq k qU js rfl rfl rfl ht.slv (by omega) (Nat.mul_one _) (cX (jj yd rfl (ht.rd (by omega)) (cX (yx ((-1) - (t.getD k 0)) rfl rfl (by omega) (by omega) (cX (jL (args := [ov, ii ((-1) - (t.getD k 0))]) call241 rfl (l1Into_spec (n := (-1) - (t.getD k 0)) hov (hxb := (hob)) (hn := (by omega)) (hlx := (by omega))) ?_)))))))))))
   rintro _ F2 _ le2 ⟨x1, x2, rfl, hr1, hr2, hr3, rfl⟩
   replace hov := hov.mono le2
   refine jc (x1) rfl (qI (qH (jb (ii ((k : Int))) rfl (cX (yj (((k + 1 : Nat) : Int)) rfl rfl (by omega) (by omega) (jc (ii (((k + 1 : Nat) : Int))) rfl (qI ?_)))))))
   exact ⟨(k + 1, x1, x2, F2), _, (jl leG1 le2), rF, ⟨rfl, rfl, rfl, ⟨⟩⟩, sR, ⟨rfl, (jl leG1 le2), (hr1), (by (try dsimp only) <;> omega), (by (try dsimp only); omega), (hr3)⟩, (by omega)⟩
  refine jU (qH (jb (ii ((k : Int))) rfl (cX (yj (((k + 1 : Nat) : Int)) rfl rfl (by omega) (by omega) (jc (ii (((k + 1 : Nat) : Int))) rfl (qI ?_))))))
  exact ⟨(k + 1, ov, os, G1), _, leG1, rF, ⟨rfl, rfl, rfl, ⟨⟩⟩, sR, ⟨rfl, leG1, (hov), (by (try dsimp only) <;> omega), (by (try dsimp only); omega), (hob)⟩, (by omega)⟩
 refine yB (jO (jO (yk (qX (qH (jb (ov) rfl (jc (ov) rfl (qI (jW (jR (L' := L) [ov] (ov) (.tmp rfl .nil) rfl (jl le1 leG1) rF sR ?_))))))))))
 exact ⟨_, _, rfl, hov, by omega, hob, rfl⟩

/- spec.VarsOf -/
theorem VarsOf_spec {F : FH} {L : List HP} {arv : Value} {ar : List Int} (har : IntsF F arv ar) {tv : Value} {t : List Int} (ht : IntsF F tv t) (hla : ar.length ≤ 4000000) (hlt : t.length ≤ 4000000) :
    Does prog 173 [.agg #[arv], tv] F (L) (fun v F' L' => ∃ (a : Value), ∃ (os : List Int), (a : Value) = v ∧ (IntsF F' a os) ∧ (os.length ≤ t.length) ∧ (∀ x ∈ os, 0 ≤ x ∧ x ≤ 24) ∧ L = L') := by
 refine ym func173 rfl rfl rfl (qX (qH (cX (yD [arv] rfl rfl ?_))))
 intro b1
 refine jc (sN) rfl (qI (qX (qX (qH (cX (yc [arv] yF ys rfl rfl (Rd.ownN [] rfl rfl) (jb (tv) rfl (cX (jL (args := [.agg #[arv], tv]) call81 rfl (sTermOk_spec har ht (hla := (by first | assumption | rfl | omega | simp)) (hlt := (by first | assumption | rfl | omega | simp))) ?_)))))))))
 rintro _ _ _ _ ⟨rfl, rfl, rfl⟩
 refine cX (yR rfl (qI ?_))
 refine X.cond (t := !(termOk ar t)) rfl (fun h1 => ?_) (fun h1 => ?_)
 ·refine qX (qH (cX (jQ (s := 1) [] [ii (0)] [] qU js yv rfl (by decide) rfl CellsAre.nil rfl ?_)))
  intro v1 hv1
  refine jc (v1) rfl (qI ?_)
  show X _ _ _ _ _ _ (intsH 2 v1 ([] : List Int) :: cellsH b1 [arv] 29 :: L)
  refine yz [] _ _ rfl (fun F1 le1 hz1 => ?_)
  replace ht := ht.mono le1
  have hf1 : IntsF F1 v1 ([]) := intsH.fz (xs := []) hz1.fz
  refine jW (jw (jR (L' := L) [v1] (v1) (.tmp rfl .nil) rfl le1 rF (sD sR) ?_))
  exact ⟨_, [], rfl, hf1, by simp, fun x hx => by simp at hx, rfl⟩
 have ho : termOk ar t = true := by simpa using h1
 have htl := termOk_len ho
 have htg := fun k (hk : k < t.length) => termOk_ge ho hk
 refine jU (qX (qH (jb (tv) rfl (cX (jL (args := [tv]) call220 rfl (l2Vars_spec ht (hlt := (by first | assumption | rfl | omega | simp)) (htg := (by first | assumption | rfl | omega | simp))) ?_)))))
 rintro _ F2 _ le2 ⟨x1, x2, rfl, hr1, hr2, hr3, rfl⟩
 refine jc (x1) rfl (qI (jW (jR (L' := L) [x1] (x1) (.tmp rfl .nil) rfl le2 rF (sD sR) ?_)))
 exact ⟨_, _, rfl, hr1, hr2, hr3, rfl⟩

/- laws.w9Rule -/
set_option maxHeartbeats 1000000 in
set_option maxRecDepth 20000 in
theorem w9Rule_spec {F : FH} {L : List HP} {cb : Nat} {bsv : Value} {bs : List Int} (hbs : BytesF F bsv bs) (hbl : bs.length ≤ 4000000) :
    Does prog 108 [ptr cb 0] F (curH .u64 88 cb bsv bs.length :: L) (fun v F' L' => (∃ (a : Value), ∃ (b : Value), (.agg #[a, b] : Value) = v ∧ (SomesF F' a (fun u => u.length ≤ 2000)) ∧ (SomesF F' b (fun w => w.length ≤ 2000))) ∧ curH .u64 88 cb bsv bs.length :: L = L') := by
 refine ym func108 rfl rfl rfl ?_
 have hz9 : szB 1 = 3 := rfl
 have hz8 : szB 2 = 7 := rfl
 have hz7 : szB 3 = 15 := rfl
 refine qX (qH (cX (Qe [sN, sN] yW rfl ?_)))
 intro b1
 refine qI (qX (qH (cX (jQ (s := 1) [ii (1)] [ii (0)] [(0, [ii (1)])] qU js yv rfl (by decide) rfl (.cons rfl CellsAre.nil) rfl ?_))))
 intro v1 hv1
 refine jb (ptr cb 0) rfl (cX (jL (args := [ptr cb 0, ii ((2 : Nat) : Int), ii (2)]) call110 rfl (Does.atO [_, _] (w9Term_spec 2 (vs := 2) hbs (by omega) (hdp := (by first | assumption | rfl | omega | simp)) (hvs := (by first | assumption | rfl | omega | simp)))) ?_))
 rintro _ F1 _ le1 ⟨x2, ⟨rfl, hsl1⟩, rfl⟩
 replace hbs := hbs.mono le1
 show XL _ _ _ _ _ _ _ (drawnH 2 x2 (fun t => 1 ≤ t.length ∧ t.length ≤ szB 2) :: slH 2 1 v1 1 [ii (1)] :: cellsH b1 [sN, sN] 72 :: curH .u64 88 cb bsv bs.length :: L)
 refine XL.undraw [] rfl (fun t1 hq9 => ?_)
 obtain ⟨q1, q2⟩ := hq9
 show XL _ _ _ _ _ _ _ (intsH 2 x2 t1 :: slH 2 1 v1 1 [ii (1)] :: cellsH b1 [sN, sN] 72 :: curH .u64 88 cb bsv bs.length :: L)
 show XL _ _ _ _ _ _ _ (intsH 2 x2 t1 :: intsH 2 v1 ([1] : List Int) :: cellsH b1 [sN, sN] 72 :: curH .u64 88 cb bsv bs.length :: L)
 refine Qd [] _ _ rfl (fun F2 le2 hz1 => ?_)
 replace hbs := hbs.mono le2
 have hf1 : IntsF F2 x2 t1 := intsH.fz (xs := t1) hz1.fz
 refine cX (Qk [] _ qU typeInfo2 rfl rfl rfl rfl rfl rfl hf1 (by (try simp only [List.length_append, List.length_nil, List.length_cons, List.length_singleton, List.length_take, List.length_drop]); omega) ?_)
 intro v2 hs1 hn1 hm1
 refine jc (v2) rfl (qI (qX (qX (qH (jb (ptr cb 0) rfl (cX (jL (args := [ptr cb 0, ii (2)]) call14 rfl (Does.at [_, _] (below_spec (n := 2) hbs (by omega) (hn := (by first | assumption | rfl | omega | simp)))) ?_)))))))
 rintro _ _ _ _ ⟨⟨rfl, x3, rfl, hr1⟩, rfl⟩
 show XL _ _ _ _ _ _ _ (intsH 2 v2 (([1]) ++ t1) :: cellsH b1 [sN, sN] 72 :: curH .u64 88 cb bsv bs.length :: L)
 refine cX (yU rfl rfl (qI ?_))
 refine jV (p := (x3 : Int) = 0) rfl (fun h1 => ?_) (fun h1 => ?_)
 ·refine qH (cX (jQ (s := 1) [ii (0)] [ii (0)] [(0, [ii (0)])] qU js yv rfl (by decide) rfl (.cons rfl CellsAre.nil) rfl ?_))
  intro v3 hv2
  refine jb (ptr cb 0) rfl (cX (jL (args := [ptr cb 0, ii ((2 : Nat) : Int), ii (2)]) call110 rfl (Does.atO [_, _, _] (w9Term_spec 2 (vs := 2) hbs (by omega) (hdp := (by first | assumption | rfl | omega | simp)) (hvs := (by first | assumption | rfl | omega | simp)))) ?_))
  rintro _ F4 _ le4 ⟨x5, ⟨rfl, hsl2⟩, rfl⟩
  replace hbs := hbs.mono le4
  show XL _ _ _ _ _ _ _ (drawnH 2 x5 (fun t => 1 ≤ t.length ∧ t.length ≤ szB 2) :: slH 2 1 v3 1 [ii (0)] :: intsH 2 v2 (([1]) ++ t1) :: cellsH b1 [sN, sN] 72 :: curH .u64 88 cb bsv bs.length :: L)
  refine XL.undraw [] rfl (fun t2 hq9 => ?_)
  obtain ⟨q3, q4⟩ := hq9
  show XL _ _ _ _ _ _ _ (intsH 2 x5 t2 :: slH 2 1 v3 1 [ii (0)] :: intsH 2 v2 (([1]) ++ t1) :: cellsH b1 [sN, sN] 72 :: curH .u64 88 cb bsv bs.length :: L)
  show XL _ _ _ _ _ _ _ (intsH 2 x5 t2 :: intsH 2 v3 ([0] : List Int) :: intsH 2 v2 (([1]) ++ t1) :: cellsH b1 [sN, sN] 72 :: curH .u64 88 cb bsv bs.length :: L)
  refine Qd [] _ _ rfl (fun F5 le5 hz2 => ?_)
  replace hbs := hbs.mono le5
  have hf2 : IntsF F5 x5 t2 := intsH.fz (xs := t2) hz2.fz
  refine cX (Qk [] _ qU typeInfo2 rfl rfl rfl rfl rfl rfl hf2 (by (try simp only [List.length_append, List.length_nil, List.length_cons, List.length_singleton, List.length_take, List.length_drop]); omega) ?_)
  intro v4 hs2 hn2 hm2
  refine jb (ptr cb 0) rfl (cX (jL (args := [ptr cb 0, ii ((1 : Nat) : Int), ii (2)]) call110 rfl (Does.atO [_, _, _] (w9Term_spec 1 (vs := 2) hbs (by omega) (hdp := (by first | assumption | rfl | omega | simp)) (hvs := (by first | assumption | rfl | omega | simp)))) ?_))
  rintro _ F6 _ le6 ⟨x7, ⟨rfl, hsl3⟩, rfl⟩
  replace hbs := hbs.mono le6
  show XL _ _ _ _ _ _ _ (drawnH 2 x7 (fun t => 1 ≤ t.length ∧ t.length ≤ szB 1) :: intsH 2 v4 (([0]) ++ t2) :: intsH 2 v2 (([1]) ++ t1) :: cellsH b1 [sN, sN] 72 :: curH .u64 88 cb bsv bs.length :: L)
  refine XL.undraw [] rfl (fun t3 hq9 => ?_)
  obtain ⟨q5, q6⟩ := hq9
  show XL _ _ _ _ _ _ _ (intsH 2 x7 t3 :: intsH 2 v4 (([0]) ++ t2) :: intsH 2 v2 (([1]) ++ t1) :: cellsH b1 [sN, sN] 72 :: curH .u64 88 cb bsv bs.length :: L)
  refine Qd [] _ _ rfl (fun F7 le7 hz3 => ?_)
  replace hbs := hbs.mono le7
  have hf3 : IntsF F7 x7 t3 := intsH.fz (xs := t3) hz3.fz
  refine cX (Qk [] _ qU typeInfo2 rfl rfl rfl rfl rfl rfl hf3 (by (try simp only [List.length_append, List.length_nil, List.length_cons, List.length_singleton, List.length_take, List.length_drop]); omega) ?_)
  intro v5 hs3 hn3 hm3
  refine jc (v5) rfl (qI (qX (qH (cX (jL (args := []) call106 rfl (w9Sig_spec ) ?_)))))
  rintro _ F8 _ le8 ⟨x8, rfl, hr2, rfl⟩
  replace hbs := hbs.mono le8
  refine jb (v5) rfl (Qd [] _ _ rfl (fun F9 le9 hz4 => ?_))
  replace hbs := hbs.mono le9
  replace hr2 := hr2.mono le9
  have hf4 : IntsF F9 v5 ((([0]) ++ t2) ++ t3) := intsH.fz (xs := (([0]) ++ t2) ++ t3) hz4.fz
  refine cX (jL (args := [.agg #[x8], v5]) call173 rfl (VarsOf_spec hr2 hf4 (hla := (by decide)) (hlt := (by (try simp only [List.length_append, List.length_cons, List.length_nil, List.length_singleton]); omega))) ?_)
  rintro _ F10 _ le10 ⟨x9, x10, rfl, hr3, hr4, hr5, rfl⟩
  replace hbs := hbs.mono le10
  replace hf4 := hf4.mono le10
  refine jc (x9) rfl ?_
  have hvb : ∀ i, i < x10.length → 0 ≤ x10.getD i 0 ∧ x10.getD i 0 ≤ 24 := fun i hi => hr5 _ (by rw [List.getD_eq_getElem?_getD, List.getElem?_eq_getElem hi]; exact List.getElem_mem hi)
  have hvl : x10.length ≤ 100 := by have h9 := hr4; (try simp only [List.length_append, List.length_cons, List.length_nil, List.length_singleton] at h9); omega
  refine qI (qX (qH (jb (ptr cb 0) rfl (cX (jL (args := [ptr cb 0, ii ((3 : Nat) : Int), ii (2)]) call110 rfl (Does.atO [_, _] (w9Term_spec 3 (vs := 2) hbs (by omega) (hdp := (by first | assumption | rfl | omega | simp)) (hvs := (by first | assumption | rfl | omega | simp)))) ?_)))))
  rintro _ F11 _ le11 ⟨x12, ⟨rfl, hsl4⟩, rfl⟩
  replace hbs := hbs.mono le11
  replace hf4 := hf4.mono le11
  replace hr3 := hr3.mono le11
  show XL _ _ _ _ _ _ _ (drawnH 2 x12 (fun t => 1 ≤ t.length ∧ t.length ≤ szB 3) :: intsH 2 v2 (([1]) ++ t1) :: cellsH b1 [sN, sN] 72 :: curH .u64 88 cb bsv bs.length :: L)
  refine XL.undraw [] rfl (fun t4 hq9 => ?_)
  obtain ⟨q7, q8⟩ := hq9
  show XL _ _ _ _ _ _ _ (intsH 2 x12 t4 :: intsH 2 v2 (([1]) ++ t1) :: cellsH b1 [sN, sN] 72 :: curH .u64 88 cb bsv bs.length :: L)
  refine jc (x12) rfl (qI (qX (qX (qH (jc (ii (0)) rfl (qI (yf (yI (α := Nat × List Int × FH) (fun xQ => [(0, ptr cb 0), (2, ptr b1 0), (3, v5), (4, x9), (5, x12), (6, ii (((xQ.1 : Nat) : Int)))]) (fun xQ => intsH 2 x12 xQ.2.1 :: intsH 2 v2 (([1]) ++ t1) :: cellsH b1 [sN, sN] 72 :: curH .u64 88 cb bsv bs.length :: L) (fun xQ F' => xQ.2.2 = F' ∧ F11 ≤ xQ.2.2 ∧ (xQ.1 ≤ xQ.2.1.length) ∧ (xQ.2.1.length = t4.length)) (fun xQ => xQ.2.1.length - xQ.1) (0, t4, F11) ⟨rfl, rfl, rfl, rfl, rfl, rfl, ⟨⟩⟩ (sC (sC (sC (sC sR)))) ⟨rfl, FLe.refl _, (Nat.zero_le _), (rfl)⟩ ?_))))))))
  rintro ⟨k, rr, G1⟩ rE _ _ ⟨rfl, leG, hk, hrl⟩
  show X _ _ _ _ (envs [(0, ptr cb 0), (2, ptr b1 0), (3, v5), (4, x9), (5, x12), (6, ii ((k : Int)))] rE) _ (intsH 2 x12 rr :: intsH 2 v2 (([1]) ++ t1) :: cellsH b1 [sN, sN] 72 :: curH .u64 88 cb bsv bs.length :: L)
  replace leG : F11 ≤ G1 := leG
  dsimp only at hk hrl
  have leG1 := leG
  replace hbs := hbs.mono leG1
  replace hf4 := hf4.mono leG1
  replace hr3 := hr3.mono leG1
  refine qX (qX (qH (jb (ii ((k : Int))) rfl (jb (x12) rfl (cX (jZ qU rfl (intsH.slv [] rfl) (cX (yo rfl rfl (qI ?_)))))))))
  refine jV (p := (k : Int) < (rr.length : Int)) rfl (fun h2 => ?_) (fun h2 => ?_)
  ·refine jU (qX (yf (qX (qH (jb (x12) rfl (jb (ii ((k : Int))) rfl (cX (jq k qU js rfl rfl rfl (intsH.slv [] rfl) (by omega) (Nat.mul_one _) (cX (jj yd rfl (intsH.rd [] rfl (by omega)) (cX (yo rfl rfl (jb (.bool (decide ((rr.getD k 0 : Int) < 0))) rfl ?_)))))))))))))
   by_cases h3 : (rr.getD k 0 : Int) < 0
   ·refine jB (t := 37) rfl (vT h3) (jk (x9) rfl (jB (t := 37) rfl (vT h3) (jZ qU rfl hr3.slv (jB (t := 37) rfl (vT h3) (yU rfl rfl (cX (yp (.bool (decide (((x10.length : Int) : Int) = 0))) (vT h3) rfl (qI ?_))))))))
    refine jV (p := ((x10.length : Int) : Int) = 0) rfl (fun h4 => ?_) (fun h4 => ?_)
    ·refine qH (jb (x12) rfl (jb (ii ((k : Int))) rfl (cX (jq k qU js rfl rfl rfl (intsH.slv [] rfl) (by omega) (Nat.mul_one _) (cX (intsH.storeX (i := k) (v := x12) [] _ (rr.set k 2) js rfl rfl rfl (by omega) rfl (qI (qH (jb (ii ((k : Int))) rfl (cX (yj (((k + 1 : Nat) : Int)) rfl rfl (by omega) (by omega) (jc (ii (((k + 1 : Nat) : Int))) rfl (qI ?_)))))))))))))
     exact ⟨(k + 1, (rr.set k 2), G1), _, leG1, rF, ⟨rfl, rfl, rfl, rfl, rfl, rfl, ⟨⟩⟩, (sC (sC (sC (sC sR)))), ⟨rfl, leG1, (by (try dsimp only); (try rw [List.length_set]); omega), (by (try dsimp only); (try rw [List.length_set]); omega)⟩, (by (try dsimp only); (try rw [List.length_set]); omega)⟩
    refine qX (qH (jb (x12) rfl (jb (ii ((k : Int))) rfl (cX (jq k qU js rfl rfl rfl (intsH.slv [] rfl) (by omega) (Nat.mul_one _) (cX (jj yd rfl (intsH.rd [] rfl (by omega)) (cX (yo rfl rfl (qI (yX (vT h3) (qH (jb (x12) rfl ?_)))))))))))))
    refine jb (ii ((k : Int))) rfl (jb (x9) rfl (jb (ptr cb 0) rfl (jb (x9) rfl (cX (jZ qU rfl hr3.slv (cX (jL (args := [ptr cb 0, ii ((x10.length : Int))]) call14 rfl (Does.at [_, _, _] (below_spec (n := (x10.length : Int)) hbs (by omega) (hn := (by first | assumption | rfl | omega | simp)))) ?_)))))))
    rintro _ _ _ _ ⟨⟨rfl, x13, rfl, hr6⟩, rfl⟩
    show XL _ _ _ _ _ _ _ (intsH 2 x12 rr :: intsH 2 v2 (([1]) ++ t1) :: cellsH b1 [sN, sN] 72 :: curH .u64 88 cb bsv bs.length :: L)
    have hv9 := hvb (x13).toNat (by omega)
    refine cX (jq ((x13).toNat) qU js rfl rfl (by omega) hr3.slv (by omega) (Nat.mul_one _) (cX (jj yd rfl (hr3.rd (by omega)) (cX (yx ((-1) - (x10.getD ((x13).toNat) 0)) rfl rfl (by omega) (by omega) (cX (jq k qU js rfl rfl rfl (intsH.slv [] rfl) (by omega) (Nat.mul_one _) (cX (intsH.storeX (i := k) (v := x12) [] _ (rr.set k ((-1) - (x10.getD ((x13).toNat) 0))) js rfl rfl rfl (by omega) rfl (qI (qH (jb (ii ((k : Int))) rfl (cX (yj (((k + 1 : Nat) : Int)) rfl rfl (by omega) (by omega) (jc (ii (((k + 1 : Nat) : Int))) rfl (qI ?_))))))))))))))))
    exact ⟨(k + 1, (rr.set k ((-1) - (x10.getD ((x13).toNat) 0))), G1), _, leG1, rF, ⟨rfl, rfl, rfl, rfl, rfl, rfl, ⟨⟩⟩, (sC (sC (sC (sC sR)))), ⟨rfl, leG1, (by (try dsimp only); (try rw [List.length_set]); omega), (by (try dsimp only); (try rw [List.length_set]); omega)⟩, (by (try dsimp only); (try rw [List.length_set]); omega)⟩
   refine jA (t := 37) rfl (vF h3) (jA (t := 37) rfl (vF h3) (jA (t := 37) rfl (vF h3) (cX (yl (.bool (false)) (vF h3) rfl (qI (yV rfl (qX (qH (jb (x12) rfl (jb (ii ((k : Int))) rfl (cX (jq k qU js rfl rfl rfl (intsH.slv [] rfl) (by omega) (Nat.mul_one _) ?_))))))))))))
   refine cX (jj yd rfl (intsH.rd [] rfl (by omega)) (cX (yo rfl rfl (qI (yV (vF h3) (jU (qH (jb (ii ((k : Int))) rfl (cX (yj (((k + 1 : Nat) : Int)) rfl rfl (by omega) (by omega) (jc (ii (((k + 1 : Nat) : Int))) rfl (qI ?_))))))))))))
   exact ⟨(k + 1, rr, G1), _, leG1, rF, ⟨rfl, rfl, rfl, rfl, rfl, rfl, ⟨⟩⟩, (sC (sC (sC (sC sR)))), ⟨rfl, leG1, (by (try dsimp only); (try rw [List.length_set]); omega), (by (try dsimp only); (try rw [List.length_set]); omega)⟩, (by (try dsimp only); (try rw [List.length_set]); omega)⟩
  refine yB (jO (jO (yk (qX (qH (jb (v5) rfl (jb (x12) rfl (cX (yJ [v5, x12] [sN, sN] [(0, 1), (1, 1)] [(0, [v5]), (1, [x12])] yu yW rfl (.cons rfl jF (.cons rfl jF PlacesAre.nil)) rfl (.cons (cells_one (yi hf4)) (.cons (cells_one hsl4) CellsAre.nil)) (cX (yL [_, _] _ [v5, x12] yS rfl rfl rfl (jT (yE (yi hf4)) (jT (yE hsl4) yM)) rfl rfl rfl (qI (yz [] _ _ rfl (fun F13 le13 hz5 => ?_))))))))))))))
  replace hbs := hbs.mono le13
  replace hf4 := hf4.mono le13
  have hf5 : IntsF F13 x12 rr := intsH.fz (xs := rr) hz5.fz
  refine jW (jR (L' := curH .u64 88 cb bsv bs.length :: L) [.agg #[v5, x12]] (.agg #[v5, x12]) (.cell rfl (loadNV [v5, x12] isAgg72 yS rfl (Rd.ownN [_] rfl rfl)) .nil) rfl (jl (jl (jl (jl (jl (jl (jl (jl (jl (jl (jl le1 le2) le4) le5) le6) le7) le8) le9) le10) le11) leG1) le13) rF (sD (sD (sC sR))) ?_)
  exact ⟨⟨_, _, rfl, ⟨_, hf4, by (try simp only [List.length_append, List.length_cons, List.length_nil, List.length_singleton]); omega⟩, ⟨_, hf5, by (try simp only [List.length_append, List.length_cons, List.length_nil, List.length_singleton]); omega⟩⟩, rfl⟩
 refine jU (qX (qH (cX (jL (args := []) call106 rfl (w9Sig_spec ) ?_))))
 rintro _ F14 _ le14 ⟨x14, rfl, hr7, rfl⟩
 replace hbs := hbs.mono le14
 refine jb (v2) rfl (Qd [] _ _ rfl (fun F15 le15 hz6 => ?_))
 replace hbs := hbs.mono le15
 replace hr7 := hr7.mono le15
 have hf6 : IntsF F15 v2 (([1]) ++ t1) := intsH.fz (xs := ([1]) ++ t1) hz6.fz
 refine cX (jL (args := [.agg #[x14], v2]) call173 rfl (VarsOf_spec hr7 hf6 (hla := (by decide)) (hlt := (by (try simp only [List.length_append, List.length_cons, List.length_nil, List.length_singleton]); omega))) ?_)
 rintro _ F16 _ le16 ⟨x15, x16, rfl, hr8, hr9, hr10, rfl⟩
 replace hbs := hbs.mono le16
 replace hf6 := hf6.mono le16
 refine jc (x15) rfl ?_
 have hvb : ∀ i, i < x16.length → 0 ≤ x16.getD i 0 ∧ x16.getD i 0 ≤ 24 := fun i hi => hr10 _ (by rw [List.getD_eq_getElem?_getD, List.getElem?_eq_getElem hi]; exact List.getElem_mem hi)
 have hvl : x16.length ≤ 100 := by have h9 := hr9; (try simp only [List.length_append, List.length_cons, List.length_nil, List.length_singleton] at h9); omega
 refine qI (qX (qH (jb (ptr cb 0) rfl (cX (jL (args := [ptr cb 0, ii ((3 : Nat) : Int), ii (2)]) call110 rfl (Does.atO [_] (w9Term_spec 3 (vs := 2) hbs (by omega) (hdp := (by first | assumption | rfl | omega | simp)) (hvs := (by first | assumption | rfl | omega | simp)))) ?_)))))
 rintro _ F17 _ le17 ⟨x18, ⟨rfl, hsl5⟩, rfl⟩
 replace hbs := hbs.mono le17
 replace hf6 := hf6.mono le17
 replace hr8 := hr8.mono le17
 show XL _ _ _ _ _ _ _ (drawnH 2 x18 (fun t => 1 ≤ t.length ∧ t.length ≤ szB 3) :: cellsH b1 [sN, sN] 72 :: curH .u64 88 cb bsv bs.length :: L)
 refine XL.undraw [] rfl (fun t5 hq9 => ?_)
 obtain ⟨q9, q10⟩ := hq9
 show XL _ _ _ _ _ _ _ (intsH 2 x18 t5 :: cellsH b1 [sN, sN] 72 :: curH .u64 88 cb bsv bs.length :: L)
 refine jc (x18) rfl (qI (qX (qX (qH (jc (ii (0)) rfl (qI (yf (yI (α := Nat × List Int × FH) (fun xQ => [(0, ptr cb 0), (2, ptr b1 0), (3, v2), (4, x15), (5, x18), (6, ii (((xQ.1 : Nat) : Int)))]) (fun xQ => intsH 2 x18 xQ.2.1 :: cellsH b1 [sN, sN] 72 :: curH .u64 88 cb bsv bs.length :: L) (fun xQ F' => xQ.2.2 = F' ∧ F17 ≤ xQ.2.2 ∧ (xQ.1 ≤ xQ.2.1.length) ∧ (xQ.2.1.length = t5.length)) (fun xQ => xQ.2.1.length - xQ.1) (0, t5, F17) ⟨rfl, rfl, rfl, rfl, rfl, rfl, ⟨⟩⟩ (sC (sC (sC sR))) ⟨rfl, FLe.refl _, (Nat.zero_le _), (rfl)⟩ ?_))))))))
 rintro ⟨k, rr, G2⟩ rE _ _ ⟨rfl, leG, hk, hrl⟩
 show X _ _ _ _ (envs [(0, ptr cb 0), (2, ptr b1 0), (3, v2), (4, x15), (5, x18), (6, ii ((k : Int)))] rE) _ (intsH 2 x18 rr :: cellsH b1 [sN, sN] 72 :: curH .u64 88 cb bsv bs.length :: L)
 replace leG : F17 ≤ G2 := leG
 dsimp only at hk hrl
 have leG2 := leG
 replace hbs := hbs.mono leG2
 replace hf6 := hf6.mono leG2
 replace hr8 := hr8.mono leG2
 refine qX (qX (qH (jb (ii ((k : Int))) rfl (jb (x18) rfl (cX (jZ qU rfl (intsH.slv [] rfl) (cX (yo rfl rfl (qI ?_)))))))))
 refine jV (p := (k : Int) < (rr.length : Int)) rfl (fun h5 => ?_) (fun h5 => ?_)
 ·refine jU (qX (yf (qX (qH (jb (x18) rfl (jb (ii ((k : Int))) rfl (cX (jq k qU js rfl rfl rfl (intsH.slv [] rfl) (by omega) (Nat.mul_one _) (cX (jj yd rfl (intsH.rd [] rfl (by omega)) (cX (yo rfl rfl (jb (.bool (decide ((rr.getD k 0 : Int) < 0))) rfl ?_)))))))))))))
  by_cases h6 : (rr.getD k 0 : Int) < 0
  ·refine jB (t := 37) rfl (vT h6) (jk (x15) rfl (jB (t := 37) rfl (vT h6) (jZ qU rfl hr8.slv (jB (t := 37) rfl (vT h6) (yU rfl rfl (cX (yp (.bool (decide (((x16.length : Int) : Int) = 0))) (vT h6) rfl (qI ?_))))))))
   refine jV (p := ((x16.length : Int) : Int) = 0) rfl (fun h7 => ?_) (fun h7 => ?_)
   ·refine qH (jb (x18) rfl (jb (ii ((k : Int))) rfl (cX (jq k qU js rfl rfl rfl (intsH.slv [] rfl) (by omega) (Nat.mul_one _) (cX (intsH.storeX (i := k) (v := x18) [] _ (rr.set k 2) js rfl rfl rfl (by omega) rfl (qI (qH (jb (ii ((k : Int))) rfl (cX (yj (((k + 1 : Nat) : Int)) rfl rfl (by omega) (by omega) (jc (ii (((k + 1 : Nat) : Int))) rfl (qI ?_)))))))))))))
    exact ⟨(k + 1, (rr.set k 2), G2), _, leG2, rF, ⟨rfl, rfl, rfl, rfl, rfl, rfl, ⟨⟩⟩, (sC (sC (sC sR))), ⟨rfl, leG2, (by (try dsimp only); (try rw [List.length_set]); omega), (by (try dsimp only); (try rw [List.length_set]); omega)⟩, (by (try dsimp only); (try rw [List.length_set]); omega)⟩
   refine qX (qH (jb (x18) rfl (jb (ii ((k : Int))) rfl (cX (jq k qU js rfl rfl rfl (intsH.slv [] rfl) (by omega) (Nat.mul_one _) (cX (jj yd rfl (intsH.rd [] rfl (by omega)) (cX (yo rfl rfl (qI (yX (vT h6) (qH (jb (x18) rfl ?_)))))))))))))
   refine jb (ii ((k : Int))) rfl (jb (x15) rfl (jb (ptr cb 0) rfl (jb (x15) rfl (cX (jZ qU rfl hr8.slv (cX (jL (args := [ptr cb 0, ii ((x16.length : Int))]) call14 rfl (Does.at [_, _] (below_spec (n := (x16.length : Int)) hbs (by omega) (hn := (by first | assumption | rfl | omega | simp)))) ?_)))))))
   rintro _ _ _ _ ⟨⟨rfl, x19, rfl, hr11⟩, rfl⟩
   show XL _ _ _ _ _ _ _ (intsH 2 x18 rr :: cellsH b1 [sN, sN] 72 :: curH .u64 88 cb bsv bs.length :: L)
   have hv9 := hvb (x19).toNat (by omega)
   refine cX (jq ((x19).toNat) qU js rfl rfl (by omega) hr8.slv (by omega) (Nat.mul_one _) (cX (jj yd rfl (hr8.rd (by omega)) (cX (yx ((-1) - (x16.getD ((x19).toNat) 0)) rfl rfl (by omega) (by omega) (cX (jq k qU js rfl rfl rfl (intsH.slv [] rfl) (by omega) (Nat.mul_one _) (cX (intsH.storeX (i := k) (v := x18) [] _ (rr.set k ((-1) - (x16.getD ((x19).toNat) 0))) js rfl rfl rfl (by omega) rfl (qI (qH (jb (ii ((k : Int))) rfl (cX (yj (((k + 1 : Nat) : Int)) rfl rfl (by omega) (by omega) (jc (ii (((k + 1 : Nat) : Int))) rfl (qI ?_))))))))))))))))
   exact ⟨(k + 1, (rr.set k ((-1) - (x16.getD ((x19).toNat) 0))), G2), _, leG2, rF, ⟨rfl, rfl, rfl, rfl, rfl, rfl, ⟨⟩⟩, (sC (sC (sC sR))), ⟨rfl, leG2, (by (try dsimp only); (try rw [List.length_set]); omega), (by (try dsimp only); (try rw [List.length_set]); omega)⟩, (by (try dsimp only); (try rw [List.length_set]); omega)⟩
  refine jA (t := 37) rfl (vF h6) (jA (t := 37) rfl (vF h6) (jA (t := 37) rfl (vF h6) (cX (yl (.bool (false)) (vF h6) rfl (qI (yV rfl (qX (qH (jb (x18) rfl (jb (ii ((k : Int))) rfl (cX (jq k qU js rfl rfl rfl (intsH.slv [] rfl) (by omega) (Nat.mul_one _) ?_))))))))))))
  refine cX (jj yd rfl (intsH.rd [] rfl (by omega)) (cX (yo rfl rfl (qI (yV (vF h6) (jU (qH (jb (ii ((k : Int))) rfl (cX (yj (((k + 1 : Nat) : Int)) rfl rfl (by omega) (by omega) (jc (ii (((k + 1 : Nat) : Int))) rfl (qI ?_))))))))))))
  exact ⟨(k + 1, rr, G2), _, leG2, rF, ⟨rfl, rfl, rfl, rfl, rfl, rfl, ⟨⟩⟩, (sC (sC (sC sR))), ⟨rfl, leG2, (by (try dsimp only); (try rw [List.length_set]); omega), (by (try dsimp only); (try rw [List.length_set]); omega)⟩, (by (try dsimp only); (try rw [List.length_set]); omega)⟩
 refine yB (jO (jO (yk (qX (qH (jb (v2) rfl (jb (x18) rfl (cX (yJ [v2, x18] [sN, sN] [(0, 1), (1, 1)] [(0, [v2]), (1, [x18])] yu yW rfl (.cons rfl jF (.cons rfl jF PlacesAre.nil)) rfl (.cons (cells_one (yi hf6)) (.cons (cells_one hsl5) CellsAre.nil)) (cX (yL [_] _ [v2, x18] yS rfl rfl rfl (jT (yE (yi hf6)) (jT (yE hsl5) yM)) rfl rfl rfl (qI (yz [] _ _ rfl (fun F19 le19 hz7 => ?_))))))))))))))
 replace hf6 := hf6.mono le19
 have hf7 : IntsF F19 x18 rr := intsH.fz (xs := rr) hz7.fz
 refine jW (jR (L' := curH .u64 88 cb bsv bs.length :: L) [.agg #[v2, x18]] (.agg #[v2, x18]) (.cell rfl (loadNV [v2, x18] isAgg72 yS rfl (Rd.ownN [] rfl rfl)) .nil) rfl (jl (jl (jl (jl (jl (jl (jl le1 le2) le14) le15) le16) le17) leG2) le19) rF (sD (sC sR)) ?_)
 exact ⟨⟨_, _, rfl, ⟨_, hf6, by (try simp only [List.length_append, List.length_cons, List.length_nil, List.length_singleton]); omega⟩, ⟨_, hf7, by (try simp only [List.length_append, List.length_cons, List.length_nil, List.length_singleton]); omega⟩⟩, rfl⟩

/- laws.w9Known -/
set_option maxRecDepth 20000 in
theorem w9Known_spec {F : FH} {L : List HP} {k : Int} :
    Does prog 107 [ii (k)] F (L) (fun v F' L' => ∃ (b : Value), ∃ (rs : List (List Int × List Int)), (b : Value) = v ∧ (PairsF F' b rs) ∧ (rs.length ≤ 4) ∧ (smallR rs) ∧ L = L') := by
 refine ym func107 rfl rfl rfl (qX (qH (jc (sN) rfl (qI (qX (qX (qH (jb (ii (k)) rfl (qI (yf (qX (qH (cX (yU rfl rfl (jc (.bool (decide ((k : Int) = 0))) rfl (qI ?_))))))))))))))))
 refine jV (p := (k : Int) = 0) rfl (fun h1 => ?_) (fun h1 => ?_)
 ·refine qX (qH (cX (jQ (s := 1) [ii (0), ii (2), ii (-1)] [ii (0)] [(0, [ii (0)]), (1, [ii (2)]), (2, [ii (-1)])] qU js yv rfl (by decide) rfl (.cons rfl (.cons rfl (.cons rfl CellsAre.nil))) rfl ?_)))
  intro v1 hv1
  refine cX (jQ (s := 1) [ii (-1)] [ii (0)] [(0, [ii (-1)])] qU js yv rfl (by decide) rfl (.cons rfl CellsAre.nil) rfl ?_)
  intro v2 hv2
  refine cX (yJ [v1, v2] [sN, sN] [(0, 1), (1, 1)] [(0, [v1]), (1, [v2])] yu yW rfl (.cons rfl jF (.cons rfl jF PlacesAre.nil)) rfl (.cons (cells_one (yH hv1)) (.cons (cells_one (yH hv2)) CellsAre.nil)) (cX (jQ (s := 1) [ii (0), ii (1), ii (-1), ii (-2)] [ii (0)] [(0, [ii (0)]), (1, [ii (1)]), (2, [ii (-1)]), (3, [ii (-2)])] qU js yv rfl (by decide) rfl (.cons rfl (.cons rfl (.cons rfl (.cons rfl CellsAre.nil)))) rfl ?_)))
  intro v3 hv3
  refine cX (jQ (s := 1) [ii (1), ii (0), ii (-1), ii (-2)] [ii (0)] [(0, [ii (1)]), (1, [ii (0)]), (2, [ii (-1)]), (3, [ii (-2)])] qU js yv rfl (by decide) rfl (.cons rfl (.cons rfl (.cons rfl (.cons rfl CellsAre.nil)))) rfl ?_)
  intro v4 hv4
  refine cX (yJ [v3, v4] [sN, sN] [(0, 1), (1, 1)] [(0, [v3]), (1, [v4])] yu yW rfl (.cons rfl jF (.cons rfl jF PlacesAre.nil)) rfl (.cons (cells_one (yH hv3)) (.cons (cells_one (yH hv4)) CellsAre.nil)) (cX (jQ (s := 2) [v1, v2, v3, v4] [sN, sN] [(0, [v1, v2]), (1, [v3, v4])] yy yS yW rfl (by decide) rfl (.cons rfl (.cons rfl CellsAre.nil)) rfl ?_)))
  intro v5 hv5
  refine jc (v5) rfl (qI ?_)
  show X _ _ _ _ _ _ (slH 72 2 v5 2 [v1, v2, v3, v4] :: slH 2 1 v4 4 [ii (1), ii (0), ii (-1), ii (-2)] :: slH 2 1 v3 4 [ii (0), ii (1), ii (-1), ii (-2)] :: slH 2 1 v2 1 [ii (-1)] :: intsH 2 v1 ([0, 2, -1] : List Int) :: L)
  refine yz [_, _, _, _] _ _ rfl (fun F1 le1 hz1 => ?_)
  have hf1 : IntsF F1 v1 ([0, 2, -1]) := intsH.fz (xs := [0, 2, -1]) hz1.fz
  show X _ _ _ _ _ _ (slH 72 2 v5 2 [v1, v2, v3, v4] :: slH 2 1 v4 4 [ii (1), ii (0), ii (-1), ii (-2)] :: slH 2 1 v3 4 [ii (0), ii (1), ii (-1), ii (-2)] :: intsH 2 v2 ([-1] : List Int) :: L)
  refine yz [_, _, _] _ _ rfl (fun F2 le2 hz2 => ?_)
  replace hf1 := hf1.mono le2
  have hf2 : IntsF F2 v2 ([-1]) := intsH.fz (xs := [-1]) hz2.fz
  show X _ _ _ _ _ _ (slH 72 2 v5 2 [v1, v2, v3, v4] :: slH 2 1 v4 4 [ii (1), ii (0), ii (-1), ii (-2)] :: intsH 2 v3 ([0, 1, -1, -2] : List Int) :: L)
  refine yz [_, _] _ _ rfl (fun F3 le3 hz3 => ?_)
  replace hf1 := hf1.mono le3
  replace hf2 := hf2.mono le3
  have hf3 : IntsF F3 v3 ([0, 1, -1, -2]) := intsH.fz (xs := [0, 1, -1, -2]) hz3.fz
  show X _ _ _ _ _ _ (slH 72 2 v5 2 [v1, v2, v3, v4] :: intsH 2 v4 ([1, 0, -1, -2] : List Int) :: L)
  refine yz [_] _ _ rfl (fun F4 le4 hz4 => ?_)
  replace hf1 := hf1.mono le4
  replace hf2 := hf2.mono le4
  replace hf3 := hf3.mono le4
  have hf4 : IntsF F4 v4 ([1, 0, -1, -2]) := intsH.fz (xs := [1, 0, -1, -2]) hz4.fz
  have hc1 : PairsC F4 [v1, v2, v3, v4] ([([0, 2, -1], [-1]), ([0, 1, -1, -2], [1, 0, -1, -2])] : List (List Int × List Int)) := (PairsC.snoc (PairsC.snoc (CO.nil : PairsC F4 [] []) hf1 hf2) hf3 hf4)
  refine yz [] _ _ rfl (fun F5 le5 hz5 => ?_)
  replace hc1 := hc1.mono le5
  have hf5 : PairsF F5 v5 (([([0, 2, -1], [-1]), ([0, 1, -1, -2], [1, 0, -1, -2])] : List (List Int × List Int))) := CO.fz hc1 (by first | rfl | omega | (rw [List.length_set]; omega) | (simp; done)) hz5.fz
  refine jW (ya (jw (jR (L' := L) [v5] (v5) (.tmp rfl .nil) rfl (jl (jl (jl (jl le1 le2) le3) le4) le5) rF sR ?_)))
  exact ⟨_, _, rfl, hf5, by decide, by unfold smallR; decide, rfl⟩
 refine qX (qH (cX (yU rfl rfl (jc (.bool (decide ((k : Int) = 1))) rfl (qI ?_)))))
 refine jV (p := (k : Int) = 1) rfl (fun h2 => ?_) (fun h2 => ?_)
 ·refine qX (qH (cX (jQ (s := 1) [ii (0), ii (0), ii (-1), ii (-2), ii (-3)] [ii (0)] [(0, [ii (0)]), (1, [ii (0)]), (2, [ii (-1)]), (3, [ii (-2)]), (4, [ii (-3)])] qU js yv rfl (by decide) rfl (.cons rfl (.cons rfl (.cons rfl (.cons rfl (.cons rfl CellsAre.nil))))) rfl ?_)))
  intro v6 hv6
  refine cX (jQ (s := 1) [ii (0), ii (-1), ii (0), ii (-2), ii (-3)] [ii (0)] [(0, [ii (0)]), (1, [ii (-1)]), (2, [ii (0)]), (3, [ii (-2)]), (4, [ii (-3)])] qU js yv rfl (by decide) rfl (.cons rfl (.cons rfl (.cons rfl (.cons rfl (.cons rfl CellsAre.nil))))) rfl ?_)
  intro v7 hv7
  refine cX (yJ [v6, v7] [sN, sN] [(0, 1), (1, 1)] [(0, [v6]), (1, [v7])] yu yW rfl (.cons rfl jF (.cons rfl jF PlacesAre.nil)) rfl (.cons (cells_one (yH hv6)) (.cons (cells_one (yH hv7)) CellsAre.nil)) (cX (jQ (s := 2) [v6, v7] [sN, sN] [(0, [v6, v7])] yy yS yW rfl (by decide) rfl (.cons rfl CellsAre.nil) rfl ?_)))
  intro v8 hv8
  refine jc (v8) rfl (qI ?_)
  show X _ _ _ _ _ _ (slH 72 2 v8 1 [v6, v7] :: slH 2 1 v7 5 [ii (0), ii (-1), ii (0), ii (-2), ii (-3)] :: intsH 2 v6 ([0, 0, -1, -2, -3] : List Int) :: L)
  refine yz [_, _] _ _ rfl (fun F6 le6 hz6 => ?_)
  have hf6 : IntsF F6 v6 ([0, 0, -1, -2, -3]) := intsH.fz (xs := [0, 0, -1, -2, -3]) hz6.fz
  show X _ _ _ _ _ _ (slH 72 2 v8 1 [v6, v7] :: intsH 2 v7 ([0, -1, 0, -2, -3] : List Int) :: L)
  refine yz [_] _ _ rfl (fun F7 le7 hz7 => ?_)
  replace hf6 := hf6.mono le7
  have hf7 : IntsF F7 v7 ([0, -1, 0, -2, -3]) := intsH.fz (xs := [0, -1, 0, -2, -3]) hz7.fz
  have hc2 : PairsC F7 [v6, v7] ([([0, 0, -1, -2, -3], [0, -1, 0, -2, -3])] : List (List Int × List Int)) := (PairsC.snoc (CO.nil : PairsC F7 [] []) hf6 hf7)
  refine yz [] _ _ rfl (fun F8 le8 hz8 => ?_)
  replace hc2 := hc2.mono le8
  have hf8 : PairsF F8 v8 (([([0, 0, -1, -2, -3], [0, -1, 0, -2, -3])] : List (List Int × List Int))) := CO.fz hc2 (by first | rfl | omega | (rw [List.length_set]; omega) | (simp; done)) hz8.fz
  refine jW (ya (jw (jR (L' := L) [v8] (v8) (.tmp rfl .nil) rfl (jl (jl le6 le7) le8) rF sR ?_)))
  exact ⟨_, _, rfl, hf8, by decide, by unfold smallR; decide, rfl⟩
 refine qX (qH (cX (yU rfl rfl (jc (.bool (decide ((k : Int) = 2))) rfl (qI ?_)))))
 refine jV (p := (k : Int) = 2) rfl (fun h3 => ?_) (fun h3 => ?_)
 ·refine qX (qH (cX (jQ (s := 1) [ii (1), ii (1), ii (-1)] [ii (0)] [(0, [ii (1)]), (1, [ii (1)]), (2, [ii (-1)])] qU js yv rfl (by decide) rfl (.cons rfl (.cons rfl (.cons rfl CellsAre.nil))) rfl ?_)))
  intro v9 hv9
  refine cX (jQ (s := 1) [ii (-1)] [ii (0)] [(0, [ii (-1)])] qU js yv rfl (by decide) rfl (.cons rfl CellsAre.nil) rfl ?_)
  intro v10 hv10
  refine cX (yJ [v9, v10] [sN, sN] [(0, 1), (1, 1)] [(0, [v9]), (1, [v10])] yu yW rfl (.cons rfl jF (.cons rfl jF PlacesAre.nil)) rfl (.cons (cells_one (yH hv9)) (.cons (cells_one (yH hv10)) CellsAre.nil)) (cX (jQ (s := 2) [v9, v10] [sN, sN] [(0, [v9, v10])] yy yS yW rfl (by decide) rfl (.cons rfl CellsAre.nil) rfl ?_)))
  intro v11 hv11
  refine jc (v11) rfl (qI ?_)
  show X _ _ _ _ _ _ (slH 72 2 v11 1 [v9, v10] :: slH 2 1 v10 1 [ii (-1)] :: intsH 2 v9 ([1, 1, -1] : List Int) :: L)
  refine yz [_, _] _ _ rfl (fun F9 le9 hz9 => ?_)
  have hf9 : IntsF F9 v9 ([1, 1, -1]) := intsH.fz (xs := [1, 1, -1]) hz9.fz
  show X _ _ _ _ _ _ (slH 72 2 v11 1 [v9, v10] :: intsH 2 v10 ([-1] : List Int) :: L)
  refine yz [_] _ _ rfl (fun F10 le10 hz10 => ?_)
  replace hf9 := hf9.mono le10
  have hf10 : IntsF F10 v10 ([-1]) := intsH.fz (xs := [-1]) hz10.fz
  have hc3 : PairsC F10 [v9, v10] ([([1, 1, -1], [-1])] : List (List Int × List Int)) := (PairsC.snoc (CO.nil : PairsC F10 [] []) hf9 hf10)
  refine yz [] _ _ rfl (fun F11 le11 hz11 => ?_)
  replace hc3 := hc3.mono le11
  have hf11 : PairsF F11 v11 (([([1, 1, -1], [-1])] : List (List Int × List Int))) := CO.fz hc3 (by first | rfl | omega | (rw [List.length_set]; omega) | (simp; done)) hz11.fz
  refine jW (ya (jw (jR (L' := L) [v11] (v11) (.tmp rfl .nil) rfl (jl (jl le9 le10) le11) rF sR ?_)))
  exact ⟨_, _, rfl, hf11, by decide, by unfold smallR; decide, rfl⟩
 refine qX (qH (cX (yU rfl rfl (jc (.bool (decide ((k : Int) = 3))) rfl (qI ?_)))))
 refine jV (p := (k : Int) = 3) rfl (fun h4 => ?_) (fun h4 => ?_)
 ·refine qX (qH (cX (jQ (s := 1) [ii (0), ii (-1), ii (2)] [ii (0)] [(0, [ii (0)]), (1, [ii (-1)]), (2, [ii (2)])] qU js yv rfl (by decide) rfl (.cons rfl (.cons rfl (.cons rfl CellsAre.nil))) rfl ?_)))
  intro v12 hv12
  refine cX (jQ (s := 1) [ii (-1)] [ii (0)] [(0, [ii (-1)])] qU js yv rfl (by decide) rfl (.cons rfl CellsAre.nil) rfl ?_)
  intro v13 hv13
  refine cX (yJ [v12, v13] [sN, sN] [(0, 1), (1, 1)] [(0, [v12]), (1, [v13])] yu yW rfl (.cons rfl jF (.cons rfl jF PlacesAre.nil)) rfl (.cons (cells_one (yH hv12)) (.cons (cells_one (yH hv13)) CellsAre.nil)) (cX (jQ (s := 1) [ii (0), ii (1), ii (-1), ii (1), ii (-2)] [ii (0)] [(0, [ii (0)]), (1, [ii (1)]), (2, [ii (-1)]), (3, [ii (1)]), (4, [ii (-2)])] qU js yv rfl (by decide) rfl (.cons rfl (.cons rfl (.cons rfl (.cons rfl (.cons rfl CellsAre.nil))))) rfl ?_)))
  intro v14 hv14
  refine cX (jQ (s := 1) [ii (0), ii (-1), ii (-2)] [ii (0)] [(0, [ii (0)]), (1, [ii (-1)]), (2, [ii (-2)])] qU js yv rfl (by decide) rfl (.cons rfl (.cons rfl (.cons rfl CellsAre.nil))) rfl ?_)
  intro v15 hv15
  refine cX (yJ [v14, v15] [sN, sN] [(0, 1), (1, 1)] [(0, [v14]), (1, [v15])] yu yW rfl (.cons rfl jF (.cons rfl jF PlacesAre.nil)) rfl (.cons (cells_one (yH hv14)) (.cons (cells_one (yH hv15)) CellsAre.nil)) (cX (jQ (s := 2) [v12, v13, v14, v15] [sN, sN] [(0, [v12, v13]), (1, [v14, v15])] yy yS yW rfl (by decide) rfl (.cons rfl (.cons rfl CellsAre.nil)) rfl ?_)))
  intro v16 hv16
  refine jc (v16) rfl (qI ?_)
  show X _ _ _ _ _ _ (slH 72 2 v16 2 [v12, v13, v14, v15] :: slH 2 1 v15 3 [ii (0), ii (-1), ii (-2)] :: slH 2 1 v14 5 [ii (0), ii (1), ii (-1), ii (1), ii (-2)] :: slH 2 1 v13 1 [ii (-1)] :: intsH 2 v12 ([0, -1, 2] : List Int) :: L)
  refine yz [_, _, _, _] _ _ rfl (fun F12 le12 hz12 => ?_)
  have hf12 : IntsF F12 v12 ([0, -1, 2]) := intsH.fz (xs := [0, -1, 2]) hz12.fz
  show X _ _ _ _ _ _ (slH 72 2 v16 2 [v12, v13, v14, v15] :: slH 2 1 v15 3 [ii (0), ii (-1), ii (-2)] :: slH 2 1 v14 5 [ii (0), ii (1), ii (-1), ii (1), ii (-2)] :: intsH 2 v13 ([-1] : List Int) :: L)
  refine yz [_, _, _] _ _ rfl (fun F13 le13 hz13 => ?_)
  replace hf12 := hf12.mono le13
  have hf13 : IntsF F13 v13 ([-1]) := intsH.fz (xs := [-1]) hz13.fz
  show X _ _ _ _ _ _ (slH 72 2 v16 2 [v12, v13, v14, v15] :: slH 2 1 v15 3 [ii (0), ii (-1), ii (-2)] :: intsH 2 v14 ([0, 1, -1, 1, -2] : List Int) :: L)
  refine yz [_, _] _ _ rfl (fun F14 le14 hz14 => ?_)
  replace hf12 := hf12.mono le14
  replace hf13 := hf13.mono le14
  have hf14 : IntsF F14 v14 ([0, 1, -1, 1, -2]) := intsH.fz (xs := [0, 1, -1, 1, -2]) hz14.fz
  show X _ _ _ _ _ _ (slH 72 2 v16 2 [v12, v13, v14, v15] :: intsH 2 v15 ([0, -1, -2] : List Int) :: L)
  refine yz [_] _ _ rfl (fun F15 le15 hz15 => ?_)
  replace hf12 := hf12.mono le15
  replace hf13 := hf13.mono le15
  replace hf14 := hf14.mono le15
  have hf15 : IntsF F15 v15 ([0, -1, -2]) := intsH.fz (xs := [0, -1, -2]) hz15.fz
  have hc4 : PairsC F15 [v12, v13, v14, v15] ([([0, -1, 2], [-1]), ([0, 1, -1, 1, -2], [0, -1, -2])] : List (List Int × List Int)) := (PairsC.snoc (PairsC.snoc (CO.nil : PairsC F15 [] []) hf12 hf13) hf14 hf15)
  refine yz [] _ _ rfl (fun F16 le16 hz16 => ?_)
  replace hc4 := hc4.mono le16
  have hf16 : PairsF F16 v16 (([([0, -1, 2], [-1]), ([0, 1, -1, 1, -2], [0, -1, -2])] : List (List Int × List Int))) := CO.fz hc4 (by first | rfl | omega | (rw [List.length_set]; omega) | (simp; done)) hz16.fz
  refine jW (ya (jw (jR (L' := L) [v16] (v16) (.tmp rfl .nil) rfl (jl (jl (jl (jl le12 le13) le14) le15) le16) rF sR ?_)))
  exact ⟨_, _, rfl, hf16, by decide, by unfold smallR; decide, rfl⟩
 refine qX (qH (cX (yU rfl rfl (jc (.bool (decide ((k : Int) = 4))) rfl (qI ?_)))))
 refine jV (p := (k : Int) = 4) rfl (fun h5 => ?_) (fun h5 => ?_)
 ·refine qX (qH (cX (jQ (s := 1) [ii (1), ii (2)] [ii (0)] [(0, [ii (1)]), (1, [ii (2)])] qU js yv rfl (by decide) rfl (.cons rfl (.cons rfl CellsAre.nil)) rfl ?_)))
  intro v17 hv17
  refine cX (jQ (s := 1) [ii (2)] [ii (0)] [(0, [ii (2)])] qU js yv rfl (by decide) rfl (.cons rfl CellsAre.nil) rfl ?_)
  intro v18 hv18
  refine cX (yJ [v17, v18] [sN, sN] [(0, 1), (1, 1)] [(0, [v17]), (1, [v18])] yu yW rfl (.cons rfl jF (.cons rfl jF PlacesAre.nil)) rfl (.cons (cells_one (yH hv17)) (.cons (cells_one (yH hv18)) CellsAre.nil)) (cX (jQ (s := 1) [ii (1), ii (0), ii (-1), ii (-2)] [ii (0)] [(0, [ii (1)]), (1, [ii (0)]), (2, [ii (-1)]), (3, [ii (-2)])] qU js yv rfl (by decide) rfl (.cons rfl (.cons rfl (.cons rfl (.cons rfl CellsAre.nil)))) rfl ?_)))
  intro v19 hv19
  refine cX (jQ (s := 1) [ii (0), ii (1), ii (-2), ii (1), ii (-1)] [ii (0)] [(0, [ii (0)]), (1, [ii (1)]), (2, [ii (-2)]), (3, [ii (1)]), (4, [ii (-1)])] qU js yv rfl (by decide) rfl (.cons rfl (.cons rfl (.cons rfl (.cons rfl (.cons rfl CellsAre.nil))))) rfl ?_)
  intro v20 hv20
  refine cX (yJ [v19, v20] [sN, sN] [(0, 1), (1, 1)] [(0, [v19]), (1, [v20])] yu yW rfl (.cons rfl jF (.cons rfl jF PlacesAre.nil)) rfl (.cons (cells_one (yH hv19)) (.cons (cells_one (yH hv20)) CellsAre.nil)) (cX (jQ (s := 2) [v17, v18, v19, v20] [sN, sN] [(0, [v17, v18]), (1, [v19, v20])] yy yS yW rfl (by decide) rfl (.cons rfl (.cons rfl CellsAre.nil)) rfl ?_)))
  intro v21 hv21
  refine jc (v21) rfl (qI ?_)
  show X _ _ _ _ _ _ (slH 72 2 v21 2 [v17, v18, v19, v20] :: slH 2 1 v20 5 [ii (0), ii (1), ii (-2), ii (1), ii (-1)] :: slH 2 1 v19 4 [ii (1), ii (0), ii (-1), ii (-2)] :: slH 2 1 v18 1 [ii (2)] :: intsH 2 v17 ([1, 2] : List Int) :: L)
  refine yz [_, _, _, _] _ _ rfl (fun F17 le17 hz17 => ?_)
  have hf17 : IntsF F17 v17 ([1, 2]) := intsH.fz (xs := [1, 2]) hz17.fz
  show X _ _ _ _ _ _ (slH 72 2 v21 2 [v17, v18, v19, v20] :: slH 2 1 v20 5 [ii (0), ii (1), ii (-2), ii (1), ii (-1)] :: slH 2 1 v19 4 [ii (1), ii (0), ii (-1), ii (-2)] :: intsH 2 v18 ([2] : List Int) :: L)
  refine yz [_, _, _] _ _ rfl (fun F18 le18 hz18 => ?_)
  replace hf17 := hf17.mono le18
  have hf18 : IntsF F18 v18 ([2]) := intsH.fz (xs := [2]) hz18.fz
  show X _ _ _ _ _ _ (slH 72 2 v21 2 [v17, v18, v19, v20] :: slH 2 1 v20 5 [ii (0), ii (1), ii (-2), ii (1), ii (-1)] :: intsH 2 v19 ([1, 0, -1, -2] : List Int) :: L)
  refine yz [_, _] _ _ rfl (fun F19 le19 hz19 => ?_)
  replace hf17 := hf17.mono le19
  replace hf18 := hf18.mono le19
  have hf19 : IntsF F19 v19 ([1, 0, -1, -2]) := intsH.fz (xs := [1, 0, -1, -2]) hz19.fz
  show X _ _ _ _ _ _ (slH 72 2 v21 2 [v17, v18, v19, v20] :: intsH 2 v20 ([0, 1, -2, 1, -1] : List Int) :: L)
  refine yz [_] _ _ rfl (fun F20 le20 hz20 => ?_)
  replace hf17 := hf17.mono le20
  replace hf18 := hf18.mono le20
  replace hf19 := hf19.mono le20
  have hf20 : IntsF F20 v20 ([0, 1, -2, 1, -1]) := intsH.fz (xs := [0, 1, -2, 1, -1]) hz20.fz
  have hc5 : PairsC F20 [v17, v18, v19, v20] ([([1, 2], [2]), ([1, 0, -1, -2], [0, 1, -2, 1, -1])] : List (List Int × List Int)) := (PairsC.snoc (PairsC.snoc (CO.nil : PairsC F20 [] []) hf17 hf18) hf19 hf20)
  refine yz [] _ _ rfl (fun F21 le21 hz21 => ?_)
  replace hc5 := hc5.mono le21
  have hf21 : PairsF F21 v21 (([([1, 2], [2]), ([1, 0, -1, -2], [0, 1, -2, 1, -1])] : List (List Int × List Int))) := CO.fz hc5 (by first | rfl | omega | (rw [List.length_set]; omega) | (simp; done)) hz21.fz
  refine jW (ya (jw (jR (L' := L) [v21] (v21) (.tmp rfl .nil) rfl (jl (jl (jl (jl le17 le18) le19) le20) le21) rF sR ?_)))
  exact ⟨_, _, rfl, hf21, by decide, by unfold smallR; decide, rfl⟩
 refine jU (qX (qH (cX (jQ (s := 1) [ii (0), ii (2), ii (-1)] [ii (0)] [(0, [ii (0)]), (1, [ii (2)]), (2, [ii (-1)])] qU js yv rfl (by decide) rfl (.cons rfl (.cons rfl (.cons rfl CellsAre.nil))) rfl ?_))))
 intro v22 hv22
 refine cX (jQ (s := 1) [ii (-1)] [ii (0)] [(0, [ii (-1)])] qU js yv rfl (by decide) rfl (.cons rfl CellsAre.nil) rfl ?_)
 intro v23 hv23
 refine cX (yJ [v22, v23] [sN, sN] [(0, 1), (1, 1)] [(0, [v22]), (1, [v23])] yu yW rfl (.cons rfl jF (.cons rfl jF PlacesAre.nil)) rfl (.cons (cells_one (yH hv22)) (.cons (cells_one (yH hv23)) CellsAre.nil)) (cX (jQ (s := 1) [ii (0), ii (-1), ii (2)] [ii (0)] [(0, [ii (0)]), (1, [ii (-1)]), (2, [ii (2)])] qU js yv rfl (by decide) rfl (.cons rfl (.cons rfl (.cons rfl CellsAre.nil))) rfl ?_)))
 intro v24 hv24
 refine cX (jQ (s := 1) [ii (-1)] [ii (0)] [(0, [ii (-1)])] qU js yv rfl (by decide) rfl (.cons rfl CellsAre.nil) rfl ?_)
 intro v25 hv25
 refine cX (yJ [v24, v25] [sN, sN] [(0, 1), (1, 1)] [(0, [v24]), (1, [v25])] yu yW rfl (.cons rfl jF (.cons rfl jF PlacesAre.nil)) rfl (.cons (cells_one (yH hv24)) (.cons (cells_one (yH hv25)) CellsAre.nil)) (cX (jQ (s := 1) [ii (0), ii (0), ii (-1), ii (-2), ii (-3)] [ii (0)] [(0, [ii (0)]), (1, [ii (0)]), (2, [ii (-1)]), (3, [ii (-2)]), (4, [ii (-3)])] qU js yv rfl (by decide) rfl (.cons rfl (.cons rfl (.cons rfl (.cons rfl (.cons rfl CellsAre.nil))))) rfl ?_)))
 intro v26 hv26
 refine cX (jQ (s := 1) [ii (0), ii (-1), ii (0), ii (-2), ii (-3)] [ii (0)] [(0, [ii (0)]), (1, [ii (-1)]), (2, [ii (0)]), (3, [ii (-2)]), (4, [ii (-3)])] qU js yv rfl (by decide) rfl (.cons rfl (.cons rfl (.cons rfl (.cons rfl (.cons rfl CellsAre.nil))))) rfl ?_)
 intro v27 hv27
 refine cX (yJ [v26, v27] [sN, sN] [(0, 1), (1, 1)] [(0, [v26]), (1, [v27])] yu yW rfl (.cons rfl jF (.cons rfl jF PlacesAre.nil)) rfl (.cons (cells_one (yH hv26)) (.cons (cells_one (yH hv27)) CellsAre.nil)) (cX (jQ (s := 2) [v22, v23, v24, v25, v26, v27] [sN, sN] [(0, [v22, v23]), (1, [v24, v25]), (2, [v26, v27])] yy yS yW rfl (by decide) rfl (.cons rfl (.cons rfl (.cons rfl CellsAre.nil))) rfl ?_)))
 intro v28 hv28
 refine jc (v28) rfl (qI ?_)
 show X _ _ _ _ _ _ (slH 72 2 v28 3 [v22, v23, v24, v25, v26, v27] :: slH 2 1 v27 5 [ii (0), ii (-1), ii (0), ii (-2), ii (-3)] :: slH 2 1 v26 5 [ii (0), ii (0), ii (-1), ii (-2), ii (-3)] :: slH 2 1 v25 1 [ii (-1)] :: slH 2 1 v24 3 [ii (0), ii (-1), ii (2)] :: slH 2 1 v23 1 [ii (-1)] :: intsH 2 v22 ([0, 2, -1] : List Int) :: L)
 refine yz [_, _, _, _, _, _] _ _ rfl (fun F22 le22 hz22 => ?_)
 have hf22 : IntsF F22 v22 ([0, 2, -1]) := intsH.fz (xs := [0, 2, -1]) hz22.fz
 show X _ _ _ _ _ _ (slH 72 2 v28 3 [v22, v23, v24, v25, v26, v27] :: slH 2 1 v27 5 [ii (0), ii (-1), ii (0), ii (-2), ii (-3)] :: slH 2 1 v26 5 [ii (0), ii (0), ii (-1), ii (-2), ii (-3)] :: slH 2 1 v25 1 [ii (-1)] :: slH 2 1 v24 3 [ii (0), ii (-1), ii (2)] :: intsH 2 v23 ([-1] : List Int) :: L)
 refine yz [_, _, _, _, _] _ _ rfl (fun F23 le23 hz23 => ?_)
 replace hf22 := hf22.mono le23
 have hf23 : IntsF F23 v23 ([-1]) := intsH.fz (xs := [-1]) hz23.fz
 show X _ _ _ _ _ _ (slH 72 2 v28 3 [v22, v23, v24, v25, v26, v27] :: slH 2 1 v27 5 [ii (0), ii (-1), ii (0), ii (-2), ii (-3)] :: slH 2 1 v26 5 [ii (0), ii (0), ii (-1), ii (-2), ii (-3)] :: slH 2 1 v25 1 [ii (-1)] :: intsH 2 v24 ([0, -1, 2] : List Int) :: L)
 refine yz [_, _, _, _] _ _ rfl (fun F24 le24 hz24 => ?_)
 replace hf22 := hf22.mono le24
 replace hf23 := hf23.mono le24
 have hf24 : IntsF F24 v24 ([0, -1, 2]) := intsH.fz (xs := [0, -1, 2]) hz24.fz
 show X _ _ _ _ _ _ (slH 72 2 v28 3 [v22, v23, v24, v25, v26, v27] :: slH 2 1 v27 5 [ii (0), ii (-1), ii (0), ii (-2), ii (-3)] :: slH 2 1 v26 5 [ii (0), ii (0), ii (-1), ii (-2), ii (-3)] :: intsH 2 v25 ([-1] : List Int) :: L)
 refine yz [_, _, _] _ _ rfl (fun F25 le25 hz25 => ?_)
 replace hf22 := hf22.mono le25
 replace hf23 := hf23.mono le25
 replace hf24 := hf24.mono le25
 have hf25 : IntsF F25 v25 ([-1]) := intsH.fz (xs := [-1]) hz25.fz
 show X _ _ _ _ _ _ (slH 72 2 v28 3 [v22, v23, v24, v25, v26, v27] :: slH 2 1 v27 5 [ii (0), ii (-1), ii (0), ii (-2), ii (-3)] :: intsH 2 v26 ([0, 0, -1, -2, -3] : List Int) :: L)
 refine yz [_, _] _ _ rfl (fun F26 le26 hz26 => ?_)
 replace hf22 := hf22.mono le26
 replace hf23 := hf23.mono le26
 replace hf24 := hf24.mono le26
 replace hf25 := hf25.mono le26
 have hf26 : IntsF F26 v26 ([0, 0, -1, -2, -3]) := intsH.fz (xs := [0, 0, -1, -2, -3]) hz26.fz
 show X _ _ _ _ _ _ (slH 72 2 v28 3 [v22, v23, v24, v25, v26, v27] :: intsH 2 v27 ([0, -1, 0, -2, -3] : List Int) :: L)
 refine yz [_] _ _ rfl (fun F27 le27 hz27 => ?_)
 replace hf22 := hf22.mono le27
 replace hf23 := hf23.mono le27
 replace hf24 := hf24.mono le27
 replace hf25 := hf25.mono le27
 replace hf26 := hf26.mono le27
 have hf27 : IntsF F27 v27 ([0, -1, 0, -2, -3]) := intsH.fz (xs := [0, -1, 0, -2, -3]) hz27.fz
 have hc6 : PairsC F27 [v22, v23, v24, v25, v26, v27] ([([0, 2, -1], [-1]), ([0, -1, 2], [-1]), ([0, 0, -1, -2, -3], [0, -1, 0, -2, -3])] : List (List Int × List Int)) := (PairsC.snoc (PairsC.snoc (PairsC.snoc (CO.nil : PairsC F27 [] []) hf22 hf23) hf24 hf25) hf26 hf27)
 refine yz [] _ _ rfl (fun F28 le28 hz28 => ?_)
 replace hc6 := hc6.mono le28
 have hf28 : PairsF F28 v28 (([([0, 2, -1], [-1]), ([0, -1, 2], [-1]), ([0, 0, -1, -2, -3], [0, -1, 0, -2, -3])] : List (List Int × List Int))) := CO.fz hc6 (by first | rfl | omega | (rw [List.length_set]; omega) | (simp; done)) hz28.fz
 refine jW (jR (L' := L) [v28] (v28) (.tmp rfl .nil) rfl (jl (jl (jl (jl (jl (jl le22 le23) le24) le25) le26) le27) le28) rF sR ?_)
 exact ⟨_, _, rfl, hf28, by decide, by unfold smallR; decide, rfl⟩

/- laws.w9System -/
set_option maxHeartbeats 1000000 in
set_option maxRecDepth 20000 in
theorem w9System_spec {F : FH} {L : List HP} {cb : Nat} {bsv : Value} {bs : List Int} (hbs : BytesF F bsv bs) (hbl : bs.length ≤ 4000000) :
    Does prog 45 [ptr cb 0] F (curH .u64 88 cb bsv bs.length :: L) (fun v F' L' => (∃ (a : Value), ∃ (b : Value), ∃ (rs : List (List Int × List Int)), (.agg #[a, b] : Value) = v ∧ (IntsF F' a [2, 1, 0]) ∧ (PairsF F' b rs) ∧ (smallS [2, 1, 0] rs)) ∧ curH .u64 88 cb bsv bs.length :: L = L') := by
 refine ym func45 rfl rfl rfl (qX (qH (cX (Qe [sN, sN] zeroValue32 rfl ?_))))
 intro b1
 refine qI (qX (qH (cX (jL (args := []) call106 rfl (w9Sig_spec ) ?_))))
 rintro _ F1 _ le1 ⟨x1, rfl, hr1, rfl⟩
 replace hbs := hbs.mono le1
 refine cX (yJ [x1, sN] [sN, sN] [(0, 1), (1, 1)] [(0, [x1])] yq zeroValue32 rfl (.cons rfl ys (.cons rfl yZ PlacesAre.nil)) rfl (.cons rfl CellsAre.nil) (cX (Qe [sN, sN] zeroValue32 rfl ?_)))
 intro b2
 refine cX (yL [] _ [x1, sN] yP rfl rfl rfl (jT (yE (yi hr1)) (jT rfl yM)) rfl rfl rfl (qI (qX (qX (qH (jb (ptr cb 0) rfl (cX (jL (args := [ptr cb 0, ii (2)]) call14 rfl (Does.at [_, _] (below_spec (n := 2) hbs (by omega) (hn := (by first | assumption | rfl | omega | simp)))) ?_))))))))
 rintro _ _ _ _ ⟨⟨rfl, x2, rfl, hr2⟩, rfl⟩
 show XL _ _ _ _ _ _ _ (cellsH b2 [x1, sN] 32 :: cellsH b1 [sN, sN] 32 :: curH .u64 88 cb bsv bs.length :: L)
 refine cX (yU rfl rfl (qI ?_))
 refine jV (p := (x2 : Int) = 0) rfl (fun h1 => ?_) (fun h1 => ?_)
 ·refine qX (qH (jb (ptr cb 0) rfl (cX (jL (args := [ptr cb 0, ii (6)]) call14 rfl (Does.at [_, _] (below_spec (n := 6) hbs (by omega) (hn := (by first | assumption | rfl | omega | simp)))) ?_))))
  rintro _ _ _ _ ⟨⟨rfl, x3, rfl, hr3⟩, rfl⟩
  show XL _ _ _ _ _ _ _ (cellsH b2 [x1, sN] 32 :: cellsH b1 [sN, sN] 32 :: curH .u64 88 cb bsv bs.length :: L)
  refine cX (jL (args := [ii (x3)]) call107 rfl (w9Known_spec (k := x3)) ?_)
  rintro _ F4 _ le4 ⟨x4, x5, rfl, hr4, hr5, hr6, rfl⟩
  replace hbs := hbs.mono le4
  replace hr1 := hr1.mono le4
  refine cX (jE (1) yq rfl yZ (by decide) rfl rfl (cX (Qb [] _ [x1, x4] yZ rfl rfl (yE (PairsF.isSl hr4)) rfl rfl rfl (qI (qX (qH (cX (yc [x1, x4] yY yP rfl rfl (Rd.ownN [] rfl rfl) (cX (yL [_] _ [x1, x4] yP rfl rfl rfl (jT (yE (yi hr1)) (jT (yE (PairsF.isSl hr4)) yM)) rfl rfl rfl (qI (jW (jw (jR (L' := curH .u64 88 cb bsv bs.length :: L) [.agg #[x1, x4]] (.agg #[x1, x4]) (.cell rfl (loadNV [x1, x4] yY yP rfl (Rd.ownN [_] rfl rfl)) .nil) rfl (jl le1 le4) rF (sD (sD (sC sR))) ?_))))))))))))))
  exact ⟨⟨_, _, _, rfl, hr1, hr4, smallS.mk' (by decide) (by have h9 := hr5; omega) hr6⟩, rfl⟩
 refine jU (qX (qX (qH (jb (ptr cb 0) rfl (cX (jL (args := [ptr cb 0, ii (3)]) call14 rfl (Does.at [_, _] (below_spec (n := 3) hbs (by omega) (hn := (by first | assumption | rfl | omega | simp)))) ?_))))))
 rintro _ _ _ _ ⟨⟨rfl, x6, rfl, hr7⟩, rfl⟩
 show XL _ _ _ _ _ _ _ (cellsH b2 [x1, sN] 32 :: cellsH b1 [sN, sN] 32 :: curH .u64 88 cb bsv bs.length :: L)
 refine cX (yj (1 + x6) rfl rfl (by omega) (by omega) (jc (ii (1 + x6)) rfl (qI (yf (yI (α := Nat × Value × List (List Int × List Int) × List Value × Nat × FH) (fun xQ => [(0, ptr cb 0), (2, ptr b1 0), (3, ptr b2 0), (4, ii (((xQ.1 : Nat) : Int)))]) (fun xQ => slH 72 2 xQ.2.1 xQ.2.2.2.2.1 xQ.2.2.2.1 :: cellsH b2 [x1, xQ.2.1] 32 :: cellsH b1 [sN, sN] 32 :: curH .u64 88 cb bsv bs.length :: L) (fun xQ F' => xQ.2.2.2.2.2 = F' ∧ F1 ≤ xQ.2.2.2.2.2 ∧ (IsSl xQ.2.1) ∧ (PairsC xQ.2.2.2.2.2 xQ.2.2.2.1 xQ.2.2.1) ∧ (xQ.2.2.2.2.1 = xQ.2.2.1.length) ∧ (xQ.2.2.1.length + xQ.1 ≤ 4) ∧ (smallR xQ.2.2.1)) (fun xQ => xQ.1) ((1 + x6).toNat, sN, [], [], 0, F1) ⟨rfl, rfl, rfl, (vI (by omega)), ⟨⟩⟩ (yn (Sub.addNil 72 2 _ _) (sC (sC (sC (sC sR))))) ⟨rfl, FLe.refl _, (⟨_, _, _, rfl⟩), (CO.nil), (rfl), (by (try dsimp only); simp only [List.length_nil]; omega), (smallR.nil)⟩ ?_)))))
 rintro ⟨n, ov, os, cs, m, G1⟩ rE _ _ ⟨rfl, leG, hov, hC, hm, hon, hos⟩
 show X _ _ _ _ (envs [(0, ptr cb 0), (2, ptr b1 0), (3, ptr b2 0), (4, ii ((n : Int)))] rE) _ (slH 72 2 ov m cs :: cellsH b2 [x1, ov] 32 :: cellsH b1 [sN, sN] 32 :: curH .u64 88 cb bsv bs.length :: L)
 replace leG : F1 ≤ G1 := leG
 dsimp only at hov hC hm hon hos
 have leG1 := leG
 replace hbs := hbs.mono leG1
 replace hr1 := hr1.mono leG1
 refine qX (qX (qH (jb (ii ((n : Int))) rfl (cX (Qf rfl rfl (qI ?_))))))
 refine jV (p := (n : Int) > 0) rfl (fun h2 => ?_) (fun h2 => ?_)
 ·refine jU (qX (yf ?_))
  refine X.drawG [slH 72 2 ov m cs, cellsH b2 [x1, ov] 32, cellsH b1 [sN, sN] 32, curH .u64 88 cb bsv bs.length] L 5 [[], [], [], [], [3]] [[], [0], [], [2], [3]] [] (phiG [pe (ptr b2 1), pe ov, pe (ptr cb 0), fun FF us v => (.agg #[((aggAt v 0)), ((aggAt v 1))] : Value) = v ∧ (SomesF FF ((aggAt v 0)) (fun u => u.length ≤ 2000)) ∧ (SomesF FF ((aggAt v 1)) (fun w => w.length ≤ 2000)), fun FF us v => ∃ b, v = .slice (some ⟨b, 0, none⟩) 1 1]) (ownL [o0, o0, o0, o0, fun us v => [slH 72 2 v 1 [((aggAt (us.getD 0 undef) 0)), ((aggAt (us.getD 0 undef) 1))]]]) mixed rfl rfl (by kernel_rfl) (by kernel_rfl) (MonoG.get (m1 (m1 (m1 (mC (fun le h => ⟨h.1, h.2.1.mono le, h.2.2.mono le⟩) (mC (fun le h => h) MonoG.nil)))))) ?_ ?_
  ·refine gD (fun W Fs R lF z9 => ?_) ?_
   ·refine je (jE (1) yq rfl yZ (by decide) rfl rfl ?_)
    exact ⟨rfl, rfl⟩
   refine gD (fun W Fs R lF z9 => ?_) ?_
   ·replace hbs := hbs.mono lF
    replace hr1 := hr1.mono lF
    replace hC := hC.mono lF
    rw [eS (l := [(0, _)]) ⟨z9 0 rfl, ⟨⟩⟩]
    refine je (jj Qj rfl (Rd.own [_] rfl rfl) ?_)
    exact ⟨rfl, rfl⟩
   refine gD (fun W Fs R lF z9 => ?_) ?_
   ·refine je (jk (ptr cb 0) rfl ?_)
    exact ⟨rfl, rfl⟩
   refine gD (fun W Fs R lF z9 => ?_) ?_
   ·replace hbs := hbs.mono lF
    replace hr1 := hr1.mono lF
    replace hC := hC.mono lF
    rw [eS (l := [(2, _)]) ⟨z9 2 rfl, ⟨⟩⟩]
    refine je (jL (args := [ptr cb 0]) call108 rfl (Does.at [_, _, _] (w9Rule_spec hbs (by omega))) ?_)
    rintro _ F7 _ le7 ⟨⟨x9, x10, rfl, hr10, hr11⟩, rfl⟩
    replace hr1 := hr1.mono le7
    replace hC := hC.mono le7
    exact ⟨⟨rfl, hr10, hr11⟩, rfl⟩
   refine gD (fun W Fs R lF z9 => ?_) ?_
   ·obtain ⟨e3, f3_1hp_a, f3_1hp_b⟩ := z9 3 rfl
    obtain ⟨t3X1_a, f3_1hp_a, q3_1_a0⟩ := f3_1hp_a
    obtain ⟨t3X1_b, f3_1hp_b, q3_1_b0⟩ := f3_1hp_b
    replace hr1 := hr1.mono lF
    replace hC := hC.mono lF
    rw [eS (l := [(3, (.agg #[((aggAt (W 3) 0)), ((aggAt (W 3) 1))]))]) ⟨(e3).symm, ⟨⟩⟩]
    refine je (jQ (s := 2) [((aggAt (W 3) 0)), ((aggAt (W 3) 1))] [sN, sN] [(0, [((aggAt (W 3) 0)), ((aggAt (W 3) 1))])] yy yS yW rfl (by decide) rfl (.cons rfl CellsAre.nil) rfl ?_)
    intro v2 hv2
    exact ⟨hv2, rfl⟩
   exact stepsG.nil
  intro W F8 le8 hphi
  obtain ⟨e3, f3_1hp_a, f3_1hp_b⟩ := hphi 3 (by decide)
  obtain ⟨t3X1_a, f3_1hp_a, q3_1_a0⟩ := f3_1hp_a
  obtain ⟨t3X1_b, f3_1hp_b, q3_1_b0⟩ := f3_1hp_b
  have f4 : ∃ b, (W 4) = .slice (some ⟨b, 0, none⟩) 1 1 := hphi 4 (by decide)
  generalize hu1 : ((aggAt (W 3) 0)) = u1 at e3 f3_1hp_a f3_1hp_b f4
  generalize hu2 : ((aggAt (W 3) 1)) = u2 at e3 f3_1hp_a f3_1hp_b f4
  generalize hu4 : W 4 = u3 at e3 f3_1hp_a f3_1hp_b f4
  rw [eS (l := [(1, _), (3, (.agg #[u1, u2])), (4, u3)]) ⟨(hphi 1 (by decide)), (e3).symm, hu4, ⟨⟩⟩]
  replace hr1 := hr1.mono le8
  replace hC := hC.mono le8
  show XL _ _ _ _ _ _ _ (slH 72 2 u3 1 [u1, u2] :: slH 72 2 ov m cs :: cellsH b2 [x1, ov] 32 :: cellsH b1 [sN, sN] 32 :: curH .u64 88 cb bsv bs.length :: L)
  refine cX (XOp.append (m := 1) (bytes := 48) (cs := cs) [_] _ [u1, u2] yy typeInfo72 rfl rfl rfl rfl rfl rfl rfl (SlV.own [] rfl) rfl (Rd.lit [] rfl) (jT (yE (yi f3_1hp_a)) (jT (yE (yi f3_1hp_b)) yM)) (by (try simp only [List.length_append, List.length_nil, List.length_cons, List.length_singleton]); omega) (by (try simp only [List.length_append, List.length_nil, List.length_cons, List.length_singleton]); omega) ?_)
  intro v3 hs1 hn1 hm1
  have hc1 := PairsC.snoc hC f3_1hp_a f3_1hp_b
  refine cX (jE (1) yq rfl yZ (by decide) rfl rfl (cX (Qb [_, _] _ [x1, v3] yZ rfl rfl (yE hs1) rfl rfl rfl (qI (qH (jb (ii ((n : Int))) rfl (cX (yx (((n : Int)) - 1) rfl rfl (by omega) (by omega) (jc (ii (((n : Int)) - 1)) rfl (qI ?_))))))))))
  exact ⟨(n - 1, v3, os ++ [(t3X1_a, t3X1_b)], cs ++ [u1, u2], (m) + 1, F8), _, (jl leG1 le8), rF, ⟨rfl, rfl, rfl, (vI (by (try dsimp only); omega)), ⟨⟩⟩, (sD (sC (sC (sC (sC sR))))), ⟨rfl, (jl leG1 le8), (hs1), (hc1), (by (try dsimp only); rw [List.length_append]; simp only [List.length_singleton]; omega), (by (try dsimp only); rw [List.length_append]; simp only [List.length_singleton]; omega), (smallR.snoc hos q3_1_a0 q3_1_b0)⟩, (by (try dsimp only); omega)⟩
 refine yB (jO (jO (yk (qX (qH (cX (yc [x1, ov] yY yP rfl rfl (Rd.ownN [_] rfl rfl) (cX (yL [_, _] _ [x1, ov] yP rfl rfl rfl (jT (yE (yi hr1)) (jT (yE hov) yM)) rfl rfl rfl (qI (yz [] _ _ rfl (fun F9 le9 hz1 => ?_))))))))))))
 replace hr1 := hr1.mono le9
 replace hC := hC.mono le9
 have hf1 : PairsF F9 ov os := CO.fz hC (by first | rfl | omega | (rw [List.length_set]; omega) | (simp; done)) hz1.fz
 refine jW (jR (L' := curH .u64 88 cb bsv bs.length :: L) [.agg #[x1, ov]] (.agg #[x1, ov]) (.cell rfl (loadNV [x1, ov] yY yP rfl (Rd.ownN [_] rfl rfl)) .nil) rfl (jl (jl le1 leG1) le9) rF (sD (sD (sC sR))) ?_)
 exact ⟨⟨_, _, _, rfl, hr1, hf1, smallS.mk' (by decide) (by omega) hos⟩, rfl⟩
end Go.Proofs.Ytcdjpapjjoldeaa
