/-
  Walks, one after the other (part 5).
-/
import Derived.Test.YtenomejgjcpbdaaGreatQJL1
import Derived.Test.YtenomejgjcpbdaaGreatQJB1
import Derived.Test.YtenomejgjcpbdaaGreatQJB3
set_option linter.unusedSimpArgs false
set_option linter.unusedVariables false
namespace Go.Proofs.YtenomejgjcpbdaaGreat
open Go X M Tryz

/- laws.w9Sig -/
theorem w9Sig_spec {F : FH} {L : List HP} :
    Does prog 141 [] F (L) (fun v F' L' => ∃ (a : Value), (.agg #[a] : Value) = v ∧ (IntsF F' a [2, 1, 0]) ∧ L = L') := by
 refine qL func141 rfl rfl rfl (qc (qa (cX (jc [sN] zeroValue36 rfl ?_))))
 intro b1
 refine qb (qc (qa (cX (qx (s := 1) [ii (2), ii (1), ii (0)] [ii (0)] [(0, [ii (2)]), (1, [ii (1)]), (2, [ii (0)])] qf qy jh rfl (by decide) rfl (.cons rfl (.cons rfl (.cons rfl CellsAre.nil))) rfl ?_))))
 intro v1 hv1
 refine cX (jg [v1] [sN] [(0, 1)] [(0, [v1])] yg zeroValue36 rfl (.cons rfl qu PlacesAre.nil) rfl (.cons (cells_one (jv hv1)) CellsAre.nil) (cX (qC [_] _ [v1] qY rfl rfl rfl (qj (qJ (jv hv1)) qK) rfl rfl rfl (qb ?_))))
 show X _ _ _ _ _ _ (intsH 2 v1 ([2, 1, 0] : List Int) :: cellsH b1 [v1] 36 :: L)
 refine je [] _ _ rfl (fun F1 le1 hz1 => ?_)
 have hf1 : IntsF F1 v1 ([2, 1, 0]) := intsH.fz (xs := [2, 1, 0]) hz1.fz
 refine qw (qs (L' := L) [.agg #[v1]] (.agg #[v1]) (.cell rfl (jx [v1] js qY rfl (Rd.ownN [] rfl rfl)) .nil) rfl le1 rF (sD sR) ?_)
 exact ⟨_, rfl, hf1, rfl⟩

/- laws.w9Term -/
theorem w9Term_spec_step {dp : Nat} (ih : ∀ m : Nat, m < dp → ∀ {F : FH} {L : List HP} {cb : Nat} {bsv : Value} {bs : List Int} (hbs : BytesF F bsv bs) (hbl : bs.length ≤ 4000000) {vs : Int} (hdp : m ≤ 4) (hvs : 0 ≤ vs ∧ vs ≤ 24), Does prog 237 [ptr cb 0, ii ((m : Int)), ii (vs)] F (curH .u64 194 cb bsv bs.length :: L) (fun v F' L' => ∃ a : Value, ((a : Value) = v ∧ IsSl a) ∧ drawnH 2 a (fun t => 1 ≤ t.length ∧ t.length ≤ szB m) :: curH .u64 194 cb bsv bs.length :: L = L')) {F : FH} {L : List HP} {cb : Nat} {bsv : Value} {bs : List Int} (hbs : BytesF F bsv bs) (hbl : bs.length ≤ 4000000) {vs : Int} (hdp : dp ≤ 4) (hvs : 0 ≤ vs ∧ vs ≤ 24) :
    Does prog 237 [ptr cb 0, ii (((dp : Nat) : Int)), ii (vs)] F (curH .u64 194 cb bsv bs.length :: L) (fun v F' L' => ∃ a : Value, ((a : Value) = v ∧ IsSl a) ∧ drawnH 2 a (fun t => 1 ≤ t.length ∧ t.length ≤ szB dp) :: curH .u64 194 cb bsv bs.length :: L = L') := by
 refine qL func237 rfl rfl rfl ?_
 have hz9 := szB_le (d := dp - 1) (e := 3) (by omega)
 have hz8 : szB 3 = 15 := rfl
 have hz7 := szB_pos (dp - 1)
 refine qc (qa (qg (sN) rfl (qb (qc (qc (qa (qd (ii (vs)) rfl (cX (jQ rfl rfl (qd (.bool (decide ((vs : Int) > 0))) rfl ?_))))))))))
 by_cases h1 : (vs : Int) > 0
 ·refine qp (t := 12) rfl (vT h1) (qq (ptr cb 0) rfl (qp (t := 12) rfl (vT h1) (qo (args := [ptr cb 0, ii (3)]) call57 rfl (Does.at [] (below_spec (n := 3) hbs (by omega) (hn := (by first | assumption | rfl | omega | simp)))) ?_)))
  rintro _ _ _ _ ⟨⟨rfl, x1, rfl, hr1⟩, rfl⟩
  show XL _ _ _ _ _ _ _ (curH .u64 194 cb bsv bs.length :: L)
  refine qp (t := 12) rfl (vT h1) (jR rfl rfl (cX (qU (.bool (decide ((x1 : Int) = 0))) (vT h1) rfl (qb ?_))))
  refine qE (p := (x1 : Int) = 0) rfl (fun h2 => ?_) (fun h2 => ?_)
  ·refine qc (qa (qd (ptr cb 0) rfl (qd (ii (vs)) rfl (cX (qo (args := [ptr cb 0, ii (vs)]) call57 rfl (Does.at [] (below_spec (n := vs) hbs (by omega) (hn := (by first | assumption | rfl | omega | simp)))) ?_)))))
   rintro _ _ _ _ ⟨⟨rfl, x2, rfl, hr2⟩, rfl⟩
   show XL _ _ _ _ _ _ _ (curH .u64 194 cb bsv bs.length :: L)
   refine cX (jF ((-1) - x2) rfl rfl (by omega) (by omega) (cX (qx (s := 1) [ii ((-1) - x2)] [ii (0)] [(0, [ii ((-1) - x2)])] qf qy jh rfl (by decide) rfl (.cons rfl CellsAre.nil) rfl ?_)))
   intro v1 hv1
   refine qg (v1) rfl (qb (qw (qm (qs (L' := drawnH 2 v1 (fun t => 1 ≤ t.length ∧ t.length ≤ szB dp) :: curH .u64 194 cb bsv bs.length :: L) [v1] (v1) (.tmp rfl .nil) rfl rF rF (qR (sC (sC sR)) (Sub.keep (drawnH.of (t := [(-1) - x2]) (⟨Nat.le_refl _, szB_pos dp⟩)) sR)) ?_))))
   exact ⟨_, ⟨rfl, (jv hv1)⟩, rfl⟩
  refine qz (qc (qa (qd (ptr cb 0) rfl (cX (qo (args := [ptr cb 0, ii (3)]) call57 rfl (Does.at [] (below_spec (n := 3) hbs (by omega) (hn := (by first | assumption | rfl | omega | simp)))) ?_)))))
  rintro _ _ _ _ ⟨⟨rfl, x3, rfl, hr3⟩, rfl⟩
  show XL _ _ _ _ _ _ _ (curH .u64 194 cb bsv bs.length :: L)
  refine qg (ii (x3)) rfl (qb (qc (qc (qa (qd (ii (((dp : Nat) : Int))) rfl (cX (XOp.leq rfl rfl (qb ?_))))))))
  refine qE (p := (((dp : Nat) : Int) : Int) ≤ 1) rfl (fun h3 => ?_) (fun h3 => ?_)
  ·refine qa (qg (ii (2)) rfl (qb (qc (qa (qd (ii (2)) rfl (cX (qx (s := 1) [ii (2)] [ii (0)] [(0, [ii (2)])] qf qy jh rfl (by decide) rfl (.cons rfl CellsAre.nil) rfl ?_)))))))
   intro v2 hv2
   refine qg (v2) rfl (qb (qc (qc (qa ?_))))
   show XL _ _ _ _ _ _ _ (intsH 2 v2 ([2] : List Int) :: curH .u64 194 cb bsv bs.length :: L)
   skip
   refine qd (ii (2)) rfl (qg (ii (2)) rfl (qb (qN (jw (α := Nat × Value × List Int × FH) (fun xQ => [(0, ptr cb 0), (1, ii (((dp : Nat) : Int))), (2, ii (vs)), (8, xQ.2.1), (9, ii (((xQ.1 : Nat) : Int)))]) (fun xQ => intsH 2 xQ.2.1 xQ.2.2.1 :: curH .u64 194 cb bsv bs.length :: L) (fun xQ F' => xQ.2.2.2 = F' ∧ F ≤ xQ.2.2.2 ∧ (IsSl xQ.2.1) ∧ (2 ≤ (xQ.1 : Int) ∧ xQ.1 ≤ 2) ∧ (1 ≤ xQ.2.2.1.length) ∧ (xQ.2.2.1.length ≤ 1 + (xQ.1 - ((2 : Int)).toNat) * szB (dp - 1))) (fun xQ => 2 - xQ.1) (((2 : Int)).toNat, v2, [2], F) ⟨rfl, rfl, rfl, rfl, (vI (by omega)), ⟨⟩⟩ (sC (sC sR)) ⟨rfl, FLe.refl _, ((jv hv2)), (by (try dsimp only); omega), (by (try dsimp only); simp), (by (try dsimp only); simp)⟩ ?_))))
   rintro ⟨k, ov, os, G1⟩ rE _ _ ⟨rfl, leG, hov, hk, h19, hol⟩
   show X _ _ _ _ (envs [(0, ptr cb 0), (1, ii (((dp : Nat) : Int))), (2, ii (vs)), (8, ov), (9, ii ((k : Int)))] rE) _ (intsH 2 ov os :: curH .u64 194 cb bsv bs.length :: L)
   replace leG : F ≤ G1 := leG
   dsimp only at hov hk h19 hol
   have hmu : (k - ((2 : Int)).toNat) * szB (dp - 1) ≤ 2 * szB (dp - 1) := Nat.mul_le_mul_right _ (by omega)
   have leG1 := leG
   replace hbs := hbs.mono leG1
   refine qc (qc (qa (qd (ii ((k : Int))) rfl (cX (jf rfl rfl (qb ?_))))))
   refine qE (p := (k : Int) < 2) rfl (fun h4 => ?_) (fun h4 => ?_)
   ·refine qz (qc (qN (qa (qd (ov) rfl (qd (ptr cb 0) rfl (qd (ii (((dp : Nat) : Int))) rfl (cX (jF (((dp - 1 : Nat) : Int)) rfl rfl (by omega) (by omega) (qd (ii (vs)) rfl (cX (qo (args := [ptr cb 0, ii ((dp - 1 : Nat) : Int), ii (vs)]) call237 rfl (Does.atO [_] (ih (dp - 1) (by omega) (vs := vs) hbs (by omega) (hdp := (by first | assumption | rfl | omega | simp)) (hvs := (by first | assumption | rfl | omega | simp)))) ?_)))))))))))
    rintro _ F4 _ le4 ⟨x5, ⟨rfl, hsl1⟩, rfl⟩
    replace hbs := hbs.mono le4
    show XL _ _ _ _ _ _ _ (drawnH 2 x5 (fun t => 1 ≤ t.length ∧ t.length ≤ szB (dp - 1)) :: intsH 2 ov os :: curH .u64 194 cb bsv bs.length :: L)
    refine XL.undraw [] rfl (fun t1 hq9 => ?_)
    obtain ⟨q1, q2⟩ := hq9
    show XL _ _ _ _ _ _ _ (intsH 2 x5 t1 :: intsH 2 ov os :: curH .u64 194 cb bsv bs.length :: L)
    refine ym [] _ _ rfl (fun F5 le5 hz1 => ?_)
    replace hbs := hbs.mono le5
    have hf1 : IntsF F5 x5 t1 := intsH.fz (xs := t1) hz1.fz
    refine cX (yc [] _ qf typeInfo2 rfl rfl rfl rfl rfl rfl hf1 (by (try simp only [List.length_append, List.length_nil, List.length_cons, List.length_singleton, List.length_take, List.length_drop]); omega) ?_)
    intro v3 hs1 hn1 hm1
    refine qg (v3) rfl (qb (qa (qd (ii ((k : Int))) rfl (cX (qP (((k + 1 : Nat) : Int)) rfl rfl (by omega) (by omega) (qg (ii (((k + 1 : Nat) : Int))) rfl (qb ?_)))))))
    exact ⟨(k + 1, v3, os ++ t1, F5), _, (qh (qh leG1 le4) le5), rF, ⟨rfl, rfl, rfl, rfl, rfl, ⟨⟩⟩, (sC (sC sR)), ⟨rfl, (qh (qh leG1 le4) le5), (hs1), (by (try dsimp only); omega), (by (try dsimp only); rw [List.length_append]; omega), (by (try dsimp only); rw [List.length_append, show k + 1 - ((2 : Int)).toNat = (k - ((2 : Int)).toNat) + 1 from by omega, Nat.succ_mul]; omega)⟩, (by omega)⟩
   refine jo (qt (qt (qO (qc (qa (qd (ov) rfl (qg (ov) rfl (qb (qw (qs (L' := drawnH 2 ov (fun t => 1 ≤ t.length ∧ t.length ≤ szB dp) :: curH .u64 194 cb bsv bs.length :: L) [ov] (ov) (.tmp rfl .nil) rfl leG1 rF (qR (sC (sC sR)) (Sub.keep (drawnH.of (t := os) (⟨h19, by first | (have h9 := szB_next (d := dp) (by omega); omega) | (have h8 : k - ((2 : Int)).toNat = 0 := (by omega); rw [h8, Nat.zero_mul] at hol; have := szB_pos dp; omega)⟩)) sR)) ?_))))))))))
   exact ⟨_, ⟨rfl, hov⟩, rfl⟩
  refine qz (qc (qa (qd (ii (x3)) rfl (cX (qx (s := 1) [ii (x3)] [ii (0)] [(0, [ii (x3)])] qf qy jh rfl (by decide) rfl (.cons rfl CellsAre.nil) rfl ?_)))))
  intro v4 hv3
  refine qg (v4) rfl (qb (qc (qc (qa ?_))))
  show XL _ _ _ _ _ _ _ (intsH 2 v4 ([x3] : List Int) :: curH .u64 194 cb bsv bs.length :: L)
  skip
  refine qd (ii (x3)) rfl (qg (ii (x3)) rfl (qb (qN (jw (α := Nat × Value × List Int × FH) (fun xQ => [(0, ptr cb 0), (1, ii (((dp : Nat) : Int))), (2, ii (vs)), (8, xQ.2.1), (9, ii (((xQ.1 : Nat) : Int)))]) (fun xQ => intsH 2 xQ.2.1 xQ.2.2.1 :: curH .u64 194 cb bsv bs.length :: L) (fun xQ F' => xQ.2.2.2 = F' ∧ F ≤ xQ.2.2.2 ∧ (IsSl xQ.2.1) ∧ (x3 ≤ (xQ.1 : Int) ∧ xQ.1 ≤ 2) ∧ (1 ≤ xQ.2.2.1.length) ∧ (xQ.2.2.1.length ≤ 1 + (xQ.1 - ((x3 : Int)).toNat) * szB (dp - 1))) (fun xQ => 2 - xQ.1) (((x3 : Int)).toNat, v4, [x3], F) ⟨rfl, rfl, rfl, rfl, (vI (by omega)), ⟨⟩⟩ (sC (sC sR)) ⟨rfl, FLe.refl _, ((jv hv3)), (by (try dsimp only); omega), (by (try dsimp only); simp), (by (try dsimp only); simp)⟩ ?_))))
  rintro ⟨k, ov, os, G2⟩ rE _ _ ⟨rfl, leG, hov, hk, h19, hol⟩
  show X _ _ _ _ (envs [(0, ptr cb 0), (1, ii (((dp : Nat) : Int))), (2, ii (vs)), (8, ov), (9, ii ((k : Int)))] rE) _ (intsH 2 ov os :: curH .u64 194 cb bsv bs.length :: L)
  replace leG : F ≤ G2 := leG
  dsimp only at hov hk h19 hol
  have hmu : (k - ((x3 : Int)).toNat) * szB (dp - 1) ≤ 2 * szB (dp - 1) := Nat.mul_le_mul_right _ (by omega)
  have leG2 := leG
  replace hbs := hbs.mono leG2
  refine qc (qc (qa (qd (ii ((k : Int))) rfl (cX (jf rfl rfl (qb ?_))))))
  refine qE (p := (k : Int) < 2) rfl (fun h5 => ?_) (fun h5 => ?_)
  ·refine qz (qc (qN (qa (qd (ov) rfl (qd (ptr cb 0) rfl (qd (ii (((dp : Nat) : Int))) rfl (cX (jF (((dp - 1 : Nat) : Int)) rfl rfl (by omega) (by omega) (qd (ii (vs)) rfl (cX (qo (args := [ptr cb 0, ii ((dp - 1 : Nat) : Int), ii (vs)]) call237 rfl (Does.atO [_] (ih (dp - 1) (by omega) (vs := vs) hbs (by omega) (hdp := (by first | assumption | rfl | omega | simp)) (hvs := (by first | assumption | rfl | omega | simp)))) ?_)))))))))))
   rintro _ F6 _ le6 ⟨x7, ⟨rfl, hsl2⟩, rfl⟩
   replace hbs := hbs.mono le6
   show XL _ _ _ _ _ _ _ (drawnH 2 x7 (fun t => 1 ≤ t.length ∧ t.length ≤ szB (dp - 1)) :: intsH 2 ov os :: curH .u64 194 cb bsv bs.length :: L)
   refine XL.undraw [] rfl (fun t2 hq9 => ?_)
   obtain ⟨q3, q4⟩ := hq9
   show XL _ _ _ _ _ _ _ (intsH 2 x7 t2 :: intsH 2 ov os :: curH .u64 194 cb bsv bs.length :: L)
   refine ym [] _ _ rfl (fun F7 le7 hz2 => ?_)
   replace hbs := hbs.mono le7
   have hf2 : IntsF F7 x7 t2 := intsH.fz (xs := t2) hz2.fz
   refine cX (yc [] _ qf typeInfo2 rfl rfl rfl rfl rfl rfl hf2 (by (try simp only [List.length_append, List.length_nil, List.length_cons, List.length_singleton, List.length_take, List.length_drop]); omega) ?_)
   intro v5 hs2 hn2 hm2
   refine qg (v5) rfl (qb (qa (qd (ii ((k : Int))) rfl (cX (qP (((k + 1 : Nat) : Int)) rfl rfl (by omega) (by omega) (qg (ii (((k + 1 : Nat) : Int))) rfl (qb ?_)))))))
   exact ⟨(k + 1, v5, os ++ t2, F7), _, (qh (qh leG2 le6) le7), rF, ⟨rfl, rfl, rfl, rfl, rfl, ⟨⟩⟩, (sC (sC sR)), ⟨rfl, (qh (qh leG2 le6) le7), (hs2), (by (try dsimp only); omega), (by (try dsimp only); rw [List.length_append]; omega), (by (try dsimp only); rw [List.length_append, show k + 1 - ((x3 : Int)).toNat = (k - ((x3 : Int)).toNat) + 1 from by omega, Nat.succ_mul]; omega)⟩, (by omega)⟩
  refine jo (qt (qt (qO (qc (qa (qd (ov) rfl (qg (ov) rfl (qb (qw (qs (L' := drawnH 2 ov (fun t => 1 ≤ t.length ∧ t.length ≤ szB dp) :: curH .u64 194 cb bsv bs.length :: L) [ov] (ov) (.tmp rfl .nil) rfl leG2 rF (qR (sC (sC sR)) (Sub.keep (drawnH.of (t := os) (⟨h19, by first | (have h9 := szB_next (d := dp) (by omega); omega) | (have h8 : k - ((x3 : Int)).toNat = 0 := (by omega); rw [h8, Nat.zero_mul] at hol; have := szB_pos dp; omega)⟩)) sR)) ?_))))))))))
  exact ⟨_, ⟨rfl, hov⟩, rfl⟩
 refine qr (t := 12) rfl (vF h1) (qr (t := 12) rfl (vF h1) (qr (t := 12) rfl (vF h1) (cX (qS (.bool (false)) (vF h1) rfl (qb (X.condF rfl (qz (qc (qa (qd (ptr cb 0) rfl (cX (qo (args := [ptr cb 0, ii (3)]) call57 rfl (Does.at [] (below_spec (n := 3) hbs (by omega) (hn := (by first | assumption | rfl | omega | simp)))) ?_))))))))))))
 rintro _ _ _ _ ⟨⟨rfl, x8, rfl, hr4⟩, rfl⟩
 show XL _ _ _ _ _ _ _ (curH .u64 194 cb bsv bs.length :: L)
 refine qg (ii (x8)) rfl (qb (qc (qc (qa (qd (ii (((dp : Nat) : Int))) rfl (cX (XOp.leq rfl rfl (qb ?_))))))))
 refine qE (p := (((dp : Nat) : Int) : Int) ≤ 1) rfl (fun h6 => ?_) (fun h6 => ?_)
 ·refine qa (qg (ii (2)) rfl (qb (qc (qa (qd (ii (2)) rfl (cX (qx (s := 1) [ii (2)] [ii (0)] [(0, [ii (2)])] qf qy jh rfl (by decide) rfl (.cons rfl CellsAre.nil) rfl ?_)))))))
  intro v6 hv4
  refine qg (v6) rfl (qb (qc (qc (qa ?_))))
  show XL _ _ _ _ _ _ _ (intsH 2 v6 ([2] : List Int) :: curH .u64 194 cb bsv bs.length :: L)
  skip
  refine qd (ii (2)) rfl (qg (ii (2)) rfl (qb (qN (jw (α := Nat × Value × List Int × FH) (fun xQ => [(0, ptr cb 0), (1, ii (((dp : Nat) : Int))), (2, ii (vs)), (8, xQ.2.1), (9, ii (((xQ.1 : Nat) : Int)))]) (fun xQ => intsH 2 xQ.2.1 xQ.2.2.1 :: curH .u64 194 cb bsv bs.length :: L) (fun xQ F' => xQ.2.2.2 = F' ∧ F ≤ xQ.2.2.2 ∧ (IsSl xQ.2.1) ∧ (2 ≤ (xQ.1 : Int) ∧ xQ.1 ≤ 2) ∧ (1 ≤ xQ.2.2.1.length) ∧ (xQ.2.2.1.length ≤ 1 + (xQ.1 - ((2 : Int)).toNat) * szB (dp - 1))) (fun xQ => 2 - xQ.1) (((2 : Int)).toNat, v6, [2], F) ⟨rfl, rfl, rfl, rfl, (vI (by omega)), ⟨⟩⟩ (sC (sC sR)) ⟨rfl, FLe.refl _, ((jv hv4)), (by (try dsimp only); omega), (by (try dsimp only); simp), (by (try dsimp only); simp)⟩ ?_))))
  rintro ⟨k, ov, os, G3⟩ rE _ _ ⟨rfl, leG, hov, hk, h19, hol⟩
  show X _ _ _ _ (envs [(0, ptr cb 0), (1, ii (((dp : Nat) : Int))), (2, ii (vs)), (8, ov), (9, ii ((k : Int)))] rE) _ (intsH 2 ov os :: curH .u64 194 cb bsv bs.length :: L)
  replace leG : F ≤ G3 := leG
  dsimp only at hov hk h19 hol
  have hmu : (k - ((2 : Int)).toNat) * szB (dp - 1) ≤ 2 * szB (dp - 1) := Nat.mul_le_mul_right _ (by omega)
  have leG3 := leG
  replace hbs := hbs.mono leG3
  refine qc (qc (qa (qd (ii ((k : Int))) rfl (cX (jf rfl rfl (qb ?_))))))
  refine qE (p := (k : Int) < 2) rfl (fun h7 => ?_) (fun h7 => ?_)
  ·refine qz (qc (qN (qa (qd (ov) rfl (qd (ptr cb 0) rfl (qd (ii (((dp : Nat) : Int))) rfl (cX (jF (((dp - 1 : Nat) : Int)) rfl rfl (by omega) (by omega) (qd (ii (vs)) rfl (cX (qo (args := [ptr cb 0, ii ((dp - 1 : Nat) : Int), ii (vs)]) call237 rfl (Does.atO [_] (ih (dp - 1) (by omega) (vs := vs) hbs (by omega) (hdp := (by first | assumption | rfl | omega | simp)) (hvs := (by first | assumption | rfl | omega | simp)))) ?_)))))))))))
   rintro _ F9 _ le9 ⟨x10, ⟨rfl, hsl3⟩, rfl⟩
   replace hbs := hbs.mono le9
   show XL _ _ _ _ _ _ _ (drawnH 2 x10 (fun t => 1 ≤ t.length ∧ t.length ≤ szB (dp - 1)) :: intsH 2 ov os :: curH .u64 194 cb bsv bs.length :: L)
   refine XL.undraw [] rfl (fun t3 hq9 => ?_)
   obtain ⟨q5, q6⟩ := hq9
   show XL _ _ _ _ _ _ _ (intsH 2 x10 t3 :: intsH 2 ov os :: curH .u64 194 cb bsv bs.length :: L)
   refine ym [] _ _ rfl (fun F10 le10 hz3 => ?_)
   replace hbs := hbs.mono le10
   have hf3 : IntsF F10 x10 t3 := intsH.fz (xs := t3) hz3.fz
   refine cX (yc [] _ qf typeInfo2 rfl rfl rfl rfl rfl rfl hf3 (by (try simp only [List.length_append, List.length_nil, List.length_cons, List.length_singleton, List.length_take, List.length_drop]); omega) ?_)
   intro v7 hs3 hn3 hm3
   refine qg (v7) rfl (qb (qa (qd (ii ((k : Int))) rfl (cX (qP (((k + 1 : Nat) : Int)) rfl rfl (by omega) (by omega) (qg (ii (((k + 1 : Nat) : Int))) rfl (qb ?_)))))))
   exact ⟨(k + 1, v7, os ++ t3, F10), _, (qh (qh leG3 le9) le10), rF, ⟨rfl, rfl, rfl, rfl, rfl, ⟨⟩⟩, (sC (sC sR)), ⟨rfl, (qh (qh leG3 le9) le10), (hs3), (by (try dsimp only); omega), (by (try dsimp only); rw [List.length_append]; omega), (by (try dsimp only); rw [List.length_append, show k + 1 - ((2 : Int)).toNat = (k - ((2 : Int)).toNat) + 1 from by omega, Nat.succ_mul]; omega)⟩, (by omega)⟩
  refine jo (qt (qt (qO (qc (qa (qd (ov) rfl (qg (ov) rfl (qb (qw (qs (L' := drawnH 2 ov (fun t => 1 ≤ t.length ∧ t.length ≤ szB dp) :: curH .u64 194 cb bsv bs.length :: L) [ov] (ov) (.tmp rfl .nil) rfl leG3 rF (qR (sC (sC sR)) (Sub.keep (drawnH.of (t := os) (⟨h19, by first | (have h9 := szB_next (d := dp) (by omega); omega) | (have h8 : k - ((2 : Int)).toNat = 0 := (by omega); rw [h8, Nat.zero_mul] at hol; have := szB_pos dp; omega)⟩)) sR)) ?_))))))))))
  exact ⟨_, ⟨rfl, hov⟩, rfl⟩
 refine qz (qc (qa (qd (ii (x8)) rfl (cX (qx (s := 1) [ii (x8)] [ii (0)] [(0, [ii (x8)])] qf qy jh rfl (by decide) rfl (.cons rfl CellsAre.nil) rfl ?_)))))
 intro v8 hv5
 refine qg (v8) rfl (qb (qc (qc (qa ?_))))
 show XL _ _ _ _ _ _ _ (intsH 2 v8 ([x8] : List Int) :: curH .u64 194 cb bsv bs.length :: L)
 skip
 refine qd (ii (x8)) rfl (qg (ii (x8)) rfl (qb (qN (jw (α := Nat × Value × List Int × FH) (fun xQ => [(0, ptr cb 0), (1, ii (((dp : Nat) : Int))), (2, ii (vs)), (8, xQ.2.1), (9, ii (((xQ.1 : Nat) : Int)))]) (fun xQ => intsH 2 xQ.2.1 xQ.2.2.1 :: curH .u64 194 cb bsv bs.length :: L) (fun xQ F' => xQ.2.2.2 = F' ∧ F ≤ xQ.2.2.2 ∧ (IsSl xQ.2.1) ∧ (x8 ≤ (xQ.1 : Int) ∧ xQ.1 ≤ 2) ∧ (1 ≤ xQ.2.2.1.length) ∧ (xQ.2.2.1.length ≤ 1 + (xQ.1 - ((x8 : Int)).toNat) * szB (dp - 1))) (fun xQ => 2 - xQ.1) (((x8 : Int)).toNat, v8, [x8], F) ⟨rfl, rfl, rfl, rfl, (vI (by omega)), ⟨⟩⟩ (sC (sC sR)) ⟨rfl, FLe.refl _, ((jv hv5)), (by (try dsimp only); omega), (by (try dsimp only); simp), (by (try dsimp only); simp)⟩ ?_))))
 rintro ⟨k, ov, os, G4⟩ rE _ _ ⟨rfl, leG, hov, hk, h19, hol⟩
 show X _ _ _ _ (envs [(0, ptr cb 0), (1, ii (((dp : Nat) : Int))), (2, ii (vs)), (8, ov), (9, ii ((k : Int)))] rE) _ (intsH 2 ov os :: curH .u64 194 cb bsv bs.length :: L)
 replace leG : F ≤ G4 := leG
 dsimp only at hov hk h19 hol
 have hmu : (k - ((x8 : Int)).toNat) * szB (dp - 1) ≤ 2 * szB (dp - 1) := Nat.mul_le_mul_right _ (by omega)
 have leG4 := leG
 replace hbs := hbs.mono leG4
 refine qc (qc (qa (qd (ii ((k : Int))) rfl (cX (jf rfl rfl (qb ?_))))))
 refine qE (p := (k : Int) < 2) rfl (fun h8 => ?_) (fun h8 => ?_)
 ·refine qz (qc (qN (qa (qd (ov) rfl (qd (ptr cb 0) rfl (qd (ii (((dp : Nat) : Int))) rfl (cX (jF (((dp - 1 : Nat) : Int)) rfl rfl (by omega) (by omega) (qd (ii (vs)) rfl (cX (qo (args := [ptr cb 0, ii ((dp - 1 : Nat) : Int), ii (vs)]) call237 rfl (Does.atO [_] (ih (dp - 1) (by omega) (vs := vs) hbs (by omega) (hdp := (by first | assumption | rfl | omega | simp)) (hvs := (by first | assumption | rfl | omega | simp)))) ?_)))))))))))
  rintro _ F11 _ le11 ⟨x12, ⟨rfl, hsl4⟩, rfl⟩
  show XL _ _ _ _ _ _ _ (drawnH 2 x12 (fun t => 1 ≤ t.length ∧ t.length ≤ szB (dp - 1)) :: intsH 2 ov os :: curH .u64 194 cb bsv bs.length :: L)
  refine XL.undraw [] rfl (fun t4 hq9 => ?_)
  obtain ⟨q7, q8⟩ := hq9
  show XL _ _ _ _ _ _ _ (intsH 2 x12 t4 :: intsH 2 ov os :: curH .u64 194 cb bsv bs.length :: L)
  refine ym [] _ _ rfl (fun F12 le12 hz4 => ?_)
  have hf4 : IntsF F12 x12 t4 := intsH.fz (xs := t4) hz4.fz
  refine cX (yc [] _ qf typeInfo2 rfl rfl rfl rfl rfl rfl hf4 (by (try simp only [List.length_append, List.length_nil, List.length_cons, List.length_singleton, List.length_take, List.length_drop]); omega) ?_)
  intro v9 hs4 hn4 hm4
  refine qg (v9) rfl (qb (qa (qd (ii ((k : Int))) rfl (cX (qP (((k + 1 : Nat) : Int)) rfl rfl (by omega) (by omega) (qg (ii (((k + 1 : Nat) : Int))) rfl (qb ?_)))))))
  exact ⟨(k + 1, v9, os ++ t4, F12), _, (qh (qh leG4 le11) le12), rF, ⟨rfl, rfl, rfl, rfl, rfl, ⟨⟩⟩, (sC (sC sR)), ⟨rfl, (qh (qh leG4 le11) le12), (hs4), (by (try dsimp only); omega), (by (try dsimp only); rw [List.length_append]; omega), (by (try dsimp only); rw [List.length_append, show k + 1 - ((x8 : Int)).toNat = (k - ((x8 : Int)).toNat) + 1 from by omega, Nat.succ_mul]; omega)⟩, (by omega)⟩
 refine jo (qt (qt (qO (qc (qa (qd (ov) rfl (qg (ov) rfl (qb (qw (qs (L' := drawnH 2 ov (fun t => 1 ≤ t.length ∧ t.length ≤ szB dp) :: curH .u64 194 cb bsv bs.length :: L) [ov] (ov) (.tmp rfl .nil) rfl leG4 rF (qR (sC (sC sR)) (Sub.keep (drawnH.of (t := os) (⟨h19, by first | (have h9 := szB_next (d := dp) (by omega); omega) | (have h8 : k - ((x8 : Int)).toNat = 0 := (by omega); rw [h8, Nat.zero_mul] at hol; have := szB_pos dp; omega)⟩)) sR)) ?_))))))))))
 exact ⟨_, ⟨rfl, hov⟩, rfl⟩

theorem w9Term_spec (dp : Nat) : ∀ {F : FH} {L : List HP} {cb : Nat} {bsv : Value} {bs : List Int} (hbs : BytesF F bsv bs) (hbl : bs.length ≤ 4000000) {vs : Int} (hdp : dp ≤ 4) (hvs : 0 ≤ vs ∧ vs ≤ 24), Does prog 237 [ptr cb 0, ii (((dp : Nat) : Int)), ii (vs)] F (curH .u64 194 cb bsv bs.length :: L) (fun v F' L' => ∃ a : Value, ((a : Value) = v ∧ IsSl a) ∧ drawnH 2 a (fun t => 1 ≤ t.length ∧ t.length ≤ szB dp) :: curH .u64 194 cb bsv bs.length :: L = L') := by
  induction dp using Nat.strongRecOn with
  | _ dp ih =>
    intros
    exact w9Term_spec_step ih (by assumption) (by assumption) (by assumption) (by assumption)

/- spec.l1Into -/
theorem l1Into_spec {F : FH} {L : List HP} {xsv : Value} {xs : List Int} (hxs : IntsF F xsv xs) {n : Int} (hxb : ∀ x ∈ xs, 0 ≤ x ∧ x ≤ 24) (hn : 0 ≤ n ∧ n ≤ 24) (hlx : xs.length ≤ 1000) :
    Does prog 319 [xsv, ii (n)] F (L) (fun v F' L' => ∃ (a : Value), ∃ (os : List Int), (a : Value) = v ∧ (IntsF F' a os) ∧ (os.length ≤ xs.length + 1) ∧ (∀ x ∈ os, 0 ≤ x ∧ x ≤ 24) ∧ L = L') := by
 refine qL func319 rfl rfl rfl (qc (qa (qg (sN) rfl (qb (qc (qa (qg (ii (0)) rfl (qb (qc (qN (jw (α := Nat) (fun k => [(0, xsv), (1, ii (n)), (5, ii ((k : Int)))]) (fun k => L) (fun k F' => F = F' ∧ (k ≤ xs.length)) (fun k => xs.length - k) 0 ⟨rfl, rfl, rfl, ⟨⟩⟩ sR ⟨rfl, (Nat.zero_le _)⟩ ?_)))))))))))
 rintro k rE _ _ ⟨rfl, hk⟩
 show X _ _ _ _ (envs [(0, xsv), (1, ii (n)), (5, ii ((k : Int)))] rE) _ (L)
 refine qc (qc (qa (qd (ii ((k : Int))) rfl (qd (xsv) rfl (cX (qD qf rfl hxs.slv (cX (jf rfl rfl (qd (.bool (decide ((k : Int) < (xs.length : Int)))) rfl ?_)))))))))
 by_cases h1 : (k : Int) < (xs.length : Int)
 ·refine qp (t := 11) rfl (vT h1) (qq (xsv) rfl (qp (t := 11) rfl (vT h1) (qq (ii ((k : Int))) rfl (qp (t := 11) rfl (vT h1) (qB k qf qy rfl rfl rfl hxs.slv (by omega) (Nat.mul_one _) (qp (t := 11) rfl (vT h1) (ql jt rfl (hxs.rd (by omega)) (qp (t := 11) rfl (vT h1) (qq (ii (n)) rfl (qp (t := 11) rfl (vT h1) (jf rfl rfl (cX (qU (.bool (decide ((xs.getD k 0 : Int) < n))) (vT h1) rfl (qb ?_))))))))))))))
  refine qE (p := (xs.getD k 0 : Int) < n) rfl (fun h2 => ?_) (fun h2 => ?_)
  ·refine qz (qN (qa (qd (ii ((k : Int))) rfl (cX (qP (((k + 1 : Nat) : Int)) rfl rfl (by omega) (by omega) (qg (ii (((k + 1 : Nat) : Int))) rfl (qb ?_)))))))
   exact ⟨k + 1, _, FLe.refl _, rF, ⟨rfl, rfl, rfl, ⟨⟩⟩, sR, ⟨rfl, (by (try dsimp only) <;> omega)⟩, (by omega)⟩
  refine jo (qt (qt (qO (qc (qc (qa (qd (ii ((k : Int))) rfl (qd (xsv) rfl (cX (qD qf rfl hxs.slv (cX (jf rfl rfl (qd (.bool (decide ((k : Int) < (xs.length : Int)))) rfl (qp (t := 25) rfl (vT h1) (qq (xsv) rfl (qp (t := 25) rfl (vT h1) (qq (ii ((k : Int))) rfl (qp (t := 25) rfl (vT h1) (qB k qf qy rfl rfl rfl hxs.slv (by omega) (Nat.mul_one _) ?_)))))))))))))))))))
  refine qp (t := 25) rfl (vT h1) (ql jt rfl (hxs.rd (by omega)) (qp (t := 25) rfl (vT h1) (qq (ii (n)) rfl (qp (t := 25) rfl (vT h1) (jR rfl rfl (cX (qU (.bool (decide ((xs.getD k 0 : Int) = n))) (vT h1) rfl (qb ?_))))))))
  refine qE (p := (xs.getD k 0 : Int) = n) rfl (fun h3 => ?_) (fun h3 => ?_)
  ·refine qc (qa (qd (xsv) rfl (qg (xsv) rfl (qb (qw (qm (qs (L' := L) [xsv] (xsv) (.tmp rfl .nil) rfl rF rF sR ?_)))))))
   exact ⟨_, _, rfl, hxs, by omega, hxb, rfl⟩
  refine qz (qc (qa (qd (xsv) rfl (qd (ii ((k : Int))) rfl (cX (XOp.sliceI 0 k qf qy rfl hxs rfl ⟨_, rfl⟩ (by omega) (by omega) ?_))))))
  intro v1 hv1 hn1
  refine cX (qo (args := [v1]) call106 rfl (l1Copy_spec hv1 (hlt := (by simp; omega))) ?_)
  rintro v2 _ _ _ ⟨rfl, hs1, rfl⟩
  refine qd (ii (n)) rfl (cX (qx (s := 1) [ii (n)] [ii (0)] [(0, [ii (n)])] qf qy jh rfl (by decide) rfl (.cons rfl CellsAre.nil) rfl ?_))
  intro v3 hv2
  refine cX (XOp.append1 (u := n) [_] _ qf typeInfo2 rfl rfl rfl rfl rfl rfl (SlV.own [] rfl) (Rd.sl [] rfl rfl) (by (try simp only [List.length_append, List.length_nil, List.length_cons, List.length_singleton, List.length_take, List.length_drop]); omega) ?_)
  intro v4 hs2 hn2
  refine qg (v4) rfl (qb (qc (qa (qd (v4) rfl (qd (xsv) rfl (qd (ii ((k : Int))) rfl (cX (XOp.sliceI k ((xs).length) qf qy rfl hxs ⟨_, rfl⟩ rfl (by omega) (by omega) ?_))))))))
  intro v5 hv3 hn3
  refine cX (yc [_] _ qf typeInfo2 rfl rfl rfl rfl rfl rfl hv3 (by (try simp only [List.length_append, List.length_nil, List.length_cons, List.length_singleton, List.length_take, List.length_drop]); omega) ?_)
  intro v6 hs3 hn4 hm1
  refine qg (v6) rfl (qb (je [_] _ _ rfl (fun F1 le1 hz1 => ?_)))
  replace hxs := hxs.mono le1
  have hf1 : IntsF F1 v6 (((((((xs.drop 0).take (k - 0))))) ++ [n]) ++ (((xs.drop k).take (((xs).length) - k)))) := intsH.fz (xs := ((((((xs.drop 0).take (k - 0))))) ++ [n]) ++ (((xs.drop k).take (((xs).length) - k)))) hz1.fz
  refine qw (qs (L' := L) [v6] (v6) (.tmp rfl .nil) rfl le1 rF (sD sR) ?_)
  exact ⟨_, _, rfl, hf1, by simp only [List.length_append, List.length_take, List.length_drop, List.length_singleton]; omega, fun x hx => by simp only [List.mem_append, List.mem_singleton] at hx; rcases hx with (hx | hx) | hx <;> first | exact hxb x (List.mem_of_mem_drop (List.mem_of_mem_take hx)) | exact hxb x (List.mem_of_mem_take hx) | exact hxb x (List.mem_of_mem_drop hx) | (rw [hx]; exact hn), rfl⟩
 refine qr (t := 11) rfl (vF h1) (qr (t := 11) rfl (vF h1) (qr (t := 11) rfl (vF h1) (qr (t := 11) rfl (vF h1) (qr (t := 11) rfl (vF h1) (qr (t := 11) rfl (vF h1) (cX (qS (.bool (false)) (vF h1) rfl (qb (X.condF rfl (jo (qt (qt (qO ?_)))))))))))))
 refine qc (qc (qa (qd (ii ((k : Int))) rfl (qd (xsv) rfl (cX (qD qf rfl hxs.slv (cX (jf rfl rfl (qd (.bool (decide ((k : Int) < (xs.length : Int)))) rfl (qr (t := 25) rfl (vF h1) (qr (t := 25) rfl (vF h1) (qr (t := 25) rfl (vF h1) (qr (t := 25) rfl (vF h1) ?_)))))))))))))
 refine qr (t := 25) rfl (vF h1) (qr (t := 25) rfl (vF h1) (cX (qS (.bool (false)) (vF h1) rfl (qb (X.condF rfl (qz (qc (qa (qd (xsv) rfl (qd (ii ((k : Int))) rfl (cX (XOp.sliceI 0 k qf qy rfl hxs rfl ⟨_, rfl⟩ (by omega) (by omega) ?_))))))))))))
 intro v7 hv4 hn5
 refine cX (qo (args := [v7]) call106 rfl (l1Copy_spec hv4 (hlt := (by simp; omega))) ?_)
 rintro v8 _ _ _ ⟨rfl, hs4, rfl⟩
 refine qd (ii (n)) rfl (cX (qx (s := 1) [ii (n)] [ii (0)] [(0, [ii (n)])] qf qy jh rfl (by decide) rfl (.cons rfl CellsAre.nil) rfl ?_))
 intro v9 hv5
 refine cX (XOp.append1 (u := n) [_] _ qf typeInfo2 rfl rfl rfl rfl rfl rfl (SlV.own [] rfl) (Rd.sl [] rfl rfl) (by (try simp only [List.length_append, List.length_nil, List.length_cons, List.length_singleton, List.length_take, List.length_drop]); omega) ?_)
 intro v10 hs5 hn6
 refine qg (v10) rfl (qb (qc (qa (qd (v10) rfl (qd (xsv) rfl (qd (ii ((k : Int))) rfl (cX (XOp.sliceI k ((xs).length) qf qy rfl hxs ⟨_, rfl⟩ rfl (by omega) (by omega) ?_))))))))
 intro v11 hv6 hn7
 refine cX (yc [_] _ qf typeInfo2 rfl rfl rfl rfl rfl rfl hv6 (by (try simp only [List.length_append, List.length_nil, List.length_cons, List.length_singleton, List.length_take, List.length_drop]); omega) ?_)
 intro v12 hs6 hn8 hm2
 refine qg (v12) rfl (qb (je [_] _ _ rfl (fun F2 le2 hz2 => ?_)))
 have hf2 : IntsF F2 v12 (((((((xs.drop 0).take (k - 0))))) ++ [n]) ++ (((xs.drop k).take (((xs).length) - k)))) := intsH.fz (xs := ((((((xs.drop 0).take (k - 0))))) ++ [n]) ++ (((xs.drop k).take (((xs).length) - k)))) hz2.fz
 refine qw (qs (L' := L) [v12] (v12) (.tmp rfl .nil) rfl le2 rF (sD sR) ?_)
 exact ⟨_, _, rfl, hf2, by simp only [List.length_append, List.length_take, List.length_drop, List.length_singleton]; omega, fun x hx => by simp only [List.mem_append, List.mem_singleton] at hx; rcases hx with (hx | hx) | hx <;> first | exact hxb x (List.mem_of_mem_drop (List.mem_of_mem_take hx)) | exact hxb x (List.mem_of_mem_take hx) | exact hxb x (List.mem_of_mem_drop hx) | (rw [hx]; exact hn), rfl⟩

/- spec.l2Vars -/
theorem l2Vars_spec {F : FH} {L : List HP} {tv : Value} {t : List Int} (ht : IntsF F tv t) (hlt : t.length ≤ 60) (htg : ∀ k, k < t.length → -24 ≤ t.getD k 0) :
    Does prog 301 [tv] F (L) (fun v F' L' => ∃ (a : Value), ∃ (os : List Int), (a : Value) = v ∧ (IntsF F' a os) ∧ (os.length ≤ t.length) ∧ (∀ x ∈ os, 0 ≤ x ∧ x ≤ 24) ∧ L = L') := by
 refine qL func301 rfl rfl rfl (qc (qa (qg (sN) rfl (qb (qc (qa (cX (qx (s := 1) [] [ii (0)] [] qf qy jh rfl (by decide) rfl CellsAre.nil rfl ?_))))))))
 intro v1 hv1
 refine qg (v1) rfl (qb (qc (qc (qa ?_))))
 show XL _ _ _ _ _ _ _ (intsH 2 v1 ([] : List Int) :: L)
 refine ym [] _ _ rfl (fun F1 le1 hz1 => ?_)
 replace ht := ht.mono le1
 have hf1 : IntsF F1 v1 ([]) := intsH.fz (xs := []) hz1.fz
 skip
 refine qg (ii (0)) rfl (qb (qN (jw (α := Nat × Value × List Int × FH) (fun xQ => [(0, tv), (3, xQ.2.1), (4, ii (((xQ.1 : Nat) : Int)))]) (fun xQ => L) (fun xQ F' => xQ.2.2.2 = F' ∧ F1 ≤ xQ.2.2.2 ∧ (IntsF xQ.2.2.2 xQ.2.1 xQ.2.2.1) ∧ (xQ.1 ≤ t.length) ∧ (xQ.2.2.1.length ≤ xQ.1) ∧ (∀ x ∈ xQ.2.2.1, 0 ≤ x ∧ x ≤ 24)) (fun xQ => t.length - xQ.1) (0, v1, [], F1) ⟨rfl, rfl, rfl, ⟨⟩⟩ sR ⟨rfl, FLe.refl _, (hf1), (Nat.zero_le _), (by simp), (fun x hx => by simp at hx)⟩ ?_)))
 rintro ⟨k, ov, os, G1⟩ rE _ _ ⟨rfl, leG, hov, hk, hol, hob⟩
 show X _ _ _ _ (envs [(0, tv), (3, ov), (4, ii ((k : Int)))] rE) _ (L)
 replace leG : F1 ≤ G1 := leG
 dsimp only at hov hk hol hob
 have htk := htg k
 have leG1 := leG
 replace ht := ht.mono leG1
 refine qc (qc (qa (qd (ii ((k : Int))) rfl (qd (tv) rfl (cX (qD qf rfl ht.slv (cX (jf rfl rfl (qb ?_)))))))))
 refine qE (p := (k : Int) < (t.length : Int)) rfl (fun h1 => ?_) (fun h1 => ?_)
 ·refine qz (qc (qN (qc (qa (qd (tv) rfl (qd (ii ((k : Int))) rfl (cX (qB k qf qy rfl rfl rfl ht.slv (by omega) (Nat.mul_one _) (cX (ql jt rfl (ht.rd (by omega)) (cX (jf rfl rfl (qb ?_)))))))))))))
  refine qE (p := (t.getD k 0 : Int) < 0) rfl (fun h2 => ?_) (fun h2 => ?_)
  ·refine qa (qd (ov) rfl (qd (tv) rfl (qd (ii ((k : Int))) rfl (cX (qB k qf qy rfl rfl rfl ht.slv (by omega) (Nat.mul_one _) (cX (ql jt rfl (ht.rd (by omega)) (cX (jF ((-1) - (t.getD k 0)) rfl rfl (by omega) (by omega) (cX (qo (args := [ov, ii ((-1) - (t.getD k 0))]) call319 rfl (l1Into_spec (n := (-1) - (t.getD k 0)) hov (hxb := (hob)) (hn := (by omega)) (hlx := (by omega))) ?_)))))))))))
   rintro _ F2 _ le2 ⟨x1, x2, rfl, hr1, hr2, hr3, rfl⟩
   replace hov := hov.mono le2
   refine qg (x1) rfl (qb (qa (qd (ii ((k : Int))) rfl (cX (qP (((k + 1 : Nat) : Int)) rfl rfl (by omega) (by omega) (qg (ii (((k + 1 : Nat) : Int))) rfl (qb ?_)))))))
   exact ⟨(k + 1, x1, x2, F2), _, (qh leG1 le2), rF, ⟨rfl, rfl, rfl, ⟨⟩⟩, sR, ⟨rfl, (qh leG1 le2), (hr1), (by (try dsimp only) <;> omega), (by (try dsimp only); omega), (hr3)⟩, (by omega)⟩
  refine qz (qa (qd (ii ((k : Int))) rfl (cX (qP (((k + 1 : Nat) : Int)) rfl rfl (by omega) (by omega) (qg (ii (((k + 1 : Nat) : Int))) rfl (qb ?_))))))
  exact ⟨(k + 1, ov, os, G1), _, leG1, rF, ⟨rfl, rfl, rfl, ⟨⟩⟩, sR, ⟨rfl, leG1, (hov), (by (try dsimp only) <;> omega), (by (try dsimp only); omega), (hob)⟩, (by omega)⟩
 refine jo (qt (qt (qO (qc (qa (qd (ov) rfl (qg (ov) rfl (qb (qw (qs (L' := L) [ov] (ov) (.tmp rfl .nil) rfl (qh le1 leG1) rF sR ?_))))))))))
 exact ⟨_, _, rfl, hov, by omega, hob, rfl⟩

/- spec.VarsOf -/
theorem VarsOf_spec {F : FH} {L : List HP} {arv : Value} {ar : List Int} (har : IntsF F arv ar) {tv : Value} {t : List Int} (ht : IntsF F tv t) (hla : ar.length ≤ 4000000) (hlt : t.length ≤ 4000000) :
    Does prog 238 [.agg #[arv], tv] F (L) (fun v F' L' => ∃ (a : Value), ∃ (os : List Int), (a : Value) = v ∧ (IntsF F' a os) ∧ (os.length ≤ t.length) ∧ (∀ x ∈ os, 0 ≤ x ∧ x ≤ 24) ∧ L = L') := by
 refine qL func238 rfl rfl rfl (qc (qa (cX (jd [arv] rfl rfl ?_))))
 intro b1
 refine qg (sN) rfl (qb (qc (qc (qa (cX (qn [arv] js qY rfl rfl (Rd.ownN [] rfl rfl) (qd (tv) rfl (cX (qo (args := [.agg #[arv], tv]) call136 rfl (sTermOk_spec har ht (hla := (by first | assumption | rfl | omega | simp)) (hlt := (by first | assumption | rfl | omega | simp))) ?_)))))))))
 rintro _ _ _ _ ⟨rfl, rfl, rfl⟩
 refine cX (jn rfl (qb ?_))
 refine jN (t := !(termOk ar t)) rfl (fun h1 => ?_) (fun h1 => ?_)
 ·refine qc (qa (cX (qx (s := 1) [] [ii (0)] [] qf qy jh rfl (by decide) rfl CellsAre.nil rfl ?_)))
  intro v1 hv1
  refine qg (v1) rfl (qb ?_)
  show X _ _ _ _ _ _ (intsH 2 v1 ([] : List Int) :: cellsH b1 [arv] 36 :: L)
  refine je [] _ _ rfl (fun F1 le1 hz1 => ?_)
  replace ht := ht.mono le1
  have hf1 : IntsF F1 v1 ([]) := intsH.fz (xs := []) hz1.fz
  refine qw (qm (qs (L' := L) [v1] (v1) (.tmp rfl .nil) rfl le1 rF (sD sR) ?_))
  exact ⟨_, [], rfl, hf1, by simp, fun x hx => by simp at hx, rfl⟩
 have ho : termOk ar t = true := by simpa using h1
 have htl := termOk_len ho
 have htg := fun k (hk : k < t.length) => termOk_ge ho hk
 refine qz (qc (qa (qd (tv) rfl (cX (qo (args := [tv]) call301 rfl (l2Vars_spec ht (hlt := (by first | assumption | rfl | omega | simp)) (htg := (by first | assumption | rfl | omega | simp))) ?_)))))
 rintro _ F2 _ le2 ⟨x1, x2, rfl, hr1, hr2, hr3, rfl⟩
 refine qg (x1) rfl (qb (qw (qs (L' := L) [x1] (x1) (.tmp rfl .nil) rfl le2 rF (sD sR) ?_)))
 exact ⟨_, _, rfl, hr1, hr2, hr3, rfl⟩

/- laws.w9Rule -/
set_option maxHeartbeats 1000000 in
set_option maxRecDepth 20000 in
theorem w9Rule_spec {F : FH} {L : List HP} {cb : Nat} {bsv : Value} {bs : List Int} (hbs : BytesF F bsv bs) (hbl : bs.length ≤ 4000000) :
    Does prog 143 [ptr cb 0] F (curH .u64 194 cb bsv bs.length :: L) (fun v F' L' => (∃ (a : Value), ∃ (b : Value), (.agg #[a, b] : Value) = v ∧ (SomesF F' a (fun u => u.length ≤ 2000)) ∧ (SomesF F' b (fun w => w.length ≤ 2000))) ∧ curH .u64 194 cb bsv bs.length :: L = L') := by
 refine qL func143 rfl rfl rfl ?_
 have hz9 : szB 1 = 3 := rfl
 have hz8 : szB 2 = 7 := rfl
 have hz7 : szB 3 = 15 := rfl
 refine qc (qa (cX (jc [sN, sN] jM rfl ?_)))
 intro b1
 refine qb (qc (qa (cX (qx (s := 1) [ii (1)] [ii (0)] [(0, [ii (1)])] qf qy jh rfl (by decide) rfl (.cons rfl CellsAre.nil) rfl ?_))))
 intro v1 hv1
 refine qd (ptr cb 0) rfl (cX (qo (args := [ptr cb 0, ii ((2 : Nat) : Int), ii (2)]) call237 rfl (Does.atO [_, _] (w9Term_spec 2 (vs := 2) hbs (by omega) (hdp := (by first | assumption | rfl | omega | simp)) (hvs := (by first | assumption | rfl | omega | simp)))) ?_))
 rintro _ F1 _ le1 ⟨x2, ⟨rfl, hsl1⟩, rfl⟩
 replace hbs := hbs.mono le1
 show XL _ _ _ _ _ _ _ (drawnH 2 x2 (fun t => 1 ≤ t.length ∧ t.length ≤ szB 2) :: slH 2 1 v1 1 [ii (1)] :: cellsH b1 [sN, sN] 76 :: curH .u64 194 cb bsv bs.length :: L)
 refine XL.undraw [] rfl (fun t1 hq9 => ?_)
 obtain ⟨q1, q2⟩ := hq9
 show XL _ _ _ _ _ _ _ (intsH 2 x2 t1 :: slH 2 1 v1 1 [ii (1)] :: cellsH b1 [sN, sN] 76 :: curH .u64 194 cb bsv bs.length :: L)
 show XL _ _ _ _ _ _ _ (intsH 2 x2 t1 :: intsH 2 v1 ([1] : List Int) :: cellsH b1 [sN, sN] 76 :: curH .u64 194 cb bsv bs.length :: L)
 refine ym [] _ _ rfl (fun F2 le2 hz1 => ?_)
 replace hbs := hbs.mono le2
 have hf1 : IntsF F2 x2 t1 := intsH.fz (xs := t1) hz1.fz
 refine cX (yc [] _ qf typeInfo2 rfl rfl rfl rfl rfl rfl hf1 (by (try simp only [List.length_append, List.length_nil, List.length_cons, List.length_singleton, List.length_take, List.length_drop]); omega) ?_)
 intro v2 hs1 hn1 hm1
 refine qg (v2) rfl (qb (qc (qc (qa (qd (ptr cb 0) rfl (cX (qo (args := [ptr cb 0, ii (2)]) call57 rfl (Does.at [_, _] (below_spec (n := 2) hbs (by omega) (hn := (by first | assumption | rfl | omega | simp)))) ?_)))))))
 rintro _ _ _ _ ⟨⟨rfl, x3, rfl, hr1⟩, rfl⟩
 show XL _ _ _ _ _ _ _ (intsH 2 v2 (([1]) ++ t1) :: cellsH b1 [sN, sN] 76 :: curH .u64 194 cb bsv bs.length :: L)
 refine cX (jR rfl rfl (qb ?_))
 refine qE (p := (x3 : Int) = 0) rfl (fun h1 => ?_) (fun h1 => ?_)
 ·refine qa (cX (qx (s := 1) [ii (0)] [ii (0)] [(0, [ii (0)])] qf qy jh rfl (by decide) rfl (.cons rfl CellsAre.nil) rfl ?_))
  intro v3 hv2
  refine qd (ptr cb 0) rfl (cX (qo (args := [ptr cb 0, ii ((2 : Nat) : Int), ii (2)]) call237 rfl (Does.atO [_, _, _] (w9Term_spec 2 (vs := 2) hbs (by omega) (hdp := (by first | assumption | rfl | omega | simp)) (hvs := (by first | assumption | rfl | omega | simp)))) ?_))
  rintro _ F4 _ le4 ⟨x5, ⟨rfl, hsl2⟩, rfl⟩
  replace hbs := hbs.mono le4
  show XL _ _ _ _ _ _ _ (drawnH 2 x5 (fun t => 1 ≤ t.length ∧ t.length ≤ szB 2) :: slH 2 1 v3 1 [ii (0)] :: intsH 2 v2 (([1]) ++ t1) :: cellsH b1 [sN, sN] 76 :: curH .u64 194 cb bsv bs.length :: L)
  refine XL.undraw [] rfl (fun t2 hq9 => ?_)
  obtain ⟨q3, q4⟩ := hq9
  show XL _ _ _ _ _ _ _ (intsH 2 x5 t2 :: slH 2 1 v3 1 [ii (0)] :: intsH 2 v2 (([1]) ++ t1) :: cellsH b1 [sN, sN] 76 :: curH .u64 194 cb bsv bs.length :: L)
  show XL _ _ _ _ _ _ _ (intsH 2 x5 t2 :: intsH 2 v3 ([0] : List Int) :: intsH 2 v2 (([1]) ++ t1) :: cellsH b1 [sN, sN] 76 :: curH .u64 194 cb bsv bs.length :: L)
  refine ym [] _ _ rfl (fun F5 le5 hz2 => ?_)
  replace hbs := hbs.mono le5
  have hf2 : IntsF F5 x5 t2 := intsH.fz (xs := t2) hz2.fz
  refine cX (yc [] _ qf typeInfo2 rfl rfl rfl rfl rfl rfl hf2 (by (try simp only [List.length_append, List.length_nil, List.length_cons, List.length_singleton, List.length_take, List.length_drop]); omega) ?_)
  intro v4 hs2 hn2 hm2
  refine qd (ptr cb 0) rfl (cX (qo (args := [ptr cb 0, ii ((1 : Nat) : Int), ii (2)]) call237 rfl (Does.atO [_, _, _] (w9Term_spec 1 (vs := 2) hbs (by omega) (hdp := (by first | assumption | rfl | omega | simp)) (hvs := (by first | assumption | rfl | omega | simp)))) ?_))
  rintro _ F6 _ le6 ⟨x7, ⟨rfl, hsl3⟩, rfl⟩
  replace hbs := hbs.mono le6
  show XL _ _ _ _ _ _ _ (drawnH 2 x7 (fun t => 1 ≤ t.length ∧ t.length ≤ szB 1) :: intsH 2 v4 (([0]) ++ t2) :: intsH 2 v2 (([1]) ++ t1) :: cellsH b1 [sN, sN] 76 :: curH .u64 194 cb bsv bs.length :: L)
  refine XL.undraw [] rfl (fun t3 hq9 => ?_)
  obtain ⟨q5, q6⟩ := hq9
  show XL _ _ _ _ _ _ _ (intsH 2 x7 t3 :: intsH 2 v4 (([0]) ++ t2) :: intsH 2 v2 (([1]) ++ t1) :: cellsH b1 [sN, sN] 76 :: curH .u64 194 cb bsv bs.length :: L)
  refine ym [] _ _ rfl (fun F7 le7 hz3 => ?_)
  replace hbs := hbs.mono le7
  have hf3 : IntsF F7 x7 t3 := intsH.fz (xs := t3) hz3.fz
  refine cX (yc [] _ qf typeInfo2 rfl rfl rfl rfl rfl rfl hf3 (by (try simp only [List.length_append, List.length_nil, List.length_cons, List.length_singleton, List.length_take, List.length_drop]); omega) ?_)
  intro v5 hs3 hn3 hm3
  refine qg (v5) rfl (qb (qc (qa (cX (qo (args := []) call141 rfl (w9Sig_spec ) ?_)))))
  rintro _ F8 _ le8 ⟨x8, rfl, hr2, rfl⟩
  replace hbs := hbs.mono le8
  refine qd (v5) rfl (ym [] _ _ rfl (fun F9 le9 hz4 => ?_))
  replace hbs := hbs.mono le9
  replace hr2 := hr2.mono le9
  have hf4 : IntsF F9 v5 ((([0]) ++ t2) ++ t3) := intsH.fz (xs := (([0]) ++ t2) ++ t3) hz4.fz
  refine cX (qo (args := [.agg #[x8], v5]) call238 rfl (VarsOf_spec hr2 hf4 (hla := (by decide)) (hlt := (by (try simp only [List.length_append, List.length_cons, List.length_nil, List.length_singleton]); omega))) ?_)
  rintro _ F10 _ le10 ⟨x9, x10, rfl, hr3, hr4, hr5, rfl⟩
  replace hbs := hbs.mono le10
  replace hf4 := hf4.mono le10
  refine qg (x9) rfl ?_
  have hvb : ∀ i, i < x10.length → 0 ≤ x10.getD i 0 ∧ x10.getD i 0 ≤ 24 := fun i hi => hr5 _ (by rw [List.getD_eq_getElem?_getD, List.getElem?_eq_getElem hi]; exact List.getElem_mem hi)
  have hvl : x10.length ≤ 100 := by have h9 := hr4; (try simp only [List.length_append, List.length_cons, List.length_nil, List.length_singleton] at h9); omega
  refine qb (qc (qa (qd (ptr cb 0) rfl (cX (qo (args := [ptr cb 0, ii ((3 : Nat) : Int), ii (2)]) call237 rfl (Does.atO [_, _] (w9Term_spec 3 (vs := 2) hbs (by omega) (hdp := (by first | assumption | rfl | omega | simp)) (hvs := (by first | assumption | rfl | omega | simp)))) ?_)))))
  rintro _ F11 _ le11 ⟨x12, ⟨rfl, hsl4⟩, rfl⟩
  replace hbs := hbs.mono le11
  replace hf4 := hf4.mono le11
  replace hr3 := hr3.mono le11
  show XL _ _ _ _ _ _ _ (drawnH 2 x12 (fun t => 1 ≤ t.length ∧ t.length ≤ szB 3) :: intsH 2 v2 (([1]) ++ t1) :: cellsH b1 [sN, sN] 76 :: curH .u64 194 cb bsv bs.length :: L)
  refine XL.undraw [] rfl (fun t4 hq9 => ?_)
  obtain ⟨q7, q8⟩ := hq9
  show XL _ _ _ _ _ _ _ (intsH 2 x12 t4 :: intsH 2 v2 (([1]) ++ t1) :: cellsH b1 [sN, sN] 76 :: curH .u64 194 cb bsv bs.length :: L)
  refine qg (x12) rfl (qb (qc (qc (qa (qg (ii (0)) rfl (qb (qN (jw (α := Nat × List Int × FH) (fun xQ => [(0, ptr cb 0), (2, ptr b1 0), (3, v5), (4, x9), (5, x12), (6, ii (((xQ.1 : Nat) : Int)))]) (fun xQ => intsH 2 x12 xQ.2.1 :: intsH 2 v2 (([1]) ++ t1) :: cellsH b1 [sN, sN] 76 :: curH .u64 194 cb bsv bs.length :: L) (fun xQ F' => xQ.2.2 = F' ∧ F11 ≤ xQ.2.2 ∧ (xQ.1 ≤ xQ.2.1.length) ∧ (xQ.2.1.length = t4.length)) (fun xQ => xQ.2.1.length - xQ.1) (0, t4, F11) ⟨rfl, rfl, rfl, rfl, rfl, rfl, ⟨⟩⟩ (sC (sC (sC (sC sR)))) ⟨rfl, FLe.refl _, (Nat.zero_le _), (rfl)⟩ ?_))))))))
  rintro ⟨k, rr, G1⟩ rE _ _ ⟨rfl, leG, hk, hrl⟩
  show X _ _ _ _ (envs [(0, ptr cb 0), (2, ptr b1 0), (3, v5), (4, x9), (5, x12), (6, ii ((k : Int)))] rE) _ (intsH 2 x12 rr :: intsH 2 v2 (([1]) ++ t1) :: cellsH b1 [sN, sN] 76 :: curH .u64 194 cb bsv bs.length :: L)
  replace leG : F11 ≤ G1 := leG
  dsimp only at hk hrl
  have leG1 := leG
  replace hbs := hbs.mono leG1
  replace hf4 := hf4.mono leG1
  replace hr3 := hr3.mono leG1
  refine qc (qc (qa (qd (ii ((k : Int))) rfl (qd (x12) rfl (cX (qD qf rfl (intsH.slv [] rfl) (cX (jf rfl rfl (qb ?_)))))))))
  refine qE (p := (k : Int) < (rr.length : Int)) rfl (fun h2 => ?_) (fun h2 => ?_)
  ·refine qz (qc (qN (qc (qa (qd (x12) rfl (qd (ii ((k : Int))) rfl (cX (qB k qf qy rfl rfl rfl (intsH.slv [] rfl) (by omega) (Nat.mul_one _) (cX (ql jt rfl (intsH.rd [] rfl (by omega)) (cX (jf rfl rfl (qd (.bool (decide ((rr.getD k 0 : Int) < 0))) rfl ?_)))))))))))))
   by_cases h3 : (rr.getD k 0 : Int) < 0
   ·refine qp (t := 37) rfl (vT h3) (qq (x9) rfl (qp (t := 37) rfl (vT h3) (qD qf rfl hr3.slv (qp (t := 37) rfl (vT h3) (jR rfl rfl (cX (qU (.bool (decide (((x10.length : Int) : Int) = 0))) (vT h3) rfl (qb ?_))))))))
    refine qE (p := ((x10.length : Int) : Int) = 0) rfl (fun h4 => ?_) (fun h4 => ?_)
    ·refine qa (qd (x12) rfl (qd (ii ((k : Int))) rfl (cX (qB k qf qy rfl rfl rfl (intsH.slv [] rfl) (by omega) (Nat.mul_one _) (cX (intsH.storeX (i := k) (v := x12) [] _ (rr.set k 2) qy rfl rfl rfl (by omega) rfl (qb (qa (qd (ii ((k : Int))) rfl (cX (qP (((k + 1 : Nat) : Int)) rfl rfl (by omega) (by omega) (qg (ii (((k + 1 : Nat) : Int))) rfl (qb ?_)))))))))))))
     exact ⟨(k + 1, (rr.set k 2), G1), _, leG1, rF, ⟨rfl, rfl, rfl, rfl, rfl, rfl, ⟨⟩⟩, (sC (sC (sC (sC sR)))), ⟨rfl, leG1, (by (try dsimp only); (try rw [List.length_set]); omega), (by (try dsimp only); (try rw [List.length_set]); omega)⟩, (by (try dsimp only); (try rw [List.length_set]); omega)⟩
    refine qc (qa (qd (x12) rfl (qd (ii ((k : Int))) rfl (cX (qB k qf qy rfl rfl rfl (intsH.slv [] rfl) (by omega) (Nat.mul_one _) (cX (ql jt rfl (intsH.rd [] rfl (by omega)) (cX (jf rfl rfl (qb (jI (vT h3) (qa (qd (x12) rfl ?_)))))))))))))
    refine qd (ii ((k : Int))) rfl (qd (x9) rfl (qd (ptr cb 0) rfl (qd (x9) rfl (cX (qD qf rfl hr3.slv (cX (qo (args := [ptr cb 0, ii ((x10.length : Int))]) call57 rfl (Does.at [_, _, _] (below_spec (n := (x10.length : Int)) hbs (by omega) (hn := (by first | assumption | rfl | omega | simp)))) ?_)))))))
    rintro _ _ _ _ ⟨⟨rfl, x13, rfl, hr6⟩, rfl⟩
    show XL _ _ _ _ _ _ _ (intsH 2 x12 rr :: intsH 2 v2 (([1]) ++ t1) :: cellsH b1 [sN, sN] 76 :: curH .u64 194 cb bsv bs.length :: L)
    have hv9 := hvb (x13).toNat (by omega)
    refine cX (qB ((x13).toNat) qf qy rfl rfl (by omega) hr3.slv (by omega) (Nat.mul_one _) (cX (ql jt rfl (hr3.rd (by omega)) (cX (jF ((-1) - (x10.getD ((x13).toNat) 0)) rfl rfl (by omega) (by omega) (cX (qB k qf qy rfl rfl rfl (intsH.slv [] rfl) (by omega) (Nat.mul_one _) (cX (intsH.storeX (i := k) (v := x12) [] _ (rr.set k ((-1) - (x10.getD ((x13).toNat) 0))) qy rfl rfl rfl (by omega) rfl (qb (qa (qd (ii ((k : Int))) rfl (cX (qP (((k + 1 : Nat) : Int)) rfl rfl (by omega) (by omega) (qg (ii (((k + 1 : Nat) : Int))) rfl (qb ?_))))))))))))))))
    exact ⟨(k + 1, (rr.set k ((-1) - (x10.getD ((x13).toNat) 0))), G1), _, leG1, rF, ⟨rfl, rfl, rfl, rfl, rfl, rfl, ⟨⟩⟩, (sC (sC (sC (sC sR)))), ⟨rfl, leG1, (by (try dsimp only); (try rw [List.length_set]); omega), (by (try dsimp only); (try rw [List.length_set]); omega)⟩, (by (try dsimp only); (try rw [List.length_set]); omega)⟩
   refine qr (t := 37) rfl (vF h3) (qr (t := 37) rfl (vF h3) (qr (t := 37) rfl (vF h3) (cX (qS (.bool (false)) (vF h3) rfl (qb (X.condF rfl (qc (qa (qd (x12) rfl (qd (ii ((k : Int))) rfl (cX (qB k qf qy rfl rfl rfl (intsH.slv [] rfl) (by omega) (Nat.mul_one _) ?_))))))))))))
   refine cX (ql jt rfl (intsH.rd [] rfl (by omega)) (cX (jf rfl rfl (qb (X.condF (vF h3) (qz (qa (qd (ii ((k : Int))) rfl (cX (qP (((k + 1 : Nat) : Int)) rfl rfl (by omega) (by omega) (qg (ii (((k + 1 : Nat) : Int))) rfl (qb ?_))))))))))))
   exact ⟨(k + 1, rr, G1), _, leG1, rF, ⟨rfl, rfl, rfl, rfl, rfl, rfl, ⟨⟩⟩, (sC (sC (sC (sC sR)))), ⟨rfl, leG1, (by (try dsimp only); (try rw [List.length_set]); omega), (by (try dsimp only); (try rw [List.length_set]); omega)⟩, (by (try dsimp only); (try rw [List.length_set]); omega)⟩
  refine jo (qt (qt (qO (qc (qa (qd (v5) rfl (qd (x12) rfl (cX (jg [v5, x12] [sN, sN] [(0, 1), (1, 1)] [(0, [v5]), (1, [x12])] jp jM rfl (.cons rfl qu (.cons rfl qu PlacesAre.nil)) rfl (.cons (cells_one (qF hf4)) (.cons (cells_one hsl4) CellsAre.nil)) (cX (qC [_, _] _ [v5, x12] jU rfl rfl rfl (qj (qJ (qF hf4)) (qj (qJ hsl4) qK)) rfl rfl rfl (qb (je [] _ _ rfl (fun F13 le13 hz5 => ?_))))))))))))))
  replace hbs := hbs.mono le13
  replace hf4 := hf4.mono le13
  have hf5 : IntsF F13 x12 rr := intsH.fz (xs := rr) hz5.fz
  refine qw (qs (L' := curH .u64 194 cb bsv bs.length :: L) [.agg #[v5, x12]] (.agg #[v5, x12]) (.cell rfl (jx [v5, x12] isAgg76 jU rfl (Rd.ownN [_] rfl rfl)) .nil) rfl (qh (qh (qh (qh (qh (qh (qh (qh (qh (qh (qh le1 le2) le4) le5) le6) le7) le8) le9) le10) le11) leG1) le13) rF (sD (sD (sC sR))) ?_)
  exact ⟨⟨_, _, rfl, ⟨_, hf4, by (try simp only [List.length_append, List.length_cons, List.length_nil, List.length_singleton]); omega⟩, ⟨_, hf5, by (try simp only [List.length_append, List.length_cons, List.length_nil, List.length_singleton]); omega⟩⟩, rfl⟩
 refine qz (qc (qa (cX (qo (args := []) call141 rfl (w9Sig_spec ) ?_))))
 rintro _ F14 _ le14 ⟨x14, rfl, hr7, rfl⟩
 replace hbs := hbs.mono le14
 refine qd (v2) rfl (ym [] _ _ rfl (fun F15 le15 hz6 => ?_))
 replace hbs := hbs.mono le15
 replace hr7 := hr7.mono le15
 have hf6 : IntsF F15 v2 (([1]) ++ t1) := intsH.fz (xs := ([1]) ++ t1) hz6.fz
 refine cX (qo (args := [.agg #[x14], v2]) call238 rfl (VarsOf_spec hr7 hf6 (hla := (by decide)) (hlt := (by (try simp only [List.length_append, List.length_cons, List.length_nil, List.length_singleton]); omega))) ?_)
 rintro _ F16 _ le16 ⟨x15, x16, rfl, hr8, hr9, hr10, rfl⟩
 replace hbs := hbs.mono le16
 replace hf6 := hf6.mono le16
 refine qg (x15) rfl ?_
 have hvb : ∀ i, i < x16.length → 0 ≤ x16.getD i 0 ∧ x16.getD i 0 ≤ 24 := fun i hi => hr10 _ (by rw [List.getD_eq_getElem?_getD, List.getElem?_eq_getElem hi]; exact List.getElem_mem hi)
 have hvl : x16.length ≤ 100 := by have h9 := hr9; (try simp only [List.length_append, List.length_cons, List.length_nil, List.length_singleton] at h9); omega
 refine qb (qc (qa (qd (ptr cb 0) rfl (cX (qo (args := [ptr cb 0, ii ((3 : Nat) : Int), ii (2)]) call237 rfl (Does.atO [_] (w9Term_spec 3 (vs := 2) hbs (by omega) (hdp := (by first | assumption | rfl | omega | simp)) (hvs := (by first | assumption | rfl | omega | simp)))) ?_)))))
 rintro _ F17 _ le17 ⟨x18, ⟨rfl, hsl5⟩, rfl⟩
 replace hbs := hbs.mono le17
 replace hf6 := hf6.mono le17
 replace hr8 := hr8.mono le17
 show XL _ _ _ _ _ _ _ (drawnH 2 x18 (fun t => 1 ≤ t.length ∧ t.length ≤ szB 3) :: cellsH b1 [sN, sN] 76 :: curH .u64 194 cb bsv bs.length :: L)
 refine XL.undraw [] rfl (fun t5 hq9 => ?_)
 obtain ⟨q9, q10⟩ := hq9
 show XL _ _ _ _ _ _ _ (intsH 2 x18 t5 :: cellsH b1 [sN, sN] 76 :: curH .u64 194 cb bsv bs.length :: L)
 refine qg (x18) rfl (qb (qc (qc (qa (qg (ii (0)) rfl (qb (qN (jw (α := Nat × List Int × FH) (fun xQ => [(0, ptr cb 0), (2, ptr b1 0), (3, v2), (4, x15), (5, x18), (6, ii (((xQ.1 : Nat) : Int)))]) (fun xQ => intsH 2 x18 xQ.2.1 :: cellsH b1 [sN, sN] 76 :: curH .u64 194 cb bsv bs.length :: L) (fun xQ F' => xQ.2.2 = F' ∧ F17 ≤ xQ.2.2 ∧ (xQ.1 ≤ xQ.2.1.length) ∧ (xQ.2.1.length = t5.length)) (fun xQ => xQ.2.1.length - xQ.1) (0, t5, F17) ⟨rfl, rfl, rfl, rfl, rfl, rfl, ⟨⟩⟩ (sC (sC (sC sR))) ⟨rfl, FLe.refl _, (Nat.zero_le _), (rfl)⟩ ?_))))))))
 rintro ⟨k, rr, G2⟩ rE _ _ ⟨rfl, leG, hk, hrl⟩
 show X _ _ _ _ (envs [(0, ptr cb 0), (2, ptr b1 0), (3, v2), (4, x15), (5, x18), (6, ii ((k : Int)))] rE) _ (intsH 2 x18 rr :: cellsH b1 [sN, sN] 76 :: curH .u64 194 cb bsv bs.length :: L)
 replace leG : F17 ≤ G2 := leG
 dsimp only at hk hrl
 have leG2 := leG
 replace hbs := hbs.mono leG2
 replace hf6 := hf6.mono leG2
 replace hr8 := hr8.mono leG2
 refine qc (qc (qa (qd (ii ((k : Int))) rfl (qd (x18) rfl (cX (qD qf rfl (intsH.slv [] rfl) (cX (jf rfl rfl (qb ?_)))))))))
 refine qE (p := (k : Int) < (rr.length : Int)) rfl (fun h5 => ?_) (fun h5 => ?_)
 ·refine qz (qc (qN (qc (qa (qd (x18) rfl (qd (ii ((k : Int))) rfl (cX (qB k qf qy rfl rfl rfl (intsH.slv [] rfl) (by omega) (Nat.mul_one _) (cX (ql jt rfl (intsH.rd [] rfl (by omega)) (cX (jf rfl rfl (qd (.bool (decide ((rr.getD k 0 : Int) < 0))) rfl ?_)))))))))))))
  by_cases h6 : (rr.getD k 0 : Int) < 0
  ·refine qp (t := 37) rfl (vT h6) (qq (x15) rfl (qp (t := 37) rfl (vT h6) (qD qf rfl hr8.slv (qp (t := 37) rfl (vT h6) (jR rfl rfl (cX (qU (.bool (decide (((x16.length : Int) : Int) = 0))) (vT h6) rfl (qb ?_))))))))
   refine qE (p := ((x16.length : Int) : Int) = 0) rfl (fun h7 => ?_) (fun h7 => ?_)
   ·refine qa (qd (x18) rfl (qd (ii ((k : Int))) rfl (cX (qB k qf qy rfl rfl rfl (intsH.slv [] rfl) (by omega) (Nat.mul_one _) (cX (intsH.storeX (i := k) (v := x18) [] _ (rr.set k 2) qy rfl rfl rfl (by omega) rfl (qb (qa (qd (ii ((k : Int))) rfl (cX (qP (((k + 1 : Nat) : Int)) rfl rfl (by omega) (by omega) (qg (ii (((k + 1 : Nat) : Int))) rfl (qb ?_)))))))))))))
    exact ⟨(k + 1, (rr.set k 2), G2), _, leG2, rF, ⟨rfl, rfl, rfl, rfl, rfl, rfl, ⟨⟩⟩, (sC (sC (sC sR))), ⟨rfl, leG2, (by (try dsimp only); (try rw [List.length_set]); omega), (by (try dsimp only); (try rw [List.length_set]); omega)⟩, (by (try dsimp only); (try rw [List.length_set]); omega)⟩
   refine qc (qa (qd (x18) rfl (qd (ii ((k : Int))) rfl (cX (qB k qf qy rfl rfl rfl (intsH.slv [] rfl) (by omega) (Nat.mul_one _) (cX (ql jt rfl (intsH.rd [] rfl (by omega)) (cX (jf rfl rfl (qb (jI (vT h6) (qa (qd (x18) rfl ?_)))))))))))))
   refine qd (ii ((k : Int))) rfl (qd (x15) rfl (qd (ptr cb 0) rfl (qd (x15) rfl (cX (qD qf rfl hr8.slv (cX (qo (args := [ptr cb 0, ii ((x16.length : Int))]) call57 rfl (Does.at [_, _] (below_spec (n := (x16.length : Int)) hbs (by omega) (hn := (by first | assumption | rfl | omega | simp)))) ?_)))))))
   rintro _ _ _ _ ⟨⟨rfl, x19, rfl, hr11⟩, rfl⟩
   show XL _ _ _ _ _ _ _ (intsH 2 x18 rr :: cellsH b1 [sN, sN] 76 :: curH .u64 194 cb bsv bs.length :: L)
   have hv9 := hvb (x19).toNat (by omega)
   refine cX (qB ((x19).toNat) qf qy rfl rfl (by omega) hr8.slv (by omega) (Nat.mul_one _) (cX (ql jt rfl (hr8.rd (by omega)) (cX (jF ((-1) - (x16.getD ((x19).toNat) 0)) rfl rfl (by omega) (by omega) (cX (qB k qf qy rfl rfl rfl (intsH.slv [] rfl) (by omega) (Nat.mul_one _) (cX (intsH.storeX (i := k) (v := x18) [] _ (rr.set k ((-1) - (x16.getD ((x19).toNat) 0))) qy rfl rfl rfl (by omega) rfl (qb (qa (qd (ii ((k : Int))) rfl (cX (qP (((k + 1 : Nat) : Int)) rfl rfl (by omega) (by omega) (qg (ii (((k + 1 : Nat) : Int))) rfl (qb ?_))))))))))))))))
   exact ⟨(k + 1, (rr.set k ((-1) - (x16.getD ((x19).toNat) 0))), G2), _, leG2, rF, ⟨rfl, rfl, rfl, rfl, rfl, rfl, ⟨⟩⟩, (sC (sC (sC sR))), ⟨rfl, leG2, (by (try dsimp only); (try rw [List.length_set]); omega), (by (try dsimp only); (try rw [List.length_set]); omega)⟩, (by (try dsimp only); (try rw [List.length_set]); omega)⟩
  refine qr (t := 37) rfl (vF h6) (qr (t := 37) rfl (vF h6) (qr (t := 37) rfl (vF h6) (cX (qS (.bool (false)) (vF h6) rfl (qb (X.condF rfl (qc (qa (qd (x18) rfl (qd (ii ((k : Int))) rfl (cX (qB k qf qy rfl rfl rfl (intsH.slv [] rfl) (by omega) (Nat.mul_one _) ?_))))))))))))
  refine cX (ql jt rfl (intsH.rd [] rfl (by omega)) (cX (jf rfl rfl (qb (X.condF (vF h6) (qz (qa (qd (ii ((k : Int))) rfl (cX (qP (((k + 1 : Nat) : Int)) rfl rfl (by omega) (by omega) (qg (ii (((k + 1 : Nat) : Int))) rfl (qb ?_))))))))))))
  exact ⟨(k + 1, rr, G2), _, leG2, rF, ⟨rfl, rfl, rfl, rfl, rfl, rfl, ⟨⟩⟩, (sC (sC (sC sR))), ⟨rfl, leG2, (by (try dsimp only); (try rw [List.length_set]); omega), (by (try dsimp only); (try rw [List.length_set]); omega)⟩, (by (try dsimp only); (try rw [List.length_set]); omega)⟩
 refine jo (qt (qt (qO (qc (qa (qd (v2) rfl (qd (x18) rfl (cX (jg [v2, x18] [sN, sN] [(0, 1), (1, 1)] [(0, [v2]), (1, [x18])] jp jM rfl (.cons rfl qu (.cons rfl qu PlacesAre.nil)) rfl (.cons (cells_one (qF hf6)) (.cons (cells_one hsl5) CellsAre.nil)) (cX (qC [_] _ [v2, x18] jU rfl rfl rfl (qj (qJ (qF hf6)) (qj (qJ hsl5) qK)) rfl rfl rfl (qb (je [] _ _ rfl (fun F19 le19 hz7 => ?_))))))))))))))
 replace hf6 := hf6.mono le19
 have hf7 : IntsF F19 x18 rr := intsH.fz (xs := rr) hz7.fz
 refine qw (qs (L' := curH .u64 194 cb bsv bs.length :: L) [.agg #[v2, x18]] (.agg #[v2, x18]) (.cell rfl (jx [v2, x18] isAgg76 jU rfl (Rd.ownN [] rfl rfl)) .nil) rfl (qh (qh (qh (qh (qh (qh (qh le1 le2) le14) le15) le16) le17) leG2) le19) rF (sD (sC sR)) ?_)
 exact ⟨⟨_, _, rfl, ⟨_, hf6, by (try simp only [List.length_append, List.length_cons, List.length_nil, List.length_singleton]); omega⟩, ⟨_, hf7, by (try simp only [List.length_append, List.length_cons, List.length_nil, List.length_singleton]); omega⟩⟩, rfl⟩

/- laws.w9Known -/
set_option maxRecDepth 20000 in
theorem w9Known_spec {F : FH} {L : List HP} {k : Int} :
    Does prog 142 [ii (k)] F (L) (fun v F' L' => ∃ (b : Value), ∃ (rs : List (List Int × List Int)), (b : Value) = v ∧ (PairsF F' b rs) ∧ (rs.length ≤ 4) ∧ (smallR rs) ∧ L = L') := by
 refine qL func142 rfl rfl rfl (qc (qa (qg (sN) rfl (qb (qc (qc (qa (qd (ii (k)) rfl (qb (qN (qc (qa (cX (jR rfl rfl (qg (.bool (decide ((k : Int) = 0))) rfl (qb ?_))))))))))))))))
 refine qE (p := (k : Int) = 0) rfl (fun h1 => ?_) (fun h1 => ?_)
 ·refine qc (qa (cX (qx (s := 1) [ii (0), ii (2), ii (-1)] [ii (0)] [(0, [ii (0)]), (1, [ii (2)]), (2, [ii (-1)])] qf qy jh rfl (by decide) rfl (.cons rfl (.cons rfl (.cons rfl CellsAre.nil))) rfl ?_)))
  intro v1 hv1
  refine cX (qx (s := 1) [ii (-1)] [ii (0)] [(0, [ii (-1)])] qf qy jh rfl (by decide) rfl (.cons rfl CellsAre.nil) rfl ?_)
  intro v2 hv2
  refine cX (jg [v1, v2] [sN, sN] [(0, 1), (1, 1)] [(0, [v1]), (1, [v2])] jp jM rfl (.cons rfl qu (.cons rfl qu PlacesAre.nil)) rfl (.cons (cells_one (jv hv1)) (.cons (cells_one (jv hv2)) CellsAre.nil)) (cX (qx (s := 1) [ii (0), ii (1), ii (-1), ii (-2)] [ii (0)] [(0, [ii (0)]), (1, [ii (1)]), (2, [ii (-1)]), (3, [ii (-2)])] qf qy jh rfl (by decide) rfl (.cons rfl (.cons rfl (.cons rfl (.cons rfl CellsAre.nil)))) rfl ?_)))
  intro v3 hv3
  refine cX (qx (s := 1) [ii (1), ii (0), ii (-1), ii (-2)] [ii (0)] [(0, [ii (1)]), (1, [ii (0)]), (2, [ii (-1)]), (3, [ii (-2)])] qf qy jh rfl (by decide) rfl (.cons rfl (.cons rfl (.cons rfl (.cons rfl CellsAre.nil)))) rfl ?_)
  intro v4 hv4
  refine cX (jg [v3, v4] [sN, sN] [(0, 1), (1, 1)] [(0, [v3]), (1, [v4])] jp jM rfl (.cons rfl qu (.cons rfl qu PlacesAre.nil)) rfl (.cons (cells_one (jv hv3)) (.cons (cells_one (jv hv4)) CellsAre.nil)) (cX (qx (s := 2) [v1, v2, v3, v4] [sN, sN] [(0, [v1, v2]), (1, [v3, v4])] jA jU jM rfl (by decide) rfl (.cons rfl (.cons rfl CellsAre.nil)) rfl ?_)))
  intro v5 hv5
  refine qg (v5) rfl (qb ?_)
  show X _ _ _ _ _ _ (slH 76 2 v5 2 [v1, v2, v3, v4] :: slH 2 1 v4 4 [ii (1), ii (0), ii (-1), ii (-2)] :: slH 2 1 v3 4 [ii (0), ii (1), ii (-1), ii (-2)] :: slH 2 1 v2 1 [ii (-1)] :: intsH 2 v1 ([0, 2, -1] : List Int) :: L)
  refine je [_, _, _, _] _ _ rfl (fun F1 le1 hz1 => ?_)
  have hf1 : IntsF F1 v1 ([0, 2, -1]) := intsH.fz (xs := [0, 2, -1]) hz1.fz
  show X _ _ _ _ _ _ (slH 76 2 v5 2 [v1, v2, v3, v4] :: slH 2 1 v4 4 [ii (1), ii (0), ii (-1), ii (-2)] :: slH 2 1 v3 4 [ii (0), ii (1), ii (-1), ii (-2)] :: intsH 2 v2 ([-1] : List Int) :: L)
  refine je [_, _, _] _ _ rfl (fun F2 le2 hz2 => ?_)
  replace hf1 := hf1.mono le2
  have hf2 : IntsF F2 v2 ([-1]) := intsH.fz (xs := [-1]) hz2.fz
  show X _ _ _ _ _ _ (slH 76 2 v5 2 [v1, v2, v3, v4] :: slH 2 1 v4 4 [ii (1), ii (0), ii (-1), ii (-2)] :: intsH 2 v3 ([0, 1, -1, -2] : List Int) :: L)
  refine je [_, _] _ _ rfl (fun F3 le3 hz3 => ?_)
  replace hf1 := hf1.mono le3
  replace hf2 := hf2.mono le3
  have hf3 : IntsF F3 v3 ([0, 1, -1, -2]) := intsH.fz (xs := [0, 1, -1, -2]) hz3.fz
  show X _ _ _ _ _ _ (slH 76 2 v5 2 [v1, v2, v3, v4] :: intsH 2 v4 ([1, 0, -1, -2] : List Int) :: L)
  refine je [_] _ _ rfl (fun F4 le4 hz4 => ?_)
  replace hf1 := hf1.mono le4
  replace hf2 := hf2.mono le4
  replace hf3 := hf3.mono le4
  have hf4 : IntsF F4 v4 ([1, 0, -1, -2]) := intsH.fz (xs := [1, 0, -1, -2]) hz4.fz
  have hc1 : PairsC F4 [v1, v2, v3, v4] ([([0, 2, -1], [-1]), ([0, 1, -1, -2], [1, 0, -1, -2])] : List (List Int × List Int)) := (PairsC.snoc (PairsC.snoc (CO.nil : PairsC F4 [] []) hf1 hf2) hf3 hf4)
  refine je [] _ _ rfl (fun F5 le5 hz5 => ?_)
  replace hc1 := hc1.mono le5
  have hf5 : PairsF F5 v5 (([([0, 2, -1], [-1]), ([0, 1, -1, -2], [1, 0, -1, -2])] : List (List Int × List Int))) := CO.fz hc1 (by first | rfl | omega | (rw [List.length_set]; omega) | (simp; done)) hz5.fz
  refine qw (qI (qm (qs (L' := L) [v5] (v5) (.tmp rfl .nil) rfl (qh (qh (qh (qh le1 le2) le3) le4) le5) rF sR ?_)))
  exact ⟨_, _, rfl, hf5, by decide, by unfold smallR; decide, rfl⟩
 refine qc (qa (cX (jR rfl rfl (qg (.bool (decide ((k : Int) = 1))) rfl (qb ?_)))))
 refine qE (p := (k : Int) = 1) rfl (fun h2 => ?_) (fun h2 => ?_)
 ·refine qc (qa (cX (qx (s := 1) [ii (0), ii (0), ii (-1), ii (-2), ii (-3)] [ii (0)] [(0, [ii (0)]), (1, [ii (0)]), (2, [ii (-1)]), (3, [ii (-2)]), (4, [ii (-3)])] qf qy jh rfl (by decide) rfl (.cons rfl (.cons rfl (.cons rfl (.cons rfl (.cons rfl CellsAre.nil))))) rfl ?_)))
  intro v6 hv6
  refine cX (qx (s := 1) [ii (0), ii (-1), ii (0), ii (-2), ii (-3)] [ii (0)] [(0, [ii (0)]), (1, [ii (-1)]), (2, [ii (0)]), (3, [ii (-2)]), (4, [ii (-3)])] qf qy jh rfl (by decide) rfl (.cons rfl (.cons rfl (.cons rfl (.cons rfl (.cons rfl CellsAre.nil))))) rfl ?_)
  intro v7 hv7
  refine cX (jg [v6, v7] [sN, sN] [(0, 1), (1, 1)] [(0, [v6]), (1, [v7])] jp jM rfl (.cons rfl qu (.cons rfl qu PlacesAre.nil)) rfl (.cons (cells_one (jv hv6)) (.cons (cells_one (jv hv7)) CellsAre.nil)) (cX (qx (s := 2) [v6, v7] [sN, sN] [(0, [v6, v7])] jA jU jM rfl (by decide) rfl (.cons rfl CellsAre.nil) rfl ?_)))
  intro v8 hv8
  refine qg (v8) rfl (qb ?_)
  show X _ _ _ _ _ _ (slH 76 2 v8 1 [v6, v7] :: slH 2 1 v7 5 [ii (0), ii (-1), ii (0), ii (-2), ii (-3)] :: intsH 2 v6 ([0, 0, -1, -2, -3] : List Int) :: L)
  refine je [_, _] _ _ rfl (fun F6 le6 hz6 => ?_)
  have hf6 : IntsF F6 v6 ([0, 0, -1, -2, -3]) := intsH.fz (xs := [0, 0, -1, -2, -3]) hz6.fz
  show X _ _ _ _ _ _ (slH 76 2 v8 1 [v6, v7] :: intsH 2 v7 ([0, -1, 0, -2, -3] : List Int) :: L)
  refine je [_] _ _ rfl (fun F7 le7 hz7 => ?_)
  replace hf6 := hf6.mono le7
  have hf7 : IntsF F7 v7 ([0, -1, 0, -2, -3]) := intsH.fz (xs := [0, -1, 0, -2, -3]) hz7.fz
  have hc2 : PairsC F7 [v6, v7] ([([0, 0, -1, -2, -3], [0, -1, 0, -2, -3])] : List (List Int × List Int)) := (PairsC.snoc (CO.nil : PairsC F7 [] []) hf6 hf7)
  refine je [] _ _ rfl (fun F8 le8 hz8 => ?_)
  replace hc2 := hc2.mono le8
  have hf8 : PairsF F8 v8 (([([0, 0, -1, -2, -3], [0, -1, 0, -2, -3])] : List (List Int × List Int))) := CO.fz hc2 (by first | rfl | omega | (rw [List.length_set]; omega) | (simp; done)) hz8.fz
  refine qw (qI (qm (qs (L' := L) [v8] (v8) (.tmp rfl .nil) rfl (qh (qh le6 le7) le8) rF sR ?_)))
  exact ⟨_, _, rfl, hf8, by decide, by unfold smallR; decide, rfl⟩
 refine qc (qa (cX (jR rfl rfl (qg (.bool (decide ((k : Int) = 2))) rfl (qb ?_)))))
 refine qE (p := (k : Int) = 2) rfl (fun h3 => ?_) (fun h3 => ?_)
 ·refine qc (qa (cX (qx (s := 1) [ii (1), ii (1), ii (-1)] [ii (0)] [(0, [ii (1)]), (1, [ii (1)]), (2, [ii (-1)])] qf qy jh rfl (by decide) rfl (.cons rfl (.cons rfl (.cons rfl CellsAre.nil))) rfl ?_)))
  intro v9 hv9
  refine cX (qx (s := 1) [ii (-1)] [ii (0)] [(0, [ii (-1)])] qf qy jh rfl (by decide) rfl (.cons rfl CellsAre.nil) rfl ?_)
  intro v10 hv10
  refine cX (jg [v9, v10] [sN, sN] [(0, 1), (1, 1)] [(0, [v9]), (1, [v10])] jp jM rfl (.cons rfl qu (.cons rfl qu PlacesAre.nil)) rfl (.cons (cells_one (jv hv9)) (.cons (cells_one (jv hv10)) CellsAre.nil)) (cX (qx (s := 2) [v9, v10] [sN, sN] [(0, [v9, v10])] jA jU jM rfl (by decide) rfl (.cons rfl CellsAre.nil) rfl ?_)))
  intro v11 hv11
  refine qg (v11) rfl (qb ?_)
  show X _ _ _ _ _ _ (slH 76 2 v11 1 [v9, v10] :: slH 2 1 v10 1 [ii (-1)] :: intsH 2 v9 ([1, 1, -1] : List Int) :: L)
  refine je [_, _] _ _ rfl (fun F9 le9 hz9 => ?_)
  have hf9 : IntsF F9 v9 ([1, 1, -1]) := intsH.fz (xs := [1, 1, -1]) hz9.fz
  show X _ _ _ _ _ _ (slH 76 2 v11 1 [v9, v10] :: intsH 2 v10 ([-1] : List Int) :: L)
  refine je [_] _ _ rfl (fun F10 le10 hz10 => ?_)
  replace hf9 := hf9.mono le10
  have hf10 : IntsF F10 v10 ([-1]) := intsH.fz (xs := [-1]) hz10.fz
  have hc3 : PairsC F10 [v9, v10] ([([1, 1, -1], [-1])] : List (List Int × List Int)) := (PairsC.snoc (CO.nil : PairsC F10 [] []) hf9 hf10)
  refine je [] _ _ rfl (fun F11 le11 hz11 => ?_)
  replace hc3 := hc3.mono le11
  have hf11 : PairsF F11 v11 (([([1, 1, -1], [-1])] : List (List Int × List Int))) := CO.fz hc3 (by first | rfl | omega | (rw [List.length_set]; omega) | (simp; done)) hz11.fz
  refine qw (qI (qm (qs (L' := L) [v11] (v11) (.tmp rfl .nil) rfl (qh (qh le9 le10) le11) rF sR ?_)))
  exact ⟨_, _, rfl, hf11, by decide, by unfold smallR; decide, rfl⟩
 refine qc (qa (cX (jR rfl rfl (qg (.bool (decide ((k : Int) = 3))) rfl (qb ?_)))))
 refine qE (p := (k : Int) = 3) rfl (fun h4 => ?_) (fun h4 => ?_)
 ·refine qc (qa (cX (qx (s := 1) [ii (0), ii (-1), ii (2)] [ii (0)] [(0, [ii (0)]), (1, [ii (-1)]), (2, [ii (2)])] qf qy jh rfl (by decide) rfl (.cons rfl (.cons rfl (.cons rfl CellsAre.nil))) rfl ?_)))
  intro v12 hv12
  refine cX (qx (s := 1) [ii (-1)] [ii (0)] [(0, [ii (-1)])] qf qy jh rfl (by decide) rfl (.cons rfl CellsAre.nil) rfl ?_)
  intro v13 hv13
  refine cX (jg [v12, v13] [sN, sN] [(0, 1), (1, 1)] [(0, [v12]), (1, [v13])] jp jM rfl (.cons rfl qu (.cons rfl qu PlacesAre.nil)) rfl (.cons (cells_one (jv hv12)) (.cons (cells_one (jv hv13)) CellsAre.nil)) (cX (qx (s := 1) [ii (0), ii (1), ii (-1), ii (1), ii (-2)] [ii (0)] [(0, [ii (0)]), (1, [ii (1)]), (2, [ii (-1)]), (3, [ii (1)]), (4, [ii (-2)])] qf qy jh rfl (by decide) rfl (.cons rfl (.cons rfl (.cons rfl (.cons rfl (.cons rfl CellsAre.nil))))) rfl ?_)))
  intro v14 hv14
  refine cX (qx (s := 1) [ii (0), ii (-1), ii (-2)] [ii (0)] [(0, [ii (0)]), (1, [ii (-1)]), (2, [ii (-2)])] qf qy jh rfl (by decide) rfl (.cons rfl (.cons rfl (.cons rfl CellsAre.nil))) rfl ?_)
  intro v15 hv15
  refine cX (jg [v14, v15] [sN, sN] [(0, 1), (1, 1)] [(0, [v14]), (1, [v15])] jp jM rfl (.cons rfl qu (.cons rfl qu PlacesAre.nil)) rfl (.cons (cells_one (jv hv14)) (.cons (cells_one (jv hv15)) CellsAre.nil)) (cX (qx (s := 2) [v12, v13, v14, v15] [sN, sN] [(0, [v12, v13]), (1, [v14, v15])] jA jU jM rfl (by decide) rfl (.cons rfl (.cons rfl CellsAre.nil)) rfl ?_)))
  intro v16 hv16
  refine qg (v16) rfl (qb ?_)
  show X _ _ _ _ _ _ (slH 76 2 v16 2 [v12, v13, v14, v15] :: slH 2 1 v15 3 [ii (0), ii (-1), ii (-2)] :: slH 2 1 v14 5 [ii (0), ii (1), ii (-1), ii (1), ii (-2)] :: slH 2 1 v13 1 [ii (-1)] :: intsH 2 v12 ([0, -1, 2] : List Int) :: L)
  refine je [_, _, _, _] _ _ rfl (fun F12 le12 hz12 => ?_)
  have hf12 : IntsF F12 v12 ([0, -1, 2]) := intsH.fz (xs := [0, -1, 2]) hz12.fz
  show X _ _ _ _ _ _ (slH 76 2 v16 2 [v12, v13, v14, v15] :: slH 2 1 v15 3 [ii (0), ii (-1), ii (-2)] :: slH 2 1 v14 5 [ii (0), ii (1), ii (-1), ii (1), ii (-2)] :: intsH 2 v13 ([-1] : List Int) :: L)
  refine je [_, _, _] _ _ rfl (fun F13 le13 hz13 => ?_)
  replace hf12 := hf12.mono le13
  have hf13 : IntsF F13 v13 ([-1]) := intsH.fz (xs := [-1]) hz13.fz
  show X _ _ _ _ _ _ (slH 76 2 v16 2 [v12, v13, v14, v15] :: slH 2 1 v15 3 [ii (0), ii (-1), ii (-2)] :: intsH 2 v14 ([0, 1, -1, 1, -2] : List Int) :: L)
  refine je [_, _] _ _ rfl (fun F14 le14 hz14 => ?_)
  replace hf12 := hf12.mono le14
  replace hf13 := hf13.mono le14
  have hf14 : IntsF F14 v14 ([0, 1, -1, 1, -2]) := intsH.fz (xs := [0, 1, -1, 1, -2]) hz14.fz
  show X _ _ _ _ _ _ (slH 76 2 v16 2 [v12, v13, v14, v15] :: intsH 2 v15 ([0, -1, -2] : List Int) :: L)
  refine je [_] _ _ rfl (fun F15 le15 hz15 => ?_)
  replace hf12 := hf12.mono le15
  replace hf13 := hf13.mono le15
  replace hf14 := hf14.mono le15
  have hf15 : IntsF F15 v15 ([0, -1, -2]) := intsH.fz (xs := [0, -1, -2]) hz15.fz
  have hc4 : PairsC F15 [v12, v13, v14, v15] ([([0, -1, 2], [-1]), ([0, 1, -1, 1, -2], [0, -1, -2])] : List (List Int × List Int)) := (PairsC.snoc (PairsC.snoc (CO.nil : PairsC F15 [] []) hf12 hf13) hf14 hf15)
  refine je [] _ _ rfl (fun F16 le16 hz16 => ?_)
  replace hc4 := hc4.mono le16
  have hf16 : PairsF F16 v16 (([([0, -1, 2], [-1]), ([0, 1, -1, 1, -2], [0, -1, -2])] : List (List Int × List Int))) := CO.fz hc4 (by first | rfl | omega | (rw [List.length_set]; omega) | (simp; done)) hz16.fz
  refine qw (qI (qm (qs (L' := L) [v16] (v16) (.tmp rfl .nil) rfl (qh (qh (qh (qh le12 le13) le14) le15) le16) rF sR ?_)))
  exact ⟨_, _, rfl, hf16, by decide, by unfold smallR; decide, rfl⟩
 refine qc (qa (cX (jR rfl rfl (qg (.bool (decide ((k : Int) = 4))) rfl (qb ?_)))))
 refine qE (p := (k : Int) = 4) rfl (fun h5 => ?_) (fun h5 => ?_)
 ·refine qc (qa (cX (qx (s := 1) [ii (1), ii (2)] [ii (0)] [(0, [ii (1)]), (1, [ii (2)])] qf qy jh rfl (by decide) rfl (.cons rfl (.cons rfl CellsAre.nil)) rfl ?_)))
  intro v17 hv17
  refine cX (qx (s := 1) [ii (2)] [ii (0)] [(0, [ii (2)])] qf qy jh rfl (by decide) rfl (.cons rfl CellsAre.nil) rfl ?_)
  intro v18 hv18
  refine cX (jg [v17, v18] [sN, sN] [(0, 1), (1, 1)] [(0, [v17]), (1, [v18])] jp jM rfl (.cons rfl qu (.cons rfl qu PlacesAre.nil)) rfl (.cons (cells_one (jv hv17)) (.cons (cells_one (jv hv18)) CellsAre.nil)) (cX (qx (s := 1) [ii (1), ii (0), ii (-1), ii (-2)] [ii (0)] [(0, [ii (1)]), (1, [ii (0)]), (2, [ii (-1)]), (3, [ii (-2)])] qf qy jh rfl (by decide) rfl (.cons rfl (.cons rfl (.cons rfl (.cons rfl CellsAre.nil)))) rfl ?_)))
  intro v19 hv19
  refine cX (qx (s := 1) [ii (0), ii (1), ii (-2), ii (1), ii (-1)] [ii (0)] [(0, [ii (0)]), (1, [ii (1)]), (2, [ii (-2)]), (3, [ii (1)]), (4, [ii (-1)])] qf qy jh rfl (by decide) rfl (.cons rfl (.cons rfl (.cons rfl (.cons rfl (.cons rfl CellsAre.nil))))) rfl ?_)
  intro v20 hv20
  refine cX (jg [v19, v20] [sN, sN] [(0, 1), (1, 1)] [(0, [v19]), (1, [v20])] jp jM rfl (.cons rfl qu (.cons rfl qu PlacesAre.nil)) rfl (.cons (cells_one (jv hv19)) (.cons (cells_one (jv hv20)) CellsAre.nil)) (cX (qx (s := 2) [v17, v18, v19, v20] [sN, sN] [(0, [v17, v18]), (1, [v19, v20])] jA jU jM rfl (by decide) rfl (.cons rfl (.cons rfl CellsAre.nil)) rfl ?_)))
  intro v21 hv21
  refine qg (v21) rfl (qb ?_)
  show X _ _ _ _ _ _ (slH 76 2 v21 2 [v17, v18, v19, v20] :: slH 2 1 v20 5 [ii (0), ii (1), ii (-2), ii (1), ii (-1)] :: slH 2 1 v19 4 [ii (1), ii (0), ii (-1), ii (-2)] :: slH 2 1 v18 1 [ii (2)] :: intsH 2 v17 ([1, 2] : List Int) :: L)
  refine je [_, _, _, _] _ _ rfl (fun F17 le17 hz17 => ?_)
  have hf17 : IntsF F17 v17 ([1, 2]) := intsH.fz (xs := [1, 2]) hz17.fz
  show X _ _ _ _ _ _ (slH 76 2 v21 2 [v17, v18, v19, v20] :: slH 2 1 v20 5 [ii (0), ii (1), ii (-2), ii (1), ii (-1)] :: slH 2 1 v19 4 [ii (1), ii (0), ii (-1), ii (-2)] :: intsH 2 v18 ([2] : List Int) :: L)
  refine je [_, _, _] _ _ rfl (fun F18 le18 hz18 => ?_)
  replace hf17 := hf17.mono le18
  have hf18 : IntsF F18 v18 ([2]) := intsH.fz (xs := [2]) hz18.fz
  show X _ _ _ _ _ _ (slH 76 2 v21 2 [v17, v18, v19, v20] :: slH 2 1 v20 5 [ii (0), ii (1), ii (-2), ii (1), ii (-1)] :: intsH 2 v19 ([1, 0, -1, -2] : List Int) :: L)
  refine je [_, _] _ _ rfl (fun F19 le19 hz19 => ?_)
  replace hf17 := hf17.mono le19
  replace hf18 := hf18.mono le19
  have hf19 : IntsF F19 v19 ([1, 0, -1, -2]) := intsH.fz (xs := [1, 0, -1, -2]) hz19.fz
  show X _ _ _ _ _ _ (slH 76 2 v21 2 [v17, v18, v19, v20] :: intsH 2 v20 ([0, 1, -2, 1, -1] : List Int) :: L)
  refine je [_] _ _ rfl (fun F20 le20 hz20 => ?_)
  replace hf17 := hf17.mono le20
  replace hf18 := hf18.mono le20
  replace hf19 := hf19.mono le20
  have hf20 : IntsF F20 v20 ([0, 1, -2, 1, -1]) := intsH.fz (xs := [0, 1, -2, 1, -1]) hz20.fz
  have hc5 : PairsC F20 [v17, v18, v19, v20] ([([1, 2], [2]), ([1, 0, -1, -2], [0, 1, -2, 1, -1])] : List (List Int × List Int)) := (PairsC.snoc (PairsC.snoc (CO.nil : PairsC F20 [] []) hf17 hf18) hf19 hf20)
  refine je [] _ _ rfl (fun F21 le21 hz21 => ?_)
  replace hc5 := hc5.mono le21
  have hf21 : PairsF F21 v21 (([([1, 2], [2]), ([1, 0, -1, -2], [0, 1, -2, 1, -1])] : List (List Int × List Int))) := CO.fz hc5 (by first | rfl | omega | (rw [List.length_set]; omega) | (simp; done)) hz21.fz
  refine qw (qI (qm (qs (L' := L) [v21] (v21) (.tmp rfl .nil) rfl (qh (qh (qh (qh le17 le18) le19) le20) le21) rF sR ?_)))
  exact ⟨_, _, rfl, hf21, by decide, by unfold smallR; decide, rfl⟩
 refine qz (qc (qa (cX (qx (s := 1) [ii (0), ii (2), ii (-1)] [ii (0)] [(0, [ii (0)]), (1, [ii (2)]), (2, [ii (-1)])] qf qy jh rfl (by decide) rfl (.cons rfl (.cons rfl (.cons rfl CellsAre.nil))) rfl ?_))))
 intro v22 hv22
 refine cX (qx (s := 1) [ii (-1)] [ii (0)] [(0, [ii (-1)])] qf qy jh rfl (by decide) rfl (.cons rfl CellsAre.nil) rfl ?_)
 intro v23 hv23
 refine cX (jg [v22, v23] [sN, sN] [(0, 1), (1, 1)] [(0, [v22]), (1, [v23])] jp jM rfl (.cons rfl qu (.cons rfl qu PlacesAre.nil)) rfl (.cons (cells_one (jv hv22)) (.cons (cells_one (jv hv23)) CellsAre.nil)) (cX (qx (s := 1) [ii (0), ii (-1), ii (2)] [ii (0)] [(0, [ii (0)]), (1, [ii (-1)]), (2, [ii (2)])] qf qy jh rfl (by decide) rfl (.cons rfl (.cons rfl (.cons rfl CellsAre.nil))) rfl ?_)))
 intro v24 hv24
 refine cX (qx (s := 1) [ii (-1)] [ii (0)] [(0, [ii (-1)])] qf qy jh rfl (by decide) rfl (.cons rfl CellsAre.nil) rfl ?_)
 intro v25 hv25
 refine cX (jg [v24, v25] [sN, sN] [(0, 1), (1, 1)] [(0, [v24]), (1, [v25])] jp jM rfl (.cons rfl qu (.cons rfl qu PlacesAre.nil)) rfl (.cons (cells_one (jv hv24)) (.cons (cells_one (jv hv25)) CellsAre.nil)) (cX (qx (s := 1) [ii (0), ii (0), ii (-1), ii (-2), ii (-3)] [ii (0)] [(0, [ii (0)]), (1, [ii (0)]), (2, [ii (-1)]), (3, [ii (-2)]), (4, [ii (-3)])] qf qy jh rfl (by decide) rfl (.cons rfl (.cons rfl (.cons rfl (.cons rfl (.cons rfl CellsAre.nil))))) rfl ?_)))
 intro v26 hv26
 refine cX (qx (s := 1) [ii (0), ii (-1), ii (0), ii (-2), ii (-3)] [ii (0)] [(0, [ii (0)]), (1, [ii (-1)]), (2, [ii (0)]), (3, [ii (-2)]), (4, [ii (-3)])] qf qy jh rfl (by decide) rfl (.cons rfl (.cons rfl (.cons rfl (.cons rfl (.cons rfl CellsAre.nil))))) rfl ?_)
 intro v27 hv27
 refine cX (jg [v26, v27] [sN, sN] [(0, 1), (1, 1)] [(0, [v26]), (1, [v27])] jp jM rfl (.cons rfl qu (.cons rfl qu PlacesAre.nil)) rfl (.cons (cells_one (jv hv26)) (.cons (cells_one (jv hv27)) CellsAre.nil)) (cX (qx (s := 2) [v22, v23, v24, v25, v26, v27] [sN, sN] [(0, [v22, v23]), (1, [v24, v25]), (2, [v26, v27])] jA jU jM rfl (by decide) rfl (.cons rfl (.cons rfl (.cons rfl CellsAre.nil))) rfl ?_)))
 intro v28 hv28
 refine qg (v28) rfl (qb ?_)
 show X _ _ _ _ _ _ (slH 76 2 v28 3 [v22, v23, v24, v25, v26, v27] :: slH 2 1 v27 5 [ii (0), ii (-1), ii (0), ii (-2), ii (-3)] :: slH 2 1 v26 5 [ii (0), ii (0), ii (-1), ii (-2), ii (-3)] :: slH 2 1 v25 1 [ii (-1)] :: slH 2 1 v24 3 [ii (0), ii (-1), ii (2)] :: slH 2 1 v23 1 [ii (-1)] :: intsH 2 v22 ([0, 2, -1] : List Int) :: L)
 refine je [_, _, _, _, _, _] _ _ rfl (fun F22 le22 hz22 => ?_)
 have hf22 : IntsF F22 v22 ([0, 2, -1]) := intsH.fz (xs := [0, 2, -1]) hz22.fz
 show X _ _ _ _ _ _ (slH 76 2 v28 3 [v22, v23, v24, v25, v26, v27] :: slH 2 1 v27 5 [ii (0), ii (-1), ii (0), ii (-2), ii (-3)] :: slH 2 1 v26 5 [ii (0), ii (0), ii (-1), ii (-2), ii (-3)] :: slH 2 1 v25 1 [ii (-1)] :: slH 2 1 v24 3 [ii (0), ii (-1), ii (2)] :: intsH 2 v23 ([-1] : List Int) :: L)
 refine je [_, _, _, _, _] _ _ rfl (fun F23 le23 hz23 => ?_)
 replace hf22 := hf22.mono le23
 have hf23 : IntsF F23 v23 ([-1]) := intsH.fz (xs := [-1]) hz23.fz
 show X _ _ _ _ _ _ (slH 76 2 v28 3 [v22, v23, v24, v25, v26, v27] :: slH 2 1 v27 5 [ii (0), ii (-1), ii (0), ii (-2), ii (-3)] :: slH 2 1 v26 5 [ii (0), ii (0), ii (-1), ii (-2), ii (-3)] :: slH 2 1 v25 1 [ii (-1)] :: intsH 2 v24 ([0, -1, 2] : List Int) :: L)
 refine je [_, _, _, _] _ _ rfl (fun F24 le24 hz24 => ?_)
 replace hf22 := hf22.mono le24
 replace hf23 := hf23.mono le24
 have hf24 : IntsF F24 v24 ([0, -1, 2]) := intsH.fz (xs := [0, -1, 2]) hz24.fz
 show X _ _ _ _ _ _ (slH 76 2 v28 3 [v22, v23, v24, v25, v26, v27] :: slH 2 1 v27 5 [ii (0), ii (-1), ii (0), ii (-2), ii (-3)] :: slH 2 1 v26 5 [ii (0), ii (0), ii (-1), ii (-2), ii (-3)] :: intsH 2 v25 ([-1] : List Int) :: L)
 refine je [_, _, _] _ _ rfl (fun F25 le25 hz25 => ?_)
 replace hf22 := hf22.mono le25
 replace hf23 := hf23.mono le25
 replace hf24 := hf24.mono le25
 have hf25 : IntsF F25 v25 ([-1]) := intsH.fz (xs := [-1]) hz25.fz
 show X _ _ _ _ _ _ (slH 76 2 v28 3 [v22, v23, v24, v25, v26, v27] :: slH 2 1 v27 5 [ii (0), ii (-1), ii (0), ii (-2), ii (-3)] :: intsH 2 v26 ([0, 0, -1, -2, -3] : List Int) :: L)
 refine je [_, _] _ _ rfl (fun F26 le26 hz26 => ?_)
 replace hf22 := hf22.mono le26
 replace hf23 := hf23.mono le26
 replace hf24 := hf24.mono le26
 replace hf25 := hf25.mono le26
 have hf26 : IntsF F26 v26 ([0, 0, -1, -2, -3]) := intsH.fz (xs := [0, 0, -1, -2, -3]) hz26.fz
 show X _ _ _ _ _ _ (slH 76 2 v28 3 [v22, v23, v24, v25, v26, v27] :: intsH 2 v27 ([0, -1, 0, -2, -3] : List Int) :: L)
 refine je [_] _ _ rfl (fun F27 le27 hz27 => ?_)
 replace hf22 := hf22.mono le27
 replace hf23 := hf23.mono le27
 replace hf24 := hf24.mono le27
 replace hf25 := hf25.mono le27
 replace hf26 := hf26.mono le27
 have hf27 : IntsF F27 v27 ([0, -1, 0, -2, -3]) := intsH.fz (xs := [0, -1, 0, -2, -3]) hz27.fz
 have hc6 : PairsC F27 [v22, v23, v24, v25, v26, v27] ([([0, 2, -1], [-1]), ([0, -1, 2], [-1]), ([0, 0, -1, -2, -3], [0, -1, 0, -2, -3])] : List (List Int × List Int)) := (PairsC.snoc (PairsC.snoc (PairsC.snoc (CO.nil : PairsC F27 [] []) hf22 hf23) hf24 hf25) hf26 hf27)
 refine je [] _ _ rfl (fun F28 le28 hz28 => ?_)
 replace hc6 := hc6.mono le28
 have hf28 : PairsF F28 v28 (([([0, 2, -1], [-1]), ([0, -1, 2], [-1]), ([0, 0, -1, -2, -3], [0, -1, 0, -2, -3])] : List (List Int × List Int))) := CO.fz hc6 (by first | rfl | omega | (rw [List.length_set]; omega) | (simp; done)) hz28.fz
 refine qw (qs (L' := L) [v28] (v28) (.tmp rfl .nil) rfl (qh (qh (qh (qh (qh (qh le22 le23) le24) le25) le26) le27) le28) rF sR ?_)
 exact ⟨_, _, rfl, hf28, by decide, by unfold smallR; decide, rfl⟩

/- laws.w9System -/
set_option maxHeartbeats 1000000 in
set_option maxRecDepth 20000 in
theorem w9System_spec {F : FH} {L : List HP} {cb : Nat} {bsv : Value} {bs : List Int} (hbs : BytesF F bsv bs) (hbl : bs.length ≤ 4000000) :
    Does prog 56 [ptr cb 0] F (curH .u64 194 cb bsv bs.length :: L) (fun v F' L' => (∃ (a : Value), ∃ (b : Value), ∃ (rs : List (List Int × List Int)), (.agg #[a, b] : Value) = v ∧ (IntsF F' a [2, 1, 0]) ∧ (PairsF F' b rs) ∧ (smallS [2, 1, 0] rs)) ∧ curH .u64 194 cb bsv bs.length :: L = L') := by
 refine qL func56 rfl rfl rfl (qc (qa (cX (jc [sN, sN] zeroValue39 rfl ?_))))
 intro b1
 refine qb (qc (qa (cX (qo (args := []) call141 rfl (w9Sig_spec ) ?_))))
 rintro _ F1 _ le1 ⟨x1, rfl, hr1, rfl⟩
 replace hbs := hbs.mono le1
 refine cX (jg [x1, sN] [sN, sN] [(0, 1), (1, 1)] [(0, [x1])] ja zeroValue39 rfl (.cons rfl qY (.cons rfl yd PlacesAre.nil)) rfl (.cons rfl CellsAre.nil) (cX (jc [sN, sN] zeroValue39 rfl ?_)))
 intro b2
 refine cX (qC [] _ [x1, sN] jl rfl rfl rfl (qj (qJ (qF hr1)) (qj rfl qK)) rfl rfl rfl (qb (qc (qc (qa (qd (ptr cb 0) rfl (cX (qo (args := [ptr cb 0, ii (2)]) call57 rfl (Does.at [_, _] (below_spec (n := 2) hbs (by omega) (hn := (by first | assumption | rfl | omega | simp)))) ?_))))))))
 rintro _ _ _ _ ⟨⟨rfl, x2, rfl, hr2⟩, rfl⟩
 show XL _ _ _ _ _ _ _ (cellsH b2 [x1, sN] 39 :: cellsH b1 [sN, sN] 39 :: curH .u64 194 cb bsv bs.length :: L)
 refine cX (jR rfl rfl (qb ?_))
 refine qE (p := (x2 : Int) = 0) rfl (fun h1 => ?_) (fun h1 => ?_)
 ·refine qc (qa (qd (ptr cb 0) rfl (cX (qo (args := [ptr cb 0, ii (6)]) call57 rfl (Does.at [_, _] (below_spec (n := 6) hbs (by omega) (hn := (by first | assumption | rfl | omega | simp)))) ?_))))
  rintro _ _ _ _ ⟨⟨rfl, x3, rfl, hr3⟩, rfl⟩
  show XL _ _ _ _ _ _ _ (cellsH b2 [x1, sN] 39 :: cellsH b1 [sN, sN] 39 :: curH .u64 194 cb bsv bs.length :: L)
  refine cX (qo (args := [ii (x3)]) call142 rfl (w9Known_spec (k := x3)) ?_)
  rintro _ F4 _ le4 ⟨x4, x5, rfl, hr4, hr5, hr6, rfl⟩
  replace hbs := hbs.mono le4
  replace hr1 := hr1.mono le4
  refine cX (qk (1) ja rfl yd (by decide) rfl rfl (cX (jK [] _ [x1, x4] yd rfl rfl (qJ (PairsF.isSl hr4)) rfl rfl rfl (qb (qc (qa (cX (qn [x1, x4] jr jl rfl rfl (Rd.ownN [] rfl rfl) (cX (qC [_] _ [x1, x4] jl rfl rfl rfl (qj (qJ (qF hr1)) (qj (qJ (PairsF.isSl hr4)) qK)) rfl rfl rfl (qb (qw (qm (qs (L' := curH .u64 194 cb bsv bs.length :: L) [.agg #[x1, x4]] (.agg #[x1, x4]) (.cell rfl (jx [x1, x4] jr jl rfl (Rd.ownN [_] rfl rfl)) .nil) rfl (qh le1 le4) rF (sD (sD (sC sR))) ?_))))))))))))))
  exact ⟨⟨_, _, _, rfl, hr1, hr4, smallS.mk' (by decide) (by have h9 := hr5; omega) hr6⟩, rfl⟩
 refine qz (qc (qc (qa (qd (ptr cb 0) rfl (cX (qo (args := [ptr cb 0, ii (3)]) call57 rfl (Does.at [_, _] (below_spec (n := 3) hbs (by omega) (hn := (by first | assumption | rfl | omega | simp)))) ?_))))))
 rintro _ _ _ _ ⟨⟨rfl, x6, rfl, hr7⟩, rfl⟩
 show XL _ _ _ _ _ _ _ (cellsH b2 [x1, sN] 39 :: cellsH b1 [sN, sN] 39 :: curH .u64 194 cb bsv bs.length :: L)
 refine cX (qP (1 + x6) rfl rfl (by omega) (by omega) (qg (ii (1 + x6)) rfl (qb (qN (jw (α := Nat × Value × List (List Int × List Int) × List Value × Nat × FH) (fun xQ => [(0, ptr cb 0), (2, ptr b1 0), (3, ptr b2 0), (4, ii (((xQ.1 : Nat) : Int)))]) (fun xQ => slH 76 2 xQ.2.1 xQ.2.2.2.2.1 xQ.2.2.2.1 :: cellsH b2 [x1, xQ.2.1] 39 :: cellsH b1 [sN, sN] 39 :: curH .u64 194 cb bsv bs.length :: L) (fun xQ F' => xQ.2.2.2.2.2 = F' ∧ F1 ≤ xQ.2.2.2.2.2 ∧ (IsSl xQ.2.1) ∧ (PairsC xQ.2.2.2.2.2 xQ.2.2.2.1 xQ.2.2.1) ∧ (xQ.2.2.2.2.1 = xQ.2.2.1.length) ∧ (xQ.2.2.1.length + xQ.1 ≤ 4) ∧ (smallR xQ.2.2.1)) (fun xQ => xQ.1) ((1 + x6).toNat, sN, [], [], 0, F1) ⟨rfl, rfl, rfl, (vI (by omega)), ⟨⟩⟩ (qR (Sub.addNil 76 2 _ _) (sC (sC (sC (sC sR))))) ⟨rfl, FLe.refl _, (⟨_, _, _, rfl⟩), (CO.nil), (rfl), (by (try dsimp only); simp only [List.length_nil]; omega), (smallR.nil)⟩ ?_)))))
 rintro ⟨n, ov, os, cs, m, G1⟩ rE _ _ ⟨rfl, leG, hov, hC, hm, hon, hos⟩
 show X _ _ _ _ (envs [(0, ptr cb 0), (2, ptr b1 0), (3, ptr b2 0), (4, ii ((n : Int)))] rE) _ (slH 76 2 ov m cs :: cellsH b2 [x1, ov] 39 :: cellsH b1 [sN, sN] 39 :: curH .u64 194 cb bsv bs.length :: L)
 replace leG : F1 ≤ G1 := leG
 dsimp only at hov hC hm hon hos
 have leG1 := leG
 replace hbs := hbs.mono leG1
 replace hr1 := hr1.mono leG1
 refine qc (qc (qa (qd (ii ((n : Int))) rfl (cX (jQ rfl rfl (qb ?_))))))
 refine qE (p := (n : Int) > 0) rfl (fun h2 => ?_) (fun h2 => ?_)
 ·refine qz (qc (qN ?_))
  refine jZ [slH 76 2 ov m cs, cellsH b2 [x1, ov] 39, cellsH b1 [sN, sN] 39, curH .u64 194 cb bsv bs.length] L 5 [[], [], [], [], [3]] [[], [0], [], [2], [3]] [] (phiG [pe (ptr b2 1), pe ov, pe (ptr cb 0), fun FF us v => (.agg #[((aggAt v 0)), ((aggAt v 1))] : Value) = v ∧ (SomesF FF ((aggAt v 0)) (fun u => u.length ≤ 2000)) ∧ (SomesF FF ((aggAt v 1)) (fun w => w.length ≤ 2000)), fun FF us v => ∃ b, v = .slice (some ⟨b, 0, none⟩) 1 1]) (ownL [o0, o0, o0, o0, fun us v => [slH 76 2 v 1 [((aggAt (us.getD 0 undef) 0)), ((aggAt (us.getD 0 undef) 1))]]]) mixed rfl rfl (by kernel_rfl) (by kernel_rfl) (MonoG.get (m1 (m1 (m1 (mC (fun le h => ⟨h.1, h.2.1.mono le, h.2.2.mono le⟩) (mC (fun le h => h) MonoG.nil)))))) ?_ ?_
  ·refine gD (fun W Fs R lF z9 => ?_) ?_
   ·refine qi (qk (1) ja rfl yd (by decide) rfl rfl ?_)
    exact ⟨rfl, rfl⟩
   refine gD (fun W Fs R lF z9 => ?_) ?_
   ·replace hbs := hbs.mono lF
    replace hr1 := hr1.mono lF
    replace hC := hC.mono lF
    rw [eS (l := [(0, _)]) ⟨z9 0 rfl, ⟨⟩⟩]
    refine qi (ql isAgg37 rfl (Rd.own [_] rfl rfl) ?_)
    exact ⟨rfl, rfl⟩
   refine gD (fun W Fs R lF z9 => ?_) ?_
   ·refine qi (qq (ptr cb 0) rfl ?_)
    exact ⟨rfl, rfl⟩
   refine gD (fun W Fs R lF z9 => ?_) ?_
   ·replace hbs := hbs.mono lF
    replace hr1 := hr1.mono lF
    replace hC := hC.mono lF
    rw [eS (l := [(2, _)]) ⟨z9 2 rfl, ⟨⟩⟩]
    refine qi (qo (args := [ptr cb 0]) call143 rfl (Does.at [_, _, _] (w9Rule_spec hbs (by omega))) ?_)
    rintro _ F7 _ le7 ⟨⟨x9, x10, rfl, hr10, hr11⟩, rfl⟩
    replace hr1 := hr1.mono le7
    replace hC := hC.mono le7
    exact ⟨⟨rfl, hr10, hr11⟩, rfl⟩
   refine gD (fun W Fs R lF z9 => ?_) ?_
   ·obtain ⟨e3, f3_1hp_a, f3_1hp_b⟩ := z9 3 rfl
    obtain ⟨t3X1_a, f3_1hp_a, q3_1_a0⟩ := f3_1hp_a
    obtain ⟨t3X1_b, f3_1hp_b, q3_1_b0⟩ := f3_1hp_b
    replace hr1 := hr1.mono lF
    replace hC := hC.mono lF
    rw [eS (l := [(3, (.agg #[((aggAt (W 3) 0)), ((aggAt (W 3) 1))]))]) ⟨(e3).symm, ⟨⟩⟩]
    refine qi (qx (s := 2) [((aggAt (W 3) 0)), ((aggAt (W 3) 1))] [sN, sN] [(0, [((aggAt (W 3) 0)), ((aggAt (W 3) 1))])] jA jU jM rfl (by decide) rfl (.cons rfl CellsAre.nil) rfl ?_)
    intro v2 hv2
    exact ⟨hv2, rfl⟩
   exact stepsG.nil
  intro W F8 le8 hphi
  obtain ⟨e3, f3_1hp_a, f3_1hp_b⟩ := hphi 3 (by decide)
  obtain ⟨t3X1_a, f3_1hp_a, q3_1_a0⟩ := f3_1hp_a
  obtain ⟨t3X1_b, f3_1hp_b, q3_1_b0⟩ := f3_1hp_b
  have f4 : ∃ b, (W 4) = .slice (some ⟨b, 0, none⟩) 1 1 := hphi 4 (by decide)
  generalize hu1 : ((aggAt (W 3) 0)) = u1 at e3 f3_1hp_a f3_1hp_b f4
  generalize hu2 : ((aggAt (W 3) 1)) = u2 at e3 f3_1hp_a f3_1hp_b f4
  generalize hu4 : W 4 = u3 at e3 f3_1hp_a f3_1hp_b f4
  rw [eS (l := [(1, _), (3, (.agg #[u1, u2])), (4, u3)]) ⟨(hphi 1 (by decide)), (e3).symm, hu4, ⟨⟩⟩]
  replace hr1 := hr1.mono le8
  replace hC := hC.mono le8
  show XL _ _ _ _ _ _ _ (slH 76 2 u3 1 [u1, u2] :: slH 76 2 ov m cs :: cellsH b2 [x1, ov] 39 :: cellsH b1 [sN, sN] 39 :: curH .u64 194 cb bsv bs.length :: L)
  refine cX (jV (m := 1) (bytes := 48) (cs := cs) [_] _ [u1, u2] jA typeInfo76 rfl rfl rfl rfl rfl rfl rfl (SlV.own [] rfl) rfl (Rd.lit [] rfl) (qj (qJ (qF f3_1hp_a)) (qj (qJ (qF f3_1hp_b)) qK)) (by (try simp only [List.length_append, List.length_nil, List.length_cons, List.length_singleton]); omega) (by (try simp only [List.length_append, List.length_nil, List.length_cons, List.length_singleton]); omega) ?_)
  intro v3 hs1 hn1 hm1
  have hc1 := PairsC.snoc hC f3_1hp_a f3_1hp_b
  refine cX (qk (1) ja rfl yd (by decide) rfl rfl (cX (jK [_, _] _ [x1, v3] yd rfl rfl (qJ hs1) rfl rfl rfl (qb (qa (qd (ii ((n : Int))) rfl (cX (jF (((n : Int)) - 1) rfl rfl (by omega) (by omega) (qg (ii (((n : Int)) - 1)) rfl (qb ?_))))))))))
  exact ⟨(n - 1, v3, os ++ [(t3X1_a, t3X1_b)], cs ++ [u1, u2], (m) + 1, F8), _, (qh leG1 le8), rF, ⟨rfl, rfl, rfl, (vI (by (try dsimp only); omega)), ⟨⟩⟩, (sD (sC (sC (sC (sC sR))))), ⟨rfl, (qh leG1 le8), (hs1), (hc1), (by (try dsimp only); rw [List.length_append]; simp only [List.length_singleton]; omega), (by (try dsimp only); rw [List.length_append]; simp only [List.length_singleton]; omega), (smallR.snoc hos q3_1_a0 q3_1_b0)⟩, (by (try dsimp only); omega)⟩
 refine jo (qt (qt (qO (qc (qa (cX (qn [x1, ov] jr jl rfl rfl (Rd.ownN [_] rfl rfl) (cX (qC [_, _] _ [x1, ov] jl rfl rfl rfl (qj (qJ (qF hr1)) (qj (qJ hov) qK)) rfl rfl rfl (qb (je [] _ _ rfl (fun F9 le9 hz1 => ?_))))))))))))
 replace hr1 := hr1.mono le9
 replace hC := hC.mono le9
 have hf1 : PairsF F9 ov os := CO.fz hC (by first | rfl | omega | (rw [List.length_set]; omega) | (simp; done)) hz1.fz
 refine qw (qs (L' := curH .u64 194 cb bsv bs.length :: L) [.agg #[x1, ov]] (.agg #[x1, ov]) (.cell rfl (jx [x1, ov] jr jl rfl (Rd.ownN [_] rfl rfl)) .nil) rfl (qh (qh le1 leG1) le9) rF (sD (sD (sC sR))) ?_)
 exact ⟨⟨_, _, _, rfl, hr1, hf1, smallS.mk' (by decide) (by omega) hos⟩, rfl⟩

/- impl.LoopAgain -/
set_option maxHeartbeats 1000000 in
set_option maxRecDepth 20000 in
theorem LoopAgain_spec {F : FH} {L : List HP} {arv : Value} {ar : List Int} (har : IntsF F arv ar) {rsv : Value} {rs : List (List Int × List Int)} (hrs : PairsF F rsv rs) {fv : Value} {f : List Int} (hf : IntsF F fv f) {ssv : Value} {ss : List StepT} (hss : StepsF F ssv ss) {p : Int} {sv : Value} {s : List (List Int)} (hs : RowsF F sv s) {many : Int} (hlf : f.length ≤ 4000000) (hsb : ∀ i, i < ss.length → (ss.getD i (0, 0, [])).2.2.length ≤ 4000000) (hlss : ss.length ≤ 4000000) :
    Does prog 62 [.agg #[arv, rsv], .agg #[fv, ssv, ii (p), sv], ii (many)] F (L) (fun v F' L' => ∃ (a : Value), ∃ (b : Value), (.tuple #[.agg #[a, b], .bool ((againF ar rs f ss p s many).2.2)] : Value) = v ∧ (IntsF F' a (againF ar rs f ss p s many).1) ∧ (StepsF F' b (againF ar rs f ss p s many).2.1) ∧ L = L') := by
 refine qL func62 rfl rfl rfl (qc (qa (cX (jd [arv, rsv] rfl rfl ?_))))
 intro b1
 refine cX (jd [fv, ssv, ii (p), sv] rfl rfl ?_)
 intro b2
 refine cX (jc [sN, sN] jq rfl ?_)
 intro b3
 refine qg (.bool (false)) rfl (qb (qc (qc (qa (cX (qn [arv, rsv] jr jl rfl rfl (Rd.ownN [_, _] rfl rfl) (cX (qn [fv, ssv, ii (p), sv] jX jz rfl rfl (Rd.ownN [_] rfl rfl) (cX (qo (args := [.agg #[arv, rsv], .agg #[fv, ssv, ii (p), sv]]) call61 rfl (LoopOk_spec har hrs hf hss hs (hlf := (by first | assumption | rfl | omega | simp)) (hsb := (by first | assumption | rfl | omega | simp)) (hlss := (by first | assumption | rfl | omega | simp))) ?_))))))))))
 rintro _ _ _ _ ⟨rfl, rfl, rfl⟩
 refine cX (jn rfl (qd (.bool (!((sysOk ar rs && loopOkL ar rs f ss p s)))) rfl ?_))
 by_cases h1 : (!((sysOk ar rs && loopOkL ar rs f ss p s))) = true
 ·have hno : ¬ againOk ar rs f ss p s many := fun hc => absurd hc.1 (by rw [Bool.not_inj (y := false) h1]; simp)
  refine qr (t := 16) rfl (vB h1) (qr (t := 16) rfl (vB h1) (cX (qU (.bool (true)) (vB h1) rfl (qd (.bool (true)) rfl (qr (t := 20) rfl rfl (qr (t := 20) rfl rfl (cX (qU (.bool (true)) rfl rfl (qd (.bool (true)) rfl (qr (t := 24) rfl rfl (qr (t := 24) rfl rfl ?_)))))))))))
  refine qr (t := 24) rfl rfl (qr (t := 24) rfl rfl (qr (t := 24) rfl rfl (qr (t := 24) rfl rfl (qr (t := 24) rfl rfl (cX (qU (.bool (true)) rfl rfl (qb (jI rfl (qc (qa (cX (jg [sN, sN] [sN, sN] [(0, 1), (1, 1)] [] qA jq rfl (.cons rfl qu (.cons rfl jj PlacesAre.nil)) rfl CellsAre.nil ?_))))))))))))
  refine cX (qC [] _ [sN, sN] qH rfl rfl rfl (qj rfl (qj rfl qK)) rfl rfl rfl (qg (.bool (false)) rfl (qb (qw (qm (qs (L' := L) [.agg #[sN, sN], .bool (false)] (.tuple #[.agg #[sN, sN], .bool (false)]) (.cell rfl (jx [sN, sN] jy qH rfl (Rd.ownN [] rfl rfl)) (.tmp rfl .nil)) rfl rF rF (sD (sD (sD sR))) ?_))))))
  have e : againF ar rs f ss p s many = ([], [], false) := againF_no hno
  exact ⟨_, _, by rw [e], by rw [e]; exact IntsF.nilV, by rw [e]; exact SlOf.nilV, rfl⟩
 rw [Bool.not_eq_true] at h1
 have hlo : (sysOk ar rs && loopOkL ar rs f ss p s) = true := Bool.not_inj (y := true) h1
 have hlo2 := hlo
 simp only [Bool.and_eq_true] at hlo2
 have hlk := hlo2.2
 have hl5 := loopOkL_iff.1 hlk
 have hp09 := (posOk_iff.1 hl5.2.2.1).2.1
 have hwk := hl5.2.1
 have hbk := walkOk_bnd hwk
 have hsl := (substOk_iff.1 hl5.2.2.2.1).2.1
 refine qp (t := 16) rfl (vB h1) (qq (ii (many)) rfl (qp (t := 16) rfl (vB h1) (jf rfl rfl (cX (qS (.bool (decide ((many : Int) < 1))) (vB h1) rfl (qd (.bool (decide ((many : Int) < 1))) rfl ?_))))))
 by_cases h2 : (many : Int) < 1
 ·have hno : ¬ againOk ar rs f ss p s many := fun hc => by have := hc.2.1; omega
  refine qr (t := 20) rfl (vT h2) (qr (t := 20) rfl (vT h2) (cX (qU (.bool (true)) (vT h2) rfl (qd (.bool (true)) rfl (qr (t := 24) rfl rfl (qr (t := 24) rfl rfl (qr (t := 24) rfl rfl (qr (t := 24) rfl rfl (qr (t := 24) rfl rfl (qr (t := 24) rfl rfl ?_))))))))))
  refine qr (t := 24) rfl rfl (cX (qU (.bool (true)) rfl rfl (qb (jI rfl (qc (qa (cX (jg [sN, sN] [sN, sN] [(0, 1), (1, 1)] [] qA jq rfl (.cons rfl qu (.cons rfl jj PlacesAre.nil)) rfl CellsAre.nil (cX (qC [] _ [sN, sN] qH rfl rfl rfl (qj rfl (qj rfl qK)) rfl rfl rfl (qg (.bool (false)) rfl (qb (qw (qm (qs (L' := L) [.agg #[sN, sN], .bool (false)] (.tuple #[.agg #[sN, sN], .bool (false)]) (.cell rfl (jx [sN, sN] jy qH rfl (Rd.ownN [] rfl rfl)) (.tmp rfl .nil)) rfl rF rF (sD (sD (sD sR))) ?_)))))))))))))))
  have e : againF ar rs f ss p s many = ([], [], false) := againF_no hno
  exact ⟨_, _, by rw [e], by rw [e]; exact IntsF.nilV, by rw [e]; exact SlOf.nilV, rfl⟩
 refine qp (t := 20) rfl (vF h2) (qq (ii (many)) rfl (qp (t := 20) rfl (vF h2) (jQ rfl rfl (cX (qS (.bool (decide ((many : Int) > 60))) (vF h2) rfl (qd (.bool (decide ((many : Int) > 60))) rfl ?_))))))
 by_cases h3 : (many : Int) > 60
 ·have hno : ¬ againOk ar rs f ss p s many := fun hc => by have := hc.2.2.1; omega
  refine qr (t := 24) rfl (vT h3) (qr (t := 24) rfl (vT h3) (qr (t := 24) rfl (vT h3) (qr (t := 24) rfl (vT h3) (qr (t := 24) rfl (vT h3) (qr (t := 24) rfl (vT h3) (qr (t := 24) rfl (vT h3) (cX (qU (.bool (true)) (vT h3) rfl (qb (jI rfl ?_))))))))))
  refine qc (qa (cX (jg [sN, sN] [sN, sN] [(0, 1), (1, 1)] [] qA jq rfl (.cons rfl qu (.cons rfl jj PlacesAre.nil)) rfl CellsAre.nil (cX (qC [] _ [sN, sN] qH rfl rfl rfl (qj rfl (qj rfl qK)) rfl rfl rfl (qg (.bool (false)) rfl (qb (qw (qm (qs (L' := L) [.agg #[sN, sN], .bool (false)] (.tuple #[.agg #[sN, sN], .bool (false)]) (.cell rfl (jx [sN, sN] jy qH rfl (Rd.ownN [] rfl rfl)) (.tmp rfl .nil)) rfl rF rF (sD (sD (sD sR))) ?_))))))))))
  have e : againF ar rs f ss p s many = ([], [], false) := againF_no hno
  exact ⟨_, _, by rw [e], by rw [e]; exact IntsF.nilV, by rw [e]; exact SlOf.nilV, rfl⟩
 have hml : 0 ≤ many * (ss.length : Int) ∧ many * (ss.length : Int) ≤ 3600 := ⟨Int.mul_nonneg (by omega) (by omega), by have h9 := Int.mul_le_mul (show many ≤ 60 by omega) (show (ss.length : Int) ≤ 60 by omega) (by omega) (by omega); omega⟩
 refine qp (t := 24) rfl (vF h3) (qq (ii (many)) rfl (qp (t := 24) rfl (vF h3) (qk (0) qT rfl qH (by decide) rfl rfl (qp (t := 24) rfl (vF h3) (qk (1) qA rfl jj (by decide) rfl rfl (qp (t := 24) rfl (vF h3) (ql jL rfl (Rd.own [_] rfl rfl) (qp (t := 24) rfl (vF h3) (qD qG rfl hss.slv (qp (t := 24) rfl (vF h3) (XOp.mulR (many * ((ss.length : Int))) rfl rfl (by omega) (by omega) (qp (t := 24) rfl (vF h3) (jQ rfl rfl (cX (qS (.bool (decide ((many * ((ss.length : Int)) : Int) > 60))) (vF h3) rfl (qb ?_))))))))))))))))
 refine qE (p := (many * ((ss.length : Int)) : Int) > 60) rfl (fun h4 => ?_) (fun h4 => ?_)
 ·have hno : ¬ againOk ar rs f ss p s many := fun hc => by have := hc.2.2.2; omega
  refine qc (qa (cX (jg [sN, sN] [sN, sN] [(0, 1), (1, 1)] [] qA jq rfl (.cons rfl qu (.cons rfl jj PlacesAre.nil)) rfl CellsAre.nil (cX (qC [] _ [sN, sN] qH rfl rfl rfl (qj rfl (qj rfl qK)) rfl rfl rfl (qg (.bool (false)) rfl (qb (qw (qm (qs (L' := L) [.agg #[sN, sN], .bool (false)] (.tuple #[.agg #[sN, sN], .bool (false)]) (.cell rfl (jx [sN, sN] jy qH rfl (Rd.ownN [] rfl rfl)) (.tmp rfl .nil)) rfl rF rF (sD (sD (sD sR))) ?_))))))))))
  have e : againF ar rs f ss p s many = ([], [], false) := againF_no hno
  exact ⟨_, _, by rw [e], by rw [e]; exact IntsF.nilV, by rw [e]; exact SlOf.nilV, rfl⟩
 have hok : againOk ar rs f ss p s many := ⟨hlo, by omega, by omega, by omega⟩
 refine qz (qc (qa (cX (qk (0) qT rfl qH (by decide) rfl rfl (cX (qn [fv, ssv] jy qH rfl rfl (Rd.ownN [_] rfl rfl) (cX (qo (args := [.agg #[fv, ssv]]) call151 rfl (cloneWalk_spec hf hss (hlf := (hbk.1)) (hlx := (hbk.2.1)) (hxb := (hbk.2.2))) ?_))))))))
 rintro _ F1 _ le1 ⟨x1, x2, rfl, hr1, hr2, hr3, rfl⟩
 replace har := har.mono le1
 replace hrs := hrs.mono le1
 replace hf := hf.mono le1
 replace hss := hss.mono le1
 replace hs := hs.mono le1
 refine cX (jc [sN, sN] jq rfl ?_)
 intro b4
 refine cX (qC [] _ [x1, x2] qH rfl rfl rfl (qj (qJ (qF hr1)) (qj (qJ (jT hr2)) qK)) rfl rfl rfl (qb (qc (qc (qa (qd (ii (many)) rfl (cX (jF (many - 1) rfl rfl (by omega) (by omega) (qd (ii (0)) rfl (qb (qN (jw (α := Nat × Value × Value × List StepT × FH) (fun xQ => [(3, ptr b1 0), (4, ptr b2 0), (6, ptr b3 0), (8, ptr b4 0), (38, ii (many - 1)), (39, ii (((xQ.1 : Nat) : Int)))]) (fun xQ => cellsH b4 [xQ.2.1, xQ.2.2.1] 45 :: cellsH b3 [sN, sN] 45 :: cellsH b2 [fv, ssv, ii (p), sv] 117 :: cellsH b1 [arv, rsv] 39 :: L) (fun xQ F' => xQ.2.2.2.2 = F' ∧ F1 ≤ xQ.2.2.2.2 ∧ (IntsF xQ.2.2.2.2 xQ.2.1 f) ∧ (StepsF xQ.2.2.2.2 xQ.2.2.1 xQ.2.2.2.1) ∧ ((xQ.1 : Int) ≤ many - 1) ∧ (walkOkL ar rs f xQ.2.2.2.1 = true) ∧ (againGo ar rs f ss p s (many - 1).toNat ss = againGo ar rs f ss p s ((many - 1).toNat - xQ.1) xQ.2.2.2.1)) (fun xQ => (many - 1).toNat - xQ.1) (0, x1, x2, ss, F1) ⟨rfl, rfl, rfl, rfl, rfl, rfl, ⟨⟩⟩ (sC (sC (sC (sC sR)))) ⟨rfl, FLe.refl _, (hr1), (hr2), (by (try dsimp only) <;> omega), (hwk), (rfl)⟩ ?_))))))))))))
 rintro ⟨j, qv, yv, ys, G1⟩ rE _ _ ⟨rfl, leG, hqv, hyv, hj, hwy, hgo⟩
 show X _ _ _ _ (envs [(3, ptr b1 0), (4, ptr b2 0), (6, ptr b3 0), (8, ptr b4 0), (38, ii (many - 1)), (39, ii ((j : Int)))] rE) _ (cellsH b4 [qv, yv] 45 :: cellsH b3 [sN, sN] 45 :: cellsH b2 [fv, ssv, ii (p), sv] 117 :: cellsH b1 [arv, rsv] 39 :: L)
 replace leG : F1 ≤ G1 := leG
 dsimp only at hqv hyv hj hwy hgo
 have hyb := walkOk_bnd hwy
 have leG1 := leG
 replace har := har.mono leG1
 replace hrs := hrs.mono leG1
 replace hf := hf.mono leG1
 replace hss := hss.mono leG1
 replace hs := hs.mono leG1
 refine qc (qa (cX (jf rfl rfl (qb (qc ?_)))))
 refine qE (p := (j : Int) < many - 1) rfl (fun h5 => ?_) (fun h5 => ?_)
 ·obtain ⟨mm, hmm⟩ : ∃ q, (many - 1).toNat - j = q + 1 := ⟨(many - 1).toNat - j - 1, by omega⟩
  rw [hmm] at hgo
  refine qz (qc (qN (qc (qa (cX (qn [arv, rsv] jr jl rfl rfl (Rd.ownN [_, _, _] rfl rfl) (cX (qn [qv, yv] jy qH rfl rfl (Rd.ownN [] rfl rfl) (cX (qk (3) qT rfl qV (by decide) rfl rfl (cX (qn [sv] jC qV rfl rfl (Rd.ownN [_, _] rfl rfl) (cX (qo (args := [.agg #[arv, rsv], .agg #[qv, yv], .agg #[sv]]) call152 rfl (WalkUnder_spec har hrs hqv hyv hs (hlf := (by omega)) (hsb := (fun i hi => by have := hyb.2.2 i hi; omega))) ?_))))))))))))))
  rintro _ F2 _ le2 ⟨x3, x4, rfl, hr4, hr5, hr6, rfl⟩
  replace har := har.mono le2
  replace hf := hf.mono le2
  replace hss := hss.mono le2
  replace hqv := hqv.mono le2
  replace hyv := hyv.mono le2
  refine qd (.tuple #[.agg #[x3, x4], .bool ((undB ar rs f ys s).2.2)]) rfl (cX (qQ (.agg #[x3, x4]) rfl rfl (cX (qQ (.bool ((undB ar rs f ys s).2.2)) rfl rfl (cX (jc [sN, sN] jq rfl ?_))))))
  intro b5
  refine cX (qC [] _ [x3, x4] qH rfl rfl rfl (qj (qJ (qF hr4)) (qj (qJ (jT hr5)) qK)) rfl rfl rfl (qg (.bool ((undB ar rs f ys s).2.2)) rfl (qb (qc (qc (qa (qd (.bool ((undB ar rs f ys s).2.2)) rfl (cX (jn rfl (qb ?_))))))))))
  refine jN (t := !((undB ar rs f ys s).2.2)) rfl (fun h6 => ?_) (fun h6 => ?_)
  ·have hb1 : (undB ar rs f ys s).2.2 = false := Bool.not_inj (y := false) h6
   refine qc (qa (cX (jg [sN, sN] [sN, sN] [(0, 1), (1, 1)] [] qA jq rfl (.cons rfl qu (.cons rfl jj PlacesAre.nil)) rfl CellsAre.nil (cX (qC [_, _] _ [sN, sN] qH rfl rfl rfl (qj rfl (qj rfl qK)) rfl rfl rfl (qg (.bool (false)) rfl (qb (qw (qm (qI (qm (qm (qI (qm (qs (L' := L) [.agg #[sN, sN], .bool (false)] (.tuple #[.agg #[sN, sN], .bool (false)]) (.cell rfl (jx [sN, sN] jy qH rfl (Rd.ownN [_, _] rfl rfl)) (.tmp rfl .nil)) rfl (qh (qh le1 leG1) le2) rF (sD (sD (sD (sD (sD sR))))) ?_)))))))))))))))
   have e : againF ar rs f ss p s many = ([], [], false) := againF_none (hgo.trans (again_und hb1))
   exact ⟨_, _, by rw [e], by rw [e]; exact IntsF.nilV, by rw [e]; exact SlOf.nilV, rfl⟩
  have hb1 : (undB ar rs f ys s).2.2 = true := Bool.not_inj (y := true) h6
  have hrd := round_law hlk hwy hb1
  have hub := walkOk_bnd hrd.1
  refine qz (qc ?_)
  refine jZ [cellsH b5 [x3, x4] 45, cellsH b4 [qv, yv] 45, cellsH b3 [sN, sN] 45, cellsH b2 [fv, ssv, ii (p), sv] 117, cellsH b1 [arv, rsv] 39] L 14 [[], [], [], [], [], [], [], [], [], [8], [8], [], [], [8, 12]] [[], [0], [], [], [3], [4], [], [6], [1, 2, 5, 7], [8], [8, 9], [8, 9], [], [8, 10, 12]] [[], [], [], [], [], [], [], [], [], [], [], [], [], [12]] (phiG [pe (ptr b1 0), pe (.agg #[arv]), pe (.agg #[x3, x4]), pe (ptr b2 0), pe (.agg #[fv, ssv]), fun FF us v => ((v) : Value) = v ∧ (IntsF FF (v) (endL f ss)), pe (ptr b2 2), pe (ii (p)), fun FF us v => (.tuple #[.agg #[((aggAt (tupAt v 0) 0)), ((aggAt (tupAt v 0) 1))], .bool ((insR ar ((undB ar rs f ys s).1) ((undB ar rs f ys s).2.1) (endL f ss) ((p).toNat)).2.2)] : Value) = v ∧ (IntsF FF ((aggAt (tupAt v 0) 0)) (insR ar ((undB ar rs f ys s).1) ((undB ar rs f ys s).2.1) (endL f ss) ((p).toNat)).1) ∧ (StepsF FF ((aggAt (tupAt v 0) 1)) (insR ar ((undB ar rs f ys s).1) ((undB ar rs f ys s).2.1) (endL f ss) ((p).toNat)).2.1), fun FF us v => v = (.tuple #[.agg #[((aggAt (tupAt (us.getD 0 undef) 0) 0)), ((aggAt (tupAt (us.getD 0 undef) 0) 1))], .bool ((insR ar ((undB ar rs f ys s).1) ((undB ar rs f ys s).2.1) (endL f ss) ((p).toNat)).2.2)] : Value), fun FF us v => v = (.agg #[((aggAt (tupAt (us.getD 0 undef) 0) 0)), ((aggAt (tupAt (us.getD 0 undef) 0) 1))] : Value), pe (.bool ((insR ar ((undB ar rs f ys s).1) ((undB ar rs f ys s).2.1) (endL f ss) ((p).toNat)).2.2)), fun FF us v => v = ptr (blk v) 0, fun FF us v => True]) (ownL [o0, o0, o0, o0, o0, o0, o0, o0, o0, o0, o0, o0, fun us v => [cellsH (blk v) [sN, sN] 45], fun us v => [cellsH (blk (us.getD 1 undef)) [((aggAt (tupAt (us.getD 0 undef) 0) 0)), ((aggAt (tupAt (us.getD 0 undef) 0) 1))] 45]]) mixed rfl rfl (by kernel_rfl) (by kernel_rfl) (MonoG.get (m1 (m1 (m1 (m1 (m1 (mC (fun le h => ⟨h.1, h.2.mono le⟩) (m1 (m1 (mC (fun le h => ⟨h.1, h.2.1.mono le, h.2.2.mono le⟩) (mC (fun le h => h) (mC (fun le h => h) (m1 (mC (fun le h => h) (mC (fun le h => h) MonoG.nil))))))))))))))) ?_ ?_
  ·refine gD (fun W Fs R lF z9 => ?_) ?_
   ·refine qi (qk (0) ja rfl qY (by decide) rfl rfl ?_)
    exact ⟨rfl, rfl⟩
   refine gD (fun W Fs R lF z9 => ?_) ?_
   ·replace har := har.mono lF
    replace hf := hf.mono lF
    replace hss := hss.mono lF
    replace hqv := hqv.mono lF
    replace hyv := hyv.mono lF
    replace hr4 := hr4.mono lF
    replace hr5 := hr5.mono lF
    rw [eS (l := [(0, _)]) ⟨z9 0 rfl, ⟨⟩⟩]
    refine qi (qn [arv] js qY rfl rfl (Rd.ownN [_, _, _, _] rfl rfl) ?_)
    exact ⟨rfl, rfl⟩
   refine gD (fun W Fs R lF z9 => ?_) ?_
   ·replace har := har.mono lF
    replace hf := hf.mono lF
    replace hss := hss.mono lF
    replace hqv := hqv.mono lF
    replace hyv := hyv.mono lF
    replace hr4 := hr4.mono lF
    replace hr5 := hr5.mono lF
    refine qi (qn [x3, x4] jy qH rfl rfl (Rd.ownN [] rfl rfl) ?_)
    exact ⟨rfl, rfl⟩
   refine gD (fun W Fs R lF z9 => ?_) ?_
   ·refine qi (qk (0) qT rfl qH (by decide) rfl rfl ?_)
    exact ⟨rfl, rfl⟩
   refine gD (fun W Fs R lF z9 => ?_) ?_
   ·replace har := har.mono lF
    replace hf := hf.mono lF
    replace hss := hss.mono lF
    replace hqv := hqv.mono lF
    replace hyv := hyv.mono lF
    replace hr4 := hr4.mono lF
    replace hr5 := hr5.mono lF
    rw [eS (l := [(3, _)]) ⟨z9 3 rfl, ⟨⟩⟩]
    refine qi (qn [fv, ssv] jy qH rfl rfl (Rd.ownN [_, _, _] rfl rfl) ?_)
    exact ⟨rfl, rfl⟩
   refine gD (fun W Fs R lF z9 => ?_) ?_
   ·replace har := har.mono lF
    replace hf := hf.mono lF
    replace hss := hss.mono lF
    replace hqv := hqv.mono lF
    replace hyv := hyv.mono lF
    replace hr4 := hr4.mono lF
    replace hr5 := hr5.mono lF
    rw [eS (l := [(4, _)]) ⟨z9 4 rfl, ⟨⟩⟩]
    refine qi (qo (args := [.agg #[fv, ssv]]) call154 rfl (walkEnd_spec hf hss (hlss := (by first | assumption | rfl | omega | simp))) ?_)
    rintro _ _ _ _ ⟨rfl, x8, rfl, hr11, rfl⟩
    exact ⟨⟨rfl, hr11⟩, rfl⟩
   refine gD (fun W Fs R lF z9 => ?_) ?_
   ·refine qi (qk (2) qT rfl qy (by decide) rfl rfl ?_)
    exact ⟨rfl, rfl⟩
   refine gD (fun W Fs R lF z9 => ?_) ?_
   ·replace har := har.mono lF
    replace hf := hf.mono lF
    replace hss := hss.mono lF
    replace hqv := hqv.mono lF
    replace hyv := hyv.mono lF
    replace hr4 := hr4.mono lF
    replace hr5 := hr5.mono lF
    rw [eS (l := [(6, _)]) ⟨z9 6 rfl, ⟨⟩⟩]
    refine qi (ql jt rfl (Rd.own [_, _, _] rfl rfl) ?_)
    exact ⟨rfl, rfl⟩
   refine gD (fun W Fs R lF z9 => ?_) ?_
   ·obtain ⟨e5, f5_1hr⟩ := z9 5 rfl
    replace har := har.mono lF
    replace hf := hf.mono lF
    replace hss := hss.mono lF
    replace hqv := hqv.mono lF
    replace hyv := hyv.mono lF
    replace hr4 := hr4.mono lF
    replace hr5 := hr5.mono lF
    rw [eS (l := [(1, _), (2, _), (5, ((W 5))), (7, _)]) ⟨z9 1 rfl, z9 2 rfl, (e5).symm, z9 7 rfl, ⟨⟩⟩]
    refine qi (qo (args := [.agg #[arv], .agg #[x3, x4], ((W 5)), ii (((p).toNat : Nat) : Int)]) call153 (by rw [show (((p).toNat : Nat) : Int) = p from by omega]; rfl) (walkInside_spec (p := (p).toNat) har hr4 hr5 f5_1hr (ho := (hrd.2.2.1)) (hp := (hrd.2.2.2.1)) (hwx := (⟨rs, hrd.1⟩))) ?_)
    rintro _ F6 _ le6 ⟨x9, x10, rfl, hr12, hr13, hr14, rfl⟩
    replace har := har.mono le6
    replace hf := hf.mono le6
    replace hss := hss.mono le6
    replace hqv := hqv.mono le6
    replace hyv := hyv.mono le6
    replace f5_1hr := f5_1hr.mono le6
    exact ⟨⟨rfl, hr12, hr13⟩, rfl⟩
   refine gD (fun W Fs R lF z9 => ?_) ?_
   ·obtain ⟨e8, f8_1hr1, f8_1hr2⟩ := z9 8 rfl
    rw [eS (l := [(8, (.tuple #[.agg #[((aggAt (tupAt (W 8) 0) 0)), ((aggAt (tupAt (W 8) 0) 1))], .bool ((insR ar ((undB ar rs f ys s).1) ((undB ar rs f ys s).2.1) (endL f ss) ((p).toNat)).2.2)]))]) ⟨(e8).symm, ⟨⟩⟩]
    refine qi (qq (.tuple #[.agg #[((aggAt (tupAt (W 8) 0) 0)), ((aggAt (tupAt (W 8) 0) 1))], .bool ((insR ar ((undB ar rs f ys s).1) ((undB ar rs f ys s).2.1) (endL f ss) ((p).toNat)).2.2)]) rfl ?_)
    exact ⟨rfl, rfl⟩
   refine gD (fun W Fs R lF z9 => ?_) ?_
   ·obtain ⟨e8, f8_1hr1, f8_1hr2⟩ := z9 8 rfl
    have e9 : W 9 = (.tuple #[.agg #[((aggAt (tupAt (W 8) 0) 0)), ((aggAt (tupAt (W 8) 0) 1))], .bool ((insR ar ((undB ar rs f ys s).1) ((undB ar rs f ys s).2.1) (endL f ss) ((p).toNat)).2.2)] : Value) := z9 9 rfl
    rw [eS (l := [(8, (.tuple #[.agg #[((aggAt (tupAt (W 8) 0) 0)), ((aggAt (tupAt (W 8) 0) 1))], .bool ((insR ar ((undB ar rs f ys s).1) ((undB ar rs f ys s).2.1) (endL f ss) ((p).toNat)).2.2)])), (9, (.tuple #[.agg #[((aggAt (tupAt (W 8) 0) 0)), ((aggAt (tupAt (W 8) 0) 1))], .bool ((insR ar ((undB ar rs f ys s).1) ((undB ar rs f ys s).2.1) (endL f ss) ((p).toNat)).2.2)]))]) ⟨(e8).symm, e9, ⟨⟩⟩]
    refine qi (qQ (.agg #[((aggAt (tupAt (W 8) 0) 0)), ((aggAt (tupAt (W 8) 0) 1))]) rfl rfl ?_)
    exact ⟨rfl, rfl⟩
   refine gD (fun W Fs R lF z9 => ?_) ?_
   ·obtain ⟨e8, f8_1hr1, f8_1hr2⟩ := z9 8 rfl
    have e9 : W 9 = (.tuple #[.agg #[((aggAt (tupAt (W 8) 0) 0)), ((aggAt (tupAt (W 8) 0) 1))], .bool ((insR ar ((undB ar rs f ys s).1) ((undB ar rs f ys s).2.1) (endL f ss) ((p).toNat)).2.2)] : Value) := z9 9 rfl
    rw [eS (l := [(8, (.tuple #[.agg #[((aggAt (tupAt (W 8) 0) 0)), ((aggAt (tupAt (W 8) 0) 1))], .bool ((insR ar ((undB ar rs f ys s).1) ((undB ar rs f ys s).2.1) (endL f ss) ((p).toNat)).2.2)])), (9, (.tuple #[.agg #[((aggAt (tupAt (W 8) 0) 0)), ((aggAt (tupAt (W 8) 0) 1))], .bool ((insR ar ((undB ar rs f ys s).1) ((undB ar rs f ys s).2.1) (endL f ss) ((p).toNat)).2.2)]))]) ⟨(e8).symm, e9, ⟨⟩⟩]
    refine qi (qQ (.bool ((insR ar ((undB ar rs f ys s).1) ((undB ar rs f ys s).2.1) (endL f ss) ((p).toNat)).2.2)) rfl rfl ?_)
    exact ⟨rfl, rfl⟩
   refine gD (fun W Fs R lF z9 => ?_) ?_
   ·replace har := har.mono lF
    replace hf := hf.mono lF
    replace hss := hss.mono lF
    replace hqv := hqv.mono lF
    replace hyv := hyv.mono lF
    refine qi (jc [sN, sN] jq rfl ?_)
    intro b7
    exact ⟨rfl, rfl⟩
   refine gD (fun W Fs R lF z9 => ?_) ?_
   ·obtain ⟨e8, f8_1hr1, f8_1hr2⟩ := z9 8 rfl
    have e10 : W 10 = (.agg #[((aggAt (tupAt (W 8) 0) 0)), ((aggAt (tupAt (W 8) 0) 1))] : Value) := z9 10 rfl
    have e12 : W 12 = ptr (blk (W 12)) 0 := z9 12 rfl
    replace hf := hf.mono lF
    replace hss := hss.mono lF
    replace hqv := hqv.mono lF
    replace hyv := hyv.mono lF
    rw [eS (l := [(8, (.tuple #[.agg #[((aggAt (tupAt (W 8) 0) 0)), ((aggAt (tupAt (W 8) 0) 1))], .bool ((insR ar ((undB ar rs f ys s).1) ((undB ar rs f ys s).2.1) (endL f ss) ((p).toNat)).2.2)])), (10, (.agg #[((aggAt (tupAt (W 8) 0) 0)), ((aggAt (tupAt (W 8) 0) 1))])), (12, ptr (blk (W 12)) 0)]) ⟨(e8).symm, e10, e12, ⟨⟩⟩]
    show XG _ _ _ _ _ (cellsH (blk (W 12)) [sN, sN] 45 :: ([cellsH b5 [x3, x4] 45, cellsH b4 [qv, yv] 45, cellsH b3 [sN, sN] 45, cellsH b2 [fv, ssv, ii (p), sv] 117, cellsH b1 [arv, rsv] 39] ++ R)) _
    refine qi (qC [] _ [((aggAt (tupAt (W 8) 0) 0)), ((aggAt (tupAt (W 8) 0) 1))] qH rfl rfl rfl (qj (qJ (qF f8_1hr1)) (qj (qJ (jT f8_1hr2)) qK)) rfl rfl rfl ?_)
    exact ⟨trivial, rfl⟩
   exact stepsG.nil
  intro W F7 le7 hphi
  obtain ⟨e5, f5_1hr⟩ := hphi 5 (by decide)
  obtain ⟨e8, f8_1hr1, f8_1hr2⟩ := hphi 8 (by decide)
  have e9 : W 9 = (.tuple #[.agg #[((aggAt (tupAt (W 8) 0) 0)), ((aggAt (tupAt (W 8) 0) 1))], .bool ((insR ar ((undB ar rs f ys s).1) ((undB ar rs f ys s).2.1) (endL f ss) ((p).toNat)).2.2)] : Value) := hphi 9 (by decide)
  have e10 : W 10 = (.agg #[((aggAt (tupAt (W 8) 0) 0)), ((aggAt (tupAt (W 8) 0) 1))] : Value) := hphi 10 (by decide)
  have e12 : W 12 = ptr (blk (W 12)) 0 := hphi 12 (by decide)
  generalize hu1 : ((W 5)) = u1 at e5 f5_1hr e8 f8_1hr1 f8_1hr2 e9 e10 e12
  generalize hu2 : ((aggAt (tupAt (W 8) 0) 0)) = u2 at e5 f5_1hr e8 f8_1hr1 f8_1hr2 e9 e10 e12
  generalize hu3 : ((aggAt (tupAt (W 8) 0) 1)) = u3 at e5 f5_1hr e8 f8_1hr1 f8_1hr2 e9 e10 e12
  generalize hu4 : blk (W 12) = b8 at e5 f5_1hr e8 f8_1hr1 f8_1hr2 e9 e10 e12
  rw [eS (l := [(8, (.tuple #[.agg #[u2, u3], .bool ((insR ar ((undB ar rs f ys s).1) ((undB ar rs f ys s).2.1) (endL f ss) ((p).toNat)).2.2)])), (11, _), (12, ptr b8 0)]) ⟨(e8).symm, (hphi 11 (by decide)), e12, ⟨⟩⟩]
  replace hf := hf.mono le7
  replace hss := hss.mono le7
  replace hqv := hqv.mono le7
  replace hyv := hyv.mono le7
  show XL _ _ _ _ _ _ _ (cellsH b8 [u2, u3] 45 :: cellsH b5 [x3, x4] 45 :: cellsH b4 [qv, yv] 45 :: cellsH b3 [sN, sN] 45 :: cellsH b2 [fv, ssv, ii (p), sv] 117 :: cellsH b1 [arv, rsv] 39 :: L)
  refine qg (.bool ((insR ar ((undB ar rs f ys s).1) ((undB ar rs f ys s).2.1) (endL f ss) ((p).toNat)).2.2)) rfl (qb (qc (qc (qa (qd (.bool ((insR ar ((undB ar rs f ys s).1) ((undB ar rs f ys s).2.1) (endL f ss) ((p).toNat)).2.2)) rfl (cX (jn rfl (qb ?_))))))))
  refine jN (t := !((insR ar ((undB ar rs f ys s).1) ((undB ar rs f ys s).2.1) (endL f ss) ((p).toNat)).2.2)) rfl (fun h7 => ?_) (fun h7 => ?_)
  ·have hb2 : (insR ar (undB ar rs f ys s).1 (undB ar rs f ys s).2.1 (endL f ss) p.toNat).2.2 = false := Bool.not_inj (y := false) h7
   refine qc (qa (cX (jg [sN, sN] [sN, sN] [(0, 1), (1, 1)] [] qA jq rfl (.cons rfl qu (.cons rfl jj PlacesAre.nil)) rfl CellsAre.nil (cX (qC [_, _, _] _ [sN, sN] qH rfl rfl rfl (qj rfl (qj rfl qK)) rfl rfl rfl (qg (.bool (false)) rfl (qb (qw (qm (qI (qm (qm (qI (qm (qs (L' := L) [.agg #[sN, sN], .bool (false)] (.tuple #[.agg #[sN, sN], .bool (false)]) (.cell rfl (jx [sN, sN] jy qH rfl (Rd.ownN [_, _, _] rfl rfl)) (.tmp rfl .nil)) rfl (qh (qh (qh le1 leG1) le2) le7) rF (sD (sD (sD (sD (sD (sD sR)))))) ?_)))))))))))))))
   have e : againF ar rs f ss p s many = ([], [], false) := againF_none (hgo.trans (again_ins hb1 hb2))
   exact ⟨_, _, by rw [e], by rw [e]; exact IntsF.nilV, by rw [e]; exact SlOf.nilV, rfl⟩
  have hb2 : (insR ar (undB ar rs f ys s).1 (undB ar rs f ys s).2.1 (endL f ss) p.toNat).2.2 = true := Bool.not_inj (y := true) h7
  have hir := hrd.2.2.2.2 hb2
  have hib := walkOk_bnd hir.1
  refine qz (qc (qa (cX (qk (0) qT rfl qH (by decide) rfl rfl (cX (qn [fv, ssv] jy qH rfl rfl (Rd.ownN [_, _, _, _] rfl rfl) (cX (qn [u2, u3] jy qH rfl rfl (Rd.ownN [] rfl rfl) (cX (qo (args := [.agg #[fv, ssv], .agg #[u2, u3]]) call155 rfl (joinWalks_spec hf hss f8_1hr1 f8_1hr2 (hlf := (hbk.1)) (hlx := (hbk.2.1)) (hxb := (hbk.2.2)) (hlg := (hib.1)) (hly := (hib.2.1)) (hyb := (hib.2.2))) ?_))))))))))
  rintro _ F8 _ le8 ⟨x11, x12, rfl, hr15, hr16, hr17, rfl⟩
  replace hqv := hqv.mono le8
  replace hyv := hyv.mono le8
  refine qd (.tuple #[.agg #[x11, x12], .bool ((joinW f ss ((insR ar ((undB ar rs f ys s).1) ((undB ar rs f ys s).2.1) (endL f ss) ((p).toNat)).1) ((insR ar ((undB ar rs f ys s).1) ((undB ar rs f ys s).2.1) (endL f ss) ((p).toNat)).2.1)).2.2)]) rfl (cX (qQ (.agg #[x11, x12]) rfl rfl (cX (qQ (.bool ((joinW f ss ((insR ar ((undB ar rs f ys s).1) ((undB ar rs f ys s).2.1) (endL f ss) ((p).toNat)).1) ((insR ar ((undB ar rs f ys s).1) ((undB ar rs f ys s).2.1) (endL f ss) ((p).toNat)).2.1)).2.2)) rfl rfl (cX (qC [_, _] _ [x11, x12] qH rfl rfl rfl (qj (qJ (qF hr15)) (qj (qJ (jT hr16)) qK)) rfl rfl rfl (qg (.bool ((joinW f ss ((insR ar ((undB ar rs f ys s).1) ((undB ar rs f ys s).2.1) (endL f ss) ((p).toNat)).1) ((insR ar ((undB ar rs f ys s).1) ((undB ar rs f ys s).2.1) (endL f ss) ((p).toNat)).2.1)).2.2)) rfl (qb (qc (qa (qd (.bool ((joinW f ss ((insR ar ((undB ar rs f ys s).1) ((undB ar rs f ys s).2.1) (endL f ss) ((p).toNat)).1) ((insR ar ((undB ar rs f ys s).1) ((undB ar rs f ys s).2.1) (endL f ss) ((p).toNat)).2.1)).2.2)) rfl (cX (jn rfl (qb ?_))))))))))))))
  refine jN (t := !((joinW f ss ((insR ar ((undB ar rs f ys s).1) ((undB ar rs f ys s).2.1) (endL f ss) ((p).toNat)).1) ((insR ar ((undB ar rs f ys s).1) ((undB ar rs f ys s).2.1) (endL f ss) ((p).toNat)).2.1)).2.2)) rfl (fun h8 => ?_) (fun h8 => ?_)
  ·have hb3 : (joinW f ss (insR ar (undB ar rs f ys s).1 (undB ar rs f ys s).2.1 (endL f ss) p.toNat).1 (insR ar (undB ar rs f ys s).1 (undB ar rs f ys s).2.1 (endL f ss) p.toNat).2.1).2.2 = false := Bool.not_inj (y := false) h8
   refine qc (qa (cX (jg [sN, sN] [sN, sN] [(0, 1), (1, 1)] [] qA jq rfl (.cons rfl qu (.cons rfl jj PlacesAre.nil)) rfl CellsAre.nil (cX (qC [_, _, _] _ [sN, sN] qH rfl rfl rfl (qj rfl (qj rfl qK)) rfl rfl rfl (qg (.bool (false)) rfl (qb (qw (qI (qm (qm (qI (qm (qs (L' := L) [.agg #[sN, sN], .bool (false)] (.tuple #[.agg #[sN, sN], .bool (false)]) (.cell rfl (jx [sN, sN] jy qH rfl (Rd.ownN [_, _, _] rfl rfl)) (.tmp rfl .nil)) rfl (qh (qh (qh (qh le1 leG1) le2) le7) le8) rF (sD (sD (sD (sD (sD (sD sR)))))) ?_))))))))))))))
   have e : againF ar rs f ss p s many = ([], [], false) := againF_none (hgo.trans (again_join hb1 hb2 hb3))
   exact ⟨_, _, by rw [e], by rw [e]; exact IntsF.nilV, by rw [e]; exact SlOf.nilV, rfl⟩
  have hb3 : (joinW f ss (insR ar (undB ar rs f ys s).1 (undB ar rs f ys s).2.1 (endL f ss) p.toNat).1 (insR ar (undB ar rs f ys s).1 (undB ar rs f ys s).2.1 (endL f ss) p.toNat).2.1).2.2 = true := Bool.not_inj (y := true) h8
  have hj9 := joinW_law hwk hir.1 hb3
  refine qz (qa (cX (qP (((j + 1 : Nat) : Int)) rfl rfl (by omega) (by omega) (qd (ii (((j + 1 : Nat) : Int))) rfl (qb ?_)))))
  exact ⟨(j + 1, x11, x12, (joinW f ss ((insR ar ((undB ar rs f ys s).1) ((undB ar rs f ys s).2.1) (endL f ss) ((p).toNat)).1) ((insR ar ((undB ar rs f ys s).1) ((undB ar rs f ys s).2.1) (endL f ss) ((p).toNat)).2.1)).2.1, F8), _, (qh (qh (qh leG1 le2) le7) le8), rF, ⟨rfl, rfl, rfl, rfl, rfl, rfl, ⟨⟩⟩, (sD (sD (sC (sC (sC (sC sR)))))), ⟨rfl, (qh (qh (qh leG1 le2) le7) le8), ((by have h9 := hr15; rw [hj9.1] at h9; exact h9)), (hr16), (by (try dsimp only) <;> omega), (hj9.2.1), (by (try dsimp only); rw [show (many - 1).toNat - (j + 1) = mm from by omega]; exact hgo.trans (again_next hb1 hb2 hb3))⟩, (by omega)⟩
 rw [show (many - 1).toNat - j = 0 from by omega] at hgo
 refine jo (qt (qt (qO (qc (qa (cX (qn [qv, yv] jy qH rfl rfl (Rd.ownN [] rfl rfl) (cX (qC [_] _ [qv, yv] qH rfl rfl rfl (qj (qJ (qF hqv)) (qj (qJ (jT hyv)) qK)) rfl rfl rfl (qg (.bool (true)) rfl (qb (qw (qs (L' := L) [.agg #[qv, yv], .bool (true)] (.tuple #[.agg #[qv, yv], .bool (true)]) (.cell rfl (jx [qv, yv] jy qH rfl (Rd.ownN [_] rfl rfl)) (.tmp rfl .nil)) rfl (qh le1 leG1) rF (sD (sD (sD (sD sR)))) ?_)))))))))))))
 have e := againF_yes hok hgo
 exact ⟨_, _, by rw [e], by rw [e]; exact hqv, by rw [e]; exact hyv, rfl⟩

/- laws.FnLoops -/
set_option maxHeartbeats 2000000 in
set_option maxRecDepth 20000 in
theorem FnLoops_does {F : FH} {L : List HP} {bsv : Value} {bs : List Int} (hbs : BytesF F bsv bs) (hlb : bs.length ≤ 9223372036854775807) :
    Does prog 8 [bsv] F (L) (fun v F' L' => (.bool (true) : Value) = v ∧ F = F' ∧ L = L') := by
 refine qL func8 rfl rfl rfl (qc (qa (qg (.bool (false)) rfl (qb (qc (qc (qa (qd (bsv) rfl (cX (qo (args := [bsv]) call26 rfl (big_spec hbs) ?_))))))))))
 rintro _ _ _ _ ⟨rfl, rfl, rfl⟩
 refine qb ?_
 refine qE (p := (bs.length : Int) > 4096) rfl (fun h1 => ?_) (fun h1 => ?_)
 ·refine qc (qa (qg (.bool (true)) rfl (qb (qw (qm (qs (L' := L) [.bool (true)] (.bool (true)) (.tmp rfl .nil) rfl rF rF sR ?_))))))
  exact ⟨rfl, rfl, rfl⟩
 have hbl2 : bs.length ≤ 4000000 := by omega
 refine qz (qc (qa (qd (bsv) rfl (cX (qo (args := [bsv, .int .u64 (977)]) call55 rfl (roll_spec hbs (by omega)) ?_)))))
 rintro _ _ _ _ ⟨cb1, rfl, rfl, rfl⟩
 show XL _ _ _ _ _ _ _ (curH .u64 194 cb1 bsv bs.length :: L)
 refine qg (ptr cb1 0) rfl (qb (qc (qa (qd (ptr cb1 0) rfl (cX (qo (args := [ptr cb1 0]) call56 rfl (Does.at [] (w9System_spec hbs (by omega))) ?_))))))
 rintro _ F1 _ le1 ⟨⟨x1, x2, x3, rfl, hr1, hr2, hr3⟩, rfl⟩
 replace hbs := hbs.mono le1
 show XL _ _ _ _ _ _ _ (curH .u64 194 cb1 bsv bs.length :: L)
 have hla := hr3.la
 have hlr := hr3.lr
 have hrb := hr3.each
 refine cX (jc [sN, sN] zeroValue39 rfl ?_)
 intro b1
 refine cX (qC [] _ [x1, x2] jl rfl rfl rfl (qj (qJ (qF hr1)) (qj (qJ (PairsF.isSl hr2)) qK)) rfl rfl rfl (qb (qc (qa (qd (ptr cb1 0) rfl (cX (qo (args := [ptr cb1 0, ii (3)]) call57 rfl (Does.at [_] (below_spec (n := 3) hbs (by omega) (hn := (by first | assumption | rfl | omega | simp)))) ?_)))))))
 rintro _ _ _ _ ⟨⟨rfl, x4, rfl, hr4⟩, rfl⟩
 show XL _ _ _ _ _ _ _ (cellsH b1 [x1, x2] 39 :: curH .u64 194 cb1 bsv bs.length :: L)
 refine cX (qP (1 + x4) rfl rfl (by omega) (by omega) (qg (ii (1 + x4)) rfl ?_))
 have hbd := firstF_bound (ar := [2, 1, 0]) (rs := x3) (n := 1 + x4)
 have hb1 : (firstF [2, 1, 0] x3 (1 + x4)).1.length ≤ 4000000 := by have h9 := hbd.1.1; omega
 have hb2 : (firstF [2, 1, 0] x3 (1 + x4)).2.1.length ≤ 4000000 := by have h9 := hbd.1.2.1; omega
 have hb3 : ∀ i, i < (firstF [2, 1, 0] x3 (1 + x4)).2.1.length → (((firstF [2, 1, 0] x3 (1 + x4)).2.1).getD i (0, 0, [])).2.2.length ≤ 4000000 := fun i hi => by have h9 := hbd.1.2.2.1 i hi; omega
 have hb4 : (firstF [2, 1, 0] x3 (1 + x4)).2.2.2.1.length ≤ 4000000 := by have h9 := hbd.2.1; omega
 have hb6 : ∀ i, (((firstF [2, 1, 0] x3 (1 + x4)).2.2.2.1).getD i []).length ≤ 4000000 := fun i => by have h9 := hbd.2.2.1 i; omega
 have hb5 : ∀ i, i < (firstF [2, 1, 0] x3 (1 + x4)).2.2.2.1.length → (((firstF [2, 1, 0] x3 (1 + x4)).2.2.2.1).getD i []).length ≤ 4000000 := fun i _ => hb6 i
 have hb8 := hbd.1.1
 refine qb (qc (qa (cX (qn [x1, x2] jr jl rfl rfl (Rd.ownN [] rfl rfl) (qd (ii (1 + x4)) rfl (cX (qo (args := [.agg #[x1, x2], ii (1 + x4)]) call58 rfl (FirstLoop_spec (n := 1 + x4) hr1 hr2) ?_)))))))
 rintro _ F3 _ le3 ⟨x5, x6, x7, rfl, hr5, hr6, hr7, hr8, rfl⟩
 replace hbs := hbs.mono le3
 replace hr1 := hr1.mono le3
 replace hr2 := hr2.mono le3
 refine qd (.tuple #[.agg #[x5, x6, ii ((firstF ([2, 1, 0]) x3 (1 + x4)).2.2.1), x7], .bool ((firstF ([2, 1, 0]) x3 (1 + x4)).2.2.2.2)]) rfl (cX (qQ (.agg #[x5, x6, ii ((firstF ([2, 1, 0]) x3 (1 + x4)).2.2.1), x7]) rfl rfl (cX (qQ (.bool ((firstF ([2, 1, 0]) x3 (1 + x4)).2.2.2.2)) rfl rfl (cX (jc [sN, sN, ii (0), sN] jO rfl ?_))))))
 intro b2
 refine cX (qC [] _ [x5, x6, ii ((firstF ([2, 1, 0]) x3 (1 + x4)).2.2.1), x7] jz rfl rfl rfl (qj (qJ (qF hr5)) (qj (qJ (jT hr6)) (qj rfl (qj (qJ (RowsF.isSl hr7)) qK)))) rfl rfl rfl (qg (.bool ((firstF ([2, 1, 0]) x3 (1 + x4)).2.2.2.2)) rfl (qb (qc (qc (qa (qd (.bool ((firstF ([2, 1, 0]) x3 (1 + x4)).2.2.2.2)) rfl (cX (jn rfl (qb ?_))))))))))
 refine jN (t := !((firstF ([2, 1, 0]) x3 (1 + x4)).2.2.2.2)) rfl (fun h2 => ?_) (fun h2 => ?_)
 ·have hnf := Bool.not_inj (y := false) h2
  have hnz := firstF_noloop hnf
  refine qc (qa (cX (qn [x1, x2] jr jl rfl rfl (Rd.ownN [_] rfl rfl) (qd (ii (1 + x4)) rfl (cX (qo (args := [.agg #[x1, x2], ii (1 + x4)]) call59 rfl (sFirstLoop_spec (n := 1 + x4) hr1 hr2 (hla := (by first | assumption | rfl | omega | simp)) (hlr := (by first | assumption | rfl | omega | simp)) (hrb := (by first | assumption | rfl | omega | simp))) ?_))))))
  rintro _ F4 _ le4 ⟨x8, x9, x10, rfl, hr9, hr10, hr11, rfl⟩
  replace hbs := hbs.mono le4
  replace hr1 := hr1.mono le4
  replace hr2 := hr2.mono le4
  replace hr5 := hr5.mono le4
  replace hr6 := hr6.mono le4
  replace hr7 := hr7.mono le4
  refine qd (.tuple #[.agg #[x8, x9, ii ((firstF ([2, 1, 0]) x3 (1 + x4)).2.2.1), x10], .bool ((firstF ([2, 1, 0]) x3 (1 + x4)).2.2.2.2)]) rfl (cX (qQ (.agg #[x8, x9, ii ((firstF ([2, 1, 0]) x3 (1 + x4)).2.2.1), x10]) rfl rfl (cX (qQ (.bool ((firstF ([2, 1, 0]) x3 (1 + x4)).2.2.2.2)) rfl rfl (cX (jc [sN, sN, ii (0), sN] jO rfl ?_))))))
  intro b3
  refine cX (qC [] _ [x8, x9, ii ((firstF ([2, 1, 0]) x3 (1 + x4)).2.2.1), x10] jz rfl rfl rfl (qj (qJ (qF hr9)) (qj (qJ (jT hr10)) (qj rfl (qj (qJ (RowsF.isSl hr11)) qK)))) rfl rfl rfl (qg (.bool ((firstF ([2, 1, 0]) x3 (1 + x4)).2.2.2.2)) rfl (qb (qc (qa (qd (.bool ((firstF ([2, 1, 0]) x3 (1 + x4)).2.2.2.2)) rfl (cX (jn rfl (qd (.bool (!((firstF ([2, 1, 0]) x3 (1 + x4)).2.2.2.2))) rfl (qp (t := 39) rfl (vB h2) (qk (0) qT rfl qH (by decide) rfl rfl (qp (t := 39) rfl (vB h2) (qk (1) qA rfl jj (by decide) rfl rfl (qp (t := 39) rfl (vB h2) (ql jL rfl (Rd.own [_] rfl rfl) (qp (t := 39) rfl (vB h2) (qD qG rfl hr6.slv ?_)))))))))))))))))
  refine qp (t := 39) rfl (vB h2) (jR rfl rfl (cX (qU (.bool (decide ((((((firstF ([2, 1, 0]) x3 (1 + x4)).2.1).length : Nat) : Int) : Int) = 0))) (vB h2) rfl (qg (.bool (decide ((((((firstF ([2, 1, 0]) x3 (1 + x4)).2.1).length : Nat) : Int) : Int) = 0))) rfl (qb (qw (qm (qs (L' := L) [.bool (decide ((((((firstF ([2, 1, 0]) x3 (1 + x4)).2.1).length : Nat) : Int) : Int) = 0))] (.bool (decide ((((((firstF ([2, 1, 0]) x3 (1 + x4)).2.1).length : Nat) : Int) : Int) = 0))) (.tmp rfl .nil) rfl rF (qh (qh le1 le3) le4) (sD (sD (sD (sD sR)))) ?_))))))))
  exact ⟨(vB ((decide_eq_true (by rw [hnz]; rfl)).symm)), rfl, rfl⟩
 have hfd := Bool.not_inj (y := true) h2
 have hlw := firstF_law hfd
 have hfs := firstF_sys hfd
 have hwl := withinF_law hfd
 have hwk := (loopOkL_iff.1 hlw.1).2.1
 refine qz (qc (qc (qa (cX (qn [x1, x2] jr jl rfl rfl (Rd.ownN [_] rfl rfl) (cX (qn [x5, x6, ii ((firstF ([2, 1, 0]) x3 (1 + x4)).2.2.1), x7] jX jz rfl rfl (Rd.ownN [] rfl rfl) (cX (qo (args := [.agg #[x1, x2], .agg #[x5, x6, ii ((firstF ([2, 1, 0]) x3 (1 + x4)).2.2.1), x7]]) call60 rfl (sLoopOk_spec hr1 hr2 hr5 hr6 hr7 (hla := (by first | assumption | rfl | omega | simp)) (hlr := (by first | assumption | rfl | omega | simp)) (hrb := (by first | assumption | rfl | omega | simp)) (hlf := (by first | assumption | rfl | omega | simp)) (hlss := (by first | assumption | rfl | omega | simp)) (hsb := (by first | assumption | rfl | omega | simp)) (hlrow := (by first | assumption | rfl | omega | simp)) (hrowb := (by first | assumption | rfl | omega | simp))) ?_)))))))))
 rintro _ _ _ _ ⟨rfl, rfl, rfl⟩
 refine cX (jn rfl (qd (.bool (!((sysOk ([2, 1, 0]) x3 && loopOkL ([2, 1, 0]) x3 ((firstF ([2, 1, 0]) x3 (1 + x4)).1) ((firstF ([2, 1, 0]) x3 (1 + x4)).2.1) ((firstF ([2, 1, 0]) x3 (1 + x4)).2.2.1) ((firstF ([2, 1, 0]) x3 (1 + x4)).2.2.2.1))))) rfl ?_))
 by_cases h3 : (!((sysOk ([2, 1, 0]) x3 && loopOkL ([2, 1, 0]) x3 ((firstF ([2, 1, 0]) x3 (1 + x4)).1) ((firstF ([2, 1, 0]) x3 (1 + x4)).2.1) ((firstF ([2, 1, 0]) x3 (1 + x4)).2.2.1) ((firstF ([2, 1, 0]) x3 (1 + x4)).2.2.2.1)))) = true
 ·exact absurd h3 (by rw [hfs.1, hlw.1]; simp)
 rw [Bool.not_eq_true] at h3
 refine qp (t := 50) rfl (vB h3) (qn [x1, x2] jr jl rfl rfl (Rd.ownN [_] rfl rfl) (qp (t := 50) rfl (vB h3) (qn [x5, x6, ii ((firstF ([2, 1, 0]) x3 (1 + x4)).2.2.1), x7] jX jz rfl rfl (Rd.ownN [] rfl rfl) (qp (t := 50) rfl (vB h3) (qo (args := [.agg #[x1, x2], .agg #[x5, x6, ii ((firstF ([2, 1, 0]) x3 (1 + x4)).2.2.1), x7]]) call61 rfl (LoopOk_spec hr1 hr2 hr5 hr6 hr7 (hlf := (by first | assumption | rfl | omega | simp)) (hsb := (by first | assumption | rfl | omega | simp)) (hlss := (by first | assumption | rfl | omega | simp))) ?_)))))
 rintro _ _ _ _ ⟨rfl, rfl, rfl⟩
 refine qp (t := 50) rfl (vB h3) (jn rfl (cX (qS (.bool (!((sysOk ([2, 1, 0]) x3 && loopOkL ([2, 1, 0]) x3 ((firstF ([2, 1, 0]) x3 (1 + x4)).1) ((firstF ([2, 1, 0]) x3 (1 + x4)).2.1) ((firstF ([2, 1, 0]) x3 (1 + x4)).2.2.1) ((firstF ([2, 1, 0]) x3 (1 + x4)).2.2.2.1))))) (vB h3) rfl (qd (.bool (!((sysOk ([2, 1, 0]) x3 && loopOkL ([2, 1, 0]) x3 ((firstF ([2, 1, 0]) x3 (1 + x4)).1) ((firstF ([2, 1, 0]) x3 (1 + x4)).2.1) ((firstF ([2, 1, 0]) x3 (1 + x4)).2.2.1) ((firstF ([2, 1, 0]) x3 (1 + x4)).2.2.2.1))))) rfl (qp (t := 56) rfl (vB h3) (qk (0) qT rfl qH (by decide) rfl rfl (qp (t := 56) rfl (vB h3) (qk (1) qA rfl jj (by decide) rfl rfl (qp (t := 56) rfl (vB h3) (ql jL rfl (Rd.own [] rfl rfl) (qp (t := 56) rfl (vB h3) (qD qG rfl hr6.slv (qp (t := 56) rfl (vB h3) (qq (ii (1 + x4)) rfl (qp (t := 56) rfl (vB h3) (jQ rfl rfl (cX (qS (.bool (decide ((((((firstF ([2, 1, 0]) x3 (1 + x4)).2.1).length : Nat) : Int) : Int) > 1 + x4))) (vB h3) rfl ?_))))))))))))))))))
 refine qb ?_
 refine qE (p := (((((firstF ([2, 1, 0]) x3 (1 + x4)).2.1).length : Nat) : Int) : Int) > 1 + x4) rfl (fun h4 => ?_) (fun h4 => ?_)
 ·exact absurd hlw.2 (by omega)
 refine qz (qc (qa (qd (ptr cb1 0) rfl (cX (qo (args := [ptr cb1 0, ii (4)]) call57 rfl (Does.at [_, _] (below_spec (n := 4) hbs (by omega) (hn := (by first | assumption | rfl | omega | simp)))) ?_)))))
 rintro _ _ _ _ ⟨⟨rfl, x11, rfl, hr12⟩, rfl⟩
 show XL _ _ _ _ _ _ _ (cellsH b2 [x5, x6, ii ((firstF ([2, 1, 0]) x3 (1 + x4)).2.2.1), x7] 117 :: cellsH b1 [x1, x2] 39 :: curH .u64 194 cb1 bsv bs.length :: L)
 refine cX (qP (1 + x11) rfl rfl (by omega) (by omega) (qg (ii (1 + x11)) rfl ?_))
 have hmp : 0 ≤ (1 + x11) * ((((firstF [2, 1, 0] x3 (1 + x4)).2.1).length : Nat) : Int) ∧ (1 + x11) * ((((firstF [2, 1, 0] x3 (1 + x4)).2.1).length : Nat) : Int) ≤ 3600 := ⟨Int.mul_nonneg (by omega) (by omega), by have h9 := Int.mul_le_mul (show (1 + x11) ≤ 60 by omega) (show ((((firstF [2, 1, 0] x3 (1 + x4)).2.1).length : Nat) : Int) ≤ 60 by have h8 := hlw.2; omega) (by omega) (by omega); omega⟩
 refine qb (qc (qa (cX (qn [x1, x2] jr jl rfl rfl (Rd.ownN [_] rfl rfl) (cX (qn [x5, x6, ii ((firstF ([2, 1, 0]) x3 (1 + x4)).2.2.1), x7] jX jz rfl rfl (Rd.ownN [] rfl rfl) (qd (ii (1 + x11)) rfl (cX (qo (args := [.agg #[x1, x2], .agg #[x5, x6, ii ((firstF ([2, 1, 0]) x3 (1 + x4)).2.2.1), x7], ii (1 + x11)]) call62 rfl (LoopAgain_spec (many := 1 + x11) hr1 hr2 hr5 hr6 hr7 (hlf := (by first | assumption | rfl | omega | simp)) (hsb := (by first | assumption | rfl | omega | simp)) (hlss := (by first | assumption | rfl | omega | simp))) ?_)))))))))
 rintro _ F6 _ le6 ⟨x12, x13, rfl, hr13, hr14, rfl⟩
 replace hbs := hbs.mono le6
 replace hr1 := hr1.mono le6
 replace hr2 := hr2.mono le6
 replace hr5 := hr5.mono le6
 replace hr6 := hr6.mono le6
 replace hr7 := hr7.mono le6
 refine qd (.tuple #[.agg #[x12, x13], .bool ((againF ([2, 1, 0]) x3 ((firstF ([2, 1, 0]) x3 (1 + x4)).1) ((firstF ([2, 1, 0]) x3 (1 + x4)).2.1) ((firstF ([2, 1, 0]) x3 (1 + x4)).2.2.1) ((firstF ([2, 1, 0]) x3 (1 + x4)).2.2.2.1) (1 + x11)).2.2)]) rfl (cX (qQ (.agg #[x12, x13]) rfl rfl (cX (qQ (.bool ((againF ([2, 1, 0]) x3 ((firstF ([2, 1, 0]) x3 (1 + x4)).1) ((firstF ([2, 1, 0]) x3 (1 + x4)).2.1) ((firstF ([2, 1, 0]) x3 (1 + x4)).2.2.1) ((firstF ([2, 1, 0]) x3 (1 + x4)).2.2.2.1) (1 + x11)).2.2)) rfl rfl (cX (jc [sN, sN] jq rfl ?_))))))
 intro b4
 refine cX (qC [] _ [x12, x13] qH rfl rfl rfl (qj (qJ (qF hr13)) (qj (qJ (jT hr14)) qK)) rfl rfl rfl (qg (.bool ((againF ([2, 1, 0]) x3 ((firstF ([2, 1, 0]) x3 (1 + x4)).1) ((firstF ([2, 1, 0]) x3 (1 + x4)).2.1) ((firstF ([2, 1, 0]) x3 (1 + x4)).2.2.1) ((firstF ([2, 1, 0]) x3 (1 + x4)).2.2.2.1) (1 + x11)).2.2)) rfl (qb (qc (qc ?_)))))
 apply cutX (R := fun r9 F9 L9 => (∃ rE, r9 = envs [(2, (.bool (false) : Value)), (4, ptr b1 0), (5, (ii (1 + x4) : Value)), (6, ptr b2 0), (10, (ii (1 + x11) : Value)), (12, (.bool ((againF ([2, 1, 0]) x3 ((firstF ([2, 1, 0]) x3 (1 + x4)).1) ((firstF ([2, 1, 0]) x3 (1 + x4)).2.1) ((firstF ([2, 1, 0]) x3 (1 + x4)).2.2.1) ((firstF ([2, 1, 0]) x3 (1 + x4)).2.2.2.1) (1 + x11)).2.2) : Value)), (15, (.bool (decide ((bs.length : Int) > 4096)) : Value)), (30, (.bool (!((firstF ([2, 1, 0]) x3 (1 + x4)).2.2.2.2)) : Value)), (63, (.bool (decide ((((((firstF ([2, 1, 0]) x3 (1 + x4)).2.1).length : Nat) : Int) : Int) > 1 + x4)) : Value))] rE) ∧ F6 ≤ F9 ∧ L9 = cellsH b4 [x12, x13] 45 :: cellsH b2 [x5, x6, ii ((firstF ([2, 1, 0]) x3 (1 + x4)).2.2.1), x7] 117 :: cellsH b1 [x1, x2] 39 :: curH .u64 194 cb1 bsv bs.length :: L)
 ·intro tail1
  refine qa (qd (.bool ((againF ([2, 1, 0]) x3 ((firstF ([2, 1, 0]) x3 (1 + x4)).1) ((firstF ([2, 1, 0]) x3 (1 + x4)).2.1) ((firstF ([2, 1, 0]) x3 (1 + x4)).2.2.1) ((firstF ([2, 1, 0]) x3 (1 + x4)).2.2.2.1) (1 + x11)).2.2)) rfl (qd (.bool ((againF ([2, 1, 0]) x3 ((firstF ([2, 1, 0]) x3 (1 + x4)).1) ((firstF ([2, 1, 0]) x3 (1 + x4)).2.1) ((firstF ([2, 1, 0]) x3 (1 + x4)).2.2.1) ((firstF ([2, 1, 0]) x3 (1 + x4)).2.2.2.1) (1 + x11)).2.2)) rfl ?_))
  by_cases h5 : ((againF ([2, 1, 0]) x3 ((firstF ([2, 1, 0]) x3 (1 + x4)).1) ((firstF ([2, 1, 0]) x3 (1 + x4)).2.1) ((firstF ([2, 1, 0]) x3 (1 + x4)).2.2.1) ((firstF ([2, 1, 0]) x3 (1 + x4)).2.2.2.1) (1 + x11)).2.2) = true
  ·have hag := againF_law h5
   have hbw := walkOk_bnd hag.1
   have hbw1 : (againF [2, 1, 0] x3 (firstF [2, 1, 0] x3 (1 + x4)).1 (firstF [2, 1, 0] x3 (1 + x4)).2.1 (firstF [2, 1, 0] x3 (1 + x4)).2.2.1 (firstF [2, 1, 0] x3 (1 + x4)).2.2.2.1 (1 + x11)).1.length ≤ 4000000 := by have h9 := hbw.1; omega
   have hbw2 : (againF [2, 1, 0] x3 (firstF [2, 1, 0] x3 (1 + x4)).1 (firstF [2, 1, 0] x3 (1 + x4)).2.1 (firstF [2, 1, 0] x3 (1 + x4)).2.2.1 (firstF [2, 1, 0] x3 (1 + x4)).2.2.2.1 (1 + x11)).2.1.length ≤ 4000000 := by have h9 := hbw.2.1; omega
   have hbw3 : ∀ i, i < (againF [2, 1, 0] x3 (firstF [2, 1, 0] x3 (1 + x4)).1 (firstF [2, 1, 0] x3 (1 + x4)).2.1 (firstF [2, 1, 0] x3 (1 + x4)).2.2.1 (firstF [2, 1, 0] x3 (1 + x4)).2.2.2.1 (1 + x11)).2.1.length → (((againF [2, 1, 0] x3 (firstF [2, 1, 0] x3 (1 + x4)).1 (firstF [2, 1, 0] x3 (1 + x4)).2.1 (firstF [2, 1, 0] x3 (1 + x4)).2.2.1 (firstF [2, 1, 0] x3 (1 + x4)).2.2.2.1 (1 + x11)).2.1).getD i (0, 0, [])).2.2.length ≤ 4000000 := fun i hi => by have h9 := hbw.2.2 i hi; omega
   have hbw4 := hbw.1
   refine qp (t := 75) rfl (vB h5) (qn [x1, x2] jr jl rfl rfl (Rd.ownN [_, _] rfl rfl) (qp (t := 75) rfl (vB h5) (qn [x12, x13] jy qH rfl rfl (Rd.ownN [] rfl rfl) (qp (t := 75) rfl (vB h5) (qo (args := [.agg #[x1, x2], .agg #[x12, x13]]) call49 rfl (sWalkOk_spec hr1 hr2 hr13 hr14 (hla := (by first | assumption | rfl | omega | simp)) (hlr := (by first | assumption | rfl | omega | simp)) (hrb := (by first | assumption | rfl | omega | simp)) (hlf := (by first | assumption | rfl | omega | simp)) (hlss := (by first | assumption | rfl | omega | simp)) (hsb := (by first | assumption | rfl | omega | simp))) ?_)))))
   rintro _ _ _ _ ⟨rfl, rfl, rfl⟩
   refine qp (t := 75) rfl (vB h5) (jn rfl (qp (t := 75) rfl (vB h5) (qq (.bool (!(walkOkL ([2, 1, 0]) x3 ((againF ([2, 1, 0]) x3 ((firstF ([2, 1, 0]) x3 (1 + x4)).1) ((firstF ([2, 1, 0]) x3 (1 + x4)).2.1) ((firstF ([2, 1, 0]) x3 (1 + x4)).2.2.1) ((firstF ([2, 1, 0]) x3 (1 + x4)).2.2.2.1) (1 + x11)).1) ((againF ([2, 1, 0]) x3 ((firstF ([2, 1, 0]) x3 (1 + x4)).1) ((firstF ([2, 1, 0]) x3 (1 + x4)).2.1) ((firstF ([2, 1, 0]) x3 (1 + x4)).2.2.1) ((firstF ([2, 1, 0]) x3 (1 + x4)).2.2.2.1) (1 + x11)).2.1)))) rfl ?_)))
   by_cases h6 : (!(walkOkL ([2, 1, 0]) x3 ((againF ([2, 1, 0]) x3 ((firstF ([2, 1, 0]) x3 (1 + x4)).1) ((firstF ([2, 1, 0]) x3 (1 + x4)).2.1) ((firstF ([2, 1, 0]) x3 (1 + x4)).2.2.1) ((firstF ([2, 1, 0]) x3 (1 + x4)).2.2.2.1) (1 + x11)).1) ((againF ([2, 1, 0]) x3 ((firstF ([2, 1, 0]) x3 (1 + x4)).1) ((firstF ([2, 1, 0]) x3 (1 + x4)).2.1) ((firstF ([2, 1, 0]) x3 (1 + x4)).2.2.1) ((firstF ([2, 1, 0]) x3 (1 + x4)).2.2.2.1) (1 + x11)).2.1))) = true
   ·exact absurd h6 (by rw [hag.1]; simp)
   rw [Bool.not_eq_true] at h6
   refine qp (t := 80) rfl (vB h6) (qk (1) qA rfl jj (by decide) rfl rfl (qp (t := 80) rfl (vB h6) (ql jL rfl (Rd.own [] rfl rfl) (qp (t := 80) rfl (vB h6) (qD qG rfl hr14.slv (qp (t := 80) rfl (vB h6) (qq (ii (1 + x11)) rfl (qp (t := 80) rfl (vB h6) (qk (0) qT rfl qH (by decide) rfl rfl (qp (t := 80) rfl (vB h6) (qk (1) qA rfl jj (by decide) rfl rfl (qp (t := 80) rfl (vB h6) (ql jL rfl (Rd.own [_] rfl rfl) (qp (t := 80) rfl (vB h6) (qD qG rfl hr6.slv (qp (t := 80) rfl (vB h6) (XOp.mulR ((1 + x11) * (((((firstF ([2, 1, 0]) x3 (1 + x4)).2.1).length : Nat) : Int))) rfl rfl (by omega) (by omega) (qp (t := 80) rfl (vB h6) (XOp.neq rfl rfl ?_)))))))))))))))))))
   refine qp (t := 75) rfl (vB h5) (qS (.bool (decide ((((((againF ([2, 1, 0]) x3 ((firstF ([2, 1, 0]) x3 (1 + x4)).1) ((firstF ([2, 1, 0]) x3 (1 + x4)).2.1) ((firstF ([2, 1, 0]) x3 (1 + x4)).2.2.1) ((firstF ([2, 1, 0]) x3 (1 + x4)).2.2.2.1) (1 + x11)).2.1).length : Nat) : Int) : Int) ≠ (1 + x11) * (((((firstF ([2, 1, 0]) x3 (1 + x4)).2.1).length : Nat) : Int))))) (vB h6) rfl (qp (t := 75) rfl (vB h5) (qq (.bool (decide ((((((againF ([2, 1, 0]) x3 ((firstF ([2, 1, 0]) x3 (1 + x4)).1) ((firstF ([2, 1, 0]) x3 (1 + x4)).2.1) ((firstF ([2, 1, 0]) x3 (1 + x4)).2.2.1) ((firstF ([2, 1, 0]) x3 (1 + x4)).2.2.2.1) (1 + x11)).2.1).length : Nat) : Int) : Int) ≠ (1 + x11) * (((((firstF ([2, 1, 0]) x3 (1 + x4)).2.1).length : Nat) : Int))))) rfl ?_)))
   by_cases h7 : (((((againF ([2, 1, 0]) x3 ((firstF ([2, 1, 0]) x3 (1 + x4)).1) ((firstF ([2, 1, 0]) x3 (1 + x4)).2.1) ((firstF ([2, 1, 0]) x3 (1 + x4)).2.2.1) ((firstF ([2, 1, 0]) x3 (1 + x4)).2.2.2.1) (1 + x11)).2.1).length : Nat) : Int) : Int) ≠ (1 + x11) * (((((firstF ([2, 1, 0]) x3 (1 + x4)).2.1).length : Nat) : Int))
   ·exact absurd hag.2.1 h7
   refine qp (t := 92) rfl (vF h7) (qk (0) qA rfl qu (by decide) rfl rfl (qp (t := 92) rfl (vF h7) (ql qZ rfl (Rd.own [] rfl rfl) (qp (t := 92) rfl (vF h7) (qk (0) qT rfl qH (by decide) rfl rfl (qp (t := 92) rfl (vF h7) (qk (0) qA rfl qu (by decide) rfl rfl (qp (t := 92) rfl (vF h7) (ql qZ rfl (Rd.own [_] rfl rfl) ?_)))))))))
   refine qp (t := 92) rfl (vF h7) (qo (args := [x12, x5]) call63 rfl (likeInts_spec hr13 hr5 (hbd := (by first | (refine Or.inl ?_; omega) | (refine Or.inr ?_; omega)))) ?_)
   rintro _ _ _ _ ⟨rfl, rfl, rfl⟩
   refine qp (t := 92) rfl (vF h7) (yj rfl (qp (t := 75) rfl (vB h5) (qS (.bool (decide (¬(((againF ([2, 1, 0]) x3 ((firstF ([2, 1, 0]) x3 (1 + x4)).1) ((firstF ([2, 1, 0]) x3 (1 + x4)).2.1) ((firstF ([2, 1, 0]) x3 (1 + x4)).2.2.1) ((firstF ([2, 1, 0]) x3 (1 + x4)).2.2.2.1) (1 + x11)).1) = ((firstF ([2, 1, 0]) x3 (1 + x4)).1))))) (vF h7) rfl (cX (qU (.bool (decide (¬(((againF ([2, 1, 0]) x3 ((firstF ([2, 1, 0]) x3 (1 + x4)).1) ((firstF ([2, 1, 0]) x3 (1 + x4)).2.1) ((firstF ([2, 1, 0]) x3 (1 + x4)).2.2.1) ((firstF ([2, 1, 0]) x3 (1 + x4)).2.2.2.1) (1 + x11)).1) = ((firstF ([2, 1, 0]) x3 (1 + x4)).1))))) (vB h5) rfl (qb ?_))))))
   refine qE (p := ¬(((againF ([2, 1, 0]) x3 ((firstF ([2, 1, 0]) x3 (1 + x4)).1) ((firstF ([2, 1, 0]) x3 (1 + x4)).2.1) ((firstF ([2, 1, 0]) x3 (1 + x4)).2.2.1) ((firstF ([2, 1, 0]) x3 (1 + x4)).2.2.2.1) (1 + x11)).1) = ((firstF ([2, 1, 0]) x3 (1 + x4)).1))) rfl (fun h8 => ?_) (fun h8 => ?_)
   ·exact absurd hag.2.2 h8
   refine qz (qc ?_)
   exact X.weaken (L' := cellsH b4 [x12, x13] 45 :: cellsH b2 [x5, x6, ii ((firstF ([2, 1, 0]) x3 (1 + x4)).2.2.1), x7] 117 :: cellsH b1 [x1, x2] 39 :: curH .u64 194 cb1 bsv bs.length :: L) ((sC (sC (sC (sC sR))))) (tail1 _ _ _ ⟨⟨_, (envs_of_sat (l := [(2, (.bool (false) : Value)), (4, ptr b1 0), (5, (ii (1 + x4) : Value)), (6, ptr b2 0), (10, (ii (1 + x11) : Value)), (12, (.bool ((againF ([2, 1, 0]) x3 ((firstF ([2, 1, 0]) x3 (1 + x4)).1) ((firstF ([2, 1, 0]) x3 (1 + x4)).2.1) ((firstF ([2, 1, 0]) x3 (1 + x4)).2.2.1) ((firstF ([2, 1, 0]) x3 (1 + x4)).2.2.2.1) (1 + x11)).2.2) : Value)), (15, (.bool (decide ((bs.length : Int) > 4096)) : Value)), (30, (.bool (!((firstF ([2, 1, 0]) x3 (1 + x4)).2.2.2.2)) : Value)), (63, (.bool (decide ((((((firstF ([2, 1, 0]) x3 (1 + x4)).2.1).length : Nat) : Int) : Int) > 1 + x4)) : Value))]) ⟨rfl, rfl, rfl, rfl, rfl, rfl, rfl, rfl, rfl, ⟨⟩⟩).symm⟩, rF, rfl⟩)
  rw [Bool.not_eq_true] at h5
  refine qr (t := 75) rfl (vB h5) (qr (t := 75) rfl (vB h5) (qr (t := 75) rfl (vB h5) (qr (t := 75) rfl (vB h5) (qr (t := 75) rfl (vB h5) (XL.noU (t := 80) rfl rfl (XL.noU (t := 80) rfl rfl (XL.noU (t := 80) rfl rfl (XL.noU (t := 80) rfl rfl (XL.noU (t := 80) rfl rfl ?_)))))))))
  refine XL.noU (t := 80) rfl rfl (XL.noU (t := 80) rfl rfl (XL.noU (t := 80) rfl rfl (XL.noU (t := 80) rfl rfl (XL.noU (t := 80) rfl rfl (qr (t := 75) rfl (vB h5) (qr (t := 75) rfl (vB h5) (XL.noU (t := 92) rfl rfl (XL.noU (t := 92) rfl rfl (XL.noU (t := 92) rfl rfl ?_)))))))))
  refine XL.noU (t := 92) rfl rfl (XL.noU (t := 92) rfl rfl (XL.noU (t := 92) rfl rfl (XL.noU (t := 92) rfl rfl (qr (t := 75) rfl (vB h5) (cX (qS (.bool (false)) (vB h5) rfl (qb (X.condF rfl (qz (qc ?_))))))))))
  exact X.weaken (L' := cellsH b4 [x12, x13] 45 :: cellsH b2 [x5, x6, ii ((firstF ([2, 1, 0]) x3 (1 + x4)).2.2.1), x7] 117 :: cellsH b1 [x1, x2] 39 :: curH .u64 194 cb1 bsv bs.length :: L) ((sC (sC (sC (sC sR))))) (tail1 _ _ _ ⟨⟨_, (envs_of_sat (l := [(2, (.bool (false) : Value)), (4, ptr b1 0), (5, (ii (1 + x4) : Value)), (6, ptr b2 0), (10, (ii (1 + x11) : Value)), (12, (.bool ((againF ([2, 1, 0]) x3 ((firstF ([2, 1, 0]) x3 (1 + x4)).1) ((firstF ([2, 1, 0]) x3 (1 + x4)).2.1) ((firstF ([2, 1, 0]) x3 (1 + x4)).2.2.1) ((firstF ([2, 1, 0]) x3 (1 + x4)).2.2.2.1) (1 + x11)).2.2) : Value)), (15, (.bool (decide ((bs.length : Int) > 4096)) : Value)), (30, (.bool (!((firstF ([2, 1, 0]) x3 (1 + x4)).2.2.2.2)) : Value)), (63, (.bool (decide ((((((firstF ([2, 1, 0]) x3 (1 + x4)).2.1).length : Nat) : Int) : Int) > 1 + x4)) : Value))]) ⟨rfl, rfl, rfl, rfl, rfl, rfl, rfl, rfl, rfl, ⟨⟩⟩).symm⟩, rF, rfl⟩)
 rintro _ F7 _ ⟨⟨rE, rfl⟩, le7, rfl⟩
 replace hbs := hbs.mono le7
 replace hr1 := hr1.mono le7
 replace hr2 := hr2.mono le7
 replace hr5 := hr5.mono le7
 replace hr6 := hr6.mono le7
 replace hr7 := hr7.mono le7
 refine qa (cX (qn [x1, x2] jr jl rfl rfl (Rd.ownN [_, _] rfl rfl) (qd (ii (1 + x4)) rfl (cX (qo (args := [.agg #[x1, x2], ii (1 + x4)]) call64 rfl (LoopWithin_spec (n := 1 + x4) hr1 hr2) ?_)))))
 rintro _ F8 _ le8 ⟨rfl, rfl⟩
 replace hbs := hbs.mono le8
 replace hr1 := hr1.mono le8
 replace hr2 := hr2.mono le8
 replace hr5 := hr5.mono le8
 replace hr6 := hr6.mono le8
 replace hr7 := hr7.mono le8
 refine qg (ii (withinF ([2, 1, 0]) x3 (1 + x4))) rfl (qb (qc ?_))
 by_cases h9 : (withinF ([2, 1, 0]) x3 (1 + x4) : Int) ≥ 1
 ·by_cases h10 : (withinF ([2, 1, 0]) x3 (1 + x4) : Int) ≤ 1 + x4
  ·by_cases h11 : (1 + x11 : Int) > 1
   ·refine jZ [cellsH b4 [x12, x13] 45, cellsH b2 [x5, x6, ii ((firstF ([2, 1, 0]) x3 (1 + x4)).2.2.1), x7] 117, cellsH b1 [x1, x2] 39, curH .u64 194 cb1 bsv bs.length] L 25 [] [[], [0], [1], [2], [2], [2, 3, 4], [2, 5], [6], [7], [7, 8], [7, 9], [10], [7, 10, 11], [7, 12], [13], [14], [14], [14, 15, 16], [14], [14], [14, 19], [14, 18, 20], [14], [14, 22], [14, 23]] [] (phiG [pe (ii (withinF ([2, 1, 0]) x3 (1 + x4))), pe (.bool (decide ((withinF ([2, 1, 0]) x3 (1 + x4) : Int) ≥ 1)) : Value), pe (.bool (decide ((withinF ([2, 1, 0]) x3 (1 + x4) : Int) ≥ 1)) : Value), pe (ii (withinF ([2, 1, 0]) x3 (1 + x4))), pe (ii (1 + x4)), pe (.bool (decide ((withinF ([2, 1, 0]) x3 (1 + x4) : Int) ≤ 1 + x4)) : Value), pe (.bool (decide ((withinF ([2, 1, 0]) x3 (1 + x4) : Int) ≤ 1 + x4)) : Value), pe (.bool (decide ((withinF ([2, 1, 0]) x3 (1 + x4) : Int) ≤ 1 + x4)) : Value), pe (ii (1 + x11)), pe (.bool (decide ((1 + x11 : Int) > 1)) : Value), pe (.bool (decide ((1 + x11 : Int) > 1)) : Value), pe undef, pe (.bool (true)), pe (.bool (true)), pe (.bool (true)), pe (.agg #[x1, x2]), pe (.agg #[x5, x6, ii ((firstF ([2, 1, 0]) x3 (1 + x4)).2.2.1), x7]), pe (.bool (((sysOk ([2, 1, 0]) x3 && loopOkL ([2, 1, 0]) x3 ((firstF ([2, 1, 0]) x3 (1 + x4)).1) ((firstF ([2, 1, 0]) x3 (1 + x4)).2.1) ((firstF ([2, 1, 0]) x3 (1 + x4)).2.2.1) ((firstF ([2, 1, 0]) x3 (1 + x4)).2.2.2.1)) && decide (endL ((firstF ([2, 1, 0]) x3 (1 + x4)).1) ((firstF ([2, 1, 0]) x3 (1 + x4)).2.1) = ((firstF ([2, 1, 0]) x3 (1 + x4)).1))))), pe (.agg #[x1, x2]), pe (ptr b2 0), pe (.agg #[x5, x6]), fun FF us v => ((v) : Value) = v ∧ (IntsF FF (v) (endT ([2, 1, 0]) x3 ((firstF ([2, 1, 0]) x3 (1 + x4)).1) ((firstF ([2, 1, 0]) x3 (1 + x4)).2.1))), pe (ptr b2 0), pe (ptr b2 0), pe x5]) (ownL []) mixed rfl rfl (by kernel_rfl) (by kernel_rfl) (MonoG.get (m1 (m1 (m1 (m1 (m1 (m1 (m1 (m1 (m1 (m1 (m1 (m1 (m1 (m1 (m1 (m1 (m1 (m1 (m1 (m1 (m1 (mC (fun le h => ⟨h.1, h.2.mono le⟩) (m1 (m1 (m1 MonoG.nil)))))))))))))))))))))))))) ?_ ?_
    ·refine gD (fun W Fs R lF z9 => ?_) ?_
     ·refine qi (qq (ii (withinF ([2, 1, 0]) x3 (1 + x4))) rfl ?_)
      exact ⟨rfl, rfl⟩
     refine gD (fun W Fs R lF z9 => ?_) ?_
     ·rw [eS (l := [(0, _)]) ⟨z9 0 rfl, ⟨⟩⟩]
      refine qi (ye rfl rfl ?_)
      exact ⟨rfl, rfl⟩
     refine gD (fun W Fs R lF z9 => ?_) ?_
     ·rw [eS (l := [(1, _)]) ⟨z9 1 rfl, ⟨⟩⟩]
      refine qi (qq (.bool (decide ((withinF ([2, 1, 0]) x3 (1 + x4) : Int) ≥ 1))) rfl ?_)
      exact ⟨rfl, rfl⟩
     refine gD (fun W Fs R lF z9 => ?_) ?_
     ·rw [eS (l := [(2, _)]) ⟨z9 2 rfl, ⟨⟩⟩]
      refine jb (t := 107) rfl (vT h9) (qq (ii (withinF ([2, 1, 0]) x3 (1 + x4))) rfl ?_)
      exact ⟨rfl, rfl⟩
     refine gD (fun W Fs R lF z9 => ?_) ?_
     ·rw [eS (l := [(2, _)]) ⟨z9 2 rfl, ⟨⟩⟩]
      refine jb (t := 107) rfl (vT h9) (qq (ii (1 + x4)) rfl ?_)
      exact ⟨rfl, rfl⟩
     refine gD (fun W Fs R lF z9 => ?_) ?_
     ·rw [eS (l := [(2, _), (3, _), (4, _)]) ⟨z9 2 rfl, z9 3 rfl, z9 4 rfl, ⟨⟩⟩]
      refine jb (t := 107) rfl (vT h9) (XOp.leq rfl rfl ?_)
      exact ⟨rfl, rfl⟩
     refine gD (fun W Fs R lF z9 => ?_) ?_
     ·rw [eS (l := [(2, _), (5, _)]) ⟨z9 2 rfl, z9 5 rfl, ⟨⟩⟩]
      refine qi (qU (.bool (decide ((withinF ([2, 1, 0]) x3 (1 + x4) : Int) ≤ 1 + x4))) (vT h9) rfl ?_)
      exact ⟨rfl, rfl⟩
     refine gD (fun W Fs R lF z9 => ?_) ?_
     ·rw [eS (l := [(6, _)]) ⟨z9 6 rfl, ⟨⟩⟩]
      refine qi (qq (.bool (decide ((withinF ([2, 1, 0]) x3 (1 + x4) : Int) ≤ 1 + x4))) rfl ?_)
      exact ⟨rfl, rfl⟩
     refine gD (fun W Fs R lF z9 => ?_) ?_
     ·rw [eS (l := [(7, _)]) ⟨z9 7 rfl, ⟨⟩⟩]
      refine jb (t := 112) rfl (vT h10) (qq (ii (1 + x11)) rfl ?_)
      exact ⟨rfl, rfl⟩
     refine gD (fun W Fs R lF z9 => ?_) ?_
     ·rw [eS (l := [(7, _), (8, _)]) ⟨z9 7 rfl, z9 8 rfl, ⟨⟩⟩]
      refine jb (t := 112) rfl (vT h10) (jQ rfl rfl ?_)
      exact ⟨rfl, rfl⟩
     refine gD (fun W Fs R lF z9 => ?_) ?_
     ·rw [eS (l := [(7, _), (9, _)]) ⟨z9 7 rfl, z9 9 rfl, ⟨⟩⟩]
      refine jb (t := 112) rfl (vT h10) (qq (.bool (decide ((1 + x11 : Int) > 1))) rfl ?_)
      exact ⟨rfl, rfl⟩
     refine gD (fun W Fs R lF z9 => ?_) ?_
     ·rw [eS (l := [(10, _)]) ⟨z9 10 rfl, ⟨⟩⟩]
      exact ju (t := 115) rfl (vT h11) ⟨rfl, rfl⟩
     refine gD (fun W Fs R lF z9 => ?_) ?_
     ·rw [eS (l := [(7, _), (10, _), (11, undef)]) ⟨z9 7 rfl, z9 10 rfl, z9 11 rfl, ⟨⟩⟩]
      refine jb (t := 112) rfl (vT h10) (qU (.bool (true)) (vT h11) rfl ?_)
      exact ⟨rfl, rfl⟩
     refine gD (fun W Fs R lF z9 => ?_) ?_
     ·rw [eS (l := [(7, _), (12, _)]) ⟨z9 7 rfl, z9 12 rfl, ⟨⟩⟩]
      refine qi (qU (.bool (true)) (vT h10) rfl ?_)
      exact ⟨rfl, rfl⟩
     refine gD (fun W Fs R lF z9 => ?_) ?_
     ·rw [eS (l := [(13, _)]) ⟨z9 13 rfl, ⟨⟩⟩]
      refine qi (qq (.bool (true)) rfl ?_)
      exact ⟨rfl, rfl⟩
     refine gD (fun W Fs R lF z9 => ?_) ?_
     ·replace hbs := hbs.mono lF
      replace hr1 := hr1.mono lF
      replace hr2 := hr2.mono lF
      replace hr5 := hr5.mono lF
      replace hr6 := hr6.mono lF
      replace hr7 := hr7.mono lF
      rw [eS (l := [(14, _)]) ⟨z9 14 rfl, ⟨⟩⟩]
      refine jb (t := 119) rfl rfl (qn [x1, x2] jr jl rfl rfl (Rd.ownN [_, _] rfl rfl) ?_)
      exact ⟨rfl, rfl⟩
     refine gD (fun W Fs R lF z9 => ?_) ?_
     ·replace hbs := hbs.mono lF
      replace hr1 := hr1.mono lF
      replace hr2 := hr2.mono lF
      replace hr5 := hr5.mono lF
      replace hr6 := hr6.mono lF
      replace hr7 := hr7.mono lF
      rw [eS (l := [(14, _)]) ⟨z9 14 rfl, ⟨⟩⟩]
      refine jb (t := 119) rfl rfl (qn [x5, x6, ii ((firstF ([2, 1, 0]) x3 (1 + x4)).2.2.1), x7] jX jz rfl rfl (Rd.ownN [_] rfl rfl) ?_)
      exact ⟨rfl, rfl⟩
     refine gD (fun W Fs R lF z9 => ?_) ?_
     ·replace hbs := hbs.mono lF
      replace hr1 := hr1.mono lF
      replace hr2 := hr2.mono lF
      replace hr5 := hr5.mono lF
      replace hr6 := hr6.mono lF
      replace hr7 := hr7.mono lF
      rw [eS (l := [(14, _), (15, _), (16, _)]) ⟨z9 14 rfl, z9 15 rfl, z9 16 rfl, ⟨⟩⟩]
      refine jb (t := 119) rfl rfl (qo (args := [.agg #[x1, x2], .agg #[x5, x6, ii ((firstF ([2, 1, 0]) x3 (1 + x4)).2.2.1), x7]]) call65 rfl (CycleIn_spec hr1 hr2 hr5 hr6 hr7 (hlf := (by first | assumption | rfl | omega | simp)) (hsb := (by first | assumption | rfl | omega | simp)) (hlss := (by first | assumption | rfl | omega | simp))) ?_)
      rintro _ _ _ _ ⟨rfl, rfl, rfl⟩
      exact ⟨rfl, rfl⟩
     refine gD (fun W Fs R lF z9 => ?_) ?_
     ·replace hbs := hbs.mono lF
      replace hr1 := hr1.mono lF
      replace hr2 := hr2.mono lF
      replace hr5 := hr5.mono lF
      replace hr6 := hr6.mono lF
      replace hr7 := hr7.mono lF
      rw [eS (l := [(14, _)]) ⟨z9 14 rfl, ⟨⟩⟩]
      refine jb (t := 119) rfl rfl (qn [x1, x2] jr jl rfl rfl (Rd.ownN [_, _] rfl rfl) ?_)
      exact ⟨rfl, rfl⟩
     refine gD (fun W Fs R lF z9 => ?_) ?_
     ·rw [eS (l := [(14, _)]) ⟨z9 14 rfl, ⟨⟩⟩]
      refine jb (t := 119) rfl rfl (qk (0) qT rfl qH (by decide) rfl rfl ?_)
      exact ⟨rfl, rfl⟩
     refine gD (fun W Fs R lF z9 => ?_) ?_
     ·replace hbs := hbs.mono lF
      replace hr1 := hr1.mono lF
      replace hr2 := hr2.mono lF
      replace hr5 := hr5.mono lF
      replace hr6 := hr6.mono lF
      replace hr7 := hr7.mono lF
      rw [eS (l := [(14, _), (19, _)]) ⟨z9 14 rfl, z9 19 rfl, ⟨⟩⟩]
      refine jb (t := 119) rfl rfl (qn [x5, x6] jy qH rfl rfl (Rd.ownN [_] rfl rfl) ?_)
      exact ⟨rfl, rfl⟩
     refine gD (fun W Fs R lF z9 => ?_) ?_
     ·replace hbs := hbs.mono lF
      replace hr1 := hr1.mono lF
      replace hr2 := hr2.mono lF
      replace hr5 := hr5.mono lF
      replace hr6 := hr6.mono lF
      replace hr7 := hr7.mono lF
      rw [eS (l := [(14, _), (18, _), (20, _)]) ⟨z9 14 rfl, z9 18 rfl, z9 20 rfl, ⟨⟩⟩]
      refine jb (t := 119) rfl rfl (yf <| qo (args := [.agg #[x1, x2], .agg #[x5, x6]]) call54 rfl (sEndTerm_spec hr1 hr2 hr5 hr6 (hla := (by first | assumption | rfl | omega | simp)) (hlr := (by first | assumption | rfl | omega | simp)) (hrb := (by first | assumption | rfl | omega | simp)) (hlf := (by first | assumption | rfl | omega | simp)) (hlss := (by first | assumption | rfl | omega | simp)) (hsb := (by first | assumption | rfl | omega | simp))) ?_)
      rintro v2 _ _ _ ⟨rfl, hs2, rfl⟩
      refine ⟨_, _, rfl, fun F9 le9 hz1 => ?_⟩
      replace hbs := hbs.mono le9
      replace hr1 := hr1.mono le9
      replace hr2 := hr2.mono le9
      replace hr5 := hr5.mono le9
      replace hr6 := hr6.mono le9
      replace hr7 := hr7.mono le9
      have hf1 : IntsF F9 v2 ((endT ([2, 1, 0]) x3 ((firstF ([2, 1, 0]) x3 (1 + x4)).1) ((firstF ([2, 1, 0]) x3 (1 + x4)).2.1))) := intsH.fz (xs := (endT ([2, 1, 0]) x3 ((firstF ([2, 1, 0]) x3 (1 + x4)).1) ((firstF ([2, 1, 0]) x3 (1 + x4)).2.1))) hz1.fz
      exact ⟨⟨rfl, hf1⟩, rfl⟩
     refine gD (fun W Fs R lF z9 => ?_) ?_
     ·rw [eS (l := [(14, _)]) ⟨z9 14 rfl, ⟨⟩⟩]
      refine jb (t := 119) rfl rfl (qk (0) qT rfl qH (by decide) rfl rfl ?_)
      exact ⟨rfl, rfl⟩
     refine gD (fun W Fs R lF z9 => ?_) ?_
     ·rw [eS (l := [(14, _), (22, _)]) ⟨z9 14 rfl, z9 22 rfl, ⟨⟩⟩]
      refine jb (t := 119) rfl rfl (qk (0) qA rfl qu (by decide) rfl rfl ?_)
      exact ⟨rfl, rfl⟩
     refine gD (fun W Fs R lF z9 => ?_) ?_
     ·replace hbs := hbs.mono lF
      replace hr1 := hr1.mono lF
      replace hr2 := hr2.mono lF
      replace hr5 := hr5.mono lF
      replace hr6 := hr6.mono lF
      replace hr7 := hr7.mono lF
      rw [eS (l := [(14, _), (23, _)]) ⟨z9 14 rfl, z9 23 rfl, ⟨⟩⟩]
      refine jb (t := 119) rfl rfl (ql qZ rfl (Rd.own [_] rfl rfl) ?_)
      exact ⟨rfl, rfl⟩
     exact stepsG.nil
    intro W F10 le10 hphi
    obtain ⟨e21, f21_4ha⟩ := hphi 21 (by decide)
    generalize hu1 : ((W 21)) = u1 at e21 f21_4ha
    rw [eS (l := [(14, _), (17, _), (21, u1), (24, _)]) ⟨(hphi 14 (by decide)), (hphi 17 (by decide)), hu1, (hphi 24 (by decide)), ⟨⟩⟩]
    replace hbs := hbs.mono le10
    replace hr1 := hr1.mono le10
    replace hr2 := hr2.mono le10
    replace hr5 := hr5.mono le10
    replace hr6 := hr6.mono le10
    replace hr7 := hr7.mono le10
    show XL _ _ _ _ _ _ _ (cellsH b4 [x12, x13] 45 :: cellsH b2 [x5, x6, ii ((firstF ([2, 1, 0]) x3 (1 + x4)).2.2.1), x7] 117 :: cellsH b1 [x1, x2] 39 :: curH .u64 194 cb1 bsv bs.length :: L)
    refine qp (t := 119) rfl rfl (qo (args := [u1, x5]) call63 rfl (likeInts_spec f21_4ha hr5 (hbd := (by first | (refine Or.inl ?_; omega) | (refine Or.inr ?_; omega)))) ?_)
    rintro _ _ _ _ ⟨rfl, rfl, rfl⟩
    refine qp (t := 119) rfl rfl (XOp.eqB (a := ((sysOk ([2, 1, 0]) x3 && loopOkL ([2, 1, 0]) x3 ((firstF ([2, 1, 0]) x3 (1 + x4)).1) ((firstF ([2, 1, 0]) x3 (1 + x4)).2.1) ((firstF ([2, 1, 0]) x3 (1 + x4)).2.2.1) ((firstF ([2, 1, 0]) x3 (1 + x4)).2.2.2.1)) && decide (endL ((firstF ([2, 1, 0]) x3 (1 + x4)).1) ((firstF ([2, 1, 0]) x3 (1 + x4)).2.1) = ((firstF ([2, 1, 0]) x3 (1 + x4)).1)))) (b := decide (((endT ([2, 1, 0]) x3 ((firstF ([2, 1, 0]) x3 (1 + x4)).1) ((firstF ([2, 1, 0]) x3 (1 + x4)).2.1))) = ((firstF ([2, 1, 0]) x3 (1 + x4)).1))) runUnderlying4 rfl rfl (cX (qU (.bool (decide ((((sysOk ([2, 1, 0]) x3 && loopOkL ([2, 1, 0]) x3 ((firstF ([2, 1, 0]) x3 (1 + x4)).1) ((firstF ([2, 1, 0]) x3 (1 + x4)).2.1) ((firstF ([2, 1, 0]) x3 (1 + x4)).2.2.1) ((firstF ([2, 1, 0]) x3 (1 + x4)).2.2.2.1)) && decide (endL ((firstF ([2, 1, 0]) x3 (1 + x4)).1) ((firstF ([2, 1, 0]) x3 (1 + x4)).2.1) = ((firstF ([2, 1, 0]) x3 (1 + x4)).1)))) = (decide (((endT ([2, 1, 0]) x3 ((firstF ([2, 1, 0]) x3 (1 + x4)).1) ((firstF ([2, 1, 0]) x3 (1 + x4)).2.1))) = ((firstF ([2, 1, 0]) x3 (1 + x4)).1)))))) rfl rfl (qg (.bool (decide ((((sysOk ([2, 1, 0]) x3 && loopOkL ([2, 1, 0]) x3 ((firstF ([2, 1, 0]) x3 (1 + x4)).1) ((firstF ([2, 1, 0]) x3 (1 + x4)).2.1) ((firstF ([2, 1, 0]) x3 (1 + x4)).2.2.1) ((firstF ([2, 1, 0]) x3 (1 + x4)).2.2.2.1)) && decide (endL ((firstF ([2, 1, 0]) x3 (1 + x4)).1) ((firstF ([2, 1, 0]) x3 (1 + x4)).2.1) = ((firstF ([2, 1, 0]) x3 (1 + x4)).1)))) = (decide (((endT ([2, 1, 0]) x3 ((firstF ([2, 1, 0]) x3 (1 + x4)).1) ((firstF ([2, 1, 0]) x3 (1 + x4)).2.1))) = ((firstF ([2, 1, 0]) x3 (1 + x4)).1)))))) rfl ?_))))
    refine qb (qw (qs (L' := L) [.bool (decide ((((sysOk ([2, 1, 0]) x3 && loopOkL ([2, 1, 0]) x3 ((firstF ([2, 1, 0]) x3 (1 + x4)).1) ((firstF ([2, 1, 0]) x3 (1 + x4)).2.1) ((firstF ([2, 1, 0]) x3 (1 + x4)).2.2.1) ((firstF ([2, 1, 0]) x3 (1 + x4)).2.2.2.1)) && decide (endL ((firstF ([2, 1, 0]) x3 (1 + x4)).1) ((firstF ([2, 1, 0]) x3 (1 + x4)).2.1) = ((firstF ([2, 1, 0]) x3 (1 + x4)).1)))) = (decide (((endT ([2, 1, 0]) x3 ((firstF ([2, 1, 0]) x3 (1 + x4)).1) ((firstF ([2, 1, 0]) x3 (1 + x4)).2.1))) = ((firstF ([2, 1, 0]) x3 (1 + x4)).1)))))] (.bool (decide ((((sysOk ([2, 1, 0]) x3 && loopOkL ([2, 1, 0]) x3 ((firstF ([2, 1, 0]) x3 (1 + x4)).1) ((firstF ([2, 1, 0]) x3 (1 + x4)).2.1) ((firstF ([2, 1, 0]) x3 (1 + x4)).2.2.1) ((firstF ([2, 1, 0]) x3 (1 + x4)).2.2.2.1)) && decide (endL ((firstF ([2, 1, 0]) x3 (1 + x4)).1) ((firstF ([2, 1, 0]) x3 (1 + x4)).2.1) = ((firstF ([2, 1, 0]) x3 (1 + x4)).1)))) = (decide (((endT ([2, 1, 0]) x3 ((firstF ([2, 1, 0]) x3 (1 + x4)).1) ((firstF ([2, 1, 0]) x3 (1 + x4)).2.1))) = ((firstF ([2, 1, 0]) x3 (1 + x4)).1)))))) (.tmp rfl .nil) rfl rF (qh (qh (qh (qh (qh le1 le3) le6) le7) le8) le10) (sD (sD (sD (sD sR)))) ?_))
    exact ⟨(vB ((decide_eq_true (by rw [hfs.1, hlw.1, endT_yes hwk]; rfl)).symm)), rfl, rfl⟩
   by_cases h12 : ((againF ([2, 1, 0]) x3 ((firstF ([2, 1, 0]) x3 (1 + x4)).1) ((firstF ([2, 1, 0]) x3 (1 + x4)).2.1) ((firstF ([2, 1, 0]) x3 (1 + x4)).2.2.1) ((firstF ([2, 1, 0]) x3 (1 + x4)).2.2.2.1) (1 + x11)).2.2) = true
   ·have hag := againF_law h12
    have hbw := walkOk_bnd hag.1
    have hbw1 : (againF [2, 1, 0] x3 (firstF [2, 1, 0] x3 (1 + x4)).1 (firstF [2, 1, 0] x3 (1 + x4)).2.1 (firstF [2, 1, 0] x3 (1 + x4)).2.2.1 (firstF [2, 1, 0] x3 (1 + x4)).2.2.2.1 (1 + x11)).1.length ≤ 4000000 := by have h9 := hbw.1; omega
    have hbw2 : (againF [2, 1, 0] x3 (firstF [2, 1, 0] x3 (1 + x4)).1 (firstF [2, 1, 0] x3 (1 + x4)).2.1 (firstF [2, 1, 0] x3 (1 + x4)).2.2.1 (firstF [2, 1, 0] x3 (1 + x4)).2.2.2.1 (1 + x11)).2.1.length ≤ 4000000 := by have h9 := hbw.2.1; omega
    have hbw3 : ∀ i, i < (againF [2, 1, 0] x3 (firstF [2, 1, 0] x3 (1 + x4)).1 (firstF [2, 1, 0] x3 (1 + x4)).2.1 (firstF [2, 1, 0] x3 (1 + x4)).2.2.1 (firstF [2, 1, 0] x3 (1 + x4)).2.2.2.1 (1 + x11)).2.1.length → (((againF [2, 1, 0] x3 (firstF [2, 1, 0] x3 (1 + x4)).1 (firstF [2, 1, 0] x3 (1 + x4)).2.1 (firstF [2, 1, 0] x3 (1 + x4)).2.2.1 (firstF [2, 1, 0] x3 (1 + x4)).2.2.2.1 (1 + x11)).2.1).getD i (0, 0, [])).2.2.length ≤ 4000000 := fun i hi => by have h9 := hbw.2.2 i hi; omega
    have hbw4 := hbw.1
    refine jZ [cellsH b4 [x12, x13] 45, cellsH b2 [x5, x6, ii ((firstF ([2, 1, 0]) x3 (1 + x4)).2.2.1), x7] 117, cellsH b1 [x1, x2] 39, curH .u64 194 cb1 bsv bs.length] L 25 [] [[], [0], [1], [2], [2], [2, 3, 4], [2, 5], [6], [7], [7, 8], [7, 9], [10], [7, 10, 11], [7, 12], [13], [14], [14], [14, 15, 16], [14], [14], [14, 19], [14, 18, 20], [14], [14, 22], [14, 23]] [] (phiG [pe (ii (withinF ([2, 1, 0]) x3 (1 + x4))), pe (.bool (decide ((withinF ([2, 1, 0]) x3 (1 + x4) : Int) ≥ 1)) : Value), pe (.bool (decide ((withinF ([2, 1, 0]) x3 (1 + x4) : Int) ≥ 1)) : Value), pe (ii (withinF ([2, 1, 0]) x3 (1 + x4))), pe (ii (1 + x4)), pe (.bool (decide ((withinF ([2, 1, 0]) x3 (1 + x4) : Int) ≤ 1 + x4)) : Value), pe (.bool (decide ((withinF ([2, 1, 0]) x3 (1 + x4) : Int) ≤ 1 + x4)) : Value), pe (.bool (decide ((withinF ([2, 1, 0]) x3 (1 + x4) : Int) ≤ 1 + x4)) : Value), pe (ii (1 + x11)), pe (.bool (decide ((1 + x11 : Int) > 1)) : Value), pe (.bool (decide ((1 + x11 : Int) > 1)) : Value), pe (.bool ((againF ([2, 1, 0]) x3 ((firstF ([2, 1, 0]) x3 (1 + x4)).1) ((firstF ([2, 1, 0]) x3 (1 + x4)).2.1) ((firstF ([2, 1, 0]) x3 (1 + x4)).2.2.1) ((firstF ([2, 1, 0]) x3 (1 + x4)).2.2.2.1) (1 + x11)).2.2)), pe (.bool ((againF ([2, 1, 0]) x3 ((firstF ([2, 1, 0]) x3 (1 + x4)).1) ((firstF ([2, 1, 0]) x3 (1 + x4)).2.1) ((firstF ([2, 1, 0]) x3 (1 + x4)).2.2.1) ((firstF ([2, 1, 0]) x3 (1 + x4)).2.2.2.1) (1 + x11)).2.2)), pe (.bool ((againF ([2, 1, 0]) x3 ((firstF ([2, 1, 0]) x3 (1 + x4)).1) ((firstF ([2, 1, 0]) x3 (1 + x4)).2.1) ((firstF ([2, 1, 0]) x3 (1 + x4)).2.2.1) ((firstF ([2, 1, 0]) x3 (1 + x4)).2.2.2.1) (1 + x11)).2.2)), pe (.bool ((againF ([2, 1, 0]) x3 ((firstF ([2, 1, 0]) x3 (1 + x4)).1) ((firstF ([2, 1, 0]) x3 (1 + x4)).2.1) ((firstF ([2, 1, 0]) x3 (1 + x4)).2.2.1) ((firstF ([2, 1, 0]) x3 (1 + x4)).2.2.2.1) (1 + x11)).2.2)), pe (.agg #[x1, x2]), pe (.agg #[x5, x6, ii ((firstF ([2, 1, 0]) x3 (1 + x4)).2.2.1), x7]), pe (.bool (((sysOk ([2, 1, 0]) x3 && loopOkL ([2, 1, 0]) x3 ((firstF ([2, 1, 0]) x3 (1 + x4)).1) ((firstF ([2, 1, 0]) x3 (1 + x4)).2.1) ((firstF ([2, 1, 0]) x3 (1 + x4)).2.2.1) ((firstF ([2, 1, 0]) x3 (1 + x4)).2.2.2.1)) && decide (endL ((firstF ([2, 1, 0]) x3 (1 + x4)).1) ((firstF ([2, 1, 0]) x3 (1 + x4)).2.1) = ((firstF ([2, 1, 0]) x3 (1 + x4)).1))))), pe (.agg #[x1, x2]), pe (ptr b2 0), pe (.agg #[x5, x6]), fun FF us v => ((v) : Value) = v ∧ (IntsF FF (v) (endT ([2, 1, 0]) x3 ((firstF ([2, 1, 0]) x3 (1 + x4)).1) ((firstF ([2, 1, 0]) x3 (1 + x4)).2.1))), pe (ptr b2 0), pe (ptr b2 0), pe x5]) (ownL []) mixed rfl rfl (by kernel_rfl) (by kernel_rfl) (MonoG.get (m1 (m1 (m1 (m1 (m1 (m1 (m1 (m1 (m1 (m1 (m1 (m1 (m1 (m1 (m1 (m1 (m1 (m1 (m1 (m1 (m1 (mC (fun le h => ⟨h.1, h.2.mono le⟩) (m1 (m1 (m1 MonoG.nil)))))))))))))))))))))))))) ?_ ?_
    ·refine gD (fun W Fs R lF z9 => ?_) ?_
     ·refine qi (qq (ii (withinF ([2, 1, 0]) x3 (1 + x4))) rfl ?_)
      exact ⟨rfl, rfl⟩
     refine gD (fun W Fs R lF z9 => ?_) ?_
     ·rw [eS (l := [(0, _)]) ⟨z9 0 rfl, ⟨⟩⟩]
      refine qi (ye rfl rfl ?_)
      exact ⟨rfl, rfl⟩
     refine gD (fun W Fs R lF z9 => ?_) ?_
     ·rw [eS (l := [(1, _)]) ⟨z9 1 rfl, ⟨⟩⟩]
      refine qi (qq (.bool (decide ((withinF ([2, 1, 0]) x3 (1 + x4) : Int) ≥ 1))) rfl ?_)
      exact ⟨rfl, rfl⟩
     refine gD (fun W Fs R lF z9 => ?_) ?_
     ·rw [eS (l := [(2, _)]) ⟨z9 2 rfl, ⟨⟩⟩]
      refine jb (t := 107) rfl (vT h9) (qq (ii (withinF ([2, 1, 0]) x3 (1 + x4))) rfl ?_)
      exact ⟨rfl, rfl⟩
     refine gD (fun W Fs R lF z9 => ?_) ?_
     ·rw [eS (l := [(2, _)]) ⟨z9 2 rfl, ⟨⟩⟩]
      refine jb (t := 107) rfl (vT h9) (qq (ii (1 + x4)) rfl ?_)
      exact ⟨rfl, rfl⟩
     refine gD (fun W Fs R lF z9 => ?_) ?_
     ·rw [eS (l := [(2, _), (3, _), (4, _)]) ⟨z9 2 rfl, z9 3 rfl, z9 4 rfl, ⟨⟩⟩]
      refine jb (t := 107) rfl (vT h9) (XOp.leq rfl rfl ?_)
      exact ⟨rfl, rfl⟩
     refine gD (fun W Fs R lF z9 => ?_) ?_
     ·rw [eS (l := [(2, _), (5, _)]) ⟨z9 2 rfl, z9 5 rfl, ⟨⟩⟩]
      refine qi (qU (.bool (decide ((withinF ([2, 1, 0]) x3 (1 + x4) : Int) ≤ 1 + x4))) (vT h9) rfl ?_)
      exact ⟨rfl, rfl⟩
     refine gD (fun W Fs R lF z9 => ?_) ?_
     ·rw [eS (l := [(6, _)]) ⟨z9 6 rfl, ⟨⟩⟩]
      refine qi (qq (.bool (decide ((withinF ([2, 1, 0]) x3 (1 + x4) : Int) ≤ 1 + x4))) rfl ?_)
      exact ⟨rfl, rfl⟩
     refine gD (fun W Fs R lF z9 => ?_) ?_
     ·rw [eS (l := [(7, _)]) ⟨z9 7 rfl, ⟨⟩⟩]
      refine jb (t := 112) rfl (vT h10) (qq (ii (1 + x11)) rfl ?_)
      exact ⟨rfl, rfl⟩
     refine gD (fun W Fs R lF z9 => ?_) ?_
     ·rw [eS (l := [(7, _), (8, _)]) ⟨z9 7 rfl, z9 8 rfl, ⟨⟩⟩]
      refine jb (t := 112) rfl (vT h10) (jQ rfl rfl ?_)
      exact ⟨rfl, rfl⟩
     refine gD (fun W Fs R lF z9 => ?_) ?_
     ·rw [eS (l := [(7, _), (9, _)]) ⟨z9 7 rfl, z9 9 rfl, ⟨⟩⟩]
      refine jb (t := 112) rfl (vT h10) (qq (.bool (decide ((1 + x11 : Int) > 1))) rfl ?_)
      exact ⟨rfl, rfl⟩
     refine gD (fun W Fs R lF z9 => ?_) ?_
     ·rw [eS (l := [(10, _)]) ⟨z9 10 rfl, ⟨⟩⟩]
      refine jb (t := 115) rfl (vF h11) (qq (.bool ((againF ([2, 1, 0]) x3 ((firstF ([2, 1, 0]) x3 (1 + x4)).1) ((firstF ([2, 1, 0]) x3 (1 + x4)).2.1) ((firstF ([2, 1, 0]) x3 (1 + x4)).2.2.1) ((firstF ([2, 1, 0]) x3 (1 + x4)).2.2.2.1) (1 + x11)).2.2)) rfl ?_)
      exact ⟨rfl, rfl⟩
     refine gD (fun W Fs R lF z9 => ?_) ?_
     ·rw [eS (l := [(7, _), (10, _), (11, _)]) ⟨z9 7 rfl, z9 10 rfl, z9 11 rfl, ⟨⟩⟩]
      refine jb (t := 112) rfl (vT h10) (qS (.bool ((againF ([2, 1, 0]) x3 ((firstF ([2, 1, 0]) x3 (1 + x4)).1) ((firstF ([2, 1, 0]) x3 (1 + x4)).2.1) ((firstF ([2, 1, 0]) x3 (1 + x4)).2.2.1) ((firstF ([2, 1, 0]) x3 (1 + x4)).2.2.2.1) (1 + x11)).2.2)) (vF h11) rfl ?_)
      exact ⟨rfl, rfl⟩
     refine gD (fun W Fs R lF z9 => ?_) ?_
     ·rw [eS (l := [(7, _), (12, _)]) ⟨z9 7 rfl, z9 12 rfl, ⟨⟩⟩]
      refine qi (qU (.bool ((againF ([2, 1, 0]) x3 ((firstF ([2, 1, 0]) x3 (1 + x4)).1) ((firstF ([2, 1, 0]) x3 (1 + x4)).2.1) ((firstF ([2, 1, 0]) x3 (1 + x4)).2.2.1) ((firstF ([2, 1, 0]) x3 (1 + x4)).2.2.2.1) (1 + x11)).2.2)) (vT h10) rfl ?_)
      exact ⟨rfl, rfl⟩
     refine gD (fun W Fs R lF z9 => ?_) ?_
     ·rw [eS (l := [(13, _)]) ⟨z9 13 rfl, ⟨⟩⟩]
      refine qi (qq (.bool ((againF ([2, 1, 0]) x3 ((firstF ([2, 1, 0]) x3 (1 + x4)).1) ((firstF ([2, 1, 0]) x3 (1 + x4)).2.1) ((firstF ([2, 1, 0]) x3 (1 + x4)).2.2.1) ((firstF ([2, 1, 0]) x3 (1 + x4)).2.2.2.1) (1 + x11)).2.2)) rfl ?_)
      exact ⟨rfl, rfl⟩
     refine gD (fun W Fs R lF z9 => ?_) ?_
     ·replace hbs := hbs.mono lF
      replace hr1 := hr1.mono lF
      replace hr2 := hr2.mono lF
      replace hr5 := hr5.mono lF
      replace hr6 := hr6.mono lF
      replace hr7 := hr7.mono lF
      rw [eS (l := [(14, _)]) ⟨z9 14 rfl, ⟨⟩⟩]
      refine jb (t := 119) rfl (vB h12) (qn [x1, x2] jr jl rfl rfl (Rd.ownN [_, _] rfl rfl) ?_)
      exact ⟨rfl, rfl⟩
     refine gD (fun W Fs R lF z9 => ?_) ?_
     ·replace hbs := hbs.mono lF
      replace hr1 := hr1.mono lF
      replace hr2 := hr2.mono lF
      replace hr5 := hr5.mono lF
      replace hr6 := hr6.mono lF
      replace hr7 := hr7.mono lF
      rw [eS (l := [(14, _)]) ⟨z9 14 rfl, ⟨⟩⟩]
      refine jb (t := 119) rfl (vB h12) (qn [x5, x6, ii ((firstF ([2, 1, 0]) x3 (1 + x4)).2.2.1), x7] jX jz rfl rfl (Rd.ownN [_] rfl rfl) ?_)
      exact ⟨rfl, rfl⟩
     refine gD (fun W Fs R lF z9 => ?_) ?_
     ·replace hbs := hbs.mono lF
      replace hr1 := hr1.mono lF
      replace hr2 := hr2.mono lF
      replace hr5 := hr5.mono lF
      replace hr6 := hr6.mono lF
      replace hr7 := hr7.mono lF
      rw [eS (l := [(14, _), (15, _), (16, _)]) ⟨z9 14 rfl, z9 15 rfl, z9 16 rfl, ⟨⟩⟩]
      refine jb (t := 119) rfl (vB h12) (qo (args := [.agg #[x1, x2], .agg #[x5, x6, ii ((firstF ([2, 1, 0]) x3 (1 + x4)).2.2.1), x7]]) call65 rfl (CycleIn_spec hr1 hr2 hr5 hr6 hr7 (hlf := (by first | assumption | rfl | omega | simp)) (hsb := (by first | assumption | rfl | omega | simp)) (hlss := (by first | assumption | rfl | omega | simp))) ?_)
      rintro _ _ _ _ ⟨rfl, rfl, rfl⟩
      exact ⟨rfl, rfl⟩
     refine gD (fun W Fs R lF z9 => ?_) ?_
     ·replace hbs := hbs.mono lF
      replace hr1 := hr1.mono lF
      replace hr2 := hr2.mono lF
      replace hr5 := hr5.mono lF
      replace hr6 := hr6.mono lF
      rw [eS (l := [(14, _)]) ⟨z9 14 rfl, ⟨⟩⟩]
      refine jb (t := 119) rfl (vB h12) (qn [x1, x2] jr jl rfl rfl (Rd.ownN [_, _] rfl rfl) ?_)
      exact ⟨rfl, rfl⟩
     refine gD (fun W Fs R lF z9 => ?_) ?_
     ·rw [eS (l := [(14, _)]) ⟨z9 14 rfl, ⟨⟩⟩]
      refine jb (t := 119) rfl (vB h12) (qk (0) qT rfl qH (by decide) rfl rfl ?_)
      exact ⟨rfl, rfl⟩
     refine gD (fun W Fs R lF z9 => ?_) ?_
     ·replace hbs := hbs.mono lF
      replace hr1 := hr1.mono lF
      replace hr2 := hr2.mono lF
      replace hr5 := hr5.mono lF
      replace hr6 := hr6.mono lF
      rw [eS (l := [(14, _), (19, _)]) ⟨z9 14 rfl, z9 19 rfl, ⟨⟩⟩]
      refine jb (t := 119) rfl (vB h12) (qn [x5, x6] jy qH rfl rfl (Rd.ownN [_] rfl rfl) ?_)
      exact ⟨rfl, rfl⟩
     refine gD (fun W Fs R lF z9 => ?_) ?_
     ·replace hbs := hbs.mono lF
      replace hr1 := hr1.mono lF
      replace hr2 := hr2.mono lF
      replace hr5 := hr5.mono lF
      replace hr6 := hr6.mono lF
      rw [eS (l := [(14, _), (18, _), (20, _)]) ⟨z9 14 rfl, z9 18 rfl, z9 20 rfl, ⟨⟩⟩]
      refine jb (t := 119) rfl (vB h12) (yf <| qo (args := [.agg #[x1, x2], .agg #[x5, x6]]) call54 rfl (sEndTerm_spec hr1 hr2 hr5 hr6 (hla := (by first | assumption | rfl | omega | simp)) (hlr := (by first | assumption | rfl | omega | simp)) (hrb := (by first | assumption | rfl | omega | simp)) (hlf := (by first | assumption | rfl | omega | simp)) (hlss := (by first | assumption | rfl | omega | simp)) (hsb := (by first | assumption | rfl | omega | simp))) ?_)
      rintro v4 _ _ _ ⟨rfl, hs4, rfl⟩
      refine ⟨_, _, rfl, fun F11 le11 hz2 => ?_⟩
      replace hbs := hbs.mono le11
      replace hr5 := hr5.mono le11
      have hf2 : IntsF F11 v4 ((endT ([2, 1, 0]) x3 ((firstF ([2, 1, 0]) x3 (1 + x4)).1) ((firstF ([2, 1, 0]) x3 (1 + x4)).2.1))) := intsH.fz (xs := (endT ([2, 1, 0]) x3 ((firstF ([2, 1, 0]) x3 (1 + x4)).1) ((firstF ([2, 1, 0]) x3 (1 + x4)).2.1))) hz2.fz
      exact ⟨⟨rfl, hf2⟩, rfl⟩
     refine gD (fun W Fs R lF z9 => ?_) ?_
     ·rw [eS (l := [(14, _)]) ⟨z9 14 rfl, ⟨⟩⟩]
      refine jb (t := 119) rfl (vB h12) (qk (0) qT rfl qH (by decide) rfl rfl ?_)
      exact ⟨rfl, rfl⟩
     refine gD (fun W Fs R lF z9 => ?_) ?_
     ·rw [eS (l := [(14, _), (22, _)]) ⟨z9 14 rfl, z9 22 rfl, ⟨⟩⟩]
      refine jb (t := 119) rfl (vB h12) (qk (0) qA rfl qu (by decide) rfl rfl ?_)
      exact ⟨rfl, rfl⟩
     refine gD (fun W Fs R lF z9 => ?_) ?_
     ·replace hbs := hbs.mono lF
      replace hr5 := hr5.mono lF
      rw [eS (l := [(14, _), (23, _)]) ⟨z9 14 rfl, z9 23 rfl, ⟨⟩⟩]
      refine jb (t := 119) rfl (vB h12) (ql qZ rfl (Rd.own [_] rfl rfl) ?_)
      exact ⟨rfl, rfl⟩
     exact stepsG.nil
    intro W F12 le12 hphi
    obtain ⟨e21, f21_6ha⟩ := hphi 21 (by decide)
    generalize hu2 : ((W 21)) = u2 at e21 f21_6ha
    rw [eS (l := [(14, _), (17, _), (21, u2), (24, _)]) ⟨(hphi 14 (by decide)), (hphi 17 (by decide)), hu2, (hphi 24 (by decide)), ⟨⟩⟩]
    replace hr5 := hr5.mono le12
    show XL _ _ _ _ _ _ _ (cellsH b4 [x12, x13] 45 :: cellsH b2 [x5, x6, ii ((firstF ([2, 1, 0]) x3 (1 + x4)).2.2.1), x7] 117 :: cellsH b1 [x1, x2] 39 :: curH .u64 194 cb1 bsv bs.length :: L)
    refine qp (t := 119) rfl (vB h12) (qo (args := [u2, x5]) call63 rfl (likeInts_spec f21_6ha hr5 (hbd := (by first | (refine Or.inl ?_; omega) | (refine Or.inr ?_; omega)))) ?_)
    rintro _ _ _ _ ⟨rfl, rfl, rfl⟩
    refine qp (t := 119) rfl (vB h12) (XOp.eqB (a := ((sysOk ([2, 1, 0]) x3 && loopOkL ([2, 1, 0]) x3 ((firstF ([2, 1, 0]) x3 (1 + x4)).1) ((firstF ([2, 1, 0]) x3 (1 + x4)).2.1) ((firstF ([2, 1, 0]) x3 (1 + x4)).2.2.1) ((firstF ([2, 1, 0]) x3 (1 + x4)).2.2.2.1)) && decide (endL ((firstF ([2, 1, 0]) x3 (1 + x4)).1) ((firstF ([2, 1, 0]) x3 (1 + x4)).2.1) = ((firstF ([2, 1, 0]) x3 (1 + x4)).1)))) (b := decide (((endT ([2, 1, 0]) x3 ((firstF ([2, 1, 0]) x3 (1 + x4)).1) ((firstF ([2, 1, 0]) x3 (1 + x4)).2.1))) = ((firstF ([2, 1, 0]) x3 (1 + x4)).1))) runUnderlying4 rfl rfl (cX (qU (.bool (decide ((((sysOk ([2, 1, 0]) x3 && loopOkL ([2, 1, 0]) x3 ((firstF ([2, 1, 0]) x3 (1 + x4)).1) ((firstF ([2, 1, 0]) x3 (1 + x4)).2.1) ((firstF ([2, 1, 0]) x3 (1 + x4)).2.2.1) ((firstF ([2, 1, 0]) x3 (1 + x4)).2.2.2.1)) && decide (endL ((firstF ([2, 1, 0]) x3 (1 + x4)).1) ((firstF ([2, 1, 0]) x3 (1 + x4)).2.1) = ((firstF ([2, 1, 0]) x3 (1 + x4)).1)))) = (decide (((endT ([2, 1, 0]) x3 ((firstF ([2, 1, 0]) x3 (1 + x4)).1) ((firstF ([2, 1, 0]) x3 (1 + x4)).2.1))) = ((firstF ([2, 1, 0]) x3 (1 + x4)).1)))))) (vB h12) rfl (qg (.bool (decide ((((sysOk ([2, 1, 0]) x3 && loopOkL ([2, 1, 0]) x3 ((firstF ([2, 1, 0]) x3 (1 + x4)).1) ((firstF ([2, 1, 0]) x3 (1 + x4)).2.1) ((firstF ([2, 1, 0]) x3 (1 + x4)).2.2.1) ((firstF ([2, 1, 0]) x3 (1 + x4)).2.2.2.1)) && decide (endL ((firstF ([2, 1, 0]) x3 (1 + x4)).1) ((firstF ([2, 1, 0]) x3 (1 + x4)).2.1) = ((firstF ([2, 1, 0]) x3 (1 + x4)).1)))) = (decide (((endT ([2, 1, 0]) x3 ((firstF ([2, 1, 0]) x3 (1 + x4)).1) ((firstF ([2, 1, 0]) x3 (1 + x4)).2.1))) = ((firstF ([2, 1, 0]) x3 (1 + x4)).1)))))) rfl ?_))))
    refine qb (qw (qs (L' := L) [.bool (decide ((((sysOk ([2, 1, 0]) x3 && loopOkL ([2, 1, 0]) x3 ((firstF ([2, 1, 0]) x3 (1 + x4)).1) ((firstF ([2, 1, 0]) x3 (1 + x4)).2.1) ((firstF ([2, 1, 0]) x3 (1 + x4)).2.2.1) ((firstF ([2, 1, 0]) x3 (1 + x4)).2.2.2.1)) && decide (endL ((firstF ([2, 1, 0]) x3 (1 + x4)).1) ((firstF ([2, 1, 0]) x3 (1 + x4)).2.1) = ((firstF ([2, 1, 0]) x3 (1 + x4)).1)))) = (decide (((endT ([2, 1, 0]) x3 ((firstF ([2, 1, 0]) x3 (1 + x4)).1) ((firstF ([2, 1, 0]) x3 (1 + x4)).2.1))) = ((firstF ([2, 1, 0]) x3 (1 + x4)).1)))))] (.bool (decide ((((sysOk ([2, 1, 0]) x3 && loopOkL ([2, 1, 0]) x3 ((firstF ([2, 1, 0]) x3 (1 + x4)).1) ((firstF ([2, 1, 0]) x3 (1 + x4)).2.1) ((firstF ([2, 1, 0]) x3 (1 + x4)).2.2.1) ((firstF ([2, 1, 0]) x3 (1 + x4)).2.2.2.1)) && decide (endL ((firstF ([2, 1, 0]) x3 (1 + x4)).1) ((firstF ([2, 1, 0]) x3 (1 + x4)).2.1) = ((firstF ([2, 1, 0]) x3 (1 + x4)).1)))) = (decide (((endT ([2, 1, 0]) x3 ((firstF ([2, 1, 0]) x3 (1 + x4)).1) ((firstF ([2, 1, 0]) x3 (1 + x4)).2.1))) = ((firstF ([2, 1, 0]) x3 (1 + x4)).1)))))) (.tmp rfl .nil) rfl rF (qh (qh (qh (qh (qh le1 le3) le6) le7) le8) le12) (sD (sD (sD (sD sR)))) ?_))
    exact ⟨(vB ((decide_eq_true (by rw [hfs.1, hlw.1, endT_yes hwk]; rfl)).symm)), rfl, rfl⟩
   rw [Bool.not_eq_true] at h12
   exact absurd (againF_one (s := (firstF [2, 1, 0] x3 (1 + x4)).2.2.2.1) hfs.1 hlw.1 (by omega)) (by have h9 := h12; rw [show (1 + x11 : Int) = 1 from by omega] at h9; rw [h9]; simp)
  exact absurd hwl.2 (by omega)
 exact absurd hwl.1 (by omega)
end Go.Proofs.YtenomejgjcpbdaaGreat
