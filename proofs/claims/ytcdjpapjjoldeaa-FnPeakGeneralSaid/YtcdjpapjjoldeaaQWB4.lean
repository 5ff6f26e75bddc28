/-
  Walks, one after the other (part 5).
-/
import Derived.Test.YtcdjpapjjoldeaaQWL1
import Derived.Test.YtcdjpapjjoldeaaQWB3
set_option linter.unusedSimpArgs false
set_option linter.unusedVariables false
namespace Go.Proofs.Ytcdjpapjjoldeaa
open Go X M Try

/- laws.w9Term -/
theorem w9TermG_spec_step {dp : Nat} (ih : ∀ m : Nat, m < dp → ∀ {F : FH} {L : List HP} {cb : Nat} {bsv : Value} {bs : List Int} (hbs : BytesF F bsv bs) (hbl : bs.length ≤ 4000000) {vs : Int} (hdp : m ≤ 3) (hvs : 0 ≤ vs ∧ vs ≤ 24), Does prog 110 [ptr cb 0, ii ((m : Int)), ii (vs)] F (curH .u64 88 cb bsv bs.length :: L) (fun v F' L' => ∃ a : Value, ((a : Value) = v ∧ IsSl a) ∧ drawnH 2 a (fun t => goodT [2, 1, 0] t ∧ 1 ≤ t.length ∧ t.length ≤ sz9 m) :: curH .u64 88 cb bsv bs.length :: L = L')) {F : FH} {L : List HP} {cb : Nat} {bsv : Value} {bs : List Int} (hbs : BytesF F bsv bs) (hbl : bs.length ≤ 4000000) {vs : Int} (hdp : dp ≤ 3) (hvs : 0 ≤ vs ∧ vs ≤ 24) :
    Does prog 110 [ptr cb 0, ii (((dp : Nat) : Int)), ii (vs)] F (curH .u64 88 cb bsv bs.length :: L) (fun v F' L' => ∃ a : Value, ((a : Value) = v ∧ IsSl a) ∧ drawnH 2 a (fun t => goodT [2, 1, 0] t ∧ 1 ≤ t.length ∧ t.length ≤ sz9 dp) :: curH .u64 88 cb bsv bs.length :: L = L') := by
 refine qI func110 rfl rfl rfl ?_
 have hz9 : sz9 (dp - 1) ≤ 7 := by obtain h | h | h | h : dp = 0 ∨ dp = 1 ∨ dp = 2 ∨ dp = 3 := (by omega) <;> subst h <;> decide
 have hz7 := sz9_pos (dp - 1)
 refine qc (qa (qg (sN) rfl (qb (qc (qc (qa (qf (ii (vs)) rfl (cX (jL rfl rfl (qf (.bool (decide ((vs : Int) > 0))) rfl ?_))))))))))
 by_cases h1 : (vs : Int) > 0
 ·refine qk (t := 12) rfl (vT h1) (ql (ptr cb 0) rfl (qk (t := 12) rfl (vT h1) (qr (args := [ptr cb 0, ii (3)]) call14 rfl (jN [] (below_spec (n := 3) hbs (by omega) (hn := (by first | assumption | rfl | omega | simp)))) ?_)))
  rintro _ _ _ _ ⟨⟨rfl, x1, rfl, hr1⟩, rfl⟩
  show XL _ _ _ _ _ _ _ (curH .u64 88 cb bsv bs.length :: L)
  refine qk (t := 12) rfl (vT h1) (js rfl rfl (cX (qN (.bool (decide ((x1 : Int) = 0))) (vT h1) rfl (qb ?_))))
  refine qA (p := (x1 : Int) = 0) rfl (fun h2 => ?_) (fun h2 => ?_)
  ·refine qc (qa (qf (ptr cb 0) rfl (qf (ii (vs)) rfl (cX (qr (args := [ptr cb 0, ii (vs)]) call14 rfl (jN [] (below_spec (n := vs) hbs (by omega) (hn := (by first | assumption | rfl | omega | simp)))) ?_)))))
   rintro _ _ _ _ ⟨⟨rfl, x2, rfl, hr2⟩, rfl⟩
   show XL _ _ _ _ _ _ _ (curH .u64 88 cb bsv bs.length :: L)
   refine cX (jf ((-1) - x2) rfl rfl (by omega) (by omega) (cX (qt (s := 1) [ii ((-1) - x2)] [ii (0)] [(0, [ii ((-1) - x2)])] qd qm qJ rfl (by decide) rfl (.cons rfl CellsAre.nil) rfl ?_)))
   intro v1 hv1
   refine qg (v1) rfl (qb (qw (qq (qv (L' := drawnH 2 v1 (fun t => goodT [2, 1, 0] t ∧ 1 ≤ t.length ∧ t.length ≤ sz9 dp) :: curH .u64 88 cb bsv bs.length :: L) [v1] (v1) (.tmp rfl .nil) rfl rF rF (jE (sC (sC sR)) (Sub.keep (drawnH.of (t := [(-1) - x2]) (⟨goodT.var (by omega) (by omega), Nat.le_refl _, sz9_pos dp⟩)) sR)) ?_))))
   exact ⟨_, ⟨rfl, (jd hv1)⟩, rfl⟩
  refine qz (qc (qa (qf (ptr cb 0) rfl (cX (qr (args := [ptr cb 0, ii (3)]) call14 rfl (jN [] (below_spec (n := 3) hbs (by omega) (hn := (by first | assumption | rfl | omega | simp)))) ?_)))))
  rintro _ _ _ _ ⟨⟨rfl, x3, rfl, hr3⟩, rfl⟩
  show XL _ _ _ _ _ _ _ (curH .u64 88 cb bsv bs.length :: L)
  refine qg (ii (x3)) rfl (qb (qc (qc (qa (qf (ii (((dp : Nat) : Int))) rfl (cX (XOp.leq rfl rfl (qb ?_))))))))
  refine qA (p := (((dp : Nat) : Int) : Int) ≤ 1) rfl (fun h3 => ?_) (fun h3 => ?_)
  ·refine qa (qg (ii (2)) rfl (qb (qc (qa (qf (ii (2)) rfl (cX (qt (s := 1) [ii (2)] [ii (0)] [(0, [ii (2)])] qd qm qJ rfl (by decide) rfl (.cons rfl CellsAre.nil) rfl ?_)))))))
   intro v2 hv2
   refine qg (v2) rfl (qb (qc (qc (qa ?_))))
   show XL _ _ _ _ _ _ _ (intsH 2 v2 ([2] : List Int) :: curH .u64 88 cb bsv bs.length :: L)
   skip
   refine qf (ii (2)) rfl (qg (ii (2)) rfl (qb (qL (jn (α := Nat × Value × List Int × FH) (fun xQ => [(0, ptr cb 0), (1, ii (((dp : Nat) : Int))), (2, ii (vs)), (8, xQ.2.1), (9, ii (((xQ.1 : Nat) : Int)))]) (fun xQ => intsH 2 xQ.2.1 xQ.2.2.1 :: curH .u64 88 cb bsv bs.length :: L) (fun xQ F' => xQ.2.2.2 = F' ∧ F ≤ xQ.2.2.2 ∧ (IsSl xQ.2.1) ∧ (2 ≤ (xQ.1 : Int) ∧ xQ.1 ≤ 2) ∧ (1 ≤ xQ.2.2.1.length) ∧ (xQ.2.2.1.length ≤ 1 + (xQ.1 - ((2 : Int)).toNat) * sz9 (dp - 1)) ∧ (NodeK (2) xQ.2.2.1 (xQ.1 - ((2 : Int)).toNat))) (fun xQ => 2 - xQ.1) (((2 : Int)).toNat, v2, [2], F) ⟨rfl, rfl, rfl, rfl, (vI (by omega)), ⟨⟩⟩ (sC (sC sR)) ⟨rfl, FLe.refl _, ((jd hv2)), (by (try dsimp only); omega), (by (try dsimp only); simp), (by (try dsimp only); simp), (by (try dsimp only); rw [Nat.sub_self]; exact NodeK.start)⟩ ?_))))
   rintro ⟨k, ov, os, G1⟩ rE _ _ ⟨rfl, leG, hov, hk, h19, hol, hnk⟩
   show X _ _ _ _ (envs [(0, ptr cb 0), (1, ii (((dp : Nat) : Int))), (2, ii (vs)), (8, ov), (9, ii ((k : Int)))] rE) _ (intsH 2 ov os :: curH .u64 88 cb bsv bs.length :: L)
   replace leG : F ≤ G1 := leG
   dsimp only at hov hk h19 hol hnk
   have hmu : (k - ((2 : Int)).toNat) * sz9 (dp - 1) ≤ 2 * sz9 (dp - 1) := Nat.mul_le_mul_right _ (by omega)
   have leG1 := leG
   replace hbs := hbs.mono leG1
   refine qc (qc (qa (qf (ii ((k : Int))) rfl (cX (qT rfl rfl (qb ?_))))))
   refine qA (p := (k : Int) < 2) rfl (fun h4 => ?_) (fun h4 => ?_)
   ·refine qz (qc (qL (qa (qf (ov) rfl (qf (ptr cb 0) rfl (qf (ii (((dp : Nat) : Int))) rfl (cX (jf (((dp - 1 : Nat) : Int)) rfl rfl (by omega) (by omega) (qf (ii (vs)) rfl (cX (qr (args := [ptr cb 0, ii ((dp - 1 : Nat) : Int), ii (vs)]) call110 rfl (yd [_] (ih (dp - 1) (by omega) (vs := vs) hbs (by omega) (hdp := (by first | assumption | rfl | omega | simp)) (hvs := (by first | assumption | rfl | omega | simp)))) ?_)))))))))))
    rintro _ F4 _ le4 ⟨x5, ⟨rfl, hsl1⟩, rfl⟩
    replace hbs := hbs.mono le4
    show XL _ _ _ _ _ _ _ (drawnH 2 x5 (fun t => goodT [2, 1, 0] t ∧ 1 ≤ t.length ∧ t.length ≤ sz9 (dp - 1)) :: intsH 2 ov os :: curH .u64 88 cb bsv bs.length :: L)
    refine jY [] rfl (fun t1 hq9 => ?_)
    obtain ⟨q1, q2, q3⟩ := hq9
    show XL _ _ _ _ _ _ _ (intsH 2 x5 t1 :: intsH 2 ov os :: curH .u64 88 cb bsv bs.length :: L)
    refine jz [] _ _ rfl (fun F5 le5 hz1 => ?_)
    replace hbs := hbs.mono le5
    have hf1 : IntsF F5 x5 t1 := intsH.fz (xs := t1) hz1.fz
    refine cX (jD [] _ qd typeInfo2 rfl rfl rfl rfl rfl rfl hf1 (by (try simp only [List.length_append, List.length_nil, List.length_cons, List.length_singleton, List.length_take, List.length_drop]); omega) ?_)
    intro v3 hs1 hn1 hm1
    refine qg (v3) rfl (qb (qa (qf (ii ((k : Int))) rfl (cX (qS (((k + 1 : Nat) : Int)) rfl rfl (by omega) (by omega) (qg (ii (((k + 1 : Nat) : Int))) rfl (qb ?_)))))))
    exact ⟨(k + 1, v3, os ++ t1, F5), _, (qh (qh leG1 le4) le5), rF, ⟨rfl, rfl, rfl, rfl, rfl, ⟨⟩⟩, (sC (sC sR)), ⟨rfl, (qh (qh leG1 le4) le5), (hs1), (by (try dsimp only); omega), (by (try dsimp only); rw [List.length_append]; omega), (by (try dsimp only); rw [List.length_append, show k + 1 - ((2 : Int)).toNat = (k - ((2 : Int)).toNat) + 1 from by omega, Nat.succ_mul]; omega), (by (try dsimp only); rw [show k + 1 - ((2 : Int)).toNat = (k - ((2 : Int)).toNat) + 1 from by omega]; exact hnk.next q1)⟩, (by omega)⟩
   refine jj (qx (qx (qO (qc (qa (qf (ov) rfl (qg (ov) rfl (qb (qw (qv (L' := drawnH 2 ov (fun t => goodT [2, 1, 0] t ∧ 1 ≤ t.length ∧ t.length ≤ sz9 dp) :: curH .u64 88 cb bsv bs.length :: L) [ov] (ov) (.tmp rfl .nil) rfl leG1 rF (jE (sC (sC sR)) (Sub.keep (drawnH.of (t := os) (⟨hnk.done (by omega) (by omega), h19, by first | (have h9 := sz9_next (d := dp) (by omega); omega) | (have h8 : k - ((2 : Int)).toNat = 0 := (by omega); rw [h8, Nat.zero_mul] at hol; have := sz9_pos dp; omega)⟩)) sR)) ?_))))))))))
   exact ⟨_, ⟨rfl, hov⟩, rfl⟩
  refine qz (qc (qa (qf (ii (x3)) rfl (cX (qt (s := 1) [ii (x3)] [ii (0)] [(0, [ii (x3)])] qd qm qJ rfl (by decide) rfl (.cons rfl CellsAre.nil) rfl ?_)))))
  intro v4 hv3
  refine qg (v4) rfl (qb (qc (qc (qa ?_))))
  show XL _ _ _ _ _ _ _ (intsH 2 v4 ([x3] : List Int) :: curH .u64 88 cb bsv bs.length :: L)
  skip
  refine qf (ii (x3)) rfl (qg (ii (x3)) rfl (qb (qL (jn (α := Nat × Value × List Int × FH) (fun xQ => [(0, ptr cb 0), (1, ii (((dp : Nat) : Int))), (2, ii (vs)), (8, xQ.2.1), (9, ii (((xQ.1 : Nat) : Int)))]) (fun xQ => intsH 2 xQ.2.1 xQ.2.2.1 :: curH .u64 88 cb bsv bs.length :: L) (fun xQ F' => xQ.2.2.2 = F' ∧ F ≤ xQ.2.2.2 ∧ (IsSl xQ.2.1) ∧ (x3 ≤ (xQ.1 : Int) ∧ xQ.1 ≤ 2) ∧ (1 ≤ xQ.2.2.1.length) ∧ (xQ.2.2.1.length ≤ 1 + (xQ.1 - ((x3 : Int)).toNat) * sz9 (dp - 1)) ∧ (NodeK (x3) xQ.2.2.1 (xQ.1 - ((x3 : Int)).toNat))) (fun xQ => 2 - xQ.1) (((x3 : Int)).toNat, v4, [x3], F) ⟨rfl, rfl, rfl, rfl, (vI (by omega)), ⟨⟩⟩ (sC (sC sR)) ⟨rfl, FLe.refl _, ((jd hv3)), (by (try dsimp only); omega), (by (try dsimp only); simp), (by (try dsimp only); simp), (by (try dsimp only); rw [Nat.sub_self]; exact NodeK.start)⟩ ?_))))
  rintro ⟨k, ov, os, G2⟩ rE _ _ ⟨rfl, leG, hov, hk, h19, hol, hnk⟩
  show X _ _ _ _ (envs [(0, ptr cb 0), (1, ii (((dp : Nat) : Int))), (2, ii (vs)), (8, ov), (9, ii ((k : Int)))] rE) _ (intsH 2 ov os :: curH .u64 88 cb bsv bs.length :: L)
  replace leG : F ≤ G2 := leG
  dsimp only at hov hk h19 hol hnk
  have hmu : (k - ((x3 : Int)).toNat) * sz9 (dp - 1) ≤ 2 * sz9 (dp - 1) := Nat.mul_le_mul_right _ (by omega)
  have leG2 := leG
  replace hbs := hbs.mono leG2
  refine qc (qc (qa (qf (ii ((k : Int))) rfl (cX (qT rfl rfl (qb ?_))))))
  refine qA (p := (k : Int) < 2) rfl (fun h5 => ?_) (fun h5 => ?_)
  ·refine qz (qc (qL (qa (qf (ov) rfl (qf (ptr cb 0) rfl (qf (ii (((dp : Nat) : Int))) rfl (cX (jf (((dp - 1 : Nat) : Int)) rfl rfl (by omega) (by omega) (qf (ii (vs)) rfl (cX (qr (args := [ptr cb 0, ii ((dp - 1 : Nat) : Int), ii (vs)]) call110 rfl (yd [_] (ih (dp - 1) (by omega) (vs := vs) hbs (by omega) (hdp := (by first | assumption | rfl | omega | simp)) (hvs := (by first | assumption | rfl | omega | simp)))) ?_)))))))))))
   rintro _ F6 _ le6 ⟨x7, ⟨rfl, hsl2⟩, rfl⟩
   replace hbs := hbs.mono le6
   show XL _ _ _ _ _ _ _ (drawnH 2 x7 (fun t => goodT [2, 1, 0] t ∧ 1 ≤ t.length ∧ t.length ≤ sz9 (dp - 1)) :: intsH 2 ov os :: curH .u64 88 cb bsv bs.length :: L)
   refine jY [] rfl (fun t2 hq9 => ?_)
   obtain ⟨q4, q5, q6⟩ := hq9
   show XL _ _ _ _ _ _ _ (intsH 2 x7 t2 :: intsH 2 ov os :: curH .u64 88 cb bsv bs.length :: L)
   refine jz [] _ _ rfl (fun F7 le7 hz2 => ?_)
   replace hbs := hbs.mono le7
   have hf2 : IntsF F7 x7 t2 := intsH.fz (xs := t2) hz2.fz
   refine cX (jD [] _ qd typeInfo2 rfl rfl rfl rfl rfl rfl hf2 (by (try simp only [List.length_append, List.length_nil, List.length_cons, List.length_singleton, List.length_take, List.length_drop]); omega) ?_)
   intro v5 hs2 hn2 hm2
   refine qg (v5) rfl (qb (qa (qf (ii ((k : Int))) rfl (cX (qS (((k + 1 : Nat) : Int)) rfl rfl (by omega) (by omega) (qg (ii (((k + 1 : Nat) : Int))) rfl (qb ?_)))))))
   exact ⟨(k + 1, v5, os ++ t2, F7), _, (qh (qh leG2 le6) le7), rF, ⟨rfl, rfl, rfl, rfl, rfl, ⟨⟩⟩, (sC (sC sR)), ⟨rfl, (qh (qh leG2 le6) le7), (hs2), (by (try dsimp only); omega), (by (try dsimp only); rw [List.length_append]; omega), (by (try dsimp only); rw [List.length_append, show k + 1 - ((x3 : Int)).toNat = (k - ((x3 : Int)).toNat) + 1 from by omega, Nat.succ_mul]; omega), (by (try dsimp only); rw [show k + 1 - ((x3 : Int)).toNat = (k - ((x3 : Int)).toNat) + 1 from by omega]; exact hnk.next q4)⟩, (by omega)⟩
  refine jj (qx (qx (qO (qc (qa (qf (ov) rfl (qg (ov) rfl (qb (qw (qv (L' := drawnH 2 ov (fun t => goodT [2, 1, 0] t ∧ 1 ≤ t.length ∧ t.length ≤ sz9 dp) :: curH .u64 88 cb bsv bs.length :: L) [ov] (ov) (.tmp rfl .nil) rfl leG2 rF (jE (sC (sC sR)) (Sub.keep (drawnH.of (t := os) (⟨hnk.done (by omega) (by omega), h19, by first | (have h9 := sz9_next (d := dp) (by omega); omega) | (have h8 : k - ((x3 : Int)).toNat = 0 := (by omega); rw [h8, Nat.zero_mul] at hol; have := sz9_pos dp; omega)⟩)) sR)) ?_))))))))))
  exact ⟨_, ⟨rfl, hov⟩, rfl⟩
 refine qn (t := 12) rfl (vF h1) (qn (t := 12) rfl (vF h1) (qn (t := 12) rfl (vF h1) (cX (qG (.bool (false)) (vF h1) rfl (qb (jC rfl (qz (qc (qa (qf (ptr cb 0) rfl (cX (qr (args := [ptr cb 0, ii (3)]) call14 rfl (jN [] (below_spec (n := 3) hbs (by omega) (hn := (by first | assumption | rfl | omega | simp)))) ?_))))))))))))
 rintro _ _ _ _ ⟨⟨rfl, x8, rfl, hr4⟩, rfl⟩
 show XL _ _ _ _ _ _ _ (curH .u64 88 cb bsv bs.length :: L)
 refine qg (ii (x8)) rfl (qb (qc (qc (qa (qf (ii (((dp : Nat) : Int))) rfl (cX (XOp.leq rfl rfl (qb ?_))))))))
 refine qA (p := (((dp : Nat) : Int) : Int) ≤ 1) rfl (fun h6 => ?_) (fun h6 => ?_)
 ·refine qa (qg (ii (2)) rfl (qb (qc (qa (qf (ii (2)) rfl (cX (qt (s := 1) [ii (2)] [ii (0)] [(0, [ii (2)])] qd qm qJ rfl (by decide) rfl (.cons rfl CellsAre.nil) rfl ?_)))))))
  intro v6 hv4
  refine qg (v6) rfl (qb (qc (qc (qa ?_))))
  show XL _ _ _ _ _ _ _ (intsH 2 v6 ([2] : List Int) :: curH .u64 88 cb bsv bs.length :: L)
  skip
  refine qf (ii (2)) rfl (qg (ii (2)) rfl (qb (qL (jn (α := Nat × Value × List Int × FH) (fun xQ => [(0, ptr cb 0), (1, ii (((dp : Nat) : Int))), (2, ii (vs)), (8, xQ.2.1), (9, ii (((xQ.1 : Nat) : Int)))]) (fun xQ => intsH 2 xQ.2.1 xQ.2.2.1 :: curH .u64 88 cb bsv bs.length :: L) (fun xQ F' => xQ.2.2.2 = F' ∧ F ≤ xQ.2.2.2 ∧ (IsSl xQ.2.1) ∧ (2 ≤ (xQ.1 : Int) ∧ xQ.1 ≤ 2) ∧ (1 ≤ xQ.2.2.1.length) ∧ (xQ.2.2.1.length ≤ 1 + (xQ.1 - ((2 : Int)).toNat) * sz9 (dp - 1)) ∧ (NodeK (2) xQ.2.2.1 (xQ.1 - ((2 : Int)).toNat))) (fun xQ => 2 - xQ.1) (((2 : Int)).toNat, v6, [2], F) ⟨rfl, rfl, rfl, rfl, (vI (by omega)), ⟨⟩⟩ (sC (sC sR)) ⟨rfl, FLe.refl _, ((jd hv4)), (by (try dsimp only); omega), (by (try dsimp only); simp), (by (try dsimp only); simp), (by (try dsimp only); rw [Nat.sub_self]; exact NodeK.start)⟩ ?_))))
  rintro ⟨k, ov, os, G3⟩ rE _ _ ⟨rfl, leG, hov, hk, h19, hol, hnk⟩
  show X _ _ _ _ (envs [(0, ptr cb 0), (1, ii (((dp : Nat) : Int))), (2, ii (vs)), (8, ov), (9, ii ((k : Int)))] rE) _ (intsH 2 ov os :: curH .u64 88 cb bsv bs.length :: L)
  replace leG : F ≤ G3 := leG
  dsimp only at hov hk h19 hol hnk
  have hmu : (k - ((2 : Int)).toNat) * sz9 (dp - 1) ≤ 2 * sz9 (dp - 1) := Nat.mul_le_mul_right _ (by omega)
  have leG3 := leG
  replace hbs := hbs.mono leG3
  refine qc (qc (qa (qf (ii ((k : Int))) rfl (cX (qT rfl rfl (qb ?_))))))
  refine qA (p := (k : Int) < 2) rfl (fun h7 => ?_) (fun h7 => ?_)
  ·refine qz (qc (qL (qa (qf (ov) rfl (qf (ptr cb 0) rfl (qf (ii (((dp : Nat) : Int))) rfl (cX (jf (((dp - 1 : Nat) : Int)) rfl rfl (by omega) (by omega) (qf (ii (vs)) rfl (cX (qr (args := [ptr cb 0, ii ((dp - 1 : Nat) : Int), ii (vs)]) call110 rfl (yd [_] (ih (dp - 1) (by omega) (vs := vs) hbs (by omega) (hdp := (by first | assumption | rfl | omega | simp)) (hvs := (by first | assumption | rfl | omega | simp)))) ?_)))))))))))
   rintro _ F9 _ le9 ⟨x10, ⟨rfl, hsl3⟩, rfl⟩
   replace hbs := hbs.mono le9
   show XL _ _ _ _ _ _ _ (drawnH 2 x10 (fun t => goodT [2, 1, 0] t ∧ 1 ≤ t.length ∧ t.length ≤ sz9 (dp - 1)) :: intsH 2 ov os :: curH .u64 88 cb bsv bs.length :: L)
   refine jY [] rfl (fun t3 hq9 => ?_)
   obtain ⟨q7, q8, q9⟩ := hq9
   show XL _ _ _ _ _ _ _ (intsH 2 x10 t3 :: intsH 2 ov os :: curH .u64 88 cb bsv bs.length :: L)
   refine jz [] _ _ rfl (fun F10 le10 hz3 => ?_)
   replace hbs := hbs.mono le10
   have hf3 : IntsF F10 x10 t3 := intsH.fz (xs := t3) hz3.fz
   refine cX (jD [] _ qd typeInfo2 rfl rfl rfl rfl rfl rfl hf3 (by (try simp only [List.length_append, List.length_nil, List.length_cons, List.length_singleton, List.length_take, List.length_drop]); omega) ?_)
   intro v7 hs3 hn3 hm3
   refine qg (v7) rfl (qb (qa (qf (ii ((k : Int))) rfl (cX (qS (((k + 1 : Nat) : Int)) rfl rfl (by omega) (by omega) (qg (ii (((k + 1 : Nat) : Int))) rfl (qb ?_)))))))
   exact ⟨(k + 1, v7, os ++ t3, F10), _, (qh (qh leG3 le9) le10), rF, ⟨rfl, rfl, rfl, rfl, rfl, ⟨⟩⟩, (sC (sC sR)), ⟨rfl, (qh (qh leG3 le9) le10), (hs3), (by (try dsimp only); omega), (by (try dsimp only); rw [List.length_append]; omega), (by (try dsimp only); rw [List.length_append, show k + 1 - ((2 : Int)).toNat = (k - ((2 : Int)).toNat) + 1 from by omega, Nat.succ_mul]; omega), (by (try dsimp only); rw [show k + 1 - ((2 : Int)).toNat = (k - ((2 : Int)).toNat) + 1 from by omega]; exact hnk.next q7)⟩, (by omega)⟩
  refine jj (qx (qx (qO (qc (qa (qf (ov) rfl (qg (ov) rfl (qb (qw (qv (L' := drawnH 2 ov (fun t => goodT [2, 1, 0] t ∧ 1 ≤ t.length ∧ t.length ≤ sz9 dp) :: curH .u64 88 cb bsv bs.length :: L) [ov] (ov) (.tmp rfl .nil) rfl leG3 rF (jE (sC (sC sR)) (Sub.keep (drawnH.of (t := os) (⟨hnk.done (by omega) (by omega), h19, by first | (have h9 := sz9_next (d := dp) (by omega); omega) | (have h8 : k - ((2 : Int)).toNat = 0 := (by omega); rw [h8, Nat.zero_mul] at hol; have := sz9_pos dp; omega)⟩)) sR)) ?_))))))))))
  exact ⟨_, ⟨rfl, hov⟩, rfl⟩
 refine qz (qc (qa (qf (ii (x8)) rfl (cX (qt (s := 1) [ii (x8)] [ii (0)] [(0, [ii (x8)])] qd qm qJ rfl (by decide) rfl (.cons rfl CellsAre.nil) rfl ?_)))))
 intro v8 hv5
 refine qg (v8) rfl (qb (qc (qc (qa ?_))))
 show XL _ _ _ _ _ _ _ (intsH 2 v8 ([x8] : List Int) :: curH .u64 88 cb bsv bs.length :: L)
 skip
 refine qf (ii (x8)) rfl (qg (ii (x8)) rfl (qb (qL (jn (α := Nat × Value × List Int × FH) (fun xQ => [(0, ptr cb 0), (1, ii (((dp : Nat) : Int))), (2, ii (vs)), (8, xQ.2.1), (9, ii (((xQ.1 : Nat) : Int)))]) (fun xQ => intsH 2 xQ.2.1 xQ.2.2.1 :: curH .u64 88 cb bsv bs.length :: L) (fun xQ F' => xQ.2.2.2 = F' ∧ F ≤ xQ.2.2.2 ∧ (IsSl xQ.2.1) ∧ (x8 ≤ (xQ.1 : Int) ∧ xQ.1 ≤ 2) ∧ (1 ≤ xQ.2.2.1.length) ∧ (xQ.2.2.1.length ≤ 1 + (xQ.1 - ((x8 : Int)).toNat) * sz9 (dp - 1)) ∧ (NodeK (x8) xQ.2.2.1 (xQ.1 - ((x8 : Int)).toNat))) (fun xQ => 2 - xQ.1) (((x8 : Int)).toNat, v8, [x8], F) ⟨rfl, rfl, rfl, rfl, (vI (by omega)), ⟨⟩⟩ (sC (sC sR)) ⟨rfl, FLe.refl _, ((jd hv5)), (by (try dsimp only); omega), (by (try dsimp only); simp), (by (try dsimp only); simp), (by (try dsimp only); rw [Nat.sub_self]; exact NodeK.start)⟩ ?_))))
 rintro ⟨k, ov, os, G4⟩ rE _ _ ⟨rfl, leG, hov, hk, h19, hol, hnk⟩
 show X _ _ _ _ (envs [(0, ptr cb 0), (1, ii (((dp : Nat) : Int))), (2, ii (vs)), (8, ov), (9, ii ((k : Int)))] rE) _ (intsH 2 ov os :: curH .u64 88 cb bsv bs.length :: L)
 replace leG : F ≤ G4 := leG
 dsimp only at hov hk h19 hol hnk
 have hmu : (k - ((x8 : Int)).toNat) * sz9 (dp - 1) ≤ 2 * sz9 (dp - 1) := Nat.mul_le_mul_right _ (by omega)
 have leG4 := leG
 replace hbs := hbs.mono leG4
 refine qc (qc (qa (qf (ii ((k : Int))) rfl (cX (qT rfl rfl (qb ?_))))))
 refine qA (p := (k : Int) < 2) rfl (fun h8 => ?_) (fun h8 => ?_)
 ·refine qz (qc (qL (qa (qf (ov) rfl (qf (ptr cb 0) rfl (qf (ii (((dp : Nat) : Int))) rfl (cX (jf (((dp - 1 : Nat) : Int)) rfl rfl (by omega) (by omega) (qf (ii (vs)) rfl (cX (qr (args := [ptr cb 0, ii ((dp - 1 : Nat) : Int), ii (vs)]) call110 rfl (yd [_] (ih (dp - 1) (by omega) (vs := vs) hbs (by omega) (hdp := (by first | assumption | rfl | omega | simp)) (hvs := (by first | assumption | rfl | omega | simp)))) ?_)))))))))))
  rintro _ F11 _ le11 ⟨x12, ⟨rfl, hsl4⟩, rfl⟩
  show XL _ _ _ _ _ _ _ (drawnH 2 x12 (fun t => goodT [2, 1, 0] t ∧ 1 ≤ t.length ∧ t.length ≤ sz9 (dp - 1)) :: intsH 2 ov os :: curH .u64 88 cb bsv bs.length :: L)
  refine jY [] rfl (fun t4 hq9 => ?_)
  obtain ⟨q10, q11, q12⟩ := hq9
  show XL _ _ _ _ _ _ _ (intsH 2 x12 t4 :: intsH 2 ov os :: curH .u64 88 cb bsv bs.length :: L)
  refine jz [] _ _ rfl (fun F12 le12 hz4 => ?_)
  have hf4 : IntsF F12 x12 t4 := intsH.fz (xs := t4) hz4.fz
  refine cX (jD [] _ qd typeInfo2 rfl rfl rfl rfl rfl rfl hf4 (by (try simp only [List.length_append, List.length_nil, List.length_cons, List.length_singleton, List.length_take, List.length_drop]); omega) ?_)
  intro v9 hs4 hn4 hm4
  refine qg (v9) rfl (qb (qa (qf (ii ((k : Int))) rfl (cX (qS (((k + 1 : Nat) : Int)) rfl rfl (by omega) (by omega) (qg (ii (((k + 1 : Nat) : Int))) rfl (qb ?_)))))))
  exact ⟨(k + 1, v9, os ++ t4, F12), _, (qh (qh leG4 le11) le12), rF, ⟨rfl, rfl, rfl, rfl, rfl, ⟨⟩⟩, (sC (sC sR)), ⟨rfl, (qh (qh leG4 le11) le12), (hs4), (by (try dsimp only); omega), (by (try dsimp only); rw [List.length_append]; omega), (by (try dsimp only); rw [List.length_append, show k + 1 - ((x8 : Int)).toNat = (k - ((x8 : Int)).toNat) + 1 from by omega, Nat.succ_mul]; omega), (by (try dsimp only); rw [show k + 1 - ((x8 : Int)).toNat = (k - ((x8 : Int)).toNat) + 1 from by omega]; exact hnk.next q10)⟩, (by omega)⟩
 refine jj (qx (qx (qO (qc (qa (qf (ov) rfl (qg (ov) rfl (qb (qw (qv (L' := drawnH 2 ov (fun t => goodT [2, 1, 0] t ∧ 1 ≤ t.length ∧ t.length ≤ sz9 dp) :: curH .u64 88 cb bsv bs.length :: L) [ov] (ov) (.tmp rfl .nil) rfl leG4 rF (jE (sC (sC sR)) (Sub.keep (drawnH.of (t := os) (⟨hnk.done (by omega) (by omega), h19, by first | (have h9 := sz9_next (d := dp) (by omega); omega) | (have h8 : k - ((x8 : Int)).toNat = 0 := (by omega); rw [h8, Nat.zero_mul] at hol; have := sz9_pos dp; omega)⟩)) sR)) ?_))))))))))
 exact ⟨_, ⟨rfl, hov⟩, rfl⟩

theorem w9TermG_spec (dp : Nat) : ∀ {F : FH} {L : List HP} {cb : Nat} {bsv : Value} {bs : List Int} (hbs : BytesF F bsv bs) (hbl : bs.length ≤ 4000000) {vs : Int} (hdp : dp ≤ 3) (hvs : 0 ≤ vs ∧ vs ≤ 24), Does prog 110 [ptr cb 0, ii (((dp : Nat) : Int)), ii (vs)] F (curH .u64 88 cb bsv bs.length :: L) (fun v F' L' => ∃ a : Value, ((a : Value) = v ∧ IsSl a) ∧ drawnH 2 a (fun t => goodT [2, 1, 0] t ∧ 1 ≤ t.length ∧ t.length ≤ sz9 dp) :: curH .u64 88 cb bsv bs.length :: L = L') := by
  induction dp using Nat.strongRecOn with
  | _ dp ih =>
    intros
    exact w9TermG_spec_step ih (by assumption) (by assumption) (by assumption) (by assumption)

/- laws.w9Rule -/
set_option maxHeartbeats 1000000 in
set_option maxRecDepth 20000 in
theorem w9RuleG_spec {F : FH} {L : List HP} {cb : Nat} {bsv : Value} {bs : List Int} (hbs : BytesF F bsv bs) (hbl : bs.length ≤ 4000000) :
    Does prog 108 [ptr cb 0] F (curH .u64 88 cb bsv bs.length :: L) (fun v F' L' => (∃ (a : Value), ∃ (b : Value), (.agg #[a, b] : Value) = v ∧ (SomesF F' a (fun u => L9 u)) ∧ (SomesF F' b (fun w => w.length ≤ 2000))) ∧ curH .u64 88 cb bsv bs.length :: L = L') := by
 refine qI func108 rfl rfl rfl ?_
 have hz9 : sz9 1 = 1 := rfl
 have hz8 : sz9 2 = 3 := rfl
 have hz7 : sz9 3 = 7 := rfl
 refine qc (qa (cX (jo [sN, sN] je rfl ?_)))
 intro b1
 refine qb (qc (qa (cX (qt (s := 1) [ii (1)] [ii (0)] [(0, [ii (1)])] qd qm qJ rfl (by decide) rfl (.cons rfl CellsAre.nil) rfl ?_))))
 intro v1 hv1
 refine qf (ptr cb 0) rfl (cX (qr (args := [ptr cb 0, ii ((2 : Nat) : Int), ii (2)]) call110 rfl (yd [_, _] (w9TermG_spec 2 (vs := 2) hbs (by omega) (hdp := (by first | assumption | rfl | omega | simp)) (hvs := (by first | assumption | rfl | omega | simp)))) ?_))
 rintro _ F1 _ le1 ⟨x2, ⟨rfl, hsl1⟩, rfl⟩
 replace hbs := hbs.mono le1
 show XL _ _ _ _ _ _ _ (drawnH 2 x2 (fun t => goodT [2, 1, 0] t ∧ 1 ≤ t.length ∧ t.length ≤ sz9 2) :: slH 2 1 v1 1 [ii (1)] :: cellsH b1 [sN, sN] 72 :: curH .u64 88 cb bsv bs.length :: L)
 refine jY [] rfl (fun t1 hq9 => ?_)
 obtain ⟨q1, q2, q3⟩ := hq9
 show XL _ _ _ _ _ _ _ (intsH 2 x2 t1 :: slH 2 1 v1 1 [ii (1)] :: cellsH b1 [sN, sN] 72 :: curH .u64 88 cb bsv bs.length :: L)
 show XL _ _ _ _ _ _ _ (intsH 2 x2 t1 :: intsH 2 v1 ([1] : List Int) :: cellsH b1 [sN, sN] 72 :: curH .u64 88 cb bsv bs.length :: L)
 refine jz [] _ _ rfl (fun F2 le2 hz1 => ?_)
 replace hbs := hbs.mono le2
 have hf1 : IntsF F2 x2 t1 := intsH.fz (xs := t1) hz1.fz
 refine cX (jD [] _ qd typeInfo2 rfl rfl rfl rfl rfl rfl hf1 (by (try simp only [List.length_append, List.length_nil, List.length_cons, List.length_singleton, List.length_take, List.length_drop]); omega) ?_)
 intro v2 hs1 hn1 hm1
 refine qg (v2) rfl (qb (qc (qc (qa (qf (ptr cb 0) rfl (cX (qr (args := [ptr cb 0, ii (2)]) call14 rfl (jN [_, _] (below_spec (n := 2) hbs (by omega) (hn := (by first | assumption | rfl | omega | simp)))) ?_)))))))
 rintro _ _ _ _ ⟨⟨rfl, x3, rfl, hr1⟩, rfl⟩
 show XL _ _ _ _ _ _ _ (intsH 2 v2 (([1]) ++ t1) :: cellsH b1 [sN, sN] 72 :: curH .u64 88 cb bsv bs.length :: L)
 refine cX (js rfl rfl (qb ?_))
 refine qA (p := (x3 : Int) = 0) rfl (fun h1 => ?_) (fun h1 => ?_)
 ·refine qa (cX (qt (s := 1) [ii (0)] [ii (0)] [(0, [ii (0)])] qd qm qJ rfl (by decide) rfl (.cons rfl CellsAre.nil) rfl ?_))
  intro v3 hv2
  refine qf (ptr cb 0) rfl (cX (qr (args := [ptr cb 0, ii ((2 : Nat) : Int), ii (2)]) call110 rfl (yd [_, _, _] (w9TermG_spec 2 (vs := 2) hbs (by omega) (hdp := (by first | assumption | rfl | omega | simp)) (hvs := (by first | assumption | rfl | omega | simp)))) ?_))
  rintro _ F4 _ le4 ⟨x5, ⟨rfl, hsl2⟩, rfl⟩
  replace hbs := hbs.mono le4
  show XL _ _ _ _ _ _ _ (drawnH 2 x5 (fun t => goodT [2, 1, 0] t ∧ 1 ≤ t.length ∧ t.length ≤ sz9 2) :: slH 2 1 v3 1 [ii (0)] :: intsH 2 v2 (([1]) ++ t1) :: cellsH b1 [sN, sN] 72 :: curH .u64 88 cb bsv bs.length :: L)
  refine jY [] rfl (fun t2 hq9 => ?_)
  obtain ⟨q4, q5, q6⟩ := hq9
  show XL _ _ _ _ _ _ _ (intsH 2 x5 t2 :: slH 2 1 v3 1 [ii (0)] :: intsH 2 v2 (([1]) ++ t1) :: cellsH b1 [sN, sN] 72 :: curH .u64 88 cb bsv bs.length :: L)
  show XL _ _ _ _ _ _ _ (intsH 2 x5 t2 :: intsH 2 v3 ([0] : List Int) :: intsH 2 v2 (([1]) ++ t1) :: cellsH b1 [sN, sN] 72 :: curH .u64 88 cb bsv bs.length :: L)
  refine jz [] _ _ rfl (fun F5 le5 hz2 => ?_)
  replace hbs := hbs.mono le5
  have hf2 : IntsF F5 x5 t2 := intsH.fz (xs := t2) hz2.fz
  refine cX (jD [] _ qd typeInfo2 rfl rfl rfl rfl rfl rfl hf2 (by (try simp only [List.length_append, List.length_nil, List.length_cons, List.length_singleton, List.length_take, List.length_drop]); omega) ?_)
  intro v4 hs2 hn2 hm2
  refine qf (ptr cb 0) rfl (cX (qr (args := [ptr cb 0, ii ((1 : Nat) : Int), ii (2)]) call110 rfl (yd [_, _, _] (w9TermG_spec 1 (vs := 2) hbs (by omega) (hdp := (by first | assumption | rfl | omega | simp)) (hvs := (by first | assumption | rfl | omega | simp)))) ?_))
  rintro _ F6 _ le6 ⟨x7, ⟨rfl, hsl3⟩, rfl⟩
  replace hbs := hbs.mono le6
  show XL _ _ _ _ _ _ _ (drawnH 2 x7 (fun t => goodT [2, 1, 0] t ∧ 1 ≤ t.length ∧ t.length ≤ sz9 1) :: intsH 2 v4 (([0]) ++ t2) :: intsH 2 v2 (([1]) ++ t1) :: cellsH b1 [sN, sN] 72 :: curH .u64 88 cb bsv bs.length :: L)
  refine jY [] rfl (fun t3 hq9 => ?_)
  obtain ⟨q7, q8, q9⟩ := hq9
  show XL _ _ _ _ _ _ _ (intsH 2 x7 t3 :: intsH 2 v4 (([0]) ++ t2) :: intsH 2 v2 (([1]) ++ t1) :: cellsH b1 [sN, sN] 72 :: curH .u64 88 cb bsv bs.length :: L)
  refine jz [] _ _ rfl (fun F7 le7 hz3 => ?_)
  replace hbs := hbs.mono le7
  have hf3 : IntsF F7 x7 t3 := intsH.fz (xs := t3) hz3.fz
  refine cX (jD [] _ qd typeInfo2 rfl rfl rfl rfl rfl rfl hf3 (by (try simp only [List.length_append, List.length_nil, List.length_cons, List.length_singleton, List.length_take, List.length_drop]); omega) ?_)
  intro v5 hs3 hn3 hm3
  refine qg (v5) rfl (qb (qc (qa (cX (qr (args := []) call106 rfl (w9Sig_spec ) ?_)))))
  rintro _ F8 _ le8 ⟨x8, rfl, hr2, rfl⟩
  replace hbs := hbs.mono le8
  refine qf (v5) rfl (jz [] _ _ rfl (fun F9 le9 hz4 => ?_))
  replace hbs := hbs.mono le9
  replace hr2 := hr2.mono le9
  have hf4 : IntsF F9 v5 ((([0]) ++ t2) ++ t3) := intsH.fz (xs := (([0]) ++ t2) ++ t3) hz4.fz
  refine cX (qr (args := [.agg #[x8], v5]) call173 rfl (VarsOf_spec hr2 hf4 (hla := (by decide)) (hlt := (by (try simp only [List.length_append, List.length_cons, List.length_nil, List.length_singleton]); omega))) ?_)
  rintro _ F10 _ le10 ⟨x9, x10, rfl, hr3, hr4, hr5, rfl⟩
  replace hbs := hbs.mono le10
  replace hf4 := hf4.mono le10
  refine qg (x9) rfl ?_
  have hvb : ∀ i, i < x10.length → 0 ≤ x10.getD i 0 ∧ x10.getD i 0 ≤ 24 := fun i hi => hr5 _ (by rw [List.getD_eq_getElem?_getD, List.getElem?_eq_getElem hi]; exact List.getElem_mem hi)
  have hvl : x10.length ≤ 100 := by have h9 := hr4; (try simp only [List.length_append, List.length_cons, List.length_nil, List.length_singleton] at h9); omega
  refine qb (qc (qa (qf (ptr cb 0) rfl (cX (qr (args := [ptr cb 0, ii ((3 : Nat) : Int), ii (2)]) call110 rfl (yd [_, _] (w9TermG_spec 3 (vs := 2) hbs (by omega) (hdp := (by first | assumption | rfl | omega | simp)) (hvs := (by first | assumption | rfl | omega | simp)))) ?_)))))
  rintro _ F11 _ le11 ⟨x12, ⟨rfl, hsl4⟩, rfl⟩
  replace hbs := hbs.mono le11
  replace hf4 := hf4.mono le11
  replace hr3 := hr3.mono le11
  show XL _ _ _ _ _ _ _ (drawnH 2 x12 (fun t => goodT [2, 1, 0] t ∧ 1 ≤ t.length ∧ t.length ≤ sz9 3) :: intsH 2 v2 (([1]) ++ t1) :: cellsH b1 [sN, sN] 72 :: curH .u64 88 cb bsv bs.length :: L)
  refine jY [] rfl (fun t4 hq9 => ?_)
  obtain ⟨q10, q11, q12⟩ := hq9
  show XL _ _ _ _ _ _ _ (intsH 2 x12 t4 :: intsH 2 v2 (([1]) ++ t1) :: cellsH b1 [sN, sN] 72 :: curH .u64 88 cb bsv bs.length :: L)
  refine qg (x12) rfl (qb (qc (qc (qa (qg (ii (0)) rfl (qb (qL (jn (α := Nat × List Int × FH) (fun xQ => [(0, ptr cb 0), (2, ptr b1 0), (3, v5), (4, x9), (5, x12), (6, ii (((xQ.1 : Nat) : Int)))]) (fun xQ => intsH 2 x12 xQ.2.1 :: intsH 2 v2 (([1]) ++ t1) :: cellsH b1 [sN, sN] 72 :: curH .u64 88 cb bsv bs.length :: L) (fun xQ F' => xQ.2.2 = F' ∧ F11 ≤ xQ.2.2 ∧ (xQ.1 ≤ xQ.2.1.length) ∧ (xQ.2.1.length = t4.length)) (fun xQ => xQ.2.1.length - xQ.1) (0, t4, F11) ⟨rfl, rfl, rfl, rfl, rfl, rfl, ⟨⟩⟩ (sC (sC (sC (sC sR)))) ⟨rfl, FLe.refl _, (Nat.zero_le _), (rfl)⟩ ?_))))))))
  rintro ⟨k, rr, G1⟩ rE _ _ ⟨rfl, leG, hk, hrl⟩
  show X _ _ _ _ (envs [(0, ptr cb 0), (2, ptr b1 0), (3, v5), (4, x9), (5, x12), (6, ii ((k : Int)))] rE) _ (intsH 2 x12 rr :: intsH 2 v2 (([1]) ++ t1) :: cellsH b1 [sN, sN] 72 :: curH .u64 88 cb bsv bs.length :: L)
  replace leG : F11 ≤ G1 := leG
  dsimp only at hk hrl
  have leG1 := leG
  replace hbs := hbs.mono leG1
  replace hf4 := hf4.mono leG1
  replace hr3 := hr3.mono leG1
  refine qc (qc (qa (qf (ii ((k : Int))) rfl (qf (x12) rfl (cX (qE qd rfl (intsH.slv [] rfl) (cX (qT rfl rfl (qb ?_)))))))))
  refine qA (p := (k : Int) < (rr.length : Int)) rfl (fun h2 => ?_) (fun h2 => ?_)
  ·refine qz (qc (qL (qc (qa (qf (x12) rfl (qf (ii ((k : Int))) rfl (cX (qu k qd qm rfl rfl rfl (intsH.slv [] rfl) (by omega) (Nat.mul_one _) (cX (qi qQ rfl (intsH.rd [] rfl (by omega)) (cX (qT rfl rfl (qf (.bool (decide ((rr.getD k 0 : Int) < 0))) rfl ?_)))))))))))))
   by_cases h3 : (rr.getD k 0 : Int) < 0
   ·refine qk (t := 37) rfl (vT h3) (ql (x9) rfl (qk (t := 37) rfl (vT h3) (qE qd rfl hr3.slv (qk (t := 37) rfl (vT h3) (js rfl rfl (cX (qN (.bool (decide (((x10.length : Int) : Int) = 0))) (vT h3) rfl (qb ?_))))))))
    refine qA (p := ((x10.length : Int) : Int) = 0) rfl (fun h4 => ?_) (fun h4 => ?_)
    ·refine qa (qf (x12) rfl (qf (ii ((k : Int))) rfl (cX (qu k qd qm rfl rfl rfl (intsH.slv [] rfl) (by omega) (Nat.mul_one _) (cX (intsH.storeX (i := k) (v := x12) [] _ (rr.set k 2) qm rfl rfl rfl (by omega) rfl (qb (qa (qf (ii ((k : Int))) rfl (cX (qS (((k + 1 : Nat) : Int)) rfl rfl (by omega) (by omega) (qg (ii (((k + 1 : Nat) : Int))) rfl (qb ?_)))))))))))))
     exact ⟨(k + 1, (rr.set k 2), G1), _, leG1, rF, ⟨rfl, rfl, rfl, rfl, rfl, rfl, ⟨⟩⟩, (sC (sC (sC (sC sR)))), ⟨rfl, leG1, (by (try dsimp only); (try rw [List.length_set]); omega), (by (try dsimp only); (try rw [List.length_set]); omega)⟩, (by (try dsimp only); (try rw [List.length_set]); omega)⟩
    refine qc (qa (qf (x12) rfl (qf (ii ((k : Int))) rfl (cX (qu k qd qm rfl rfl rfl (intsH.slv [] rfl) (by omega) (Nat.mul_one _) (cX (qi qQ rfl (intsH.rd [] rfl (by omega)) (cX (qT rfl rfl (qb (jq (vT h3) (qa (qf (x12) rfl ?_)))))))))))))
    refine qf (ii ((k : Int))) rfl (qf (x9) rfl (qf (ptr cb 0) rfl (qf (x9) rfl (cX (qE qd rfl hr3.slv (cX (qr (args := [ptr cb 0, ii ((x10.length : Int))]) call14 rfl (jN [_, _, _] (below_spec (n := (x10.length : Int)) hbs (by omega) (hn := (by first | assumption | rfl | omega | simp)))) ?_)))))))
    rintro _ _ _ _ ⟨⟨rfl, x13, rfl, hr6⟩, rfl⟩
    show XL _ _ _ _ _ _ _ (intsH 2 x12 rr :: intsH 2 v2 (([1]) ++ t1) :: cellsH b1 [sN, sN] 72 :: curH .u64 88 cb bsv bs.length :: L)
    have hv9 := hvb (x13).toNat (by omega)
    refine cX (qu ((x13).toNat) qd qm rfl rfl (by omega) hr3.slv (by omega) (Nat.mul_one _) (cX (qi qQ rfl (hr3.rd (by omega)) (cX (jf ((-1) - (x10.getD ((x13).toNat) 0)) rfl rfl (by omega) (by omega) (cX (qu k qd qm rfl rfl rfl (intsH.slv [] rfl) (by omega) (Nat.mul_one _) (cX (intsH.storeX (i := k) (v := x12) [] _ (rr.set k ((-1) - (x10.getD ((x13).toNat) 0))) qm rfl rfl rfl (by omega) rfl (qb (qa (qf (ii ((k : Int))) rfl (cX (qS (((k + 1 : Nat) : Int)) rfl rfl (by omega) (by omega) (qg (ii (((k + 1 : Nat) : Int))) rfl (qb ?_))))))))))))))))
    exact ⟨(k + 1, (rr.set k ((-1) - (x10.getD ((x13).toNat) 0))), G1), _, leG1, rF, ⟨rfl, rfl, rfl, rfl, rfl, rfl, ⟨⟩⟩, (sC (sC (sC (sC sR)))), ⟨rfl, leG1, (by (try dsimp only); (try rw [List.length_set]); omega), (by (try dsimp only); (try rw [List.length_set]); omega)⟩, (by (try dsimp only); (try rw [List.length_set]); omega)⟩
   refine qn (t := 37) rfl (vF h3) (qn (t := 37) rfl (vF h3) (qn (t := 37) rfl (vF h3) (cX (qG (.bool (false)) (vF h3) rfl (qb (jC rfl (qc (qa (qf (x12) rfl (qf (ii ((k : Int))) rfl (cX (qu k qd qm rfl rfl rfl (intsH.slv [] rfl) (by omega) (Nat.mul_one _) ?_))))))))))))
   refine cX (qi qQ rfl (intsH.rd [] rfl (by omega)) (cX (qT rfl rfl (qb (jC (vF h3) (qz (qa (qf (ii ((k : Int))) rfl (cX (qS (((k + 1 : Nat) : Int)) rfl rfl (by omega) (by omega) (qg (ii (((k + 1 : Nat) : Int))) rfl (qb ?_))))))))))))
   exact ⟨(k + 1, rr, G1), _, leG1, rF, ⟨rfl, rfl, rfl, rfl, rfl, rfl, ⟨⟩⟩, (sC (sC (sC (sC sR)))), ⟨rfl, leG1, (by (try dsimp only); (try rw [List.length_set]); omega), (by (try dsimp only); (try rw [List.length_set]); omega)⟩, (by (try dsimp only); (try rw [List.length_set]); omega)⟩
  refine jj (qx (qx (qO (qc (qa (qf (v5) rfl (qf (x12) rfl (cX (qY [v5, x12] [sN, sN] [(0, 1), (1, 1)] [(0, [v5]), (1, [x12])] qM je rfl (.cons rfl qp (.cons rfl qp PlacesAre.nil)) rfl (.cons (cells_one (qD hf4)) (.cons (cells_one hsl4) CellsAre.nil)) (cX (qV [_, _] _ [v5, x12] jm rfl rfl rfl (qs (jb (qD hf4)) (qs (jb hsl4) qZ)) rfl rfl rfl (qb (qP [] _ _ rfl (fun F13 le13 hz5 => ?_))))))))))))))
  replace hbs := hbs.mono le13
  replace hf4 := hf4.mono le13
  have hf5 : IntsF F13 x12 rr := intsH.fz (xs := rr) hz5.fz
  refine qw (qv (L' := curH .u64 88 cb bsv bs.length :: L) [.agg #[v5, x12]] (.agg #[v5, x12]) (.cell rfl (ju [v5, x12] isAgg72 jm rfl (Rd.ownN [_] rfl rfl)) .nil) rfl (qh (qh (qh (qh (qh (qh (qh (qh (qh (qh (qh le1 le2) le4) le5) le6) le7) le8) le9) le10) le11) leG1) le13) rF (sD (sD (sC sR))) ?_)
  exact ⟨⟨_, _, rfl, ⟨_, hf4, by first | exact L9.two q1 q3 q4 q6 | exact L9.two q1 q3 q7 q9 | exact L9.two q1 q3 q10 q12 | exact L9.two q4 q6 q1 q3 | exact L9.two q4 q6 q7 q9 | exact L9.two q4 q6 q10 q12 | exact L9.two q7 q9 q1 q3 | exact L9.two q7 q9 q4 q6 | exact L9.two q7 q9 q10 q12 | exact L9.two q10 q12 q1 q3 | exact L9.two q10 q12 q4 q6 | exact L9.two q10 q12 q7 q9 | exact L9.one q1 q2 q3 | exact L9.one q4 q5 q6 | exact L9.one q7 q8 q9 | exact L9.one q10 q11 q12⟩, ⟨_, hf5, by (try simp only [List.length_append, List.length_cons, List.length_nil, List.length_singleton]); omega⟩⟩, rfl⟩
 refine qz (qc (qa (cX (qr (args := []) call106 rfl (w9Sig_spec ) ?_))))
 rintro _ F14 _ le14 ⟨x14, rfl, hr7, rfl⟩
 replace hbs := hbs.mono le14
 refine qf (v2) rfl (jz [] _ _ rfl (fun F15 le15 hz6 => ?_))
 replace hbs := hbs.mono le15
 replace hr7 := hr7.mono le15
 have hf6 : IntsF F15 v2 (([1]) ++ t1) := intsH.fz (xs := ([1]) ++ t1) hz6.fz
 refine cX (qr (args := [.agg #[x14], v2]) call173 rfl (VarsOf_spec hr7 hf6 (hla := (by decide)) (hlt := (by (try simp only [List.length_append, List.length_cons, List.length_nil, List.length_singleton]); omega))) ?_)
 rintro _ F16 _ le16 ⟨x15, x16, rfl, hr8, hr9, hr10, rfl⟩
 replace hbs := hbs.mono le16
 replace hf6 := hf6.mono le16
 refine qg (x15) rfl ?_
 have hvb : ∀ i, i < x16.length → 0 ≤ x16.getD i 0 ∧ x16.getD i 0 ≤ 24 := fun i hi => hr10 _ (by rw [List.getD_eq_getElem?_getD, List.getElem?_eq_getElem hi]; exact List.getElem_mem hi)
 have hvl : x16.length ≤ 100 := by have h9 := hr9; (try simp only [List.length_append, List.length_cons, List.length_nil, List.length_singleton] at h9); omega
 refine qb (qc (qa (qf (ptr cb 0) rfl (cX (qr (args := [ptr cb 0, ii ((3 : Nat) : Int), ii (2)]) call110 rfl (yd [_] (w9TermG_spec 3 (vs := 2) hbs (by omega) (hdp := (by first | assumption | rfl | omega | simp)) (hvs := (by first | assumption | rfl | omega | simp)))) ?_)))))
 rintro _ F17 _ le17 ⟨x18, ⟨rfl, hsl5⟩, rfl⟩
 replace hbs := hbs.mono le17
 replace hf6 := hf6.mono le17
 replace hr8 := hr8.mono le17
 show XL _ _ _ _ _ _ _ (drawnH 2 x18 (fun t => goodT [2, 1, 0] t ∧ 1 ≤ t.length ∧ t.length ≤ sz9 3) :: cellsH b1 [sN, sN] 72 :: curH .u64 88 cb bsv bs.length :: L)
 refine jY [] rfl (fun t5 hq9 => ?_)
 obtain ⟨q13, q14, q15⟩ := hq9
 show XL _ _ _ _ _ _ _ (intsH 2 x18 t5 :: cellsH b1 [sN, sN] 72 :: curH .u64 88 cb bsv bs.length :: L)
 refine qg (x18) rfl (qb (qc (qc (qa (qg (ii (0)) rfl (qb (qL (jn (α := Nat × List Int × FH) (fun xQ => [(0, ptr cb 0), (2, ptr b1 0), (3, v2), (4, x15), (5, x18), (6, ii (((xQ.1 : Nat) : Int)))]) (fun xQ => intsH 2 x18 xQ.2.1 :: cellsH b1 [sN, sN] 72 :: curH .u64 88 cb bsv bs.length :: L) (fun xQ F' => xQ.2.2 = F' ∧ F17 ≤ xQ.2.2 ∧ (xQ.1 ≤ xQ.2.1.length) ∧ (xQ.2.1.length = t5.length)) (fun xQ => xQ.2.1.length - xQ.1) (0, t5, F17) ⟨rfl, rfl, rfl, rfl, rfl, rfl, ⟨⟩⟩ (sC (sC (sC sR))) ⟨rfl, FLe.refl _, (Nat.zero_le _), (rfl)⟩ ?_))))))))
 rintro ⟨k, rr, G2⟩ rE _ _ ⟨rfl, leG, hk, hrl⟩
 show X _ _ _ _ (envs [(0, ptr cb 0), (2, ptr b1 0), (3, v2), (4, x15), (5, x18), (6, ii ((k : Int)))] rE) _ (intsH 2 x18 rr :: cellsH b1 [sN, sN] 72 :: curH .u64 88 cb bsv bs.length :: L)
 replace leG : F17 ≤ G2 := leG
 dsimp only at hk hrl
 have leG2 := leG
 replace hbs := hbs.mono leG2
 replace hf6 := hf6.mono leG2
 replace hr8 := hr8.mono leG2
 refine qc (qc (qa (qf (ii ((k : Int))) rfl (qf (x18) rfl (cX (qE qd rfl (intsH.slv [] rfl) (cX (qT rfl rfl (qb ?_)))))))))
 refine qA (p := (k : Int) < (rr.length : Int)) rfl (fun h5 => ?_) (fun h5 => ?_)
 ·refine qz (qc (qL (qc (qa (qf (x18) rfl (qf (ii ((k : Int))) rfl (cX (qu k qd qm rfl rfl rfl (intsH.slv [] rfl) (by omega) (Nat.mul_one _) (cX (qi qQ rfl (intsH.rd [] rfl (by omega)) (cX (qT rfl rfl (qf (.bool (decide ((rr.getD k 0 : Int) < 0))) rfl ?_)))))))))))))
  by_cases h6 : (rr.getD k 0 : Int) < 0
  ·refine qk (t := 37) rfl (vT h6) (ql (x15) rfl (qk (t := 37) rfl (vT h6) (qE qd rfl hr8.slv (qk (t := 37) rfl (vT h6) (js rfl rfl (cX (qN (.bool (decide (((x16.length : Int) : Int) = 0))) (vT h6) rfl (qb ?_))))))))
   refine qA (p := ((x16.length : Int) : Int) = 0) rfl (fun h7 => ?_) (fun h7 => ?_)
   ·refine qa (qf (x18) rfl (qf (ii ((k : Int))) rfl (cX (qu k qd qm rfl rfl rfl (intsH.slv [] rfl) (by omega) (Nat.mul_one _) (cX (intsH.storeX (i := k) (v := x18) [] _ (rr.set k 2) qm rfl rfl rfl (by omega) rfl (qb (qa (qf (ii ((k : Int))) rfl (cX (qS (((k + 1 : Nat) : Int)) rfl rfl (by omega) (by omega) (qg (ii (((k + 1 : Nat) : Int))) rfl (qb ?_)))))))))))))
    exact ⟨(k + 1, (rr.set k 2), G2), _, leG2, rF, ⟨rfl, rfl, rfl, rfl, rfl, rfl, ⟨⟩⟩, (sC (sC (sC sR))), ⟨rfl, leG2, (by (try dsimp only); (try rw [List.length_set]); omega), (by (try dsimp only); (try rw [List.length_set]); omega)⟩, (by (try dsimp only); (try rw [List.length_set]); omega)⟩
   refine qc (qa (qf (x18) rfl (qf (ii ((k : Int))) rfl (cX (qu k qd qm rfl rfl rfl (intsH.slv [] rfl) (by omega) (Nat.mul_one _) (cX (qi qQ rfl (intsH.rd [] rfl (by omega)) (cX (qT rfl rfl (qb (jq (vT h6) (qa (qf (x18) rfl ?_)))))))))))))
   refine qf (ii ((k : Int))) rfl (qf (x15) rfl (qf (ptr cb 0) rfl (qf (x15) rfl (cX (qE qd rfl hr8.slv (cX (qr (args := [ptr cb 0, ii ((x16.length : Int))]) call14 rfl (jN [_, _] (below_spec (n := (x16.length : Int)) hbs (by omega) (hn := (by first | assumption | rfl | omega | simp)))) ?_)))))))
   rintro _ _ _ _ ⟨⟨rfl, x19, rfl, hr11⟩, rfl⟩
   show XL _ _ _ _ _ _ _ (intsH 2 x18 rr :: cellsH b1 [sN, sN] 72 :: curH .u64 88 cb bsv bs.length :: L)
   have hv9 := hvb (x19).toNat (by omega)
   refine cX (qu ((x19).toNat) qd qm rfl rfl (by omega) hr8.slv (by omega) (Nat.mul_one _) (cX (qi qQ rfl (hr8.rd (by omega)) (cX (jf ((-1) - (x16.getD ((x19).toNat) 0)) rfl rfl (by omega) (by omega) (cX (qu k qd qm rfl rfl rfl (intsH.slv [] rfl) (by omega) (Nat.mul_one _) (cX (intsH.storeX (i := k) (v := x18) [] _ (rr.set k ((-1) - (x16.getD ((x19).toNat) 0))) qm rfl rfl rfl (by omega) rfl (qb (qa (qf (ii ((k : Int))) rfl (cX (qS (((k + 1 : Nat) : Int)) rfl rfl (by omega) (by omega) (qg (ii (((k + 1 : Nat) : Int))) rfl (qb ?_))))))))))))))))
   exact ⟨(k + 1, (rr.set k ((-1) - (x16.getD ((x19).toNat) 0))), G2), _, leG2, rF, ⟨rfl, rfl, rfl, rfl, rfl, rfl, ⟨⟩⟩, (sC (sC (sC sR))), ⟨rfl, leG2, (by (try dsimp only); (try rw [List.length_set]); omega), (by (try dsimp only); (try rw [List.length_set]); omega)⟩, (by (try dsimp only); (try rw [List.length_set]); omega)⟩
  refine qn (t := 37) rfl (vF h6) (qn (t := 37) rfl (vF h6) (qn (t := 37) rfl (vF h6) (cX (qG (.bool (false)) (vF h6) rfl (qb (jC rfl (qc (qa (qf (x18) rfl (qf (ii ((k : Int))) rfl (cX (qu k qd qm rfl rfl rfl (intsH.slv [] rfl) (by omega) (Nat.mul_one _) ?_))))))))))))
  refine cX (qi qQ rfl (intsH.rd [] rfl (by omega)) (cX (qT rfl rfl (qb (jC (vF h6) (qz (qa (qf (ii ((k : Int))) rfl (cX (qS (((k + 1 : Nat) : Int)) rfl rfl (by omega) (by omega) (qg (ii (((k + 1 : Nat) : Int))) rfl (qb ?_))))))))))))
  exact ⟨(k + 1, rr, G2), _, leG2, rF, ⟨rfl, rfl, rfl, rfl, rfl, rfl, ⟨⟩⟩, (sC (sC (sC sR))), ⟨rfl, leG2, (by (try dsimp only); (try rw [List.length_set]); omega), (by (try dsimp only); (try rw [List.length_set]); omega)⟩, (by (try dsimp only); (try rw [List.length_set]); omega)⟩
 refine jj (qx (qx (qO (qc (qa (qf (v2) rfl (qf (x18) rfl (cX (qY [v2, x18] [sN, sN] [(0, 1), (1, 1)] [(0, [v2]), (1, [x18])] qM je rfl (.cons rfl qp (.cons rfl qp PlacesAre.nil)) rfl (.cons (cells_one (qD hf6)) (.cons (cells_one hsl5) CellsAre.nil)) (cX (qV [_] _ [v2, x18] jm rfl rfl rfl (qs (jb (qD hf6)) (qs (jb hsl5) qZ)) rfl rfl rfl (qb (qP [] _ _ rfl (fun F19 le19 hz7 => ?_))))))))))))))
 replace hf6 := hf6.mono le19
 have hf7 : IntsF F19 x18 rr := intsH.fz (xs := rr) hz7.fz
 refine qw (qv (L' := curH .u64 88 cb bsv bs.length :: L) [.agg #[v2, x18]] (.agg #[v2, x18]) (.cell rfl (ju [v2, x18] isAgg72 jm rfl (Rd.ownN [] rfl rfl)) .nil) rfl (qh (qh (qh (qh (qh (qh (qh le1 le2) le14) le15) le16) le17) leG2) le19) rF (sD (sC sR)) ?_)
 exact ⟨⟨_, _, rfl, ⟨_, hf6, by first | exact L9.two q1 q3 q4 q6 | exact L9.two q1 q3 q7 q9 | exact L9.two q1 q3 q10 q12 | exact L9.two q1 q3 q13 q15 | exact L9.two q4 q6 q1 q3 | exact L9.two q4 q6 q7 q9 | exact L9.two q4 q6 q10 q12 | exact L9.two q4 q6 q13 q15 | exact L9.two q7 q9 q1 q3 | exact L9.two q7 q9 q4 q6 | exact L9.two q7 q9 q10 q12 | exact L9.two q7 q9 q13 q15 | exact L9.two q10 q12 q1 q3 | exact L9.two q10 q12 q4 q6 | exact L9.two q10 q12 q7 q9 | exact L9.two q10 q12 q13 q15 | exact L9.two q13 q15 q1 q3 | exact L9.two q13 q15 q4 q6 | exact L9.two q13 q15 q7 q9 | exact L9.two q13 q15 q10 q12 | exact L9.one q1 q2 q3 | exact L9.one q4 q5 q6 | exact L9.one q7 q8 q9 | exact L9.one q10 q11 q12 | exact L9.one q13 q14 q15⟩, ⟨_, hf7, by (try simp only [List.length_append, List.length_cons, List.length_nil, List.length_singleton]); omega⟩⟩, rfl⟩

/- laws.w9Known -/
set_option maxRecDepth 20000 in
theorem w9KnownG_spec {F : FH} {L : List HP} {k : Int} :
    Does prog 107 [ii (k)] F (L) (fun v F' L' => ∃ (b : Value), ∃ (rs : List (List Int × List Int)), (b : Value) = v ∧ (PairsF F' b rs) ∧ (1 ≤ rs.length ∧ rs.length ≤ 4) ∧ (smallR rs) ∧ (allL9 rs) ∧ L = L') := by
 refine qI func107 rfl rfl rfl (qc (qa (qg (sN) rfl (qb (qc (qc (qa (qf (ii (k)) rfl (qb (qL (qc (qa (cX (js rfl rfl (qg (.bool (decide ((k : Int) = 0))) rfl (qb ?_))))))))))))))))
 refine qA (p := (k : Int) = 0) rfl (fun h1 => ?_) (fun h1 => ?_)
 ·refine qc (qa (cX (qt (s := 1) [ii (0), ii (2), ii (-1)] [ii (0)] [(0, [ii (0)]), (1, [ii (2)]), (2, [ii (-1)])] qd qm qJ rfl (by decide) rfl (.cons rfl (.cons rfl (.cons rfl CellsAre.nil))) rfl ?_)))
  intro v1 hv1
  refine cX (qt (s := 1) [ii (-1)] [ii (0)] [(0, [ii (-1)])] qd qm qJ rfl (by decide) rfl (.cons rfl CellsAre.nil) rfl ?_)
  intro v2 hv2
  refine cX (qY [v1, v2] [sN, sN] [(0, 1), (1, 1)] [(0, [v1]), (1, [v2])] qM je rfl (.cons rfl qp (.cons rfl qp PlacesAre.nil)) rfl (.cons (cells_one (jd hv1)) (.cons (cells_one (jd hv2)) CellsAre.nil)) (cX (qt (s := 1) [ii (0), ii (1), ii (-1), ii (-2)] [ii (0)] [(0, [ii (0)]), (1, [ii (1)]), (2, [ii (-1)]), (3, [ii (-2)])] qd qm qJ rfl (by decide) rfl (.cons rfl (.cons rfl (.cons rfl (.cons rfl CellsAre.nil)))) rfl ?_)))
  intro v3 hv3
  refine cX (qt (s := 1) [ii (1), ii (0), ii (-1), ii (-2)] [ii (0)] [(0, [ii (1)]), (1, [ii (0)]), (2, [ii (-1)]), (3, [ii (-2)])] qd qm qJ rfl (by decide) rfl (.cons rfl (.cons rfl (.cons rfl (.cons rfl CellsAre.nil)))) rfl ?_)
  intro v4 hv4
  refine cX (qY [v3, v4] [sN, sN] [(0, 1), (1, 1)] [(0, [v3]), (1, [v4])] qM je rfl (.cons rfl qp (.cons rfl qp PlacesAre.nil)) rfl (.cons (cells_one (jd hv3)) (.cons (cells_one (jd hv4)) CellsAre.nil)) (cX (qt (s := 2) [v1, v2, v3, v4] [sN, sN] [(0, [v1, v2]), (1, [v3, v4])] qX jm je rfl (by decide) rfl (.cons rfl (.cons rfl CellsAre.nil)) rfl ?_)))
  intro v5 hv5
  refine qg (v5) rfl (qb ?_)
  show X _ _ _ _ _ _ (slH 72 2 v5 2 [v1, v2, v3, v4] :: slH 2 1 v4 4 [ii (1), ii (0), ii (-1), ii (-2)] :: slH 2 1 v3 4 [ii (0), ii (1), ii (-1), ii (-2)] :: slH 2 1 v2 1 [ii (-1)] :: intsH 2 v1 ([0, 2, -1] : List Int) :: L)
  refine qP [_, _, _, _] _ _ rfl (fun F1 le1 hz1 => ?_)
  have hf1 : IntsF F1 v1 ([0, 2, -1]) := intsH.fz (xs := [0, 2, -1]) hz1.fz
  show X _ _ _ _ _ _ (slH 72 2 v5 2 [v1, v2, v3, v4] :: slH 2 1 v4 4 [ii (1), ii (0), ii (-1), ii (-2)] :: slH 2 1 v3 4 [ii (0), ii (1), ii (-1), ii (-2)] :: intsH 2 v2 ([-1] : List Int) :: L)
  refine qP [_, _, _] _ _ rfl (fun F2 le2 hz2 => ?_)
  replace hf1 := hf1.mono le2
  have hf2 : IntsF F2 v2 ([-1]) := intsH.fz (xs := [-1]) hz2.fz
  show X _ _ _ _ _ _ (slH 72 2 v5 2 [v1, v2, v3, v4] :: slH 2 1 v4 4 [ii (1), ii (0), ii (-1), ii (-2)] :: intsH 2 v3 ([0, 1, -1, -2] : List Int) :: L)
  refine qP [_, _] _ _ rfl (fun F3 le3 hz3 => ?_)
  replace hf1 := hf1.mono le3
  replace hf2 := hf2.mono le3
  have hf3 : IntsF F3 v3 ([0, 1, -1, -2]) := intsH.fz (xs := [0, 1, -1, -2]) hz3.fz
  show X _ _ _ _ _ _ (slH 72 2 v5 2 [v1, v2, v3, v4] :: intsH 2 v4 ([1, 0, -1, -2] : List Int) :: L)
  refine qP [_] _ _ rfl (fun F4 le4 hz4 => ?_)
  replace hf1 := hf1.mono le4
  replace hf2 := hf2.mono le4
  replace hf3 := hf3.mono le4
  have hf4 : IntsF F4 v4 ([1, 0, -1, -2]) := intsH.fz (xs := [1, 0, -1, -2]) hz4.fz
  have hc1 : PairsC F4 [v1, v2, v3, v4] ([([0, 2, -1], [-1]), ([0, 1, -1, -2], [1, 0, -1, -2])] : List (List Int × List Int)) := (PairsC.snoc (PairsC.snoc (CO.nil : PairsC F4 [] []) hf1 hf2) hf3 hf4)
  refine qP [] _ _ rfl (fun F5 le5 hz5 => ?_)
  replace hc1 := hc1.mono le5
  have hf5 : PairsF F5 v5 (([([0, 2, -1], [-1]), ([0, 1, -1, -2], [1, 0, -1, -2])] : List (List Int × List Int))) := CO.fz hc1 (by first | rfl | omega | (rw [List.length_set]; omega) | (simp; done)) hz5.fz
  refine qw (qR (qq (qv (L' := L) [v5] (v5) (.tmp rfl .nil) rfl (qh (qh (qh (qh le1 le2) le3) le4) le5) rF sR ?_)))
  exact ⟨_, _, rfl, hf5, by decide, by unfold smallR; decide, allL9.of (by decide), rfl⟩
 refine qc (qa (cX (js rfl rfl (qg (.bool (decide ((k : Int) = 1))) rfl (qb ?_)))))
 refine qA (p := (k : Int) = 1) rfl (fun h2 => ?_) (fun h2 => ?_)
 ·refine qc (qa (cX (qt (s := 1) [ii (0), ii (0), ii (-1), ii (-2), ii (-3)] [ii (0)] [(0, [ii (0)]), (1, [ii (0)]), (2, [ii (-1)]), (3, [ii (-2)]), (4, [ii (-3)])] qd qm qJ rfl (by decide) rfl (.cons rfl (.cons rfl (.cons rfl (.cons rfl (.cons rfl CellsAre.nil))))) rfl ?_)))
  intro v6 hv6
  refine cX (qt (s := 1) [ii (0), ii (-1), ii (0), ii (-2), ii (-3)] [ii (0)] [(0, [ii (0)]), (1, [ii (-1)]), (2, [ii (0)]), (3, [ii (-2)]), (4, [ii (-3)])] qd qm qJ rfl (by decide) rfl (.cons rfl (.cons rfl (.cons rfl (.cons rfl (.cons rfl CellsAre.nil))))) rfl ?_)
  intro v7 hv7
  refine cX (qY [v6, v7] [sN, sN] [(0, 1), (1, 1)] [(0, [v6]), (1, [v7])] qM je rfl (.cons rfl qp (.cons rfl qp PlacesAre.nil)) rfl (.cons (cells_one (jd hv6)) (.cons (cells_one (jd hv7)) CellsAre.nil)) (cX (qt (s := 2) [v6, v7] [sN, sN] [(0, [v6, v7])] qX jm je rfl (by decide) rfl (.cons rfl CellsAre.nil) rfl ?_)))
  intro v8 hv8
  refine qg (v8) rfl (qb ?_)
  show X _ _ _ _ _ _ (slH 72 2 v8 1 [v6, v7] :: slH 2 1 v7 5 [ii (0), ii (-1), ii (0), ii (-2), ii (-3)] :: intsH 2 v6 ([0, 0, -1, -2, -3] : List Int) :: L)
  refine qP [_, _] _ _ rfl (fun F6 le6 hz6 => ?_)
  have hf6 : IntsF F6 v6 ([0, 0, -1, -2, -3]) := intsH.fz (xs := [0, 0, -1, -2, -3]) hz6.fz
  show X _ _ _ _ _ _ (slH 72 2 v8 1 [v6, v7] :: intsH 2 v7 ([0, -1, 0, -2, -3] : List Int) :: L)
  refine qP [_] _ _ rfl (fun F7 le7 hz7 => ?_)
  replace hf6 := hf6.mono le7
  have hf7 : IntsF F7 v7 ([0, -1, 0, -2, -3]) := intsH.fz (xs := [0, -1, 0, -2, -3]) hz7.fz
  have hc2 : PairsC F7 [v6, v7] ([([0, 0, -1, -2, -3], [0, -1, 0, -2, -3])] : List (List Int × List Int)) := (PairsC.snoc (CO.nil : PairsC F7 [] []) hf6 hf7)
  refine qP [] _ _ rfl (fun F8 le8 hz8 => ?_)
  replace hc2 := hc2.mono le8
  have hf8 : PairsF F8 v8 (([([0, 0, -1, -2, -3], [0, -1, 0, -2, -3])] : List (List Int × List Int))) := CO.fz hc2 (by first | rfl | omega | (rw [List.length_set]; omega) | (simp; done)) hz8.fz
  refine qw (qR (qq (qv (L' := L) [v8] (v8) (.tmp rfl .nil) rfl (qh (qh le6 le7) le8) rF sR ?_)))
  exact ⟨_, _, rfl, hf8, by decide, by unfold smallR; decide, allL9.of (by decide), rfl⟩
 refine qc (qa (cX (js rfl rfl (qg (.bool (decide ((k : Int) = 2))) rfl (qb ?_)))))
 refine qA (p := (k : Int) = 2) rfl (fun h3 => ?_) (fun h3 => ?_)
 ·refine qc (qa (cX (qt (s := 1) [ii (1), ii (1), ii (-1)] [ii (0)] [(0, [ii (1)]), (1, [ii (1)]), (2, [ii (-1)])] qd qm qJ rfl (by decide) rfl (.cons rfl (.cons rfl (.cons rfl CellsAre.nil))) rfl ?_)))
  intro v9 hv9
  refine cX (qt (s := 1) [ii (-1)] [ii (0)] [(0, [ii (-1)])] qd qm qJ rfl (by decide) rfl (.cons rfl CellsAre.nil) rfl ?_)
  intro v10 hv10
  refine cX (qY [v9, v10] [sN, sN] [(0, 1), (1, 1)] [(0, [v9]), (1, [v10])] qM je rfl (.cons rfl qp (.cons rfl qp PlacesAre.nil)) rfl (.cons (cells_one (jd hv9)) (.cons (cells_one (jd hv10)) CellsAre.nil)) (cX (qt (s := 2) [v9, v10] [sN, sN] [(0, [v9, v10])] qX jm je rfl (by decide) rfl (.cons rfl CellsAre.nil) rfl ?_)))
  intro v11 hv11
  refine qg (v11) rfl (qb ?_)
  show X _ _ _ _ _ _ (slH 72 2 v11 1 [v9, v10] :: slH 2 1 v10 1 [ii (-1)] :: intsH 2 v9 ([1, 1, -1] : List Int) :: L)
  refine qP [_, _] _ _ rfl (fun F9 le9 hz9 => ?_)
  have hf9 : IntsF F9 v9 ([1, 1, -1]) := intsH.fz (xs := [1, 1, -1]) hz9.fz
  show X _ _ _ _ _ _ (slH 72 2 v11 1 [v9, v10] :: intsH 2 v10 ([-1] : List Int) :: L)
  refine qP [_] _ _ rfl (fun F10 le10 hz10 => ?_)
  replace hf9 := hf9.mono le10
  have hf10 : IntsF F10 v10 ([-1]) := intsH.fz (xs := [-1]) hz10.fz
  have hc3 : PairsC F10 [v9, v10] ([([1, 1, -1], [-1])] : List (List Int × List Int)) := (PairsC.snoc (CO.nil : PairsC F10 [] []) hf9 hf10)
  refine qP [] _ _ rfl (fun F11 le11 hz11 => ?_)
  replace hc3 := hc3.mono le11
  have hf11 : PairsF F11 v11 (([([1, 1, -1], [-1])] : List (List Int × List Int))) := CO.fz hc3 (by first | rfl | omega | (rw [List.length_set]; omega) | (simp; done)) hz11.fz
  refine qw (qR (qq (qv (L' := L) [v11] (v11) (.tmp rfl .nil) rfl (qh (qh le9 le10) le11) rF sR ?_)))
  exact ⟨_, _, rfl, hf11, by decide, by unfold smallR; decide, allL9.of (by decide), rfl⟩
 refine qc (qa (cX (js rfl rfl (qg (.bool (decide ((k : Int) = 3))) rfl (qb ?_)))))
 refine qA (p := (k : Int) = 3) rfl (fun h4 => ?_) (fun h4 => ?_)
 ·refine qc (qa (cX (qt (s := 1) [ii (0), ii (-1), ii (2)] [ii (0)] [(0, [ii (0)]), (1, [ii (-1)]), (2, [ii (2)])] qd qm qJ rfl (by decide) rfl (.cons rfl (.cons rfl (.cons rfl CellsAre.nil))) rfl ?_)))
  intro v12 hv12
  refine cX (qt (s := 1) [ii (-1)] [ii (0)] [(0, [ii (-1)])] qd qm qJ rfl (by decide) rfl (.cons rfl CellsAre.nil) rfl ?_)
  intro v13 hv13
  refine cX (qY [v12, v13] [sN, sN] [(0, 1), (1, 1)] [(0, [v12]), (1, [v13])] qM je rfl (.cons rfl qp (.cons rfl qp PlacesAre.nil)) rfl (.cons (cells_one (jd hv12)) (.cons (cells_one (jd hv13)) CellsAre.nil)) (cX (qt (s := 1) [ii (0), ii (1), ii (-1), ii (1), ii (-2)] [ii (0)] [(0, [ii (0)]), (1, [ii (1)]), (2, [ii (-1)]), (3, [ii (1)]), (4, [ii (-2)])] qd qm qJ rfl (by decide) rfl (.cons rfl (.cons rfl (.cons rfl (.cons rfl (.cons rfl CellsAre.nil))))) rfl ?_)))
  intro v14 hv14
  refine cX (qt (s := 1) [ii (0), ii (-1), ii (-2)] [ii (0)] [(0, [ii (0)]), (1, [ii (-1)]), (2, [ii (-2)])] qd qm qJ rfl (by decide) rfl (.cons rfl (.cons rfl (.cons rfl CellsAre.nil))) rfl ?_)
  intro v15 hv15
  refine cX (qY [v14, v15] [sN, sN] [(0, 1), (1, 1)] [(0, [v14]), (1, [v15])] qM je rfl (.cons rfl qp (.cons rfl qp PlacesAre.nil)) rfl (.cons (cells_one (jd hv14)) (.cons (cells_one (jd hv15)) CellsAre.nil)) (cX (qt (s := 2) [v12, v13, v14, v15] [sN, sN] [(0, [v12, v13]), (1, [v14, v15])] qX jm je rfl (by decide) rfl (.cons rfl (.cons rfl CellsAre.nil)) rfl ?_)))
  intro v16 hv16
  refine qg (v16) rfl (qb ?_)
  show X _ _ _ _ _ _ (slH 72 2 v16 2 [v12, v13, v14, v15] :: slH 2 1 v15 3 [ii (0), ii (-1), ii (-2)] :: slH 2 1 v14 5 [ii (0), ii (1), ii (-1), ii (1), ii (-2)] :: slH 2 1 v13 1 [ii (-1)] :: intsH 2 v12 ([0, -1, 2] : List Int) :: L)
  refine qP [_, _, _, _] _ _ rfl (fun F12 le12 hz12 => ?_)
  have hf12 : IntsF F12 v12 ([0, -1, 2]) := intsH.fz (xs := [0, -1, 2]) hz12.fz
  show X _ _ _ _ _ _ (slH 72 2 v16 2 [v12, v13, v14, v15] :: slH 2 1 v15 3 [ii (0), ii (-1), ii (-2)] :: slH 2 1 v14 5 [ii (0), ii (1), ii (-1), ii (1), ii (-2)] :: intsH 2 v13 ([-1] : List Int) :: L)
  refine qP [_, _, _] _ _ rfl (fun F13 le13 hz13 => ?_)
  replace hf12 := hf12.mono le13
  have hf13 : IntsF F13 v13 ([-1]) := intsH.fz (xs := [-1]) hz13.fz
  show X _ _ _ _ _ _ (slH 72 2 v16 2 [v12, v13, v14, v15] :: slH 2 1 v15 3 [ii (0), ii (-1), ii (-2)] :: intsH 2 v14 ([0, 1, -1, 1, -2] : List Int) :: L)
  refine qP [_, _] _ _ rfl (fun F14 le14 hz14 => ?_)
  replace hf12 := hf12.mono le14
  replace hf13 := hf13.mono le14
  have hf14 : IntsF F14 v14 ([0, 1, -1, 1, -2]) := intsH.fz (xs := [0, 1, -1, 1, -2]) hz14.fz
  show X _ _ _ _ _ _ (slH 72 2 v16 2 [v12, v13, v14, v15] :: intsH 2 v15 ([0, -1, -2] : List Int) :: L)
  refine qP [_] _ _ rfl (fun F15 le15 hz15 => ?_)
  replace hf12 := hf12.mono le15
  replace hf13 := hf13.mono le15
  replace hf14 := hf14.mono le15
  have hf15 : IntsF F15 v15 ([0, -1, -2]) := intsH.fz (xs := [0, -1, -2]) hz15.fz
  have hc4 : PairsC F15 [v12, v13, v14, v15] ([([0, -1, 2], [-1]), ([0, 1, -1, 1, -2], [0, -1, -2])] : List (List Int × List Int)) := (PairsC.snoc (PairsC.snoc (CO.nil : PairsC F15 [] []) hf12 hf13) hf14 hf15)
  refine qP [] _ _ rfl (fun F16 le16 hz16 => ?_)
  replace hc4 := hc4.mono le16
  have hf16 : PairsF F16 v16 (([([0, -1, 2], [-1]), ([0, 1, -1, 1, -2], [0, -1, -2])] : List (List Int × List Int))) := CO.fz hc4 (by first | rfl | omega | (rw [List.length_set]; omega) | (simp; done)) hz16.fz
  refine qw (qR (qq (qv (L' := L) [v16] (v16) (.tmp rfl .nil) rfl (qh (qh (qh (qh le12 le13) le14) le15) le16) rF sR ?_)))
  exact ⟨_, _, rfl, hf16, by decide, by unfold smallR; decide, allL9.of (by decide), rfl⟩
 refine qc (qa (cX (js rfl rfl (qg (.bool (decide ((k : Int) = 4))) rfl (qb ?_)))))
 refine qA (p := (k : Int) = 4) rfl (fun h5 => ?_) (fun h5 => ?_)
 ·refine qc (qa (cX (qt (s := 1) [ii (1), ii (2)] [ii (0)] [(0, [ii (1)]), (1, [ii (2)])] qd qm qJ rfl (by decide) rfl (.cons rfl (.cons rfl CellsAre.nil)) rfl ?_)))
  intro v17 hv17
  refine cX (qt (s := 1) [ii (2)] [ii (0)] [(0, [ii (2)])] qd qm qJ rfl (by decide) rfl (.cons rfl CellsAre.nil) rfl ?_)
  intro v18 hv18
  refine cX (qY [v17, v18] [sN, sN] [(0, 1), (1, 1)] [(0, [v17]), (1, [v18])] qM je rfl (.cons rfl qp (.cons rfl qp PlacesAre.nil)) rfl (.cons (cells_one (jd hv17)) (.cons (cells_one (jd hv18)) CellsAre.nil)) (cX (qt (s := 1) [ii (1), ii (0), ii (-1), ii (-2)] [ii (0)] [(0, [ii (1)]), (1, [ii (0)]), (2, [ii (-1)]), (3, [ii (-2)])] qd qm qJ rfl (by decide) rfl (.cons rfl (.cons rfl (.cons rfl (.cons rfl CellsAre.nil)))) rfl ?_)))
  intro v19 hv19
  refine cX (qt (s := 1) [ii (0), ii (1), ii (-2), ii (1), ii (-1)] [ii (0)] [(0, [ii (0)]), (1, [ii (1)]), (2, [ii (-2)]), (3, [ii (1)]), (4, [ii (-1)])] qd qm qJ rfl (by decide) rfl (.cons rfl (.cons rfl (.cons rfl (.cons rfl (.cons rfl CellsAre.nil))))) rfl ?_)
  intro v20 hv20
  refine cX (qY [v19, v20] [sN, sN] [(0, 1), (1, 1)] [(0, [v19]), (1, [v20])] qM je rfl (.cons rfl qp (.cons rfl qp PlacesAre.nil)) rfl (.cons (cells_one (jd hv19)) (.cons (cells_one (jd hv20)) CellsAre.nil)) (cX (qt (s := 2) [v17, v18, v19, v20] [sN, sN] [(0, [v17, v18]), (1, [v19, v20])] qX jm je rfl (by decide) rfl (.cons rfl (.cons rfl CellsAre.nil)) rfl ?_)))
  intro v21 hv21
  refine qg (v21) rfl (qb ?_)
  show X _ _ _ _ _ _ (slH 72 2 v21 2 [v17, v18, v19, v20] :: slH 2 1 v20 5 [ii (0), ii (1), ii (-2), ii (1), ii (-1)] :: slH 2 1 v19 4 [ii (1), ii (0), ii (-1), ii (-2)] :: slH 2 1 v18 1 [ii (2)] :: intsH 2 v17 ([1, 2] : List Int) :: L)
  refine qP [_, _, _, _] _ _ rfl (fun F17 le17 hz17 => ?_)
  have hf17 : IntsF F17 v17 ([1, 2]) := intsH.fz (xs := [1, 2]) hz17.fz
  show X _ _ _ _ _ _ (slH 72 2 v21 2 [v17, v18, v19, v20] :: slH 2 1 v20 5 [ii (0), ii (1), ii (-2), ii (1), ii (-1)] :: slH 2 1 v19 4 [ii (1), ii (0), ii (-1), ii (-2)] :: intsH 2 v18 ([2] : List Int) :: L)
  refine qP [_, _, _] _ _ rfl (fun F18 le18 hz18 => ?_)
  replace hf17 := hf17.mono le18
  have hf18 : IntsF F18 v18 ([2]) := intsH.fz (xs := [2]) hz18.fz
  show X _ _ _ _ _ _ (slH 72 2 v21 2 [v17, v18, v19, v20] :: slH 2 1 v20 5 [ii (0), ii (1), ii (-2), ii (1), ii (-1)] :: intsH 2 v19 ([1, 0, -1, -2] : List Int) :: L)
  refine qP [_, _] _ _ rfl (fun F19 le19 hz19 => ?_)
  replace hf17 := hf17.mono le19
  replace hf18 := hf18.mono le19
  have hf19 : IntsF F19 v19 ([1, 0, -1, -2]) := intsH.fz (xs := [1, 0, -1, -2]) hz19.fz
  show X _ _ _ _ _ _ (slH 72 2 v21 2 [v17, v18, v19, v20] :: intsH 2 v20 ([0, 1, -2, 1, -1] : List Int) :: L)
  refine qP [_] _ _ rfl (fun F20 le20 hz20 => ?_)
  replace hf17 := hf17.mono le20
  replace hf18 := hf18.mono le20
  replace hf19 := hf19.mono le20
  have hf20 : IntsF F20 v20 ([0, 1, -2, 1, -1]) := intsH.fz (xs := [0, 1, -2, 1, -1]) hz20.fz
  have hc5 : PairsC F20 [v17, v18, v19, v20] ([([1, 2], [2]), ([1, 0, -1, -2], [0, 1, -2, 1, -1])] : List (List Int × List Int)) := (PairsC.snoc (PairsC.snoc (CO.nil : PairsC F20 [] []) hf17 hf18) hf19 hf20)
  refine qP [] _ _ rfl (fun F21 le21 hz21 => ?_)
  replace hc5 := hc5.mono le21
  have hf21 : PairsF F21 v21 (([([1, 2], [2]), ([1, 0, -1, -2], [0, 1, -2, 1, -1])] : List (List Int × List Int))) := CO.fz hc5 (by first | rfl | omega | (rw [List.length_set]; omega) | (simp; done)) hz21.fz
  refine qw (qR (qq (qv (L' := L) [v21] (v21) (.tmp rfl .nil) rfl (qh (qh (qh (qh le17 le18) le19) le20) le21) rF sR ?_)))
  exact ⟨_, _, rfl, hf21, by decide, by unfold smallR; decide, allL9.of (by decide), rfl⟩
 refine qz (qc (qa (cX (qt (s := 1) [ii (0), ii (2), ii (-1)] [ii (0)] [(0, [ii (0)]), (1, [ii (2)]), (2, [ii (-1)])] qd qm qJ rfl (by decide) rfl (.cons rfl (.cons rfl (.cons rfl CellsAre.nil))) rfl ?_))))
 intro v22 hv22
 refine cX (qt (s := 1) [ii (-1)] [ii (0)] [(0, [ii (-1)])] qd qm qJ rfl (by decide) rfl (.cons rfl CellsAre.nil) rfl ?_)
 intro v23 hv23
 refine cX (qY [v22, v23] [sN, sN] [(0, 1), (1, 1)] [(0, [v22]), (1, [v23])] qM je rfl (.cons rfl qp (.cons rfl qp PlacesAre.nil)) rfl (.cons (cells_one (jd hv22)) (.cons (cells_one (jd hv23)) CellsAre.nil)) (cX (qt (s := 1) [ii (0), ii (-1), ii (2)] [ii (0)] [(0, [ii (0)]), (1, [ii (-1)]), (2, [ii (2)])] qd qm qJ rfl (by decide) rfl (.cons rfl (.cons rfl (.cons rfl CellsAre.nil))) rfl ?_)))
 intro v24 hv24
 refine cX (qt (s := 1) [ii (-1)] [ii (0)] [(0, [ii (-1)])] qd qm qJ rfl (by decide) rfl (.cons rfl CellsAre.nil) rfl ?_)
 intro v25 hv25
 refine cX (qY [v24, v25] [sN, sN] [(0, 1), (1, 1)] [(0, [v24]), (1, [v25])] qM je rfl (.cons rfl qp (.cons rfl qp PlacesAre.nil)) rfl (.cons (cells_one (jd hv24)) (.cons (cells_one (jd hv25)) CellsAre.nil)) (cX (qt (s := 1) [ii (0), ii (0), ii (-1), ii (-2), ii (-3)] [ii (0)] [(0, [ii (0)]), (1, [ii (0)]), (2, [ii (-1)]), (3, [ii (-2)]), (4, [ii (-3)])] qd qm qJ rfl (by decide) rfl (.cons rfl (.cons rfl (.cons rfl (.cons rfl (.cons rfl CellsAre.nil))))) rfl ?_)))
 intro v26 hv26
 refine cX (qt (s := 1) [ii (0), ii (-1), ii (0), ii (-2), ii (-3)] [ii (0)] [(0, [ii (0)]), (1, [ii (-1)]), (2, [ii (0)]), (3, [ii (-2)]), (4, [ii (-3)])] qd qm qJ rfl (by decide) rfl (.cons rfl (.cons rfl (.cons rfl (.cons rfl (.cons rfl CellsAre.nil))))) rfl ?_)
 intro v27 hv27
 refine cX (qY [v26, v27] [sN, sN] [(0, 1), (1, 1)] [(0, [v26]), (1, [v27])] qM je rfl (.cons rfl qp (.cons rfl qp PlacesAre.nil)) rfl (.cons (cells_one (jd hv26)) (.cons (cells_one (jd hv27)) CellsAre.nil)) (cX (qt (s := 2) [v22, v23, v24, v25, v26, v27] [sN, sN] [(0, [v22, v23]), (1, [v24, v25]), (2, [v26, v27])] qX jm je rfl (by decide) rfl (.cons rfl (.cons rfl (.cons rfl CellsAre.nil))) rfl ?_)))
 intro v28 hv28
 refine qg (v28) rfl (qb ?_)
 show X _ _ _ _ _ _ (slH 72 2 v28 3 [v22, v23, v24, v25, v26, v27] :: slH 2 1 v27 5 [ii (0), ii (-1), ii (0), ii (-2), ii (-3)] :: slH 2 1 v26 5 [ii (0), ii (0), ii (-1), ii (-2), ii (-3)] :: slH 2 1 v25 1 [ii (-1)] :: slH 2 1 v24 3 [ii (0), ii (-1), ii (2)] :: slH 2 1 v23 1 [ii (-1)] :: intsH 2 v22 ([0, 2, -1] : List Int) :: L)
 refine qP [_, _, _, _, _, _] _ _ rfl (fun F22 le22 hz22 => ?_)
 have hf22 : IntsF F22 v22 ([0, 2, -1]) := intsH.fz (xs := [0, 2, -1]) hz22.fz
 show X _ _ _ _ _ _ (slH 72 2 v28 3 [v22, v23, v24, v25, v26, v27] :: slH 2 1 v27 5 [ii (0), ii (-1), ii (0), ii (-2), ii (-3)] :: slH 2 1 v26 5 [ii (0), ii (0), ii (-1), ii (-2), ii (-3)] :: slH 2 1 v25 1 [ii (-1)] :: slH 2 1 v24 3 [ii (0), ii (-1), ii (2)] :: intsH 2 v23 ([-1] : List Int) :: L)
 refine qP [_, _, _, _, _] _ _ rfl (fun F23 le23 hz23 => ?_)
 replace hf22 := hf22.mono le23
 have hf23 : IntsF F23 v23 ([-1]) := intsH.fz (xs := [-1]) hz23.fz
 show X _ _ _ _ _ _ (slH 72 2 v28 3 [v22, v23, v24, v25, v26, v27] :: slH 2 1 v27 5 [ii (0), ii (-1), ii (0), ii (-2), ii (-3)] :: slH 2 1 v26 5 [ii (0), ii (0), ii (-1), ii (-2), ii (-3)] :: slH 2 1 v25 1 [ii (-1)] :: intsH 2 v24 ([0, -1, 2] : List Int) :: L)
 refine qP [_, _, _, _] _ _ rfl (fun F24 le24 hz24 => ?_)
 replace hf22 := hf22.mono le24
 replace hf23 := hf23.mono le24
 have hf24 : IntsF F24 v24 ([0, -1, 2]) := intsH.fz (xs := [0, -1, 2]) hz24.fz
 show X _ _ _ _ _ _ (slH 72 2 v28 3 [v22, v23, v24, v25, v26, v27] :: slH 2 1 v27 5 [ii (0), ii (-1), ii (0), ii (-2), ii (-3)] :: slH 2 1 v26 5 [ii (0), ii (0), ii (-1), ii (-2), ii (-3)] :: intsH 2 v25 ([-1] : List Int) :: L)
 refine qP [_, _, _] _ _ rfl (fun F25 le25 hz25 => ?_)
 replace hf22 := hf22.mono le25
 replace hf23 := hf23.mono le25
 replace hf24 := hf24.mono le25
 have hf25 : IntsF F25 v25 ([-1]) := intsH.fz (xs := [-1]) hz25.fz
 show X _ _ _ _ _ _ (slH 72 2 v28 3 [v22, v23, v24, v25, v26, v27] :: slH 2 1 v27 5 [ii (0), ii (-1), ii (0), ii (-2), ii (-3)] :: intsH 2 v26 ([0, 0, -1, -2, -3] : List Int) :: L)
 refine qP [_, _] _ _ rfl (fun F26 le26 hz26 => ?_)
 replace hf22 := hf22.mono le26
 replace hf23 := hf23.mono le26
 replace hf24 := hf24.mono le26
 replace hf25 := hf25.mono le26
 have hf26 : IntsF F26 v26 ([0, 0, -1, -2, -3]) := intsH.fz (xs := [0, 0, -1, -2, -3]) hz26.fz
 show X _ _ _ _ _ _ (slH 72 2 v28 3 [v22, v23, v24, v25, v26, v27] :: intsH 2 v27 ([0, -1, 0, -2, -3] : List Int) :: L)
 refine qP [_] _ _ rfl (fun F27 le27 hz27 => ?_)
 replace hf22 := hf22.mono le27
 replace hf23 := hf23.mono le27
 replace hf24 := hf24.mono le27
 replace hf25 := hf25.mono le27
 replace hf26 := hf26.mono le27
 have hf27 : IntsF F27 v27 ([0, -1, 0, -2, -3]) := intsH.fz (xs := [0, -1, 0, -2, -3]) hz27.fz
 have hc6 : PairsC F27 [v22, v23, v24, v25, v26, v27] ([([0, 2, -1], [-1]), ([0, -1, 2], [-1]), ([0, 0, -1, -2, -3], [0, -1, 0, -2, -3])] : List (List Int × List Int)) := (PairsC.snoc (PairsC.snoc (PairsC.snoc (CO.nil : PairsC F27 [] []) hf22 hf23) hf24 hf25) hf26 hf27)
 refine qP [] _ _ rfl (fun F28 le28 hz28 => ?_)
 replace hc6 := hc6.mono le28
 have hf28 : PairsF F28 v28 (([([0, 2, -1], [-1]), ([0, -1, 2], [-1]), ([0, 0, -1, -2, -3], [0, -1, 0, -2, -3])] : List (List Int × List Int))) := CO.fz hc6 (by first | rfl | omega | (rw [List.length_set]; omega) | (simp; done)) hz28.fz
 refine qw (qv (L' := L) [v28] (v28) (.tmp rfl .nil) rfl (qh (qh (qh (qh (qh (qh le22 le23) le24) le25) le26) le27) le28) rF sR ?_)
 exact ⟨_, _, rfl, hf28, by decide, by unfold smallR; decide, allL9.of (by decide), rfl⟩

/- laws.w9System -/
set_option maxHeartbeats 1000000 in
set_option maxRecDepth 20000 in
theorem w9SystemG_spec {F : FH} {L : List HP} {cb : Nat} {bsv : Value} {bs : List Int} (hbs : BytesF F bsv bs) (hbl : bs.length ≤ 4000000) :
    Does prog 45 [ptr cb 0] F (curH .u64 88 cb bsv bs.length :: L) (fun v F' L' => (∃ (a : Value), ∃ (b : Value), ∃ (rs : List (List Int × List Int)), (.agg #[a, b] : Value) = v ∧ (IntsF F' a [2, 1, 0]) ∧ (PairsF F' b rs) ∧ (smallS [2, 1, 0] rs) ∧ (allL9 rs) ∧ (1 ≤ rs.length ∧ rs.length ≤ 4)) ∧ curH .u64 88 cb bsv bs.length :: L = L') := by
 refine qI func45 rfl rfl rfl (qc (qa (cX (jo [sN, sN] zeroValue32 rfl ?_))))
 intro b1
 refine qb (qc (qa (cX (qr (args := []) call106 rfl (w9Sig_spec ) ?_))))
 rintro _ F1 _ le1 ⟨x1, rfl, hr1, rfl⟩
 replace hbs := hbs.mono le1
 refine cX (qY [x1, sN] [sN, sN] [(0, 1), (1, 1)] [(0, [x1])] qK zeroValue32 rfl (.cons rfl qF (.cons rfl jv PlacesAre.nil)) rfl (.cons rfl CellsAre.nil) (cX (jo [sN, sN] zeroValue32 rfl ?_)))
 intro b2
 refine cX (qV [] _ [x1, sN] jp rfl rfl rfl (qs (jb (qD hr1)) (qs rfl qZ)) rfl rfl rfl (qb (qc (qc (qa (qf (ptr cb 0) rfl (cX (qr (args := [ptr cb 0, ii (2)]) call14 rfl (jN [_, _] (below_spec (n := 2) hbs (by omega) (hn := (by first | assumption | rfl | omega | simp)))) ?_))))))))
 rintro _ _ _ _ ⟨⟨rfl, x2, rfl, hr2⟩, rfl⟩
 show XL _ _ _ _ _ _ _ (cellsH b2 [x1, sN] 32 :: cellsH b1 [sN, sN] 32 :: curH .u64 88 cb bsv bs.length :: L)
 refine cX (js rfl rfl (qb ?_))
 refine qA (p := (x2 : Int) = 0) rfl (fun h1 => ?_) (fun h1 => ?_)
 ·refine qc (qa (qf (ptr cb 0) rfl (cX (qr (args := [ptr cb 0, ii (6)]) call14 rfl (jN [_, _] (below_spec (n := 6) hbs (by omega) (hn := (by first | assumption | rfl | omega | simp)))) ?_))))
  rintro _ _ _ _ ⟨⟨rfl, x3, rfl, hr3⟩, rfl⟩
  show XL _ _ _ _ _ _ _ (cellsH b2 [x1, sN] 32 :: cellsH b1 [sN, sN] 32 :: curH .u64 88 cb bsv bs.length :: L)
  refine cX (qr (args := [ii (x3)]) call107 rfl (w9KnownG_spec (k := x3)) ?_)
  rintro _ F4 _ le4 ⟨x4, x5, rfl, hr4, hr5, hr6, hr7, rfl⟩
  replace hbs := hbs.mono le4
  replace hr1 := hr1.mono le4
  refine cX (qo (1) qK rfl jv (by decide) rfl rfl (cX (jx [] _ [x1, x4] jv rfl rfl (jb (PairsF.isSl hr4)) rfl rfl rfl (qb (qc (qa (cX (qy [x1, x4] jF jp rfl rfl (Rd.ownN [] rfl rfl) (cX (qV [_] _ [x1, x4] jp rfl rfl rfl (qs (jb (qD hr1)) (qs (jb (PairsF.isSl hr4)) qZ)) rfl rfl rfl (qb (qw (qq (qv (L' := curH .u64 88 cb bsv bs.length :: L) [.agg #[x1, x4]] (.agg #[x1, x4]) (.cell rfl (ju [x1, x4] jF jp rfl (Rd.ownN [_] rfl rfl)) .nil) rfl (qh le1 le4) rF (sD (sD (sC sR))) ?_))))))))))))))
  exact ⟨⟨_, _, _, rfl, hr1, hr4, smallS.mk' (by decide) (by have h9 := hr5; omega) hr6, hr7, by have h9 := hr5; omega⟩, rfl⟩
 refine qz (qc (qc (qa (qf (ptr cb 0) rfl (cX (qr (args := [ptr cb 0, ii (3)]) call14 rfl (jN [_, _] (below_spec (n := 3) hbs (by omega) (hn := (by first | assumption | rfl | omega | simp)))) ?_))))))
 rintro _ _ _ _ ⟨⟨rfl, x6, rfl, hr8⟩, rfl⟩
 show XL _ _ _ _ _ _ _ (cellsH b2 [x1, sN] 32 :: cellsH b1 [sN, sN] 32 :: curH .u64 88 cb bsv bs.length :: L)
 refine cX (qS (1 + x6) rfl rfl (by omega) (by omega) (qg (ii (1 + x6)) rfl (qb (qL (jn (α := Nat × Value × List (List Int × List Int) × List Value × Nat × FH) (fun xQ => [(0, ptr cb 0), (2, ptr b1 0), (3, ptr b2 0), (4, ii (((xQ.1 : Nat) : Int)))]) (fun xQ => slH 72 2 xQ.2.1 xQ.2.2.2.2.1 xQ.2.2.2.1 :: cellsH b2 [x1, xQ.2.1] 32 :: cellsH b1 [sN, sN] 32 :: curH .u64 88 cb bsv bs.length :: L) (fun xQ F' => xQ.2.2.2.2.2 = F' ∧ F1 ≤ xQ.2.2.2.2.2 ∧ (IsSl xQ.2.1) ∧ (PairsC xQ.2.2.2.2.2 xQ.2.2.2.1 xQ.2.2.1) ∧ (xQ.2.2.2.2.1 = xQ.2.2.1.length) ∧ (1 ≤ xQ.2.2.1.length + xQ.1 ∧ xQ.2.2.1.length + xQ.1 ≤ 4) ∧ (smallR xQ.2.2.1) ∧ (allL9 xQ.2.2.1)) (fun xQ => xQ.1) ((1 + x6).toNat, sN, [], [], 0, F1) ⟨rfl, rfl, rfl, (vI (by omega)), ⟨⟩⟩ (jE (Sub.addNil 72 2 _ _) (sC (sC (sC (sC sR))))) ⟨rfl, FLe.refl _, (⟨_, _, _, rfl⟩), (CO.nil), (rfl), (by (try dsimp only); simp only [List.length_nil]; omega), (smallR.nil), (allL9.nil)⟩ ?_)))))
 rintro ⟨n, ov, os, cs, m, G1⟩ rE _ _ ⟨rfl, leG, hov, hC, hm, hon, hos, hoL⟩
 show X _ _ _ _ (envs [(0, ptr cb 0), (2, ptr b1 0), (3, ptr b2 0), (4, ii ((n : Int)))] rE) _ (slH 72 2 ov m cs :: cellsH b2 [x1, ov] 32 :: cellsH b1 [sN, sN] 32 :: curH .u64 88 cb bsv bs.length :: L)
 replace leG : F1 ≤ G1 := leG
 dsimp only at hov hC hm hon hos hoL
 have leG1 := leG
 replace hbs := hbs.mono leG1
 replace hr1 := hr1.mono leG1
 refine qc (qc (qa (qf (ii ((n : Int))) rfl (cX (jL rfl rfl (qb ?_))))))
 refine qA (p := (n : Int) > 0) rfl (fun h2 => ?_) (fun h2 => ?_)
 ·refine qz (qc (qL ?_))
  refine X.drawG [slH 72 2 ov m cs, cellsH b2 [x1, ov] 32, cellsH b1 [sN, sN] 32, curH .u64 88 cb bsv bs.length] L 5 [[], [], [], [], [3]] [[], [0], [], [2], [3]] [] (phiG [pe (ptr b2 1), pe ov, pe (ptr cb 0), fun FF us v => (.agg #[((aggAt v 0)), ((aggAt v 1))] : Value) = v ∧ (SomesF FF ((aggAt v 0)) (fun u => L9 u)) ∧ (SomesF FF ((aggAt v 1)) (fun w => w.length ≤ 2000)), fun FF us v => ∃ b, v = .slice (some ⟨b, 0, none⟩) 1 1]) (ownL [o0, o0, o0, o0, fun us v => [slH 72 2 v 1 [((aggAt (us.getD 0 undef) 0)), ((aggAt (us.getD 0 undef) 1))]]]) mixed rfl rfl (by kernel_rfl) (by kernel_rfl) (MonoG.get (m1 (m1 (m1 (mC (fun le h => ⟨h.1, h.2.1.mono le, h.2.2.mono le⟩) (mC (fun le h => h) MonoG.nil)))))) ?_ ?_
  ·refine gD (fun W Fs R lF z9 => ?_) ?_
   ·refine qj (qo (1) qK rfl jv (by decide) rfl rfl ?_)
    exact ⟨rfl, rfl⟩
   refine gD (fun W Fs R lF z9 => ?_) ?_
   ·replace hbs := hbs.mono lF
    replace hr1 := hr1.mono lF
    replace hC := hC.mono lF
    rw [eS (l := [(0, _)]) ⟨z9 0 rfl, ⟨⟩⟩]
    refine qj (qi jQ rfl (Rd.own [_] rfl rfl) ?_)
    exact ⟨rfl, rfl⟩
   refine gD (fun W Fs R lF z9 => ?_) ?_
   ·refine qj (ql (ptr cb 0) rfl ?_)
    exact ⟨rfl, rfl⟩
   refine gD (fun W Fs R lF z9 => ?_) ?_
   ·replace hbs := hbs.mono lF
    replace hr1 := hr1.mono lF
    replace hC := hC.mono lF
    rw [eS (l := [(2, _)]) ⟨z9 2 rfl, ⟨⟩⟩]
    refine qj (qr (args := [ptr cb 0]) call108 rfl (jN [_, _, _] (w9RuleG_spec hbs (by omega))) ?_)
    rintro _ F7 _ le7 ⟨⟨x9, x10, rfl, hr11, hr12⟩, rfl⟩
    replace hr1 := hr1.mono le7
    replace hC := hC.mono le7
    exact ⟨⟨rfl, hr11, hr12⟩, rfl⟩
   refine gD (fun W Fs R lF z9 => ?_) ?_
   ·obtain ⟨e3, f3_1hp_a, f3_1hp_b⟩ := z9 3 rfl
    obtain ⟨t3X1_a, f3_1hp_a, q3_1_a0⟩ := f3_1hp_a
    obtain ⟨t3X1_b, f3_1hp_b, q3_1_b0⟩ := f3_1hp_b
    replace hr1 := hr1.mono lF
    replace hC := hC.mono lF
    rw [eS (l := [(3, (.agg #[((aggAt (W 3) 0)), ((aggAt (W 3) 1))]))]) ⟨(e3).symm, ⟨⟩⟩]
    refine qj (qt (s := 2) [((aggAt (W 3) 0)), ((aggAt (W 3) 1))] [sN, sN] [(0, [((aggAt (W 3) 0)), ((aggAt (W 3) 1))])] qX jm je rfl (by decide) rfl (.cons rfl CellsAre.nil) rfl ?_)
    intro v2 hv2
    exact ⟨hv2, rfl⟩
   exact stepsG.nil
  intro W F8 le8 hphi
  obtain ⟨e3, f3_1hp_a, f3_1hp_b⟩ := hphi 3 (by decide)
  obtain ⟨t3X1_a, f3_1hp_a, q3_1_a0⟩ := f3_1hp_a
  obtain ⟨t3X1_b, f3_1hp_b, q3_1_b0⟩ := f3_1hp_b
  have f4 : ∃ b, (W 4) = .slice (some ⟨b, 0, none⟩) 1 1 := hphi 4 (by decide)
  generalize hu1 : ((aggAt (W 3) 0)) = u1 at e3 f3_1hp_a f3_1hp_b f4
  generalize hu2 : ((aggAt (W 3) 1)) = u2 at e3 f3_1hp_a f3_1hp_b f4
  generalize hu4 : W 4 = u3 at e3 f3_1hp_a f3_1hp_b f4
  rw [eS (l := [(1, _), (3, (.agg #[u1, u2])), (4, u3)]) ⟨(hphi 1 (by decide)), (e3).symm, hu4, ⟨⟩⟩]
  replace hr1 := hr1.mono le8
  replace hC := hC.mono le8
  show XL _ _ _ _ _ _ _ (slH 72 2 u3 1 [u1, u2] :: slH 72 2 ov m cs :: cellsH b2 [x1, ov] 32 :: cellsH b1 [sN, sN] 32 :: curH .u64 88 cb bsv bs.length :: L)
  refine cX (XOp.append (m := 1) (bytes := 48) (cs := cs) [_] _ [u1, u2] qX typeInfo72 rfl rfl rfl rfl rfl rfl rfl (SlV.own [] rfl) rfl (Rd.lit [] rfl) (qs (jb (qD f3_1hp_a)) (qs (jb (qD f3_1hp_b)) qZ)) (by (try simp only [List.length_append, List.length_nil, List.length_cons, List.length_singleton]); omega) (by (try simp only [List.length_append, List.length_nil, List.length_cons, List.length_singleton]); omega) ?_)
  intro v3 hs1 hn1 hm1
  have hc1 := PairsC.snoc hC f3_1hp_a f3_1hp_b
  refine cX (qo (1) qK rfl jv (by decide) rfl rfl (cX (jx [_, _] _ [x1, v3] jv rfl rfl (jb hs1) rfl rfl rfl (qb (qa (qf (ii ((n : Int))) rfl (cX (jf (((n : Int)) - 1) rfl rfl (by omega) (by omega) (qg (ii (((n : Int)) - 1)) rfl (qb ?_))))))))))
  exact ⟨(n - 1, v3, os ++ [(t3X1_a, t3X1_b)], cs ++ [u1, u2], (m) + 1, F8), _, (qh leG1 le8), rF, ⟨rfl, rfl, rfl, (vI (by (try dsimp only); omega)), ⟨⟩⟩, (sD (sC (sC (sC (sC sR))))), ⟨rfl, (qh leG1 le8), (hs1), (hc1), (by (try dsimp only); rw [List.length_append]; simp only [List.length_singleton]; omega), (by (try dsimp only); rw [List.length_append]; simp only [List.length_singleton]; omega), (smallR.snoc hos (Nat.le_trans (q3_1_a0).2.1 (by decide)) q3_1_b0), (allL9.snoc hoL q3_1_a0)⟩, (by (try dsimp only); omega)⟩
 refine jj (qx (qx (qO (qc (qa (cX (qy [x1, ov] jF jp rfl rfl (Rd.ownN [_] rfl rfl) (cX (qV [_, _] _ [x1, ov] jp rfl rfl rfl (qs (jb (qD hr1)) (qs (jb hov) qZ)) rfl rfl rfl (qb (qP [] _ _ rfl (fun F9 le9 hz1 => ?_))))))))))))
 replace hr1 := hr1.mono le9
 replace hC := hC.mono le9
 have hf1 : PairsF F9 ov os := CO.fz hC (by first | rfl | omega | (rw [List.length_set]; omega) | (simp; done)) hz1.fz
 refine qw (qv (L' := curH .u64 88 cb bsv bs.length :: L) [.agg #[x1, ov]] (.agg #[x1, ov]) (.cell rfl (ju [x1, ov] jF jp rfl (Rd.ownN [_] rfl rfl)) .nil) rfl (qh (qh le1 leG1) le9) rF (sD (sD (sC sR))) ?_)
 exact ⟨⟨_, _, _, rfl, hr1, hf1, smallS.mk' (by decide) (by omega) hos, hoL, by omega⟩, rfl⟩
theorem w9TermF_spec {F : FH} {L : List HP} {cb : Nat} {bsv : Value} {bs : List Int} (hbs : BytesF F bsv bs) (hbl : bs.length ≤ 4000000) {dp : Nat} {vs : Int} (hdp : dp ≤ 3) (hvs : 0 ≤ vs ∧ vs ≤ 24) : Does prog 110 [ptr cb 0, ii ((dp : Nat) : Int), .int .i64 vs] F (curH .u64 88 cb bsv bs.length :: L) (fun v F' L' => (∃ (a : Value), (a : Value) = v ∧ (SomesF F' a (fun t => goodT [2, 1, 0] t ∧ 1 ≤ t.length ∧ t.length ≤ sz9 dp))) ∧ curH .u64 88 cb bsv bs.length :: L = L') := by
  refine Does.freeze ((w9TermG_spec dp hbs hbl hdp hvs).mono ?_)
  rintro _ F' _ le ⟨a, ⟨rfl, hs⟩, rfl⟩
  refine ⟨_, rfl, fun F2 le2 hz => ?_⟩
  obtain ⟨m, ⟨t, hq, hm⟩, h2, h3⟩ := hz
  exact ⟨⟨_, rfl, t, intsH.fz (E := 2) (Fresh.fz ⟨m, hm, h2, h3⟩), hq⟩, rfl⟩

/- laws.w9Subst -/
set_option maxHeartbeats 1000000 in
set_option maxRecDepth 20000 in
theorem w9Subst_spec {F : FH} {L : List HP} {cb : Nat} {bsv : Value} {bs : List Int} (hbs : BytesF F bsv bs) (hbl : bs.length ≤ 4000000) :
    Does prog 47 [ptr cb 0] F (curH .u64 88 cb bsv bs.length :: L) (fun v F' L' => (∃ (a : Value), (.agg #[a] : Value) = v ∧ (SomeRowsF F' a (fun s => S9 s ∧ s.length ≤ 4))) ∧ curH .u64 88 cb bsv bs.length :: L = L') := by
 refine qI func47 rfl rfl rfl (qc (qa (cX (jo [sN] jy rfl ?_))))
 intro b1
 refine qb (qc (qa (cX (qY [sN] [sN] [(0, 1)] [] qU jy rfl (.cons rfl jh PlacesAre.nil) rfl CellsAre.nil (cX (jo [sN] jy rfl ?_))))))
 intro b2
 refine cX (qV [] _ [sN] jl rfl rfl rfl (qs rfl qZ) rfl rfl rfl (qb (qc (qc (qa (qf (ptr cb 0) rfl (cX (qr (args := [ptr cb 0, ii (4)]) call14 rfl (jN [_, _] (below_spec (n := 4) hbs (by omega) (hn := (by first | assumption | rfl | omega | simp)))) ?_))))))))
 rintro _ _ _ _ ⟨⟨rfl, x1, rfl, hr1⟩, rfl⟩
 show XL _ _ _ _ _ _ _ (cellsH b2 [sN] 50 :: cellsH b1 [sN] 50 :: curH .u64 88 cb bsv bs.length :: L)
 refine qg (ii (x1)) rfl (qb (qL (jn (α := Nat × Value × List (List Int) × List Value × Nat × FH) (fun xQ => [(0, ptr cb 0), (2, ptr b1 0), (3, ptr b2 0), (4, ii (((xQ.1 : Nat) : Int)))]) (fun xQ => slH 27 1 xQ.2.1 xQ.2.2.2.2.1 xQ.2.2.2.1 :: cellsH b2 [xQ.2.1] 50 :: cellsH b1 [sN] 50 :: curH .u64 88 cb bsv bs.length :: L) (fun xQ F' => xQ.2.2.2.2.2 = F' ∧ F ≤ xQ.2.2.2.2.2 ∧ (IsSl xQ.2.1) ∧ (RowsC xQ.2.2.2.2.2 xQ.2.2.2.1 xQ.2.2.1) ∧ (xQ.2.2.2.2.1 = xQ.2.2.1.length) ∧ (xQ.2.2.1.length + xQ.1 ≤ 4) ∧ (S9 xQ.2.2.1)) (fun xQ => xQ.1) ((x1).toNat, sN, [], [], 0, F) ⟨rfl, rfl, rfl, (vI (by omega)), ⟨⟩⟩ (jE (Sub.addNil 27 1 _ _) (sC (sC (sC (sC sR))))) ⟨rfl, FLe.refl _, (⟨_, _, _, rfl⟩), (CO.nil), (rfl), (by (try dsimp only); simp only [List.length_nil]; omega), (S9.nil)⟩ ?_)))
 rintro ⟨n, ov, os, cs, m, G1⟩ rE _ _ ⟨rfl, leG, hov, hC, hm, hon, hos⟩
 show X _ _ _ _ (envs [(0, ptr cb 0), (2, ptr b1 0), (3, ptr b2 0), (4, ii ((n : Int)))] rE) _ (slH 27 1 ov m cs :: cellsH b2 [ov] 50 :: cellsH b1 [sN] 50 :: curH .u64 88 cb bsv bs.length :: L)
 replace leG : F ≤ G1 := leG
 dsimp only at hov hC hm hon hos
 have leG1 := leG
 replace hbs := hbs.mono leG1
 refine qc (qc (qa (qf (ii ((n : Int))) rfl (cX (jL rfl rfl (qb ?_))))))
 refine qA (p := (n : Int) > 0) rfl (fun h1 => ?_) (fun h1 => ?_)
 ·refine qz (qc (qL ?_))
  refine X.drawG [slH 27 1 ov m cs, cellsH b2 [ov] 50, cellsH b1 [sN] 50, curH .u64 88 cb bsv bs.length] L 5 [[], [], [], [], [3]] [[], [0], [], [2], [3]] [] (phiG [pe (ptr b2 0), pe ov, pe (ptr cb 0), fun FF us v => ((v) : Value) = v ∧ (SomesF FF (v) (fun t => goodT [2, 1, 0] t ∧ 1 ≤ t.length ∧ t.length ≤ sz9 2)), fun FF us v => ∃ b, v = .slice (some ⟨b, 0, none⟩) 1 1]) (ownL [o0, o0, o0, o0, fun us v => [slH 27 1 v 1 [((us.getD 0 undef))]]]) mixed rfl rfl (by kernel_rfl) (by kernel_rfl) (MonoG.get (m1 (m1 (m1 (mC (fun le h => ⟨h.1, h.2.mono le⟩) (mC (fun le h => h) MonoG.nil)))))) ?_ ?_
  ·refine gD (fun W Fs R lF z9 => ?_) ?_
   ·refine qj (qo (0) qU rfl jh (by decide) rfl rfl ?_)
    exact ⟨rfl, rfl⟩
   refine gD (fun W Fs R lF z9 => ?_) ?_
   ·replace hbs := hbs.mono lF
    replace hC := hC.mono lF
    rw [eS (l := [(0, _)]) ⟨z9 0 rfl, ⟨⟩⟩]
    refine qj (qi jH rfl (Rd.own [_] rfl rfl) ?_)
    exact ⟨rfl, rfl⟩
   refine gD (fun W Fs R lF z9 => ?_) ?_
   ·refine qj (ql (ptr cb 0) rfl ?_)
    exact ⟨rfl, rfl⟩
   refine gD (fun W Fs R lF z9 => ?_) ?_
   ·replace hbs := hbs.mono lF
    replace hC := hC.mono lF
    rw [eS (l := [(2, _)]) ⟨z9 2 rfl, ⟨⟩⟩]
    refine qj (qr (args := [ptr cb 0, ii ((2 : Nat) : Int), ii (2)]) call110 rfl (jN [_, _, _] (w9TermF_spec (dp := 2) (vs := 2) hbs (by omega) (hdp := (by first | assumption | rfl | omega | simp)) (hvs := (by first | assumption | rfl | omega | simp)))) ?_)
    rintro _ F3 _ le3 ⟨⟨x3, rfl, hr3⟩, rfl⟩
    replace hC := hC.mono le3
    exact ⟨⟨rfl, hr3⟩, rfl⟩
   refine gD (fun W Fs R lF z9 => ?_) ?_
   ·obtain ⟨e3, f3_1hp_a⟩ := z9 3 rfl
    obtain ⟨t3X1_a, f3_1hp_a, q3_1_a0, q3_1_a1, q3_1_a2⟩ := f3_1hp_a
    replace hC := hC.mono lF
    rw [eS (l := [(3, ((W 3)))]) ⟨(e3).symm, ⟨⟩⟩]
    refine qj (qt (s := 1) [((W 3))] [sN] [(0, [((W 3))])] qB qp jT rfl (by decide) rfl (.cons (cells_one (qD f3_1hp_a)) CellsAre.nil) rfl ?_)
    intro v2 hv2
    exact ⟨hv2, rfl⟩
   exact stepsG.nil
  intro W F4 le4 hphi
  obtain ⟨e3, f3_1hp_a⟩ := hphi 3 (by decide)
  obtain ⟨t3X1_a, f3_1hp_a, q3_1_a0, q3_1_a1, q3_1_a2⟩ := f3_1hp_a
  have f4 : ∃ b, (W 4) = .slice (some ⟨b, 0, none⟩) 1 1 := hphi 4 (by decide)
  generalize hu1 : ((W 3)) = u1 at e3 f3_1hp_a f4
  generalize hu4 : W 4 = u2 at e3 f3_1hp_a f4
  rw [eS (l := [(1, _), (3, u1), (4, u2)]) ⟨(hphi 1 (by decide)), hu1, hu4, ⟨⟩⟩]
  replace hC := hC.mono le4
  show XL _ _ _ _ _ _ _ (slH 27 1 u2 1 [u1] :: slH 27 1 ov m cs :: cellsH b2 [ov] 50 :: cellsH b1 [sN] 50 :: curH .u64 88 cb bsv bs.length :: L)
  refine cX (XOp.append (m := 1) (bytes := 24) (cs := cs) [_] _ [u1] qB typeInfo27 rfl rfl rfl rfl rfl rfl rfl (SlV.own [] rfl) rfl (Rd.lit [] rfl) (qs (jb (qD f3_1hp_a)) qZ) (by (try simp only [List.length_append, List.length_nil, List.length_cons, List.length_singleton]); omega) (by (try simp only [List.length_append, List.length_nil, List.length_cons, List.length_singleton]); omega) ?_)
  intro v3 hs1 hn1 hm1
  have hc1 := RowsC.snoc hC f3_1hp_a
  refine cX (qo (0) qU rfl jh (by decide) rfl rfl (cX (jx [_, _] _ [v3] jh rfl rfl (jb hs1) rfl rfl rfl (qb (qa (qf (ii ((n : Int))) rfl (cX (jf (((n : Int)) - 1) rfl rfl (by omega) (by omega) (qg (ii (((n : Int)) - 1)) rfl (qb ?_))))))))))
  exact ⟨(n - 1, v3, os ++ [t3X1_a], cs ++ [u1], (m) + 1, F4), _, (qh leG1 le4), rF, ⟨rfl, rfl, rfl, (vI (by (try dsimp only); omega)), ⟨⟩⟩, (sD (sC (sC (sC (sC sR))))), ⟨rfl, (qh leG1 le4), (hs1), (hc1), (by (try dsimp only); rw [List.length_append]; simp only [List.length_singleton]; omega), (by (try dsimp only); rw [List.length_append]; simp only [List.length_singleton]; omega), (hos.snoc (goodT.ok (by decide) ⟨q3_1_a1, by have h9 := q3_1_a2; have h8 : sz9 2 = 3 := rfl; omega⟩ q3_1_a0) (by have h9 := q3_1_a2; have h8 : sz9 2 = 3 := rfl; omega))⟩, (by (try dsimp only); omega)⟩
 refine jj (qx (qx (qO (qc (qa (cX (qy [ov] jG jl rfl rfl (Rd.ownN [_] rfl rfl) (cX (qV [_, _] _ [ov] jl rfl rfl rfl (qs (jb hov) qZ) rfl rfl rfl (qb (qP [] _ _ rfl (fun F5 le5 hz1 => ?_))))))))))))
 replace hC := hC.mono le5
 have hf1 : RowsF F5 ov os := CO.fz hC (by first | rfl | omega | (rw [List.length_set]; omega) | (simp; done)) hz1.fz
 refine qw (qv (L' := curH .u64 88 cb bsv bs.length :: L) [.agg #[ov]] (.agg #[ov]) (.cell rfl (ju [ov] jG jl rfl (Rd.ownN [_] rfl rfl)) .nil) rfl (qh leG1 le5) rF (sD (sD (sC sR))) ?_)
 exact ⟨⟨_, rfl, ⟨_, hf1, hos, by omega⟩⟩, rfl⟩

/- spec.SymPlaces -/
theorem SymPlaces_spec {F : FH} {L : List HP} {arv : Value} {ar : List Int} (har : IntsF F arv ar) {tv : Value} {t : List Int} (ht : IntsF F tv t) (hok : termOk ar t = true) (hla : ar.length ≤ 4000000) :
    Does prog 48 [.agg #[arv], tv] F (L) (fun v F' L' => F = F' ∧ IsSl v ∧ intsH 2 v (symTo t t.length) :: L = L') := by
 refine qI func48 rfl rfl rfl ?_
 have htl := termOk_len hok
 refine qc (qa (cX (jc [arv] rfl rfl ?_)))
 intro b1
 refine qg (sN) rfl (qb (qc (qa (cX (qt (s := 1) [] [ii (0)] [] qd qm qJ rfl (by decide) rfl CellsAre.nil rfl ?_)))))
 intro v1 hv1
 refine qg (v1) rfl (qb (qc (qc (qa (qg (ii (0)) rfl (qb (qL ?_)))))))
 show X _ _ _ _ _ _ (intsH 2 v1 ([] : List Int) :: cellsH b1 [arv] 29 :: L)
 refine jn (α := Nat × Value × List Int) (fun xQ => [(1, tv), (2, ptr b1 0), (5, xQ.2.1), (6, ii (((xQ.1 : Nat) : Int)))]) (fun xQ => intsH 2 xQ.2.1 xQ.2.2 :: cellsH b1 [arv] 29 :: L) (fun xQ F' => F = F' ∧ (IsSl xQ.2.1) ∧ (xQ.1 ≤ t.length) ∧ (xQ.2.2 = symTo t xQ.1) ∧ (xQ.2.2.length ≤ xQ.1)) (fun xQ => t.length - xQ.1) (0, v1, []) ⟨rfl, rfl, rfl, rfl, ⟨⟩⟩ (sC (sC sR)) ⟨rfl, ((jd hv1)), (by (try dsimp only) <;> omega), (rfl), (Nat.le_refl _)⟩ ?_
 rintro ⟨k, ov, os⟩ rE _ _ ⟨rfl, hov, hk, hos, hol⟩
 show X _ _ _ _ (envs [(1, tv), (2, ptr b1 0), (5, ov), (6, ii ((k : Int)))] rE) _ (intsH 2 ov os :: cellsH b1 [arv] 29 :: L)
 dsimp only at hov hk hos hol
 refine qc (qc (qa (qf (ii ((k : Int))) rfl (qf (tv) rfl (cX (qE qd rfl ht.slv (cX (qT rfl rfl (qf (.bool (decide ((k : Int) < (t.length : Int)))) rfl ?_)))))))))
 by_cases h1 : (k : Int) < (t.length : Int)
 ·refine qk (t := 12) rfl (vT h1) (qy [arv] ja qF rfl rfl (Rd.ownN [_] rfl rfl) (qk (t := 12) rfl (vT h1) (ql (tv) rfl (qk (t := 12) rfl (vT h1) (qr (args := [.agg #[arv], tv]) call81 rfl (sTermOk_spec har ht (hla := (by first | assumption | rfl | omega | simp)) (hlt := (by first | assumption | rfl | omega | simp))) ?_)))))
  rintro _ _ _ _ ⟨rfl, rfl, rfl⟩
  refine cX (qN (.bool (termOk ar t)) (vT h1) rfl (qb ?_))
  refine jO (t := termOk ar t) rfl (fun h2 => ?_) (fun h2 => ?_)
  ·refine qz (qc (qL (qc (qa (qf (tv) rfl (qf (ii ((k : Int))) rfl (cX (qu k qd qm rfl rfl rfl ht.slv (by omega) (Nat.mul_one _) (cX (qi qQ rfl (ht.rd (by omega)) (cX (jP rfl rfl (qb ?_)))))))))))))
   refine qA (p := (t.getD k 0 : Int) ≥ 0) rfl (fun h3 => ?_) (fun h3 => ?_)
   ·have hsy : 0 ≤ t.getD k 0 := h3
    refine qa (qf (ov) rfl (qf (ii ((k : Int))) rfl (cX (qt (s := 1) [ii ((k : Int))] [ii (0)] [(0, [ii ((k : Int))])] qd qm qJ rfl (by decide) rfl (.cons rfl CellsAre.nil) rfl ?_))))
    intro v2 hv2
    refine cX (ye (u := (k : Int)) [_] _ qd typeInfo2 rfl rfl rfl rfl rfl rfl (SlV.own [] rfl) (Rd.sl [] rfl rfl) (by (try simp only [List.length_append, List.length_nil, List.length_cons, List.length_singleton, List.length_take, List.length_drop]); omega) ?_)
    intro v3 hs1 hn1
    refine qg (v3) rfl (qb (qa (qf (ii ((k : Int))) rfl (cX (qS (((k + 1 : Nat) : Int)) rfl rfl (by omega) (by omega) (qg (ii (((k + 1 : Nat) : Int))) rfl (qb ?_)))))))
    exact ⟨(k + 1, v3, os ++ [(k : Int)]), _, FLe.refl _, rF, ⟨rfl, rfl, rfl, rfl, ⟨⟩⟩, (sD (sC (sC sR))), ⟨rfl, (hs1), (by (try dsimp only) <;> omega), (by (try dsimp only); rw [hos]; first | exact (symTo_yes hsy).symm | exact (symTo_no hsy).symm), (by (try dsimp only); (try rw [List.length_append, List.length_singleton]); omega)⟩, (by omega)⟩
   have hsy : ¬ 0 ≤ t.getD k 0 := h3
   refine qz (qa (qf (ii ((k : Int))) rfl (cX (qS (((k + 1 : Nat) : Int)) rfl rfl (by omega) (by omega) (qg (ii (((k + 1 : Nat) : Int))) rfl (qb ?_))))))
   exact ⟨(k + 1, ov, os), _, FLe.refl _, rF, ⟨rfl, rfl, rfl, rfl, ⟨⟩⟩, (sC (sC sR)), ⟨rfl, (hov), (by (try dsimp only) <;> omega), (by (try dsimp only); rw [hos]; first | exact (symTo_yes hsy).symm | exact (symTo_no hsy).symm), (by (try dsimp only); (try rw [List.length_append, List.length_singleton]); omega)⟩, (by omega)⟩
  refine jj (qx (qx (qO (qc (qa (qf (ov) rfl (qg (ov) rfl (qb (qw (qv (L' := intsH 2 ov os :: L) [ov] (ov) (.tmp rfl .nil) rfl rF rF (sC (sD sR)) ?_))))))))))
  refine ⟨rfl, hov, ?_⟩
  have hxs : (symTo t t.length : List Int) = os := by rw [hos, show k = t.length from by first | omega | simp_all]
  exact congrArg (fun z => intsH 2 _ z :: L) hxs
 refine qn (t := 12) rfl (vF h1) (qn (t := 12) rfl (vF h1) (qn (t := 12) rfl (vF h1) (cX (qG (.bool (false)) (vF h1) rfl (qb (jC rfl (jj (qx (qx (qO (qc (qa (qf (ov) rfl (qg (ov) rfl ?_))))))))))))))
 refine qb (qw (qv (L' := intsH 2 ov os :: L) [ov] (ov) (.tmp rfl .nil) rfl rF rF (sC (sD sR)) ?_))
 refine ⟨rfl, hov, ?_⟩
 have hxs : (symTo t t.length : List Int) = os := by rw [hos, show k = t.length from by first | omega | simp_all]
 exact congrArg (fun z => intsH 2 _ z :: L) hxs

/- impl.peakAt -/
set_option maxHeartbeats 2000000 in
set_option maxRecDepth 20000 in
theorem peakAtG_spec {F : FH} {L : List HP} {arv : Value} {ar : List Int} (har : IntsF F arv ar) {rsv : Value} {rs : List (List Int × List Int)} (hrs : PairsF F rsv rs) {o : Nat} {p : Nat} {u : Nat} (hsys : sysOk ar rs = true) (ho : o < rs.length) (hu : u < rs.length) (hp : p < (rs.getD o ([], [])).1.length) :
    Does prog 119 [.agg #[arv, rsv], ii ((o : Int)), ii ((p : Int)), ii ((u : Int))] F (L) (fun v F' L' => ∃ (a : Value), ∃ (b : Value), ∃ (c : Value), (.tuple #[.agg #[a, b, c, ii (((pkF ar rs o p u).getD P0).2.2.2.1), ii (((pkF ar rs o p u).getD P0).2.2.2.2.1), ii (((pkF ar rs o p u).getD P0).2.2.2.2.2)], .bool ((pkF ar rs o p u).isSome)] : Value) = v ∧ (IntsF F' a ((pkF ar rs o p u).getD P0).1) ∧ (IntsF F' b ((pkF ar rs o p u).getD P0).2.1) ∧ (IntsF F' c ((pkF ar rs o p u).getD P0).2.2.1) ∧ (meetB ar rs o p u = true → ∃ b, MguP ar rs o p u b) ∧ (Fresh F F' (star [intsH 2 a ((pkF ar rs o p u).getD P0).1, intsH 2 b ((pkF ar rs o p u).getD P0).2.1, intsH 2 c ((pkF ar rs o p u).getD P0).2.2.1])) ∧ L = L') := by
 refine qI func119 rfl rfl rfl ?_
 have hlo : termOk ar (rs.getD o ([], [])).1 = true := rule_L hsys ho
 have hllo : 1 ≤ (rs.getD o ([], [])).1.length ∧ (rs.getD o ([], [])).1.length ≤ 60 := termOk_len hlo
 have hglo : ∀ k, k < (rs.getD o ([], [])).1.length → -24 ≤ (rs.getD o ([], [])).1.getD k 0 := fun k h => termOk_ge hlo h
 have hlu : termOk ar (rs.getD u ([], [])).1 = true := rule_L hsys hu
 have hllu : 1 ≤ (rs.getD u ([], [])).1.length ∧ (rs.getD u ([], [])).1.length ≤ 60 := termOk_len hlu
 have hglu : ∀ k, k < (rs.getD u ([], [])).1.length → -24 ≤ (rs.getD u ([], [])).1.getD k 0 := fun k h => termOk_ge hlu h
 have hro : termOk ar (rs.getD o ([], [])).2 = true := rule_R hsys ho
 have hlro : 1 ≤ (rs.getD o ([], [])).2.length ∧ (rs.getD o ([], [])).2.length ≤ 60 := termOk_len hro
 have hgro : ∀ k, k < (rs.getD o ([], [])).2.length → -24 ≤ (rs.getD o ([], [])).2.getD k 0 := fun k h => termOk_ge hro h
 have hru : termOk ar (rs.getD u ([], [])).2 = true := rule_R hsys hu
 have hlru : 1 ≤ (rs.getD u ([], [])).2.length ∧ (rs.getD u ([], [])).2.length ≤ 60 := termOk_len hru
 have hgru : ∀ k, k < (rs.getD u ([], [])).2.length → -24 ≤ (rs.getD u ([], [])).2.getD k 0 := fun k h => termOk_ge hru h
 have hrl := (sysOk_iff.1 hsys).2.1
 have hsig := (sysOk_iff.1 hsys).1
 have hsl := sigOk_spec hsig
 refine qc (qa (cX (jc [arv, rsv] rfl rfl ?_)))
 intro b1
 refine cX (jo [sN, sN, sN, ii (0), ii (0), ii (0)] jr rfl ?_)
 intro b2
 refine qg (.bool (false)) rfl (qb (qc (qa (cX (qy [arv, rsv] jF jp rfl rfl (Rd.ownN [_] rfl rfl) (qf (ii ((o : Int))) rfl (qf (ii ((p : Int))) rfl (qf (ii ((u : Int))) rfl (cX (qr (args := [.agg #[arv, rsv], ii (o : Int), ii (p : Int), ii (u : Int)]) call181 rfl (overlap_spec (o := o) (p := p) (u := u) har hrs (hsys := (by first | assumption | rfl | omega | simp)) (ho := (by first | assumption | rfl | omega | simp)) (hu := (by first | assumption | rfl | omega | simp)) (hp := (by first | assumption | rfl | omega | simp))) ?_))))))))))
 rintro _ F1 _ le1 (⟨rfl, hmt1, rfl⟩ | ⟨b3, rfl, hmt1, rfl⟩ | ⟨b3, b4, l1, rfl, hmt1, hb1, hmg1, rfl⟩)
 ·replace har := har.mono le1
  replace hrs := hrs.mono le1
  refine qf (.tuple #[(.pointer none), .bool (false)]) rfl (cX (qH ((.pointer none)) rfl rfl (cX (qH (.bool (false)) rfl rfl (qg ((.pointer none)) rfl (qg (.bool (false)) rfl (qb (qc (qc (qa (qf (.bool (false)) rfl (cX (jg rfl (qb (jq rfl ?_)))))))))))))))
  refine qc (qa (cX (qY [sN, sN, sN, ii (0), ii (0), ii (0)] [sN, sN, sN, ii (0), ii (0), ii (0)] [(0, 1), (1, 1), (2, 1), (3, 1), (4, 1), (5, 1)] [] qC jr rfl (.cons rfl qp (.cons rfl qp (.cons rfl qp (.cons rfl qm (.cons rfl qm (.cons rfl qm PlacesAre.nil)))))) rfl CellsAre.nil (cX (qV [] _ [sN, sN, sN, ii (0), ii (0), ii (0)] jk rfl rfl rfl (qs rfl (qs rfl (qs rfl (qs rfl (qs rfl (qs rfl qZ)))))) rfl rfl rfl (qg (.bool (false)) rfl (qb (qw (qq (qv (L' := L) [.agg #[sN, sN, sN, ii (0), ii (0), ii (0)], .bool (false)] (.tuple #[.agg #[sN, sN, sN, ii (0), ii (0), ii (0)], .bool (false)]) (.cell rfl (ju [sN, sN, sN, ii (0), ii (0), ii (0)] jM jk rfl (Rd.ownN [] rfl rfl)) (.tmp rfl .nil)) rfl le1 rF (sD (sD sR)) ?_))))))))))
  have e : pkF ar rs o p u = none := pk_nomeet hmt1
  exact ⟨_, _, _, by rw [e]; rfl, by rw [e]; exact IntsF.nilV, by rw [e]; exact IntsF.nilV, by rw [e]; exact IntsF.nilV, fun h => absurd h (by rw [hmt1]; simp), by rw [e]; exact Fresh.empty nil3, rfl⟩
 ·replace har := har.mono le1
  replace hrs := hrs.mono le1
  refine qf (.tuple #[ptr b3 0, .bool (false)]) rfl (cX (qH (ptr b3 0) rfl rfl (cX (qH (.bool (false)) rfl rfl (qg (ptr b3 0) rfl (qg (.bool (false)) rfl (qb (qc (qc (qa (qf (.bool (false)) rfl (cX (jg rfl (qb (jq rfl ?_)))))))))))))))
  refine qc (qa (cX (qY [sN, sN, sN, ii (0), ii (0), ii (0)] [sN, sN, sN, ii (0), ii (0), ii (0)] [(0, 1), (1, 1), (2, 1), (3, 1), (4, 1), (5, 1)] [] qC jr rfl (.cons rfl qp (.cons rfl qp (.cons rfl qp (.cons rfl qm (.cons rfl qm (.cons rfl qm PlacesAre.nil)))))) rfl CellsAre.nil (cX (qV [] _ [sN, sN, sN, ii (0), ii (0), ii (0)] jk rfl rfl rfl (qs rfl (qs rfl (qs rfl (qs rfl (qs rfl (qs rfl qZ)))))) rfl rfl rfl (qg (.bool (false)) rfl (qb (qw (qq (qv (L' := L) [.agg #[sN, sN, sN, ii (0), ii (0), ii (0)], .bool (false)] (.tuple #[.agg #[sN, sN, sN, ii (0), ii (0), ii (0)], .bool (false)]) (.cell rfl (ju [sN, sN, sN, ii (0), ii (0), ii (0)] jM jk rfl (Rd.ownN [] rfl rfl)) (.tmp rfl .nil)) rfl le1 rF (sD (sD sR)) ?_))))))))))
  have e : pkF ar rs o p u = none := pk_nomeet hmt1
  exact ⟨_, _, _, by rw [e]; rfl, by rw [e]; exact IntsF.nilV, by rw [e]; exact IntsF.nilV, by rw [e]; exact IntsF.nilV, fun h => absurd h (by rw [hmt1]; simp), by rw [e]; exact Fresh.empty nil3, rfl⟩
 replace har := har.mono le1
 replace hrs := hrs.mono le1
 refine qf (.tuple #[ptr b3 0, .bool (true)]) rfl (cX (qH (ptr b3 0) rfl rfl (cX (qH (.bool (true)) rfl rfl (qg (ptr b3 0) rfl (qg (.bool (true)) rfl (qb (qc (qc (qa (qf (.bool (true)) rfl (cX (jg rfl (qb (jC rfl ?_)))))))))))))))
 refine qz (qc (qa ?_))
 have hmt : meetB ar rs o p u = true := hmt1
 have hmg := hmg1
 have hbo := hmg.ok
 obtain ⟨σ, hσ⟩ := hbo.sol
 have hgs := hσ.good hbo
 refine cX (qo (1) qK rfl jv (by decide) rfl rfl (cX (qi jQ rfl (Rd.own [_, _] rfl rfl) (qf (ii ((o : Int))) rfl (cX (qu o qX jm rfl rfl rfl hrs.slv (by omega) rfl ?_))))))
 obtain ⟨a1, a2, ha1, ha2, hr1, hr2⟩ := hrs.rd (i := o) (by omega)
 refine cX (qy [a1, a2] isAgg72 jm rfl rfl (Rd.two (hr1 _) (hr2 _)) (cX (jo [sN, sN] je rfl ?_)))
 intro b5
 refine cX (qV [] _ [a1, a2] jm rfl rfl rfl (qs (jb (qD ha1)) (qs (jb (qD ha2)) qZ)) rfl rfl rfl (qb (qc (qa (qf (ptr b3 0) rfl (cX (qo (0) qM rfl qp (by decide) rfl rfl (cX (qi qW rfl (Rd.own [] rfl rfl) ?_)))))))))
 obtain ⟨ρ9, hρ9⟩ := hbo.acyc
 obtain ⟨k9, hk9⟩ := maxRank ((rs.getD o ([], [])).1) ρ9
 have hw9 := W_ge (termW_of hlo)
 refine jw (intsH.addNil 2 none _) (jw (jJ (A := [_, _])) ?_)
 show XL _ _ _ _ _ _ _ (cellsH b3 (arv :: b4) 200 :: intsH 2 (sN) ([]) :: cellsH b5 [a1, a2] 72 :: cellsH b2 [sN, sN, sN, ii (0), ii (0), ii (0)] 76 :: cellsH b1 [arv, rsv] 32 :: L)
 refine jw (jJ (A := [_])) ?_
 show XL _ _ _ _ _ _ _ (intsH 2 (sN) ([]) :: cellsH b3 (arv :: b4) 200 :: cellsH b5 [a1, a2] 72 :: cellsH b2 [sN, sN, sN, ii (0), ii (0), ii (0)] 76 :: cellsH b1 [arv, rsv] 32 :: L)
 refine cX (qr (args := [ptr b3 0, sN, a1]) call182 rfl (resolve_spec k9 har hb1 (by assumption) (os := []) ha1 ⟨_, _, _, rfl⟩ (Nat.zero_le _) hσ hρ9 (fun m hm _ => hk9 m hm) hw9.1 hw9.2) ?_)
 rintro _ _ _ _ ⟨v1, rfl, hs1, rfl, rfl⟩
 refine qf (.tuple #[v1, .bool (resOk σ ([] : List Int) ((rs.getD o ([], [])).1))]) rfl (cX (qH (v1) rfl rfl (cX (qH (.bool (resOk σ ([] : List Int) ((rs.getD o ([], [])).1))) rfl rfl (qg (v1) rfl (qg (.bool (resOk σ ([] : List Int) ((rs.getD o ([], [])).1))) rfl (qb (qc (qa (qf (ptr b3 0) rfl (cX (qo (1) qM rfl qp (by decide) rfl rfl (cX (qi qW rfl (Rd.own [_, _] rfl rfl) ?_))))))))))))))
 obtain ⟨ρ9, hρ9⟩ := hbo.acyc
 obtain ⟨k9, hk9⟩ := maxRank ((rs.getD o ([], [])).2) ρ9
 have hw9 := W_ge (termW_of hro)
 refine jw (intsH.addNil 2 none _) (jw (jJ (A := [_, _])) ?_)
 show XL _ _ _ _ _ _ _ (cellsH b3 (arv :: b4) 200 :: intsH 2 (sN) ([]) :: intsH 2 v1 ((resX σ ([] : List Int) ((rs.getD o ([], [])).1))) :: cellsH b5 [a1, a2] 72 :: cellsH b2 [sN, sN, sN, ii (0), ii (0), ii (0)] 76 :: cellsH b1 [arv, rsv] 32 :: L)
 refine jw (jJ (A := [_])) ?_
 show XL _ _ _ _ _ _ _ (intsH 2 (sN) ([]) :: cellsH b3 (arv :: b4) 200 :: intsH 2 v1 ((resX σ ([] : List Int) ((rs.getD o ([], [])).1))) :: cellsH b5 [a1, a2] 72 :: cellsH b2 [sN, sN, sN, ii (0), ii (0), ii (0)] 76 :: cellsH b1 [arv, rsv] 32 :: L)
 refine cX (qr (args := [ptr b3 0, sN, a2]) call182 rfl (resolve_spec k9 har hb1 (by assumption) (os := []) ha2 ⟨_, _, _, rfl⟩ (Nat.zero_le _) hσ hρ9 (fun m hm _ => hk9 m hm) hw9.1 hw9.2) ?_)
 rintro _ _ _ _ ⟨v2, rfl, hs2, rfl, rfl⟩
 refine qf (.tuple #[v2, .bool (resOk σ ([] : List Int) ((rs.getD o ([], [])).2))]) rfl (cX (qH (v2) rfl rfl (cX (qH (.bool (resOk σ ([] : List Int) ((rs.getD o ([], [])).2))) rfl rfl (qg (v2) rfl (qg (.bool (resOk σ ([] : List Int) ((rs.getD o ([], [])).2))) rfl (qb (qc (qa (qf (ptr b3 0) rfl (cX (qo (1) qK rfl jv (by decide) rfl rfl (cX (qi jQ rfl (Rd.own [_, _, _, _, _] rfl rfl) (qf (ii ((u : Int))) rfl ?_)))))))))))))))
 refine cX (qu u qX jm rfl rfl rfl hrs.slv (by omega) rfl (cX (XOp.fieldE (u * 2 + 1) qM rfl qp (by decide) rfl rfl ?_)))
 obtain ⟨a3, a4, ha3, ha4, hr3, hr4⟩ := hrs.rd (i := u) (by omega)
 refine cX (qi qW rfl (hr4 _) (cX (jR <| qr (args := [a4]) call183 rfl (away_spec ha4 (hlt := (by omega)) (htg := (fun i hi => by have := hgru i hi; omega))) ?_)))
 rintro v3 _ _ _ ⟨rfl, hs3, rfl⟩
 refine ⟨_, _, rfl, fun F2 le2 hz1 => ?_⟩
 replace har := har.mono le2
 replace hb1 := hb1.mono le2
 replace ha1 := ha1.mono le2
 have hf1 : IntsF F2 v3 ((awayL ((rs.getD u ([], [])).2))) := intsH.fz (xs := (awayL ((rs.getD u ([], [])).2))) hz1.fz
 obtain ⟨ρ9, hρ9⟩ := hbo.acyc
 obtain ⟨k9, hk9⟩ := maxRank ((awayL ((rs.getD u ([], [])).2))) ρ9
 have hw9 := W_ge (away_W hru)
 refine jw (intsH.addNil 2 none _) (jw (jJ (A := [_, _])) ?_)
 show XL _ _ _ _ _ _ _ (cellsH b3 (arv :: b4) 200 :: intsH 2 (sN) ([]) :: intsH 2 v2 ((resX σ ([] : List Int) ((rs.getD o ([], [])).2))) :: intsH 2 v1 ((resX σ ([] : List Int) ((rs.getD o ([], [])).1))) :: cellsH b5 [a1, a2] 72 :: cellsH b2 [sN, sN, sN, ii (0), ii (0), ii (0)] 76 :: cellsH b1 [arv, rsv] 32 :: L)
 refine jw (jJ (A := [_])) ?_
 show XL _ _ _ _ _ _ _ (intsH 2 (sN) ([]) :: cellsH b3 (arv :: b4) 200 :: intsH 2 v2 ((resX σ ([] : List Int) ((rs.getD o ([], [])).2))) :: intsH 2 v1 ((resX σ ([] : List Int) ((rs.getD o ([], [])).1))) :: cellsH b5 [a1, a2] 72 :: cellsH b2 [sN, sN, sN, ii (0), ii (0), ii (0)] 76 :: cellsH b1 [arv, rsv] 32 :: L)
 refine cX (qr (args := [ptr b3 0, sN, v3]) call182 rfl (resolve_spec k9 har hb1 (by assumption) (os := []) hf1 ⟨_, _, _, rfl⟩ (Nat.zero_le _) hσ hρ9 (fun m hm _ => hk9 m hm) hw9.1 hw9.2) ?_)
 rintro _ _ _ _ ⟨v4, rfl, hs4, rfl, rfl⟩
 refine qf (.tuple #[v4, .bool (resOk σ ([] : List Int) ((awayL ((rs.getD u ([], [])).2))))]) rfl (cX (qH (v4) rfl rfl (cX (qH (.bool (resOk σ ([] : List Int) ((awayL ((rs.getD u ([], [])).2))))) rfl rfl (qg (v4) rfl (qg (.bool (resOk σ ([] : List Int) ((awayL ((rs.getD u ([], [])).2))))) rfl (qb (qc (qc (qa (qf (.bool (resOk σ ([] : List Int) ((rs.getD o ([], [])).1))) rfl (cX (jg rfl (qf (.bool (!(resOk σ ([] : List Int) ((rs.getD o ([], [])).1)))) rfl ?_))))))))))))))
 by_cases h1 : (!(resOk σ ([] : List Int) ((rs.getD o ([], [])).1))) = true
 ·have hf9 : resOk σ [] (Lr rs o) = false ∨ resOk σ [] (Rr rs o) = false ∨ resOk σ [] (awayL (Rr rs u)) = false := .inl (Bool.not_inj (y := false) h1)
  refine qn (t := 65) rfl (vB h1) (qn (t := 65) rfl (vB h1) (cX (qN (.bool (true)) (vB h1) rfl (qf (.bool (true)) rfl (qn (t := 69) rfl rfl (qn (t := 69) rfl rfl (cX (qN (.bool (true)) rfl rfl (qb (jq rfl (qc (qa ?_))))))))))))
  refine cX (qY [sN, sN, sN, ii (0), ii (0), ii (0)] [sN, sN, sN, ii (0), ii (0), ii (0)] [(0, 1), (1, 1), (2, 1), (3, 1), (4, 1), (5, 1)] [] qC jr rfl (.cons rfl qp (.cons rfl qp (.cons rfl qp (.cons rfl qm (.cons rfl qm (.cons rfl qm PlacesAre.nil)))))) rfl CellsAre.nil (cX (qV [_, _, _, _, _] _ [sN, sN, sN, ii (0), ii (0), ii (0)] jk rfl rfl rfl (qs rfl (qs rfl (qs rfl (qs rfl (qs rfl (qs rfl qZ)))))) rfl rfl rfl (qg (.bool (false)) rfl (qb (qw (qq (qv (L' := L) [.agg #[sN, sN, sN, ii (0), ii (0), ii (0)], .bool (false)] (.tuple #[.agg #[sN, sN, sN, ii (0), ii (0), ii (0)], .bool (false)]) (.cell rfl (ju [sN, sN, sN, ii (0), ii (0), ii (0)] jM jk rfl (Rd.ownN [_, _, _, _, _] rfl rfl)) (.tmp rfl .nil)) rfl (qh le1 le2) rF (sD (sD (sD (sD (sD (sD (sD sR))))))) ?_))))))))
  have e : pkF ar rs o p u = none := pk_long hsys ho hu hmt hmg hσ hf9
  exact ⟨_, _, _, by rw [e]; rfl, by rw [e]; exact IntsF.nilV, by rw [e]; exact IntsF.nilV, by rw [e]; exact IntsF.nilV, fun _ => ⟨_, hmg⟩, by rw [e]; exact Fresh.empty nil3, rfl⟩
 rw [Bool.not_eq_true] at h1
 have hkL : resOk σ [] (rs.getD o ([], [])).1 = true := Bool.not_inj (y := true) h1
 obtain ⟨eL, lL⟩ := resX_eq hkL
 refine qk (t := 65) rfl (vB h1) (ql (.bool (resOk σ ([] : List Int) ((rs.getD o ([], [])).2))) rfl (qk (t := 65) rfl (vB h1) (jg rfl (cX (qG (.bool (!(resOk σ ([] : List Int) ((rs.getD o ([], [])).2)))) (vB h1) rfl (qf (.bool (!(resOk σ ([] : List Int) ((rs.getD o ([], [])).2)))) rfl ?_))))))
 by_cases h2 : (!(resOk σ ([] : List Int) ((rs.getD o ([], [])).2))) = true
 ·have hf9 : resOk σ [] (Lr rs o) = false ∨ resOk σ [] (Rr rs o) = false ∨ resOk σ [] (awayL (Rr rs u)) = false := .inr <| .inl (Bool.not_inj (y := false) h2)
  refine qn (t := 69) rfl (vB h2) (qn (t := 69) rfl (vB h2) (cX (qN (.bool (true)) (vB h2) rfl (qb (jq rfl (qc (qa (cX (qY [sN, sN, sN, ii (0), ii (0), ii (0)] [sN, sN, sN, ii (0), ii (0), ii (0)] [(0, 1), (1, 1), (2, 1), (3, 1), (4, 1), (5, 1)] [] qC jr rfl (.cons rfl qp (.cons rfl qp (.cons rfl qp (.cons rfl qm (.cons rfl qm (.cons rfl qm PlacesAre.nil)))))) rfl CellsAre.nil (cX (qV [_, _, _, _, _] _ [sN, sN, sN, ii (0), ii (0), ii (0)] jk rfl rfl rfl (qs rfl (qs rfl (qs rfl (qs rfl (qs rfl (qs rfl qZ)))))) rfl rfl rfl (qg (.bool (false)) rfl (qb ?_)))))))))))))
  refine qw (qq (qv (L' := L) [.agg #[sN, sN, sN, ii (0), ii (0), ii (0)], .bool (false)] (.tuple #[.agg #[sN, sN, sN, ii (0), ii (0), ii (0)], .bool (false)]) (.cell rfl (ju [sN, sN, sN, ii (0), ii (0), ii (0)] jM jk rfl (Rd.ownN [_, _, _, _, _] rfl rfl)) (.tmp rfl .nil)) rfl (qh le1 le2) rF (sD (sD (sD (sD (sD (sD (sD sR))))))) ?_))
  have e : pkF ar rs o p u = none := pk_long hsys ho hu hmt hmg hσ hf9
  exact ⟨_, _, _, by rw [e]; rfl, by rw [e]; exact IntsF.nilV, by rw [e]; exact IntsF.nilV, by rw [e]; exact IntsF.nilV, fun _ => ⟨_, hmg⟩, by rw [e]; exact Fresh.empty nil3, rfl⟩
 rw [Bool.not_eq_true] at h2
 have hkR : resOk σ [] (rs.getD o ([], [])).2 = true := Bool.not_inj (y := true) h2
 obtain ⟨eR, lR⟩ := resX_eq hkR
 refine qk (t := 69) rfl (vB h2) (ql (.bool (resOk σ ([] : List Int) ((awayL ((rs.getD u ([], [])).2))))) rfl (qk (t := 69) rfl (vB h2) (jg rfl (cX (qG (.bool (!(resOk σ ([] : List Int) ((awayL ((rs.getD u ([], [])).2)))))) (vB h2) rfl (qb ?_))))))
 refine jO (t := !(resOk σ ([] : List Int) ((awayL ((rs.getD u ([], [])).2))))) rfl (fun h3 => ?_) (fun h3 => ?_)
 ·have hf9 : resOk σ [] (Lr rs o) = false ∨ resOk σ [] (Rr rs o) = false ∨ resOk σ [] (awayL (Rr rs u)) = false := .inr <| .inr (Bool.not_inj (y := false) h3)
  refine qc (qa (cX (qY [sN, sN, sN, ii (0), ii (0), ii (0)] [sN, sN, sN, ii (0), ii (0), ii (0)] [(0, 1), (1, 1), (2, 1), (3, 1), (4, 1), (5, 1)] [] qC jr rfl (.cons rfl qp (.cons rfl qp (.cons rfl qp (.cons rfl qm (.cons rfl qm (.cons rfl qm PlacesAre.nil)))))) rfl CellsAre.nil (cX (qV [_, _, _, _, _] _ [sN, sN, sN, ii (0), ii (0), ii (0)] jk rfl rfl rfl (qs rfl (qs rfl (qs rfl (qs rfl (qs rfl (qs rfl qZ)))))) rfl rfl rfl (qg (.bool (false)) rfl (qb (qw (qq (qv (L' := L) [.agg #[sN, sN, sN, ii (0), ii (0), ii (0)], .bool (false)] (.tuple #[.agg #[sN, sN, sN, ii (0), ii (0), ii (0)], .bool (false)]) (.cell rfl (ju [sN, sN, sN, ii (0), ii (0), ii (0)] jM jk rfl (Rd.ownN [_, _, _, _, _] rfl rfl)) (.tmp rfl .nil)) rfl (qh le1 le2) rF (sD (sD (sD (sD (sD (sD (sD sR))))))) ?_))))))))))
  have e : pkF ar rs o p u = none := pk_long hsys ho hu hmt hmg hσ hf9
  exact ⟨_, _, _, by rw [e]; rfl, by rw [e]; exact IntsF.nilV, by rw [e]; exact IntsF.nilV, by rw [e]; exact IntsF.nilV, fun _ => ⟨_, hmg⟩, by rw [e]; exact Fresh.empty nil3, rfl⟩
 have hkA : resOk σ [] (awayL (rs.getD u ([], [])).2) = true := Bool.not_inj (y := true) h3
 obtain ⟨eA, lA⟩ := resX_eq hkA
 have hTW : TermW ar (resX σ [] (rs.getD o ([], [])).1) := by rw [eL]; exact ap_W hbo hσ (termW_of hlo) lL
 have hpT : (ap σ ((rs.getD o ([], [])).1.take p)).length < (resX σ [] (rs.getD o ([], [])).1).length := by rw [eL]; exact take_lt hgs hp
 have hBl : 1 ≤ (resX σ [] (awayL (rs.getD u ([], [])).2)).length ∧ (resX σ [] (awayL (rs.getD u ([], [])).2)).length ≤ 4000000 := by rw [eA]; have := (ap_W hbo hσ (away_W hru) lA).len; omega
 refine qz (qc (qP [_, _, _] _ _ rfl (fun F3 le3 hz2 => ?_)))
 replace har := har.mono le3
 replace hb1 := hb1.mono le3
 replace ha1 := ha1.mono le3
 have hf2 : IntsF F3 v1 ((resX σ ([] : List Int) ((rs.getD o ([], [])).1))) := intsH.fz (xs := (resX σ ([] : List Int) ((rs.getD o ([], [])).1))) hz2.fz
 refine qP [_, _] _ _ rfl (fun F4 le4 hz3 => ?_)
 replace har := har.mono le4
 replace hb1 := hb1.mono le4
 replace ha1 := ha1.mono le4
 replace hf2 := hf2.mono le4
 have hf3 : IntsF F4 v2 ((resX σ ([] : List Int) ((rs.getD o ([], [])).2))) := intsH.fz (xs := (resX σ ([] : List Int) ((rs.getD o ([], [])).2))) hz3.fz
 refine qP [] _ _ rfl (fun F5 le5 hz4 => ?_)
 replace har := har.mono le5
 replace hb1 := hb1.mono le5
 replace ha1 := ha1.mono le5
 replace hf2 := hf2.mono le5
 replace hf3 := hf3.mono le5
 have hf4 : IntsF F5 v4 ((resX σ ([] : List Int) ((awayL ((rs.getD u ([], [])).2))))) := intsH.fz (xs := (resX σ ([] : List Int) ((awayL ((rs.getD u ([], [])).2))))) hz4.fz
 refine X.drawG [cellsH b3 (arv :: b4) 200, cellsH b5 [a1, a2] 72, cellsH b2 [sN, sN, sN, ii (0), ii (0), ii (0)] 76, cellsH b1 [arv, rsv] 32] L 14 [[], [], [], [], [], [], [], [], [], [], [9], [9], [], [9]] [[], [0], [], [], [], [4], [], [3, 5, 6], [], [1, 2, 7, 8], [9], [9, 10], [9, 10], [9, 11]] [] (phiG [pe (ptr b1 0), pe (.agg #[arv]), pe v1, pe (ptr b3 0), pe (ptr b5 0), pe a1, pe (ii ((p : Int)) : Value), pe (ii ((((ap σ (((rs.getD o ([], [])).1).take p)).length : Nat) : Int)) : Value), pe v4, fun FF us v => (.tuple #[((tupAt v 0)), .bool ((putL ar ((resX σ ([] : List Int) ((rs.getD o ([], [])).1))) ((ap σ (((rs.getD o ([], [])).1).take p)).length) ((resX σ ([] : List Int) ((awayL ((rs.getD u ([], [])).2)))))).isSome)] : Value) = v ∧ (IntsF FF ((tupAt v 0)) ((putL ar ((resX σ ([] : List Int) ((rs.getD o ([], [])).1))) ((ap σ (((rs.getD o ([], [])).1).take p)).length) ((resX σ ([] : List Int) ((awayL ((rs.getD u ([], [])).2)))))).getD [])) ∧ ((putL ar ((resX σ ([] : List Int) ((rs.getD o ([], [])).1))) ((ap σ (((rs.getD o ([], [])).1).take p)).length) ((resX σ ([] : List Int) ((awayL ((rs.getD u ([], [])).2)))))).isSome = true → isNil ((tupAt v 0)) = false), fun FF us v => v = (.tuple #[((tupAt (us.getD 0 undef) 0)), .bool ((putL ar ((resX σ ([] : List Int) ((rs.getD o ([], [])).1))) ((ap σ (((rs.getD o ([], [])).1).take p)).length) ((resX σ ([] : List Int) ((awayL ((rs.getD u ([], [])).2)))))).isSome)] : Value), fun FF us v => v = ((tupAt (us.getD 0 undef) 0)), pe (.bool ((putL ar ((resX σ ([] : List Int) ((rs.getD o ([], [])).1))) ((ap σ (((rs.getD o ([], [])).1).take p)).length) ((resX σ ([] : List Int) ((awayL ((rs.getD u ([], [])).2)))))).isSome) : Value), fun FF us v => v = ((tupAt (us.getD 0 undef) 0))]) (ownL []) mixed rfl rfl (by kernel_rfl) (by kernel_rfl) (MonoG.get (m1 (m1 (m1 (m1 (m1 (m1 (m1 (m1 (m1 (mC (fun le h => ⟨h.1, h.2.1.mono le, h.2.2⟩) (mC (fun le h => h) (mC (fun le h => h) (m1 (mC (fun le h => h) MonoG.nil))))))))))))))) ?_ ?_
 ·refine gD (fun W Fs R lF z9 => ?_) ?_
  ·refine qj (qo (0) qK rfl qF (by decide) rfl rfl ?_)
   exact ⟨rfl, rfl⟩
  refine gD (fun W Fs R lF z9 => ?_) ?_
  ·replace har := har.mono lF
   replace hb1 := hb1.mono lF
   replace ha1 := ha1.mono lF
   replace hf2 := hf2.mono lF
   replace hf3 := hf3.mono lF
   replace hf4 := hf4.mono lF
   rw [eS (l := [(0, _)]) ⟨z9 0 rfl, ⟨⟩⟩]
   refine qj (qy [arv] ja qF rfl rfl (Rd.ownN [_, _, _] rfl rfl) ?_)
   exact ⟨rfl, rfl⟩
  refine gD (fun W Fs R lF z9 => ?_) ?_
  ·refine qj (ql (v1) rfl ?_)
   exact ⟨rfl, rfl⟩
  refine gD (fun W Fs R lF z9 => ?_) ?_
  ·refine qj (ql (ptr b3 0) rfl ?_)
   exact ⟨rfl, rfl⟩
  refine gD (fun W Fs R lF z9 => ?_) ?_
  ·refine qj (qo (0) qM rfl qp (by decide) rfl rfl ?_)
   exact ⟨rfl, rfl⟩
  refine gD (fun W Fs R lF z9 => ?_) ?_
  ·replace har := har.mono lF
   replace hb1 := hb1.mono lF
   replace ha1 := ha1.mono lF
   replace hf2 := hf2.mono lF
   replace hf3 := hf3.mono lF
   replace hf4 := hf4.mono lF
   rw [eS (l := [(4, _)]) ⟨z9 4 rfl, ⟨⟩⟩]
   refine qj (qi qW rfl (Rd.own [_] rfl rfl) ?_)
   exact ⟨rfl, rfl⟩
  refine gD (fun W Fs R lF z9 => ?_) ?_
  ·refine qj (ql (ii ((p : Int))) rfl ?_)
   exact ⟨rfl, rfl⟩
  refine gD (fun W Fs R lF z9 => ?_) ?_
  ·replace har := har.mono lF
   replace hb1 := hb1.mono lF
   replace ha1 := ha1.mono lF
   replace hf2 := hf2.mono lF
   replace hf3 := hf3.mono lF
   replace hf4 := hf4.mono lF
   rw [eS (l := [(3, _), (5, _), (6, _)]) ⟨z9 3 rfl, z9 5 rfl, z9 6 rfl, ⟨⟩⟩]
   refine qj (qr (args := [ptr b3 0, a1, ii ((p : Int))]) call185 rfl (jN [] (placeIn_spec (p := p) har hb1 hbo ha1 hσ (termW_of hlo) (by first | assumption | omega) lL)) ?_)
   rintro _ _ _ _ ⟨⟨rfl, rfl⟩, rfl⟩
   exact ⟨rfl, rfl⟩
  refine gD (fun W Fs R lF z9 => ?_) ?_
  ·refine qj (ql (v4) rfl ?_)
   exact ⟨rfl, rfl⟩
  refine gD (fun W Fs R lF z9 => ?_) ?_
  ·replace har := har.mono lF
   replace hf2 := hf2.mono lF
   replace hf3 := hf3.mono lF
   replace hf4 := hf4.mono lF
   rw [eS (l := [(1, _), (2, _), (7, _), (8, _)]) ⟨z9 1 rfl, z9 2 rfl, z9 7 rfl, z9 8 rfl, ⟨⟩⟩]
   refine qj (qr (args := [.agg #[arv], v1, ii (((ap σ (((rs.getD o ([], [])).1).take p)).length : Nat) : Int), v4]) call184 rfl (putW_spec (p := (ap σ (((rs.getD o ([], [])).1).take p)).length) har hf2 hf4 (ho := (hTW)) (hp := (hpT)) (hul := (hBl))) ?_)
   rintro _ F7 _ le7 ⟨x2, rfl, hr8, hr9, hr10, rfl⟩
   replace hf2 := hf2.mono le7
   replace hf3 := hf3.mono le7
   exact ⟨⟨rfl, hr8, hr9⟩, rfl⟩
  refine gD (fun W Fs R lF z9 => ?_) ?_
  ·obtain ⟨e9, f9_1hr, f9_1hnz⟩ := z9 9 rfl
   rw [eS (l := [(9, (.tuple #[((tupAt (W 9) 0)), .bool ((putL ar ((resX σ ([] : List Int) ((rs.getD o ([], [])).1))) ((ap σ (((rs.getD o ([], [])).1).take p)).length) ((resX σ ([] : List Int) ((awayL ((rs.getD u ([], [])).2)))))).isSome)]))]) ⟨(e9).symm, ⟨⟩⟩]
   refine qj (ql (.tuple #[((tupAt (W 9) 0)), .bool ((putL ar ((resX σ ([] : List Int) ((rs.getD o ([], [])).1))) ((ap σ (((rs.getD o ([], [])).1).take p)).length) ((resX σ ([] : List Int) ((awayL ((rs.getD u ([], [])).2)))))).isSome)]) rfl ?_)
   exact ⟨rfl, rfl⟩
  refine gD (fun W Fs R lF z9 => ?_) ?_
  ·obtain ⟨e9, f9_1hr, f9_1hnz⟩ := z9 9 rfl
   have e10 : W 10 = (.tuple #[((tupAt (W 9) 0)), .bool ((putL ar ((resX σ ([] : List Int) ((rs.getD o ([], [])).1))) ((ap σ (((rs.getD o ([], [])).1).take p)).length) ((resX σ ([] : List Int) ((awayL ((rs.getD u ([], [])).2)))))).isSome)] : Value) := z9 10 rfl
   rw [eS (l := [(9, (.tuple #[((tupAt (W 9) 0)), .bool ((putL ar ((resX σ ([] : List Int) ((rs.getD o ([], [])).1))) ((ap σ (((rs.getD o ([], [])).1).take p)).length) ((resX σ ([] : List Int) ((awayL ((rs.getD u ([], [])).2)))))).isSome)])), (10, (.tuple #[((tupAt (W 9) 0)), .bool ((putL ar ((resX σ ([] : List Int) ((rs.getD o ([], [])).1))) ((ap σ (((rs.getD o ([], [])).1).take p)).length) ((resX σ ([] : List Int) ((awayL ((rs.getD u ([], [])).2)))))).isSome)]))]) ⟨(e9).symm, e10, ⟨⟩⟩]
   refine qj (qH (((tupAt (W 9) 0))) rfl rfl ?_)
   exact ⟨rfl, rfl⟩
  refine gD (fun W Fs R lF z9 => ?_) ?_
  ·obtain ⟨e9, f9_1hr, f9_1hnz⟩ := z9 9 rfl
   have e10 : W 10 = (.tuple #[((tupAt (W 9) 0)), .bool ((putL ar ((resX σ ([] : List Int) ((rs.getD o ([], [])).1))) ((ap σ (((rs.getD o ([], [])).1).take p)).length) ((resX σ ([] : List Int) ((awayL ((rs.getD u ([], [])).2)))))).isSome)] : Value) := z9 10 rfl
   rw [eS (l := [(9, (.tuple #[((tupAt (W 9) 0)), .bool ((putL ar ((resX σ ([] : List Int) ((rs.getD o ([], [])).1))) ((ap σ (((rs.getD o ([], [])).1).take p)).length) ((resX σ ([] : List Int) ((awayL ((rs.getD u ([], [])).2)))))).isSome)])), (10, (.tuple #[((tupAt (W 9) 0)), .bool ((putL ar ((resX σ ([] : List Int) ((rs.getD o ([], [])).1))) ((ap σ (((rs.getD o ([], [])).1).take p)).length) ((resX σ ([] : List Int) ((awayL ((rs.getD u ([], [])).2)))))).isSome)]))]) ⟨(e9).symm, e10, ⟨⟩⟩]
   refine qj (qH (.bool ((putL ar ((resX σ ([] : List Int) ((rs.getD o ([], [])).1))) ((ap σ (((rs.getD o ([], [])).1).take p)).length) ((resX σ ([] : List Int) ((awayL ((rs.getD u ([], [])).2)))))).isSome)) rfl rfl ?_)
   exact ⟨rfl, rfl⟩
  refine gD (fun W Fs R lF z9 => ?_) ?_
  ·obtain ⟨e9, f9_1hr, f9_1hnz⟩ := z9 9 rfl
   have e11 : W 11 = ((tupAt (W 9) 0)) := z9 11 rfl
   rw [eS (l := [(9, (.tuple #[((tupAt (W 9) 0)), .bool ((putL ar ((resX σ ([] : List Int) ((rs.getD o ([], [])).1))) ((ap σ (((rs.getD o ([], [])).1).take p)).length) ((resX σ ([] : List Int) ((awayL ((rs.getD u ([], [])).2)))))).isSome)])), (11, ((tupAt (W 9) 0)))]) ⟨(e9).symm, e11, ⟨⟩⟩]
   refine qj (XOp.assign (((tupAt (W 9) 0))) rfl ?_)
   exact ⟨rfl, rfl⟩
  exact stepsG.nil
 intro W F8 le8 hphi
 obtain ⟨e9, f9_1hr, f9_1hnz⟩ := hphi 9 (by decide)
 have e10 : W 10 = (.tuple #[((tupAt (W 9) 0)), .bool ((putL ar ((resX σ ([] : List Int) ((rs.getD o ([], [])).1))) ((ap σ (((rs.getD o ([], [])).1).take p)).length) ((resX σ ([] : List Int) ((awayL ((rs.getD u ([], [])).2)))))).isSome)] : Value) := hphi 10 (by decide)
 have e11 : W 11 = ((tupAt (W 9) 0)) := hphi 11 (by decide)
 have e13 : W 13 = ((tupAt (W 9) 0)) := hphi 13 (by decide)
 generalize hu1 : ((tupAt (W 9) 0)) = u1 at e9 f9_1hr f9_1hnz e10 e11 e13
 rw [eS (l := [(9, (.tuple #[u1, .bool ((putL ar ((resX σ ([] : List Int) ((rs.getD o ([], [])).1))) ((ap σ (((rs.getD o ([], [])).1).take p)).length) ((resX σ ([] : List Int) ((awayL ((rs.getD u ([], [])).2)))))).isSome)])), (12, _), (13, u1)]) ⟨(e9).symm, (hphi 12 (by decide)), e13, ⟨⟩⟩]
 replace hf2 := hf2.mono le8
 replace hf3 := hf3.mono le8
 show XL _ _ _ _ _ _ _ (cellsH b3 (arv :: b4) 200 :: cellsH b5 [a1, a2] 72 :: cellsH b2 [sN, sN, sN, ii (0), ii (0), ii (0)] 76 :: cellsH b1 [arv, rsv] 32 :: L)
 refine qg (.bool ((putL ar ((resX σ ([] : List Int) ((rs.getD o ([], [])).1))) ((ap σ (((rs.getD o ([], [])).1).take p)).length) ((resX σ ([] : List Int) ((awayL ((rs.getD u ([], [])).2)))))).isSome)) rfl (qb (qc (qc (qa (qf (.bool ((putL ar ((resX σ ([] : List Int) ((rs.getD o ([], [])).1))) ((ap σ (((rs.getD o ([], [])).1).take p)).length) ((resX σ ([] : List Int) ((awayL ((rs.getD u ([], [])).2)))))).isSome)) rfl (cX (jg rfl (qb ?_))))))))
 refine jO (t := !((putL ar ((resX σ ([] : List Int) ((rs.getD o ([], [])).1))) ((ap σ (((rs.getD o ([], [])).1).take p)).length) ((resX σ ([] : List Int) ((awayL ((rs.getD u ([], [])).2)))))).isSome)) rfl (fun h4 => ?_) (fun h4 => ?_)
 ·have hfP := Bool.not_inj (y := false) h4
  refine qc (qa (cX (qY [sN, sN, sN, ii (0), ii (0), ii (0)] [sN, sN, sN, ii (0), ii (0), ii (0)] [(0, 1), (1, 1), (2, 1), (3, 1), (4, 1), (5, 1)] [] qC jr rfl (.cons rfl qp (.cons rfl qp (.cons rfl qp (.cons rfl qm (.cons rfl qm (.cons rfl qm PlacesAre.nil)))))) rfl CellsAre.nil (cX (qV [_, _] _ [sN, sN, sN, ii (0), ii (0), ii (0)] jk rfl rfl rfl (qs rfl (qs rfl (qs rfl (qs rfl (qs rfl (qs rfl qZ)))))) rfl rfl rfl (qg (.bool (false)) rfl (qb (qw (qq (qv (L' := L) [.agg #[sN, sN, sN, ii (0), ii (0), ii (0)], .bool (false)] (.tuple #[.agg #[sN, sN, sN, ii (0), ii (0), ii (0)], .bool (false)]) (.cell rfl (ju [sN, sN, sN, ii (0), ii (0), ii (0)] jM jk rfl (Rd.ownN [_, _] rfl rfl)) (.tmp rfl .nil)) rfl (qh (qh (qh (qh (qh le1 le2) le3) le4) le5) le8) rF (sD (sD (sD (sD sR)))) ?_))))))))))
  have e : pkF ar rs o p u = none := pk_left hsys ho hu hp hmt hmg hσ hkL hkA hfP
  exact ⟨_, _, _, by rw [e]; rfl, by rw [e]; exact IntsF.nilV, by rw [e]; exact IntsF.nilV, by rw [e]; exact IntsF.nilV, fun _ => ⟨_, hmg⟩, by rw [e]; exact Fresh.empty nil3, rfl⟩
 have hkP := Bool.not_inj (y := true) h4
 obtain ⟨eP, lP⟩ := put_some hsys ho hp hbo hσ hkL hkA hkP
 refine qz (qc (qa (qf (v1) rfl (qf (u1) rfl (qf (v2) rfl (cX (qt (s := 1) [v1, u1, v2] [sN] [(0, [v1]), (1, [u1]), (2, [v2])] qB qp jT rfl (by decide) rfl (.cons (cells_one (qD hf2)) (.cons (cells_one (qD f9_1hr)) (.cons (cells_one (qD hf3)) CellsAre.nil))) rfl ?_)))))))
 intro v5 hv1
 have hc1 : RowsC F8 [v1, u1, v2] ([(resX σ ([] : List Int) ((rs.getD o ([], [])).1)), (putL ar ((resX σ ([] : List Int) ((rs.getD o ([], [])).1))) ((ap σ (((rs.getD o ([], [])).1).take p)).length) ((resX σ ([] : List Int) ((awayL ((rs.getD u ([], [])).2)))))).getD [], (resX σ ([] : List Int) ((rs.getD o ([], [])).2))] : List (List Int)) := (RowsC.snoc (RowsC.snoc (RowsC.snoc (CO.nil : RowsC F8 [] []) hf2) f9_1hr) hf3)
 refine jz [] _ _ rfl (fun F9 le9 hz5 => ?_)
 replace hc1 := hc1.mono le9
 have hf5 : RowsF F9 v5 (([(resX σ ([] : List Int) ((rs.getD o ([], [])).1)), (putL ar ((resX σ ([] : List Int) ((rs.getD o ([], [])).1))) ((ap σ (((rs.getD o ([], [])).1).take p)).length) ((resX σ ([] : List Int) ((awayL ((rs.getD u ([], [])).2)))))).getD [], (resX σ ([] : List Int) ((rs.getD o ([], [])).2))] : List (List Int))) := CO.fz hc1 (by first | rfl | omega | (rw [List.length_set]; omega) | (simp; done)) hz5.fz
 refine cX (qr (args := [v5]) call142 rfl (renumber_spec hf5 (by simp) (fun i hi => by match i, hi with | 0, _ => (show (resX σ [] (rs.getD o ([], [])).1).length ≤ 60; rw [eL]; exact lL) | 1, _ => (show ((putL ar (resX σ [] (rs.getD o ([], [])).1) (ap σ ((rs.getD o ([], [])).1.take p)).length (resX σ [] (awayL (rs.getD u ([], [])).2))).getD []).length ≤ 60; rw [eP]; exact lP) | 2, _ => (show (resX σ [] (rs.getD o ([], [])).2).length ≤ 60; rw [eR]; exact lR))) ?_)
 rintro v6 F10 _ le10 ⟨cs1, Us1, hA1, hC1, hD1, hZ1, rfl⟩
 have he9 : rnL [] (([(resX σ ([] : List Int) ((rs.getD o ([], [])).1)), (putL ar ((resX σ ([] : List Int) ((rs.getD o ([], [])).1))) ((ap σ (((rs.getD o ([], [])).1).take p)).length) ((resX σ ([] : List Int) ((awayL ((rs.getD u ([], [])).2)))))).getD [], (resX σ ([] : List Int) ((rs.getD o ([], [])).2))] : List (List Int))) = [(byL (orderL (ap σ (rs.getD o ([], [])).1)) (ap σ (rs.getD o ([], [])).1)), (byL (orderL (ap σ (rs.getD o ([], [])).1)) (ap σ (leftT ar rs o p u))), (byL (orderL (ap σ (rs.getD o ([], [])).1)) (ap σ (rs.getD o ([], [])).2))] := by rw [eP, eL, eR]; exact pk_rn hsys ho hu hmg hσ
 rw [he9] at hA1 hC1 hD1
 obtain ⟨a5, a6, a7, rfl, rfl⟩ := hD1.three
 obtain ⟨ha5, ha6, ha7⟩ := RowsC.three hC1
 have hR1 : RowsF F10 v6 ([(byL (orderL (ap σ (rs.getD o ([], [])).1)) (ap σ (rs.getD o ([], [])).1)), (byL (orderL (ap σ (rs.getD o ([], [])).1)) (ap σ (leftT ar rs o p u))), (byL (orderL (ap σ (rs.getD o ([], [])).1)) (ap σ (rs.getD o ([], [])).2))] : RowL) := ⟨_, hA1, hC1.2⟩
 have hr11 : ∀ L, Rd F10 L (elemA v6 0) a5 := fun L => Rd.arr hA1 rfl
 have hr12 : ∀ L, Rd F10 L (elemA v6 1) a6 := fun L => Rd.arr hA1 rfl
 have hr13 : ∀ L, Rd F10 L (elemA v6 2) a7 := fun L => Rd.arr hA1 rfl
 refine qg (v6) rfl (qb (qc (qc (qa (qf (v6) rfl (cX (qu 0 qB qp rfl rfl rfl hR1.slv (by (try simp only [List.length_cons, List.length_nil]); omega) (Nat.mul_one _) (cX (qi qW rfl (hr11 _) (cX (qr (args := [a5]) call149 rfl (Min_spec ha5 (h1 := (by show 1 ≤ (byL (orderL (ap σ (rs.getD o ([], [])).1)) (ap σ (rs.getD o ([], [])).1)).length; rw [byL_len]; have := (ap_W hbo hσ (termW_of hlo) lL).len; omega)) (hbd := (by show (byL (orderL (ap σ (rs.getD o ([], [])).1)) (ap σ (rs.getD o ([], [])).1)).length ≤ _; rw [byL_len]; omega))) ?_)))))))))))
 rintro _ _ _ _ ⟨rfl, rfl, rfl⟩
 refine cX (qT rfl rfl (qb ?_))
 refine qA (p := (minL (((([(byL (orderL (ap σ (rs.getD o ([], [])).1)) (ap σ (rs.getD o ([], [])).1)), (byL (orderL (ap σ (rs.getD o ([], [])).1)) (ap σ (leftT ar rs o p u))), (byL (orderL (ap σ (rs.getD o ([], [])).1)) (ap σ (rs.getD o ([], [])).2))] : RowL)).getD 0 [])) : Int) < -24) rfl (fun h5 => ?_) (fun h5 => ?_)
 ·have h24 := (order_len (ap σ (rs.getD o ([], [])).1) (by have := (ap_W hbo hσ (termW_of hlo) lL).len; omega)).1 (show minL (byL (orderL (ap σ (rs.getD o ([], [])).1)) (ap σ (rs.getD o ([], [])).1)) < -24 from h5)
  refine qc (qa (cX (qY [sN, sN, sN, ii (0), ii (0), ii (0)] [sN, sN, sN, ii (0), ii (0), ii (0)] [(0, 1), (1, 1), (2, 1), (3, 1), (4, 1), (5, 1)] [] qC jr rfl (.cons rfl qp (.cons rfl qp (.cons rfl qp (.cons rfl qm (.cons rfl qm (.cons rfl qm PlacesAre.nil)))))) rfl CellsAre.nil (cX (qV [_, _] _ [sN, sN, sN, ii (0), ii (0), ii (0)] jk rfl rfl rfl (qs rfl (qs rfl (qs rfl (qs rfl (qs rfl (qs rfl qZ)))))) rfl rfl rfl (qg (.bool (false)) rfl (qb (qw (qq (qv (L' := L) [.agg #[sN, sN, sN, ii (0), ii (0), ii (0)], .bool (false)] (.tuple #[.agg #[sN, sN, sN, ii (0), ii (0), ii (0)], .bool (false)]) (.cell rfl (ju [sN, sN, sN, ii (0), ii (0), ii (0)] jM jk rfl (Rd.ownN [_, _] rfl rfl)) (.tmp rfl .nil)) rfl (qh (qh (qh (qh (qh (qh (qh le1 le2) le3) le4) le5) le8) le9) le10) rF (sD (sD (sD (sD sR)))) ?_))))))))))
  have e : pkF ar rs o p u = none := pk_order hsys ho hu hmt hmg hσ h24
  exact ⟨_, _, _, by rw [e]; rfl, by rw [e]; exact IntsF.nilV, by rw [e]; exact IntsF.nilV, by rw [e]; exact IntsF.nilV, fun _ => ⟨_, hmg⟩, by rw [e]; exact Fresh.empty nil3, rfl⟩
 have h24 := Nat.le_of_not_lt (mt (order_len (ap σ (rs.getD o ([], [])).1) (by have := (ap_W hbo hσ (termW_of hlo) lL).len; omega)).2 (show ¬ minL (byL (orderL (ap σ (rs.getD o ([], [])).1)) (ap σ (rs.getD o ([], [])).1)) < -24 from h5))
 refine qz (qc ?_)
 refine jI [cellsH b3 (arv :: b4) 200, cellsH b5 [a1, a2] 72, cellsH b2 [sN, sN, sN, ii (0), ii (0), ii (0)] 76, cellsH b1 [arv, rsv] 32] L 12 [] [[], [0], [1], [], [3], [4], [], [6], [7]] (phiL [qe v6, qe (.pointer (some (elemA v6 (0)))), qe a5, qe v6, qe (.pointer (some (elemA v6 (1)))), qe a6, qe v6, qe (.pointer (some (elemA v6 (2)))), qe a7, qe (ii ((p : Int)) : Value), qe (ii ((u : Int)) : Value), qe (ii ((o : Int)) : Value)]) (ownL []) mixed rfl rfl (by kernel_rfl) ?_ ?_
 ·refine pD (fun W R z9 => ?_) ?_
  ·refine qj (ql (v6) rfl ?_)
   exact ⟨rfl, rfl, rfl⟩
  refine pD (fun W R z9 => ?_) ?_
  ·rw [eS (l := [(0, _)]) ⟨z9 0 rfl, ⟨⟩⟩]
   refine qj (qu 0 qB qp rfl rfl rfl hR1.slv (by (try simp only [List.length_cons, List.length_nil]); omega) (Nat.mul_one _) ?_)
   exact ⟨rfl, rfl, rfl⟩
  refine pD (fun W R z9 => ?_) ?_
  ·rw [eS (l := [(1, _)]) ⟨z9 1 rfl, ⟨⟩⟩]
   refine qj (qi qW rfl (hr11 _) ?_)
   exact ⟨rfl, rfl, rfl⟩
  refine pD (fun W R z9 => ?_) ?_
  ·refine qj (ql (v6) rfl ?_)
   exact ⟨rfl, rfl, rfl⟩
  refine pD (fun W R z9 => ?_) ?_
  ·rw [eS (l := [(3, _)]) ⟨z9 3 rfl, ⟨⟩⟩]
   refine qj (qu 1 qB qp rfl rfl rfl hR1.slv (by (try simp only [List.length_cons, List.length_nil]); omega) (Nat.mul_one _) ?_)
   exact ⟨rfl, rfl, rfl⟩
  refine pD (fun W R z9 => ?_) ?_
  ·rw [eS (l := [(4, _)]) ⟨z9 4 rfl, ⟨⟩⟩]
   refine qj (qi qW rfl (hr12 _) ?_)
   exact ⟨rfl, rfl, rfl⟩
  refine pD (fun W R z9 => ?_) ?_
  ·refine qj (ql (v6) rfl ?_)
   exact ⟨rfl, rfl, rfl⟩
  refine pD (fun W R z9 => ?_) ?_
  ·rw [eS (l := [(6, _)]) ⟨z9 6 rfl, ⟨⟩⟩]
   refine qj (qu 2 qB qp rfl rfl rfl hR1.slv (by (try simp only [List.length_cons, List.length_nil]); omega) (Nat.mul_one _) ?_)
   exact ⟨rfl, rfl, rfl⟩
  refine pD (fun W R z9 => ?_) ?_
  ·rw [eS (l := [(7, _)]) ⟨z9 7 rfl, ⟨⟩⟩]
   refine qj (qi qW rfl (hr13 _) ?_)
   exact ⟨rfl, rfl, rfl⟩
  refine pD (fun W R z9 => ?_) ?_
  ·refine qj (ql (ii ((p : Int))) rfl ?_)
   exact ⟨rfl, rfl, rfl⟩
  refine pD (fun W R z9 => ?_) ?_
  ·refine qj (ql (ii ((u : Int))) rfl ?_)
   exact ⟨rfl, rfl, rfl⟩
  refine pD (fun W R z9 => ?_) ?_
  ·refine qj (ql (ii ((o : Int))) rfl ?_)
   exact ⟨rfl, rfl, rfl⟩
  exact stepsP.nil
 intro W hphi
 rw [eS (l := [(2, _), (5, _), (8, _), (9, _), (10, _), (11, _)]) ⟨(hphi 2 (by decide)), (hphi 5 (by decide)), (hphi 8 (by decide)), (hphi 9 (by decide)), (hphi 10 (by decide)), (hphi 11 (by decide)), ⟨⟩⟩]
 show XL _ _ _ _ _ _ _ (cellsH b3 (arv :: b4) 200 :: cellsH b5 [a1, a2] 72 :: cellsH b2 [sN, sN, sN, ii (0), ii (0), ii (0)] 76 :: cellsH b1 [arv, rsv] 32 :: L)
 refine cX (qY [a5, a6, a7, ii ((p : Int)), ii ((u : Int)), ii ((o : Int))] [sN, sN, sN, ii (0), ii (0), ii (0)] [(0, 1), (1, 1), (2, 1), (3, 1), (4, 1), (5, 1)] [(0, [a5]), (1, [a6]), (2, [a7]), (3, [ii ((p : Int))]), (4, [ii ((u : Int))]), (5, [ii ((o : Int))])] qC jr rfl (.cons rfl qp (.cons rfl qp (.cons rfl qp (.cons rfl qm (.cons rfl qm (.cons rfl qm PlacesAre.nil)))))) rfl (.cons (cells_one (qD ha5)) (.cons (cells_one (qD ha6)) (.cons (cells_one (qD ha7)) (.cons rfl (.cons rfl (.cons rfl CellsAre.nil)))))) (cX (qV [_, _] _ [a5, a6, a7, ii ((p : Int)), ii ((u : Int)), ii ((o : Int))] jk rfl rfl rfl (qs (jb (qD ha5)) (qs (jb (qD ha6)) (qs (jb (qD ha7)) (qs rfl (qs rfl (qs rfl qZ)))))) rfl rfl rfl (qg (.bool (true)) rfl (qb (qw (qv (L' := L) [.agg #[a5, a6, a7, ii ((p : Int)), ii ((u : Int)), ii ((o : Int))], .bool (true)] (.tuple #[.agg #[a5, a6, a7, ii ((p : Int)), ii ((u : Int)), ii ((o : Int))], .bool (true)]) (.cell rfl (ju [a5, a6, a7, ii ((p : Int)), ii ((u : Int)), ii ((o : Int))] jM jk rfl (Rd.ownN [_, _] rfl rfl)) (.tmp rfl .nil)) rfl (qh (qh (qh (qh (qh (qh (qh le1 le2) le3) le4) le5) le8) le9) le10) rF (sD (sD (sD (sD sR)))) ?_)))))))
 have e := pk_yes hsys ho hu hmt hmg hσ lL lP lR h24
 exact ⟨_, _, _, by rw [e]; rfl, by rw [e]; exact ha5, by rw [e]; exact ha6, by rw [e]; exact ha7, fun _ => ⟨_, hmg⟩, by rw [e]; exact (hZ1.base (qh (qh (qh (qh (qh (qh le1 le2) le3) le4) le5) le8) le9)), rfl⟩

/- impl.PeakAt -/
set_option maxRecDepth 20000 in
theorem PeakAtG_spec {F : FH} {L : List HP} {arv : Value} {ar : List Int} (har : IntsF F arv ar) {rsv : Value} {rs : List (List Int × List Int)} (hrs : PairsF F rsv rs) {o : Nat} {p : Nat} {u : Nat} (hsys : sysOk ar rs = true) (ho : o < rs.length) (hu : u < rs.length) (hp : p < (rs.getD o ([], [])).1.length) (h0 : 0 ≤ (rs.getD o ([], [])).1.getD p 0) :
    Does prog 53 [.agg #[arv, rsv], ii ((o : Int)), ii ((p : Int)), ii ((u : Int))] F (L) (fun v F' L' => ∃ (a : Value), ∃ (b : Value), ∃ (c : Value), (.tuple #[.agg #[a, b, c, ii (((pkF ar rs o p u).getD P0).2.2.2.1), ii (((pkF ar rs o p u).getD P0).2.2.2.2.1), ii (((pkF ar rs o p u).getD P0).2.2.2.2.2)], .bool ((pkF ar rs o p u).isSome)] : Value) = v ∧ (IntsF F' a ((pkF ar rs o p u).getD P0).1) ∧ (IntsF F' b ((pkF ar rs o p u).getD P0).2.1) ∧ (IntsF F' c ((pkF ar rs o p u).getD P0).2.2.1) ∧ (meetB ar rs o p u = true → ∃ b, MguP ar rs o p u b) ∧ L = L') := by
 refine qI func53 rfl rfl rfl ?_
 have hlo : 1 ≤ (rs.getD o ([], [])).1.length ∧ (rs.getD o ([], [])).1.length ≤ 60 := termOk_len (rule_L hsys ho)
 refine qc (qa (cX (jc [arv, rsv] rfl rfl ?_)))
 intro b1
 refine cX (jo [sN, sN, sN, ii (0), ii (0), ii (0)] jr rfl ?_)
 intro b2
 refine qg (.bool (false)) rfl (qb (qc (qc (qa (cX (qy [arv, rsv] jF jp rfl rfl (Rd.ownN [_] rfl rfl) (cX (qr (args := [.agg #[arv, rsv]]) call97 rfl (SystemOk_spec har hrs) ?_))))))))
 rintro _ _ _ _ ⟨rfl, rfl, rfl⟩
 refine cX (jg rfl (qf (.bool (!(sysOk ar rs))) rfl ?_))
 by_cases h1 : (!(sysOk ar rs)) = true
 ·exact absurd h1 (by rw [hsys]; simp)
 rw [Bool.not_eq_true] at h1
 refine qk (t := 13) rfl (vB h1) (qy [arv, rsv] jF jp rfl rfl (Rd.ownN [_] rfl rfl) (qk (t := 13) rfl (vB h1) (ql (ii ((o : Int))) rfl (qk (t := 13) rfl (vB h1) (qr (args := [.agg #[arv, rsv], ii ((o : Int))]) call118 rfl (ruleIn_spec (n := (o : Int)) har hrs) ?_)))))
 rintro _ _ _ _ ⟨rfl, rfl, rfl⟩
 refine qk (t := 13) rfl (vB h1) (XOp.notD rfl (cX (qG (.bool (decide (¬(0 ≤ ((o : Int)) ∧ ((o : Int)) < (rs.length : Int))))) (vB h1) rfl (qf (.bool (decide (¬(0 ≤ ((o : Int)) ∧ ((o : Int)) < (rs.length : Int))))) rfl ?_))))
 by_cases h2 : ¬(0 ≤ ((o : Int)) ∧ ((o : Int)) < (rs.length : Int))
 ·exfalso
  exact h2 (by omega)
 refine qk (t := 19) rfl (vF h2) (qy [arv, rsv] jF jp rfl rfl (Rd.ownN [_] rfl rfl) (qk (t := 19) rfl (vF h2) (ql (ii ((u : Int))) rfl (qk (t := 19) rfl (vF h2) (qr (args := [.agg #[arv, rsv], ii ((u : Int))]) call118 rfl (ruleIn_spec (n := (u : Int)) har hrs) ?_)))))
 rintro _ _ _ _ ⟨rfl, rfl, rfl⟩
 refine qk (t := 19) rfl (vF h2) (XOp.notD rfl (cX (qG (.bool (decide (¬(0 ≤ ((u : Int)) ∧ ((u : Int)) < (rs.length : Int))))) (vF h2) rfl (qf (.bool (decide (¬(0 ≤ ((u : Int)) ∧ ((u : Int)) < (rs.length : Int))))) rfl ?_))))
 by_cases h3 : ¬(0 ≤ ((u : Int)) ∧ ((u : Int)) < (rs.length : Int))
 ·exfalso
  exact h3 (by omega)
 refine qk (t := 25) rfl (vF h3) (ql (ii ((p : Int))) rfl (qk (t := 25) rfl (vF h3) (qT rfl rfl (cX (qG (.bool (decide ((p : Int) < 0))) (vF h3) rfl (qf (.bool (decide ((p : Int) < 0))) rfl ?_))))))
 by_cases h4 : (p : Int) < 0
 ·exfalso
  omega
 refine qk (t := 29) rfl (vF h4) (ql (ii ((p : Int))) rfl (qk (t := 29) rfl (vF h4) (qo (1) qK rfl jv (by decide) rfl rfl (qk (t := 29) rfl (vF h4) (qi jQ rfl (Rd.own [_] rfl rfl) (qk (t := 29) rfl (vF h4) (ql (ii ((o : Int))) rfl (qk (t := 29) rfl (vF h4) (qu o qX jm rfl rfl rfl hrs.slv (by omega) rfl (qk (t := 29) rfl (vF h4) (XOp.fieldE (o * 2) qM rfl qp (by decide) rfl rfl ?_)))))))))))
 obtain ⟨a1, a2, ha1, ha2, hr1, hr2⟩ := hrs.rd (i := o) (by omega)
 refine qk (t := 29) rfl (vF h4) (qi qW rfl (hr1 _) (qk (t := 29) rfl (vF h4) (qE qd rfl ha1.slv (qk (t := 29) rfl (vF h4) (jP rfl rfl (cX (qG (.bool (decide ((p : Int) ≥ ((((rs.getD o ([], [])).1).length : Nat) : Int)))) (vF h4) rfl (qf (.bool (decide ((p : Int) ≥ ((((rs.getD o ([], [])).1).length : Nat) : Int)))) rfl ?_))))))))
 by_cases h5 : (p : Int) ≥ ((((rs.getD o ([], [])).1).length : Nat) : Int)
 ·exfalso
  omega
 refine qk (t := 40) rfl (vF h5) (qo (1) qK rfl jv (by decide) rfl rfl (qk (t := 40) rfl (vF h5) (qi jQ rfl (Rd.own [_] rfl rfl) (qk (t := 40) rfl (vF h5) (ql (ii ((o : Int))) rfl (qk (t := 40) rfl (vF h5) (qu o qX jm rfl rfl rfl hrs.slv (by omega) rfl (qk (t := 40) rfl (vF h5) (XOp.fieldE (o * 2) qM rfl qp (by decide) rfl rfl (qk (t := 40) rfl (vF h5) (qi qW rfl (hr1 _) (qk (t := 40) rfl (vF h5) (ql (ii ((p : Int))) rfl (qk (t := 40) rfl (vF h5) (qu p qd qm rfl rfl rfl ha1.slv (by omega) (Nat.mul_one _) (qk (t := 40) rfl (vF h5) (qi qQ rfl (ha1.rd (by omega)) (qk (t := 40) rfl (vF h5) (qT rfl rfl ?_)))))))))))))))))))
 refine cX (qG (.bool (decide ((((rs.getD o ([], [])).1).getD p 0 : Int) < 0))) (vF h5) rfl (qb ?_))
 refine qA (p := (((rs.getD o ([], [])).1).getD p 0 : Int) < 0) rfl (fun h6 => ?_) (fun h6 => ?_)
 ·exfalso
  omega
 refine qz (qc (qa (cX (qy [arv, rsv] jF jp rfl rfl (Rd.ownN [_] rfl rfl) (qf (ii ((o : Int))) rfl (qf (ii ((p : Int))) rfl (qf (ii ((u : Int))) rfl (cX (qr (args := [.agg #[arv, rsv], ii (o : Int), ii (p : Int), ii (u : Int)]) call119 rfl (peakAtG_spec (o := o) (p := p) (u := u) har hrs (hsys := (hsys)) (ho := (by omega)) (hu := (by omega)) (hp := (by omega))) ?_)))))))))
 rintro _ F1 _ le1 ⟨x1, x2, x3, rfl, hr3, hr4, hr5, hr6, hr7, rfl⟩
 refine cX (qH (.agg #[x1, x2, x3, ii (((pkF ar rs o p u).getD P0).2.2.2.1), ii (((pkF ar rs o p u).getD P0).2.2.2.2.1), ii (((pkF ar rs o p u).getD P0).2.2.2.2.2)]) rfl rfl (cX (qH (.bool ((pkF ar rs o p u).isSome)) rfl rfl (cX (qV [] _ [x1, x2, x3, ii (((pkF ar rs o p u).getD P0).2.2.2.1), ii (((pkF ar rs o p u).getD P0).2.2.2.2.1), ii (((pkF ar rs o p u).getD P0).2.2.2.2.2)] jk rfl rfl rfl (qs (jb (qD hr3)) (qs (jb (qD hr4)) (qs (jb (qD hr5)) (qs rfl (qs rfl (qs rfl qZ)))))) rfl rfl rfl (qg (.bool ((pkF ar rs o p u).isSome)) rfl (qb (qw (qv (L' := L) [.agg #[x1, x2, x3, ii (((pkF ar rs o p u).getD P0).2.2.2.1), ii (((pkF ar rs o p u).getD P0).2.2.2.2.1), ii (((pkF ar rs o p u).getD P0).2.2.2.2.2)], .bool ((pkF ar rs o p u).isSome)] (.tuple #[.agg #[x1, x2, x3, ii (((pkF ar rs o p u).getD P0).2.2.2.1), ii (((pkF ar rs o p u).getD P0).2.2.2.2.1), ii (((pkF ar rs o p u).getD P0).2.2.2.2.2)], .bool ((pkF ar rs o p u).isSome)]) (.cell rfl (ju [x1, x2, x3, ii (((pkF ar rs o p u).getD P0).2.2.2.1), ii (((pkF ar rs o p u).getD P0).2.2.2.2.1), ii (((pkF ar rs o p u).getD P0).2.2.2.2.2)] jM jk rfl (Rd.ownN [] rfl rfl)) (.tmp rfl .nil)) rfl le1 rF (sD (sD sR)) ?_)))))))))
 exact ⟨_, _, _, rfl, hr3, hr4, hr5, hr6, rfl⟩
theorem sFilled9_spec {F : FH} {L : List HP} {arv : Value} {ar : List Int} (har : IntsF F arv ar) {sv : Value} {s : List (List Int)} (hs : RowsF F sv s) {tv : Value} {t : List Int} (ht : IntsF F tv t) (hA : ar = [2, 1, 0]) (hS : S9 s) (hsn : s.length ≤ 4) (hL : L9 t) :
    Does prog 46 [.agg #[arv], .agg #[sv], tv] F (L) (fun v F' L' => (∃ (a : Value) (b : Bool), (.tuple #[a, .bool b] : Value) = v ∧ (SomesF F' a (fun u => u.length ≤ 24))) ∧ L = L') :=
  (sFilled_spec har hs ht (by rw [hA]; decide) (by omega) (fun i hi => Nat.le_trans (hS i hi).2 (by decide)) (Nat.le_trans hL.2.1 (by decide))).mono (by subst hA; rintro _ F' L' le ⟨a, rfl, h, rfl⟩; exact ⟨⟨a, _, rfl, ⟨_, h, filled9 hS hL⟩⟩, rfl⟩)

/- laws.FnPeakGeneral -/
set_option maxHeartbeats 2000000 in
set_option maxRecDepth 20000 in
theorem FnPeakGeneral_does {F : FH} {L : List HP} {bsv : Value} {bs : List Int} (hbs : BytesF F bsv bs) (hlb : bs.length ≤ 9223372036854775807) :
    Does prog 9 [bsv] F (L) (fun v F' L' => (.bool (true) : Value) = v ∧ F = F' ∧ L = L') := by
 refine qI func9 rfl rfl rfl (qc (qa (qg (.bool (false)) rfl (qb (qc (qc (qa (qf (bsv) rfl (cX (qr (args := [bsv]) call11 rfl (big_spec hbs) ?_))))))))))
 rintro _ _ _ _ ⟨rfl, rfl, rfl⟩
 refine qb ?_
 refine qA (p := (bs.length : Int) > 4096) rfl (fun h1 => ?_) (fun h1 => ?_)
 ·refine qc (qa (qg (.bool (true)) rfl (qb (qw (qq (qv (L' := L) [.bool (true)] (.bool (true)) (.tmp rfl .nil) rfl rF rF sR ?_))))))
  exact ⟨rfl, rfl, rfl⟩
 have hbl2 : bs.length ≤ 4000000 := by omega
 refine qz (qc (qa (qf (bsv) rfl (cX (qr (args := [bsv, .int .u64 (952)]) call12 rfl (roll_spec hbs (by omega)) ?_)))))
 rintro _ _ _ _ ⟨cb1, rfl, rfl, rfl⟩
 show XL _ _ _ _ _ _ _ (curH .u64 88 cb1 bsv bs.length :: L)
 refine qg (ptr cb1 0) rfl (qb (qc (qa (qf (ptr cb1 0) rfl (cX (qr (args := [ptr cb1 0]) call45 rfl (jN [] (w9SystemG_spec hbs (by omega))) ?_))))))
 rintro _ F1 _ le1 ⟨⟨x1, x2, x3, rfl, hr1, hr2, hr3, hr4, hr5⟩, rfl⟩
 replace hbs := hbs.mono le1
 show XL _ _ _ _ _ _ _ (curH .u64 88 cb1 bsv bs.length :: L)
 have hla := hr3.la
 have hlr := hr3.lr
 have hrb := hr3.each
 have hn1 := hr5
 have hL := hr4
 refine cX (jo [sN, sN] zeroValue32 rfl ?_)
 intro b1
 refine cX (qV [] _ [x1, x2] jp rfl rfl rfl (qs (jb (qD hr1)) (qs (jb (PairsF.isSl hr2)) qZ)) rfl rfl rfl (qb (qc (qa (qf (ptr cb1 0) rfl (cX (qo (1) qK rfl jv (by decide) rfl rfl (cX (qi jQ rfl (Rd.own [] rfl rfl) (cX (qE qX rfl hr2.slv (cX (qr (args := [ptr cb1 0, ii ((x3.length : Int))]) call14 rfl (jN [_] (below_spec (n := (x3.length : Int)) hbs (by omega) (hn := (by first | assumption | rfl | omega | simp)))) ?_)))))))))))))
 rintro _ _ _ _ ⟨⟨rfl, x4, rfl, hr6⟩, rfl⟩
 show XL _ _ _ _ _ _ _ (cellsH b1 [x1, x2] 32 :: curH .u64 88 cb1 bsv bs.length :: L)
 refine qg (ii (x4)) rfl ?_
 obtain ⟨o, rfl⟩ : ∃ o : Nat, x4 = (o : Int) := ⟨(x4).toNat, by omega⟩
 have ho : o < x3.length := by omega
 skip
 refine qb (qc (qa (qf (ptr cb1 0) rfl (cX (qo (1) qK rfl jv (by decide) rfl rfl (cX (qi jQ rfl (Rd.own [] rfl rfl) (cX (qE qX rfl hr2.slv (cX (qr (args := [ptr cb1 0, ii ((x3.length : Int))]) call14 rfl (jN [_] (below_spec (n := (x3.length : Int)) hbs (by omega) (hn := (by first | assumption | rfl | omega | simp)))) ?_)))))))))))
 rintro _ _ _ _ ⟨⟨rfl, x5, rfl, hr7⟩, rfl⟩
 show XL _ _ _ _ _ _ _ (cellsH b1 [x1, x2] 32 :: curH .u64 88 cb1 bsv bs.length :: L)
 refine qg (ii (x5)) rfl ?_
 obtain ⟨u, rfl⟩ : ∃ u : Nat, x5 = (u : Int) := ⟨(x5).toNat, by omega⟩
 have hu : u < x3.length := by omega
 skip
 refine qb (qc (qa (cX (qo (1) qK rfl jv (by decide) rfl rfl (cX (qi jQ rfl (Rd.own [] rfl rfl) (qf (ii ((o : Int))) rfl (cX (qu o qX jm rfl rfl rfl hr2.slv (by omega) rfl (cX (XOp.fieldE (o * 2) qM rfl qp (by decide) rfl rfl ?_)))))))))))
 obtain ⟨a1, a2, ha1, ha2, hr8, hr9⟩ := hr2.rd (i := o) (by omega)
 refine cX (qi qW rfl (hr8 _) (qg (a1) rfl ?_))
 have hL9 : L9 (x3.getD o ([], [])).1 := hL.at ho
 have hlt9 := termOk_len hL9.1
 have hsp := symTo_pos hL9.2.2 (x3.getD o ([], [])).1.length (by omega)
 have hsl := symTo_len (t := (x3.getD o ([], [])).1) (n := (x3.getD o ([], [])).1.length)
 refine qb (qc ?_)
 refine X.drawG [cellsH b1 [x1, x2] 32, curH .u64 88 cb1 bsv bs.length] L 10 [[], [], [], [], [], [], [5], [5], [5], [5]] [[], [0], [], [2], [], [1, 3, 4], [5], [5, 6], [5, 6], [5, 7]] [] (phiG [pe (ptr b1 0), pe (.agg #[x1]), pe (ptr cb1 0), fun FF us v => (.agg #[((aggAt v 0))] : Value) = v ∧ (SomeRowsF FF ((aggAt v 0)) (fun s => S9 s ∧ s.length ≤ 4)), pe a1, fun FF us v => (.tuple #[((tupAt v 0)), .bool (((boolAt (tupAt v 1))))] : Value) = v ∧ (SomesF FF ((tupAt v 0)) (fun u => u.length ≤ 24)), fun FF us v => v = (.tuple #[((tupAt (us.getD 0 undef) 0)), .bool (((boolAt (tupAt (us.getD 0 undef) 1))))] : Value), fun FF us v => v = ((tupAt (us.getD 0 undef) 0)), fun FF us v => v = (.bool (((boolAt (tupAt (us.getD 0 undef) 1)))) : Value), fun FF us v => v = ((tupAt (us.getD 0 undef) 0))]) (ownL []) mixed rfl rfl (by kernel_rfl) (by kernel_rfl) (MonoG.get (m1 (m1 (m1 (mC (fun le h => ⟨h.1, h.2.mono le⟩) (m1 (mC (fun le h => ⟨h.1, h.2.mono le⟩) (mC (fun le h => h) (mC (fun le h => h) (mC (fun le h => h) (mC (fun le h => h) MonoG.nil))))))))))) ?_ ?_
 ·refine gD (fun W Fs R lF z9 => ?_) ?_
  ·refine qj (qo (0) qK rfl qF (by decide) rfl rfl ?_)
   exact ⟨rfl, rfl⟩
  refine gD (fun W Fs R lF z9 => ?_) ?_
  ·replace hbs := hbs.mono lF
   replace hr1 := hr1.mono lF
   replace hr2 := hr2.mono lF
   replace ha1 := ha1.mono lF
   rw [eS (l := [(0, _)]) ⟨z9 0 rfl, ⟨⟩⟩]
   refine qj (qy [x1] ja qF rfl rfl (Rd.ownN [] rfl rfl) ?_)
   exact ⟨rfl, rfl⟩
  refine gD (fun W Fs R lF z9 => ?_) ?_
  ·refine qj (ql (ptr cb1 0) rfl ?_)
   exact ⟨rfl, rfl⟩
  refine gD (fun W Fs R lF z9 => ?_) ?_
  ·replace hbs := hbs.mono lF
   replace hr1 := hr1.mono lF
   replace hr2 := hr2.mono lF
   replace ha1 := ha1.mono lF
   rw [eS (l := [(2, _)]) ⟨z9 2 rfl, ⟨⟩⟩]
   refine qj (qr (args := [ptr cb1 0]) call47 rfl (jN [_] (w9Subst_spec hbs (by omega))) ?_)
   rintro _ F6 _ le6 ⟨⟨x9, rfl, hr12⟩, rfl⟩
   replace hbs := hbs.mono le6
   replace hr1 := hr1.mono le6
   replace hr2 := hr2.mono le6
   replace ha1 := ha1.mono le6
   exact ⟨⟨rfl, hr12⟩, rfl⟩
  refine gD (fun W Fs R lF z9 => ?_) ?_
  ·refine qj (ql (a1) rfl ?_)
   exact ⟨rfl, rfl⟩
  refine gD (fun W Fs R lF z9 => ?_) ?_
  ·obtain ⟨e3, f3_1hp_a⟩ := z9 3 rfl
   obtain ⟨t3X1_a, f3_1hp_a, q3_1_a0, q3_1_a1⟩ := f3_1hp_a
   replace hbs := hbs.mono lF
   replace hr1 := hr1.mono lF
   replace hr2 := hr2.mono lF
   replace ha1 := ha1.mono lF
   rw [eS (l := [(1, _), (3, (.agg #[((aggAt (W 3) 0))])), (4, _)]) ⟨z9 1 rfl, (e3).symm, z9 4 rfl, ⟨⟩⟩]
   refine qj (qr (args := [.agg #[x1], .agg #[((aggAt (W 3) 0))], a1]) call46 rfl (sFilled9_spec hr1 f3_1hp_a ha1 (hA := (rfl)) (hS := (by assumption)) (hsn := (by assumption)) (hL := (hL9))) ?_)
   rintro _ F7 _ le7 ⟨⟨x10, x11, rfl, hr13⟩, rfl⟩
   replace hbs := hbs.mono le7
   replace hr1 := hr1.mono le7
   replace hr2 := hr2.mono le7
   replace ha1 := ha1.mono le7
   replace f3_1hp_a := f3_1hp_a.mono le7
   exact ⟨⟨rfl, hr13⟩, rfl⟩
  refine gD (fun W Fs R lF z9 => ?_) ?_
  ·obtain ⟨e5, f5_1hp_a⟩ := z9 5 rfl
   obtain ⟨t5X1_a, f5_1hp_a, q5_1_a0⟩ := f5_1hp_a
   rw [eS (l := [(5, (.tuple #[((tupAt (W 5) 0)), .bool (((boolAt (tupAt (W 5) 1))))]))]) ⟨(e5).symm, ⟨⟩⟩]
   refine qj (ql (.tuple #[((tupAt (W 5) 0)), .bool (((boolAt (tupAt (W 5) 1))))]) rfl ?_)
   exact ⟨rfl, rfl⟩
  refine gD (fun W Fs R lF z9 => ?_) ?_
  ·obtain ⟨e5, f5_1hp_a⟩ := z9 5 rfl
   obtain ⟨t5X1_a, f5_1hp_a, q5_1_a0⟩ := f5_1hp_a
   have e6 : W 6 = (.tuple #[((tupAt (W 5) 0)), .bool (((boolAt (tupAt (W 5) 1))))] : Value) := z9 6 rfl
   rw [eS (l := [(5, (.tuple #[((tupAt (W 5) 0)), .bool (((boolAt (tupAt (W 5) 1))))])), (6, (.tuple #[((tupAt (W 5) 0)), .bool (((boolAt (tupAt (W 5) 1))))]))]) ⟨(e5).symm, e6, ⟨⟩⟩]
   refine qj (qH (((tupAt (W 5) 0))) rfl rfl ?_)
   exact ⟨rfl, rfl⟩
  refine gD (fun W Fs R lF z9 => ?_) ?_
  ·obtain ⟨e5, f5_1hp_a⟩ := z9 5 rfl
   obtain ⟨t5X1_a, f5_1hp_a, q5_1_a0⟩ := f5_1hp_a
   have e6 : W 6 = (.tuple #[((tupAt (W 5) 0)), .bool (((boolAt (tupAt (W 5) 1))))] : Value) := z9 6 rfl
   rw [eS (l := [(5, (.tuple #[((tupAt (W 5) 0)), .bool (((boolAt (tupAt (W 5) 1))))])), (6, (.tuple #[((tupAt (W 5) 0)), .bool (((boolAt (tupAt (W 5) 1))))]))]) ⟨(e5).symm, e6, ⟨⟩⟩]
   refine qj (qH (.bool (((boolAt (tupAt (W 5) 1))))) rfl rfl ?_)
   exact ⟨rfl, rfl⟩
  refine gD (fun W Fs R lF z9 => ?_) ?_
  ·obtain ⟨e5, f5_1hp_a⟩ := z9 5 rfl
   obtain ⟨t5X1_a, f5_1hp_a, q5_1_a0⟩ := f5_1hp_a
   have e7 : W 7 = ((tupAt (W 5) 0)) := z9 7 rfl
   rw [eS (l := [(5, (.tuple #[((tupAt (W 5) 0)), .bool (((boolAt (tupAt (W 5) 1))))])), (7, ((tupAt (W 5) 0)))]) ⟨(e5).symm, e7, ⟨⟩⟩]
   refine qj (XOp.assign (((tupAt (W 5) 0))) rfl ?_)
   exact ⟨rfl, rfl⟩
  exact stepsG.nil
 intro W F8 le8 hphi
 obtain ⟨e3, f3_1hp_a⟩ := hphi 3 (by decide)
 obtain ⟨t3X1_a, f3_1hp_a, q3_1_a0, q3_1_a1⟩ := f3_1hp_a
 obtain ⟨e5, f5_1hp_a⟩ := hphi 5 (by decide)
 obtain ⟨t5X1_a, f5_1hp_a, q5_1_a0⟩ := f5_1hp_a
 have e6 : W 6 = (.tuple #[((tupAt (W 5) 0)), .bool (((boolAt (tupAt (W 5) 1))))] : Value) := hphi 6 (by decide)
 have e7 : W 7 = ((tupAt (W 5) 0)) := hphi 7 (by decide)
 have e8 : W 8 = (.bool (((boolAt (tupAt (W 5) 1)))) : Value) := hphi 8 (by decide)
 have e9 : W 9 = ((tupAt (W 5) 0)) := hphi 9 (by decide)
 generalize hu1 : ((aggAt (W 3) 0)) = u1 at e3 f3_1hp_a e5 f5_1hp_a e6 e7 e8 e9
 generalize hu2 : ((tupAt (W 5) 0)) = u2 at e3 f3_1hp_a e5 f5_1hp_a e6 e7 e8 e9
 generalize hu3 : (boolAt (tupAt (W 5) 1)) = u3 at e3 f3_1hp_a e5 f5_1hp_a e6 e7 e8 e9
 rw [eS (l := [(5, (.tuple #[u2, .bool ((u3))])), (8, (.bool ((u3)))), (9, u2)]) ⟨(e5).symm, e8, e9, ⟨⟩⟩]
 replace hbs := hbs.mono le8
 replace hr1 := hr1.mono le8
 replace hr2 := hr2.mono le8
 replace ha1 := ha1.mono le8
 show XL _ _ _ _ _ _ _ (cellsH b1 [x1, x2] 32 :: curH .u64 88 cb1 bsv bs.length :: L)
 refine qg (.bool ((u3))) rfl ?_
 have h24 := q5_1_a0
 refine qb (qc (qa (cX (qo (0) qK rfl qF (by decide) rfl rfl (cX (qy [x1] ja qF rfl rfl (Rd.ownN [] rfl rfl) (qf (a1) rfl (cX (jR <| qr (args := [.agg #[x1], a1]) call48 rfl (SymPlaces_spec hr1 ha1 (hok := (hL9.1)) (hla := (by decide))) ?_)))))))))
 rintro v1 _ _ _ ⟨rfl, hs1, rfl⟩
 refine ⟨_, _, rfl, fun F9 le9 hz1 => ?_⟩
 replace hbs := hbs.mono le9
 replace hr1 := hr1.mono le9
 replace hr2 := hr2.mono le9
 replace ha1 := ha1.mono le9
 replace f5_1hp_a := f5_1hp_a.mono le9
 have hf1 : IntsF F9 v1 ((symTo ((x3.getD o ([], [])).1) ((x3.getD o ([], [])).1).length)) := intsH.fz (xs := (symTo ((x3.getD o ([], [])).1) ((x3.getD o ([], [])).1).length)) hz1.fz
 refine qg (v1) rfl (qb (qc (qa (qf (v1) rfl (qf (ptr cb1 0) rfl (qf (v1) rfl (cX (qE qd rfl hf1.slv (cX (qr (args := [ptr cb1 0, ii (((((symTo ((x3.getD o ([], [])).1) ((x3.getD o ([], [])).1).length)).length : Nat) : Int))]) call14 rfl (jN [_] (below_spec (n := ((((symTo ((x3.getD o ([], [])).1) ((x3.getD o ([], [])).1).length)).length : Nat) : Int)) hbs (by omega) (hn := (by first | assumption | rfl | omega | simp)))) ?_))))))))))
 rintro _ _ _ _ ⟨⟨rfl, x12, rfl, hr14⟩, rfl⟩
 show XL _ _ _ _ _ _ _ (cellsH b1 [x1, x2] 32 :: curH .u64 88 cb1 bsv bs.length :: L)
 refine cX (qu ((x12).toNat) qd qm rfl rfl (by omega) hf1.slv (by omega) (Nat.mul_one _) (cX (qi qQ rfl (hf1.rd (by omega)) (qg (ii (((symTo ((x3.getD o ([], [])).1) ((x3.getD o ([], [])).1).length)).getD ((x12).toNat) 0)) rfl ?_))))
 have hat := symTo_at (t := (x3.getD o ([], [])).1) (n := (x3.getD o ([], [])).1.length) (i := (x12).toNat) (by omega)
 obtain ⟨p, hpe⟩ : ∃ p : Nat, ((symTo ((x3.getD o ([], [])).1) ((x3.getD o ([], [])).1).length)).getD ((x12).toNat) 0 = (p : Int) := ⟨(((symTo ((x3.getD o ([], [])).1) ((x3.getD o ([], [])).1).length)).getD ((x12).toNat) 0).toNat, by omega⟩
 rw [hpe] at hat
 simp only [hpe]
 have hp : p < (x3.getD o ([], [])).1.length := by omega
 have h0 : 0 ≤ (x3.getD o ([], [])).1.getD p 0 := hat.2.2
 skip
 refine qb (qc (qc ?_))
 apply cutX (R := fun r9 Fq9 Lq9 => (∃ rE, r9 = envs [(2, (.bool (false) : Value)), (4, ptr b1 0), (5, (ii ((o : Int)) : Value)), (6, (ii ((u : Int)) : Value)), (7, a1), (8, u2), (11, (ii ((p : Int)) : Value)), (24, (.bool (decide ((bs.length : Int) > 4096)) : Value))] rE) ∧ F9 ≤ Fq9 ∧ Lq9 = cellsH b1 [x1, x2] 32 :: curH .u64 88 cb1 bsv bs.length :: L ∧ (¬ (o = u ∧ p = 0)))
 ·intro tail1
  refine qa (qf (.bool ((u3))) rfl (cX (jg rfl (qf (.bool (!((u3)))) rfl ?_))))
  by_cases h2 : (!((u3))) = true
  ·refine qn (t := 67) rfl (vB h2) (qn (t := 67) rfl (vB h2) (qn (t := 67) rfl (vB h2) (XL.noU (t := 70) rfl rfl (XL.noU (t := 70) rfl rfl (XL.noU (t := 70) rfl rfl (qn (t := 67) rfl (vB h2) (cX (qN (.bool (true)) (vB h2) rfl (qb (jq rfl ?_))))))))))
   refine qc (qa (qg (.bool (true)) rfl (qb (qw (qq (qv (L' := L) [.bool (true)] (.bool (true)) (.tmp rfl .nil) rfl rF (qh (qh le1 le8) le9) (sD (sD sR)) ?_))))))
   exact ⟨rfl, rfl, rfl⟩
  rw [Bool.not_eq_true] at h2
  refine qk (t := 67) rfl (vB h2) (ql (ii ((p : Int))) rfl (qk (t := 67) rfl (vB h2) (js rfl rfl (qk (t := 67) rfl (vB h2) (ql (.bool (decide ((p : Int) = 0))) rfl ?_)))))
  by_cases h3 : (p : Int) = 0
  ·refine qk (t := 70) rfl (vT h3) (ql (ii ((o : Int))) rfl (qk (t := 70) rfl (vT h3) (ql (ii ((u : Int))) rfl (qk (t := 70) rfl (vT h3) (js rfl rfl (qk (t := 67) rfl (vB h2) (qN (.bool (decide ((o : Int) = (u : Int)))) (vT h3) rfl (cX (qG (.bool (decide ((o : Int) = (u : Int)))) (vB h2) rfl (qb ?_))))))))))
   refine qA (p := (o : Int) = (u : Int)) rfl (fun h4 => ?_) (fun h4 => ?_)
   ·refine qc (qa (qg (.bool (true)) rfl (qb (qw (qq (qv (L' := L) [.bool (true)] (.bool (true)) (.tmp rfl .nil) rfl rF (qh (qh le1 le8) le9) (sD (sD sR)) ?_))))))
    exact ⟨rfl, rfl, rfl⟩
   refine qz (qc ?_)
   exact X.weaken (L' := cellsH b1 [x1, x2] 32 :: curH .u64 88 cb1 bsv bs.length :: L) ((sC (sC sR))) (tail1 _ _ _ ⟨⟨_, (envs_of_sat (l := [(2, (.bool (false) : Value)), (4, ptr b1 0), (5, (ii ((o : Int)) : Value)), (6, (ii ((u : Int)) : Value)), (7, a1), (8, u2), (11, (ii ((p : Int)) : Value)), (24, (.bool (decide ((bs.length : Int) > 4096)) : Value))]) ⟨rfl, rfl, rfl, rfl, rfl, rfl, rfl, rfl, ⟨⟩⟩).symm⟩, rF, rfl, (by omega)⟩)
  refine qn (t := 70) rfl (vF h3) (qn (t := 70) rfl (vF h3) (qn (t := 70) rfl (vF h3) (qk (t := 67) rfl (vB h2) (qG (.bool (false)) (vF h3) rfl (cX (qG (.bool (false)) (vB h2) rfl (qb (jC rfl (qz (qc ?_))))))))))
  exact X.weaken (L' := cellsH b1 [x1, x2] 32 :: curH .u64 88 cb1 bsv bs.length :: L) ((sC (sC sR))) (tail1 _ _ _ ⟨⟨_, (envs_of_sat (l := [(2, (.bool (false) : Value)), (4, ptr b1 0), (5, (ii ((o : Int)) : Value)), (6, (ii ((u : Int)) : Value)), (7, a1), (8, u2), (11, (ii ((p : Int)) : Value)), (24, (.bool (decide ((bs.length : Int) > 4096)) : Value))]) ⟨rfl, rfl, rfl, rfl, rfl, rfl, rfl, rfl, ⟨⟩⟩).symm⟩, rF, rfl, (by omega)⟩)
 rintro _ F11 _ ⟨⟨rE, rfl⟩, le11, rfl, hne⟩
 replace hbs := hbs.mono le11
 replace hr1 := hr1.mono le11
 replace hr2 := hr2.mono le11
 replace ha1 := ha1.mono le11
 replace f5_1hp_a := f5_1hp_a.mono le11
 refine qa (qf (u2) rfl (qf (ii ((p : Int))) rfl (qf (ii ((u : Int))) rfl (qf (ii ((o : Int))) rfl (cX (qY [u2, sN, sN, ii ((p : Int)), ii ((u : Int)), ii ((o : Int))] [sN, sN, sN, ii (0), ii (0), ii (0)] [(0, 1), (1, 1), (2, 1), (3, 1), (4, 1), (5, 1)] [(0, [u2]), (3, [ii ((p : Int))]), (4, [ii ((u : Int))]), (5, [ii ((o : Int))])] qC jr rfl (.cons rfl qp (.cons rfl qp (.cons rfl qp (.cons rfl qm (.cons rfl qm (.cons rfl qm PlacesAre.nil)))))) rfl (.cons (cells_one (qD f5_1hp_a)) (.cons rfl (.cons rfl (.cons rfl CellsAre.nil)))) (cX (jo [sN, sN, sN, ii (0), ii (0), ii (0)] jr rfl ?_))))))))
 intro b2
 refine cX (qV [] _ [u2, sN, sN, ii ((p : Int)), ii ((u : Int)), ii ((o : Int))] jk rfl rfl rfl (qs (jb (qD f5_1hp_a)) (qs rfl (qs rfl (qs rfl (qs rfl (qs rfl qZ)))))) rfl rfl rfl (qb (qc (qa (cX (qy [x1, x2] jF jp rfl rfl (Rd.ownN [_] rfl rfl) (qf (u2) rfl (qf (ii ((o : Int))) rfl (cX (qr (args := [.agg #[x1, x2], u2, ii (0), ii ((o : Int))]) call49 rfl (sStepAt_spec (p := 0) (r := (o : Int)) hr1 hr2 f5_1hp_a (hla := (by decide)) (hlr := (by first | assumption | rfl | omega | simp)) (hrb := (by first | assumption | rfl | omega | simp)) (hlt := (by omega))) ?_))))))))))
 rintro _ F12 _ le12 ⟨x13, rfl, hr15, rfl⟩
 replace hbs := hbs.mono le12
 replace hr1 := hr1.mono le12
 replace hr2 := hr2.mono le12
 replace ha1 := ha1.mono le12
 replace f5_1hp_a := f5_1hp_a.mono le12
 refine qf (.tuple #[x13, .bool ((stepAtL ([2, 1, 0]) x3 t5X1_a 0 ((o : Int))).isSome)]) rfl (cX (qH (x13) rfl rfl (cX (qH (.bool ((stepAtL ([2, 1, 0]) x3 t5X1_a 0 ((o : Int))).isSome)) rfl rfl (qg (x13) rfl (qg (.bool ((stepAtL ([2, 1, 0]) x3 t5X1_a 0 ((o : Int))).isSome)) rfl (qb (qc ?_))))))))
 refine X.drawG [cellsH b2 [u2, sN, sN, ii ((p : Int)), ii ((u : Int)), ii ((o : Int))] 76, cellsH b1 [x1, x2] 32, curH .u64 88 cb1 bsv bs.length] L 17 [[], [], [], [], [], [], [], [], [], [], [], [], [], [12], [12], [], [12]] [[], [], [], [2], [], [], [5], [], [], [6, 7, 8], [3, 4, 9], [], [0, 1, 10, 11], [12], [12, 13], [12, 13], [12, 14]] [] (phiG [pe (.agg #[x1, x2]), pe u2, pe (ptr b1 0), pe (.agg #[x1]), pe u2, pe (ptr b1 0), pe (.agg #[x1]), pe a1, pe (ii ((p : Int)) : Value), fun FF us v => ((v) : Value) = v ∧ (IntsF FF (v) (pathL ([2, 1, 0]) ((x3.getD o ([], [])).1) ((p : Int)).toNat)), pe (ii (placeL ([2, 1, 0]) t5X1_a ((pathL ([2, 1, 0]) ((x3.getD o ([], [])).1) ((p : Int)).toNat))) : Value), pe (ii ((u : Int)) : Value), fun FF us v => (.tuple #[((tupAt v 0)), .bool ((stepAtL ([2, 1, 0]) x3 t5X1_a (placeL ([2, 1, 0]) t5X1_a ((pathL ([2, 1, 0]) ((x3.getD o ([], [])).1) ((p : Int)).toNat))) ((u : Int))).isSome)] : Value) = v ∧ (IntsF FF ((tupAt v 0)) ((stepAtL ([2, 1, 0]) x3 t5X1_a (placeL ([2, 1, 0]) t5X1_a ((pathL ([2, 1, 0]) ((x3.getD o ([], [])).1) ((p : Int)).toNat))) ((u : Int))).getD [])), fun FF us v => v = (.tuple #[((tupAt (us.getD 0 undef) 0)), .bool ((stepAtL ([2, 1, 0]) x3 t5X1_a (placeL ([2, 1, 0]) t5X1_a ((pathL ([2, 1, 0]) ((x3.getD o ([], [])).1) ((p : Int)).toNat))) ((u : Int))).isSome)] : Value), fun FF us v => v = ((tupAt (us.getD 0 undef) 0)), pe (.bool ((stepAtL ([2, 1, 0]) x3 t5X1_a (placeL ([2, 1, 0]) t5X1_a ((pathL ([2, 1, 0]) ((x3.getD o ([], [])).1) ((p : Int)).toNat))) ((u : Int))).isSome) : Value), fun FF us v => v = ((tupAt (us.getD 0 undef) 0))]) (ownL []) mixed rfl rfl (by kernel_rfl) (by kernel_rfl) (MonoG.get (m1 (m1 (m1 (m1 (m1 (m1 (m1 (m1 (m1 (mC (fun le h => ⟨h.1, h.2.mono le⟩) (m1 (m1 (mC (fun le h => ⟨h.1, h.2.mono le⟩) (mC (fun le h => h) (mC (fun le h => h) (m1 (mC (fun le h => h) MonoG.nil)))))))))))))))))) ?_ ?_
 ·refine gD (fun W Fs R lF z9 => ?_) ?_
  ·replace hbs := hbs.mono lF
   replace hr1 := hr1.mono lF
   replace hr2 := hr2.mono lF
   replace ha1 := ha1.mono lF
   replace f5_1hp_a := f5_1hp_a.mono lF
   replace hr15 := hr15.mono lF
   refine qj (qy [x1, x2] jF jp rfl rfl (Rd.ownN [_] rfl rfl) ?_)
   exact ⟨rfl, rfl⟩
  refine gD (fun W Fs R lF z9 => ?_) ?_
  ·refine qj (ql (u2) rfl ?_)
   exact ⟨rfl, rfl⟩
  refine gD (fun W Fs R lF z9 => ?_) ?_
  ·refine qj (qo (0) qK rfl qF (by decide) rfl rfl ?_)
   exact ⟨rfl, rfl⟩
  refine gD (fun W Fs R lF z9 => ?_) ?_
  ·replace hbs := hbs.mono lF
   replace hr1 := hr1.mono lF
   replace hr2 := hr2.mono lF
   replace ha1 := ha1.mono lF
   replace f5_1hp_a := f5_1hp_a.mono lF
   replace hr15 := hr15.mono lF
   rw [eS (l := [(2, _)]) ⟨z9 2 rfl, ⟨⟩⟩]
   refine qj (qy [x1] ja qF rfl rfl (Rd.ownN [_] rfl rfl) ?_)
   exact ⟨rfl, rfl⟩
  refine gD (fun W Fs R lF z9 => ?_) ?_
  ·refine qj (ql (u2) rfl ?_)
   exact ⟨rfl, rfl⟩
  refine gD (fun W Fs R lF z9 => ?_) ?_
  ·refine qj (qo (0) qK rfl qF (by decide) rfl rfl ?_)
   exact ⟨rfl, rfl⟩
  refine gD (fun W Fs R lF z9 => ?_) ?_
  ·replace hbs := hbs.mono lF
   replace hr1 := hr1.mono lF
   replace hr2 := hr2.mono lF
   replace ha1 := ha1.mono lF
   replace f5_1hp_a := f5_1hp_a.mono lF
   replace hr15 := hr15.mono lF
   rw [eS (l := [(5, _)]) ⟨z9 5 rfl, ⟨⟩⟩]
   refine qj (qy [x1] ja qF rfl rfl (Rd.ownN [_] rfl rfl) ?_)
   exact ⟨rfl, rfl⟩
  refine gD (fun W Fs R lF z9 => ?_) ?_
  ·refine qj (ql (a1) rfl ?_)
   exact ⟨rfl, rfl⟩
  refine gD (fun W Fs R lF z9 => ?_) ?_
  ·refine qj (ql (ii ((p : Int))) rfl ?_)
   exact ⟨rfl, rfl⟩
  refine gD (fun W Fs R lF z9 => ?_) ?_
  ·replace hbs := hbs.mono lF
   replace hr1 := hr1.mono lF
   replace hr2 := hr2.mono lF
   replace ha1 := ha1.mono lF
   replace f5_1hp_a := f5_1hp_a.mono lF
   replace hr15 := hr15.mono lF
   rw [eS (l := [(6, _), (7, _), (8, _)]) ⟨z9 6 rfl, z9 7 rfl, z9 8 rfl, ⟨⟩⟩]
   refine qj (jR <| qr (args := [.agg #[x1], a1, ii ((p : Int))]) call51 rfl (sPathOf_spec (n := (p : Int)) hr1 ha1 (ho := (hL9.1)) (hn := (by omega))) ?_)
   rintro v3 _ _ _ ⟨rfl, hs3, rfl⟩
   refine ⟨_, _, rfl, fun F14 le14 hz2 => ?_⟩
   replace hbs := hbs.mono le14
   replace hr1 := hr1.mono le14
   replace hr2 := hr2.mono le14
   replace f5_1hp_a := f5_1hp_a.mono le14
   replace hr15 := hr15.mono le14
   have hf2 : IntsF F14 v3 ((pathL ([2, 1, 0]) ((x3.getD o ([], [])).1) ((p : Int)).toNat)) := intsH.fz (xs := (pathL ([2, 1, 0]) ((x3.getD o ([], [])).1) ((p : Int)).toNat)) hz2.fz
   exact ⟨⟨rfl, hf2⟩, rfl⟩
  refine gD (fun W Fs R lF z9 => ?_) ?_
  ·obtain ⟨e9, f9_2ha⟩ := z9 9 rfl
   replace hbs := hbs.mono lF
   replace hr1 := hr1.mono lF
   replace hr2 := hr2.mono lF
   replace f5_1hp_a := f5_1hp_a.mono lF
   replace hr15 := hr15.mono lF
   rw [eS (l := [(3, _), (4, _), (9, ((W 9)))]) ⟨z9 3 rfl, z9 4 rfl, (e9).symm, ⟨⟩⟩]
   refine qj (qr (args := [.agg #[x1], u2, ((W 9))]) call50 rfl (sPlaceOf_spec hr1 f5_1hp_a f9_2ha (hlp := (Nat.le_trans (pathL_len ..) (Nat.le_trans hL9.2.1 (by decide)))) (hla := (by decide)) (hlt := (by omega))) ?_)
   rintro _ _ _ _ ⟨rfl, rfl, rfl⟩
   exact ⟨rfl, rfl⟩
  refine gD (fun W Fs R lF z9 => ?_) ?_
  ·refine qj (ql (ii ((u : Int))) rfl ?_)
   exact ⟨rfl, rfl⟩
  refine gD (fun W Fs R lF z9 => ?_) ?_
  ·replace hbs := hbs.mono lF
   replace hr1 := hr1.mono lF
   replace hr2 := hr2.mono lF
   replace f5_1hp_a := f5_1hp_a.mono lF
   replace hr15 := hr15.mono lF
   rw [eS (l := [(0, _), (1, _), (10, _), (11, _)]) ⟨z9 0 rfl, z9 1 rfl, z9 10 rfl, z9 11 rfl, ⟨⟩⟩]
   refine qj (qr (args := [.agg #[x1, x2], u2, ii (placeL ([2, 1, 0]) t5X1_a ((pathL ([2, 1, 0]) ((x3.getD o ([], [])).1) ((p : Int)).toNat))), ii ((u : Int))]) call49 rfl (sStepAt_spec (p := placeL ([2, 1, 0]) t5X1_a ((pathL ([2, 1, 0]) ((x3.getD o ([], [])).1) ((p : Int)).toNat))) (r := (u : Int)) hr1 hr2 f5_1hp_a (hla := (by decide)) (hlr := (by first | assumption | rfl | omega | simp)) (hrb := (by first | assumption | rfl | omega | simp)) (hlt := (by omega))) ?_)
   rintro _ F15 _ le15 ⟨x15, rfl, hr17, rfl⟩
   replace hr1 := hr1.mono le15
   replace hr2 := hr2.mono le15
   replace f5_1hp_a := f5_1hp_a.mono le15
   replace hr15 := hr15.mono le15
   exact ⟨⟨rfl, hr17⟩, rfl⟩
  refine gD (fun W Fs R lF z9 => ?_) ?_
  ·obtain ⟨e12, f12_2hr⟩ := z9 12 rfl
   rw [eS (l := [(12, (.tuple #[((tupAt (W 12) 0)), .bool ((stepAtL ([2, 1, 0]) x3 t5X1_a (placeL ([2, 1, 0]) t5X1_a ((pathL ([2, 1, 0]) ((x3.getD o ([], [])).1) ((p : Int)).toNat))) ((u : Int))).isSome)]))]) ⟨(e12).symm, ⟨⟩⟩]
   refine qj (ql (.tuple #[((tupAt (W 12) 0)), .bool ((stepAtL ([2, 1, 0]) x3 t5X1_a (placeL ([2, 1, 0]) t5X1_a ((pathL ([2, 1, 0]) ((x3.getD o ([], [])).1) ((p : Int)).toNat))) ((u : Int))).isSome)]) rfl ?_)
   exact ⟨rfl, rfl⟩
  refine gD (fun W Fs R lF z9 => ?_) ?_
  ·obtain ⟨e12, f12_2hr⟩ := z9 12 rfl
   have e13 : W 13 = (.tuple #[((tupAt (W 12) 0)), .bool ((stepAtL ([2, 1, 0]) x3 t5X1_a (placeL ([2, 1, 0]) t5X1_a ((pathL ([2, 1, 0]) ((x3.getD o ([], [])).1) ((p : Int)).toNat))) ((u : Int))).isSome)] : Value) := z9 13 rfl
   rw [eS (l := [(12, (.tuple #[((tupAt (W 12) 0)), .bool ((stepAtL ([2, 1, 0]) x3 t5X1_a (placeL ([2, 1, 0]) t5X1_a ((pathL ([2, 1, 0]) ((x3.getD o ([], [])).1) ((p : Int)).toNat))) ((u : Int))).isSome)])), (13, (.tuple #[((tupAt (W 12) 0)), .bool ((stepAtL ([2, 1, 0]) x3 t5X1_a (placeL ([2, 1, 0]) t5X1_a ((pathL ([2, 1, 0]) ((x3.getD o ([], [])).1) ((p : Int)).toNat))) ((u : Int))).isSome)]))]) ⟨(e12).symm, e13, ⟨⟩⟩]
   refine qj (qH (((tupAt (W 12) 0))) rfl rfl ?_)
   exact ⟨rfl, rfl⟩
  refine gD (fun W Fs R lF z9 => ?_) ?_
  ·obtain ⟨e12, f12_2hr⟩ := z9 12 rfl
   have e13 : W 13 = (.tuple #[((tupAt (W 12) 0)), .bool ((stepAtL ([2, 1, 0]) x3 t5X1_a (placeL ([2, 1, 0]) t5X1_a ((pathL ([2, 1, 0]) ((x3.getD o ([], [])).1) ((p : Int)).toNat))) ((u : Int))).isSome)] : Value) := z9 13 rfl
   rw [eS (l := [(12, (.tuple #[((tupAt (W 12) 0)), .bool ((stepAtL ([2, 1, 0]) x3 t5X1_a (placeL ([2, 1, 0]) t5X1_a ((pathL ([2, 1, 0]) ((x3.getD o ([], [])).1) ((p : Int)).toNat))) ((u : Int))).isSome)])), (13, (.tuple #[((tupAt (W 12) 0)), .bool ((stepAtL ([2, 1, 0]) x3 t5X1_a (placeL ([2, 1, 0]) t5X1_a ((pathL ([2, 1, 0]) ((x3.getD o ([], [])).1) ((p : Int)).toNat))) ((u : Int))).isSome)]))]) ⟨(e12).symm, e13, ⟨⟩⟩]
   refine qj (qH (.bool ((stepAtL ([2, 1, 0]) x3 t5X1_a (placeL ([2, 1, 0]) t5X1_a ((pathL ([2, 1, 0]) ((x3.getD o ([], [])).1) ((p : Int)).toNat))) ((u : Int))).isSome)) rfl rfl ?_)
   exact ⟨rfl, rfl⟩
  refine gD (fun W Fs R lF z9 => ?_) ?_
  ·obtain ⟨e12, f12_2hr⟩ := z9 12 rfl
   have e14 : W 14 = ((tupAt (W 12) 0)) := z9 14 rfl
   rw [eS (l := [(12, (.tuple #[((tupAt (W 12) 0)), .bool ((stepAtL ([2, 1, 0]) x3 t5X1_a (placeL ([2, 1, 0]) t5X1_a ((pathL ([2, 1, 0]) ((x3.getD o ([], [])).1) ((p : Int)).toNat))) ((u : Int))).isSome)])), (14, ((tupAt (W 12) 0)))]) ⟨(e12).symm, e14, ⟨⟩⟩]
   refine qj (XOp.assign (((tupAt (W 12) 0))) rfl ?_)
   exact ⟨rfl, rfl⟩
  exact stepsG.nil
 intro W F16 le16 hphi
 obtain ⟨e9, f9_2ha⟩ := hphi 9 (by decide)
 obtain ⟨e12, f12_2hr⟩ := hphi 12 (by decide)
 have e13 : W 13 = (.tuple #[((tupAt (W 12) 0)), .bool ((stepAtL ([2, 1, 0]) x3 t5X1_a (placeL ([2, 1, 0]) t5X1_a ((pathL ([2, 1, 0]) ((x3.getD o ([], [])).1) ((p : Int)).toNat))) ((u : Int))).isSome)] : Value) := hphi 13 (by decide)
 have e14 : W 14 = ((tupAt (W 12) 0)) := hphi 14 (by decide)
 have e16 : W 16 = ((tupAt (W 12) 0)) := hphi 16 (by decide)
 generalize hu4 : ((W 9)) = u4 at e9 f9_2ha e12 f12_2hr e13 e14 e16
 generalize hu5 : ((tupAt (W 12) 0)) = u5 at e9 f9_2ha e12 f12_2hr e13 e14 e16
 rw [eS (l := [(12, (.tuple #[u5, .bool ((stepAtL ([2, 1, 0]) x3 t5X1_a (placeL ([2, 1, 0]) t5X1_a ((pathL ([2, 1, 0]) ((x3.getD o ([], [])).1) ((p : Int)).toNat))) ((u : Int))).isSome)])), (15, _), (16, u5)]) ⟨(e12).symm, (hphi 15 (by decide)), e16, ⟨⟩⟩]
 replace hr1 := hr1.mono le16
 replace hr2 := hr2.mono le16
 replace f5_1hp_a := f5_1hp_a.mono le16
 replace hr15 := hr15.mono le16
 show XL _ _ _ _ _ _ _ (cellsH b2 [u2, sN, sN, ii ((p : Int)), ii ((u : Int)), ii ((o : Int))] 76 :: cellsH b1 [x1, x2] 32 :: curH .u64 88 cb1 bsv bs.length :: L)
 refine qg (.bool ((stepAtL ([2, 1, 0]) x3 t5X1_a (placeL ([2, 1, 0]) t5X1_a ((pathL ([2, 1, 0]) ((x3.getD o ([], [])).1) ((p : Int)).toNat))) ((u : Int))).isSome)) rfl (qb (qc (qa (qf (x13) rfl (cX (qo (2) qC rfl qp (by decide) rfl rfl (cX (jx [] _ [u2, sN, x13, ii ((p : Int)), ii ((u : Int)), ii ((o : Int))] qp rfl rfl (jb (qD hr15)) rfl rfl rfl (qb (qc (qa (qf (u5) rfl (cX (qo (1) qC rfl qp (by decide) rfl rfl (cX (jx [] _ [u2, u5, x13, ii ((p : Int)), ii ((u : Int)), ii ((o : Int))] qp rfl rfl (jb (qD f12_2hr)) rfl rfl rfl (qb (qc (qc (qa ?_))))))))))))))))))))
 refine qf (.bool ((stepAtL ([2, 1, 0]) x3 t5X1_a 0 ((o : Int))).isSome)) rfl (cX (jg rfl (qf (.bool (!((stepAtL ([2, 1, 0]) x3 t5X1_a 0 ((o : Int))).isSome))) rfl ?_)))
 by_cases h5 : (!((stepAtL ([2, 1, 0]) x3 t5X1_a 0 ((o : Int))).isSome)) = true
 ·have hs1 := Bool.not_inj (y := false) h5
  refine qn (t := 110) rfl (vB h5) (qn (t := 110) rfl (vB h5) (cX (qN (.bool (true)) (vB h5) rfl (qb (jq rfl (qc (qa (cX (qy [x1, x2] jF jp rfl rfl (Rd.ownN [_] rfl rfl) (cX (qy [u2, u5, x13, ii ((p : Int)), ii ((u : Int)), ii ((o : Int))] jM jk rfl rfl (Rd.ownN [] rfl rfl) (cX (qr (args := [.agg #[x1, x2], .agg #[u2, u5, x13, ii ((p : Int)), ii ((u : Int)), ii ((o : Int))]]) call52 rfl (PeakOk_spec hr1 hr2 f5_1hp_a f12_2hr hr15 (hll0 := (Nat.le_trans step_le9 (by decide))) (hlr0 := (Nat.le_trans step_le9 (by decide)))) ?_)))))))))))))
  rintro _ _ _ _ ⟨rfl, rfl, rfl⟩
  refine cX (jg rfl (qg (.bool (!(peakL ([2, 1, 0]) x3 t5X1_a ((stepAtL ([2, 1, 0]) x3 t5X1_a (placeL ([2, 1, 0]) t5X1_a ((pathL ([2, 1, 0]) ((x3.getD o ([], [])).1) ((p : Int)).toNat))) ((u : Int))).getD []) ((stepAtL ([2, 1, 0]) x3 t5X1_a 0 ((o : Int))).getD []) ((p : Int)) ((u : Int)) ((o : Int))))) rfl (qb (qw (qq (qv (L' := L) [.bool (!(peakL ([2, 1, 0]) x3 t5X1_a ((stepAtL ([2, 1, 0]) x3 t5X1_a (placeL ([2, 1, 0]) t5X1_a ((pathL ([2, 1, 0]) ((x3.getD o ([], [])).1) ((p : Int)).toNat))) ((u : Int))).getD []) ((stepAtL ([2, 1, 0]) x3 t5X1_a 0 ((o : Int))).getD []) ((p : Int)) ((u : Int)) ((o : Int))))] (.bool (!(peakL ([2, 1, 0]) x3 t5X1_a ((stepAtL ([2, 1, 0]) x3 t5X1_a (placeL ([2, 1, 0]) t5X1_a ((pathL ([2, 1, 0]) ((x3.getD o ([], [])).1) ((p : Int)).toNat))) ((u : Int))).getD []) ((stepAtL ([2, 1, 0]) x3 t5X1_a 0 ((o : Int))).getD []) ((p : Int)) ((u : Int)) ((o : Int))))) (.tmp rfl .nil) rfl rF (qh (qh (qh (qh (qh le1 le8) le9) le11) le12) le16) (sD (sD (sD sR))) ?_))))))
  exact ⟨(vB ((by rw [peakL_no (fun h9 => by first | exact opt_no1 hs1 h9.2.2.1 | exact opt_no1 hs2 h9.2.2.2)]; rfl))), rfl, rfl⟩
 rw [Bool.not_eq_true] at h5
 have hs1 := Bool.not_inj (y := true) h5
 refine qk (t := 110) rfl (vB h5) (ql (.bool ((stepAtL ([2, 1, 0]) x3 t5X1_a (placeL ([2, 1, 0]) t5X1_a ((pathL ([2, 1, 0]) ((x3.getD o ([], [])).1) ((p : Int)).toNat))) ((u : Int))).isSome)) rfl (qk (t := 110) rfl (vB h5) (jg rfl (cX (qG (.bool (!((stepAtL ([2, 1, 0]) x3 t5X1_a (placeL ([2, 1, 0]) t5X1_a ((pathL ([2, 1, 0]) ((x3.getD o ([], [])).1) ((p : Int)).toNat))) ((u : Int))).isSome))) (vB h5) rfl (qb ?_))))))
 refine jO (t := !((stepAtL ([2, 1, 0]) x3 t5X1_a (placeL ([2, 1, 0]) t5X1_a ((pathL ([2, 1, 0]) ((x3.getD o ([], [])).1) ((p : Int)).toNat))) ((u : Int))).isSome)) rfl (fun h6 => ?_) (fun h6 => ?_)
 ·have hs2 := Bool.not_inj (y := false) h6
  refine qc (qa (cX (qy [x1, x2] jF jp rfl rfl (Rd.ownN [_] rfl rfl) (cX (qy [u2, u5, x13, ii ((p : Int)), ii ((u : Int)), ii ((o : Int))] jM jk rfl rfl (Rd.ownN [] rfl rfl) (cX (qr (args := [.agg #[x1, x2], .agg #[u2, u5, x13, ii ((p : Int)), ii ((u : Int)), ii ((o : Int))]]) call52 rfl (PeakOk_spec hr1 hr2 f5_1hp_a f12_2hr hr15 (hll0 := (Nat.le_trans step_le9 (by decide))) (hlr0 := (Nat.le_trans step_le9 (by decide)))) ?_)))))))
  rintro _ _ _ _ ⟨rfl, rfl, rfl⟩
  refine cX (jg rfl (qg (.bool (!(peakL ([2, 1, 0]) x3 t5X1_a ((stepAtL ([2, 1, 0]) x3 t5X1_a (placeL ([2, 1, 0]) t5X1_a ((pathL ([2, 1, 0]) ((x3.getD o ([], [])).1) ((p : Int)).toNat))) ((u : Int))).getD []) ((stepAtL ([2, 1, 0]) x3 t5X1_a 0 ((o : Int))).getD []) ((p : Int)) ((u : Int)) ((o : Int))))) rfl (qb (qw (qq (qv (L' := L) [.bool (!(peakL ([2, 1, 0]) x3 t5X1_a ((stepAtL ([2, 1, 0]) x3 t5X1_a (placeL ([2, 1, 0]) t5X1_a ((pathL ([2, 1, 0]) ((x3.getD o ([], [])).1) ((p : Int)).toNat))) ((u : Int))).getD []) ((stepAtL ([2, 1, 0]) x3 t5X1_a 0 ((o : Int))).getD []) ((p : Int)) ((u : Int)) ((o : Int))))] (.bool (!(peakL ([2, 1, 0]) x3 t5X1_a ((stepAtL ([2, 1, 0]) x3 t5X1_a (placeL ([2, 1, 0]) t5X1_a ((pathL ([2, 1, 0]) ((x3.getD o ([], [])).1) ((p : Int)).toNat))) ((u : Int))).getD []) ((stepAtL ([2, 1, 0]) x3 t5X1_a 0 ((o : Int))).getD []) ((p : Int)) ((u : Int)) ((o : Int))))) (.tmp rfl .nil) rfl rF (qh (qh (qh (qh (qh le1 le8) le9) le11) le12) le16) (sD (sD (sD sR))) ?_))))))
  exact ⟨(vB ((by rw [peakL_no (fun h9 => by first | exact opt_no1 hs1 h9.2.2.1 | exact opt_no1 hs2 h9.2.2.2)]; rfl))), rfl, rfl⟩
 have hs2 := Bool.not_inj (y := true) h6
 refine qz (qc (qa ?_))
 have hs1e := (getD_some hs1).2 rfl
 have hs2e := (getD_some hs2).2 rfl
 have hsys := (stepAtOk_iff.1 (stepAtL_iff.1 hs1e).1).1.1
 obtain ⟨τ, hτ⟩ := two_pks hsys ho hu hp hs1e hs2e
 have hpkt := hτ.ok hsys ho hu hp h0 hne
 refine cX (qy [x1, x2] jF jp rfl rfl (Rd.ownN [_] rfl rfl) (qf (ii ((o : Int))) rfl (qf (ii ((p : Int))) rfl (qf (ii ((u : Int))) rfl (cX (qr (args := [.agg #[x1, x2], ii (o : Int), ii (p : Int), ii (u : Int)]) call53 rfl (PeakAtG_spec (o := o) (p := p) (u := u) hr1 hr2 (hsys := (hsys)) (ho := (ho)) (hu := (hu)) (hp := (hp)) (h0 := (h0))) ?_))))))
 rintro _ F17 _ le17 ⟨x16, x17, x18, rfl, hr18, hr19, hr20, hr21, rfl⟩
 replace hr1 := hr1.mono le17
 replace hr2 := hr2.mono le17
 replace f5_1hp_a := f5_1hp_a.mono le17
 replace hr15 := hr15.mono le17
 replace f12_2hr := f12_2hr.mono le17
 refine qf (.tuple #[.agg #[x16, x17, x18, ii (((pkF ([2, 1, 0]) x3 o p u).getD P0).2.2.2.1), ii (((pkF ([2, 1, 0]) x3 o p u).getD P0).2.2.2.2.1), ii (((pkF ([2, 1, 0]) x3 o p u).getD P0).2.2.2.2.2)], .bool ((pkF ([2, 1, 0]) x3 o p u).isSome)]) rfl ?_
 have hgl := gen_law hsys ho hu hp h0 hne hτ h24 hr21
 refine cX (qH (.agg #[x16, x17, x18, ii (((pkF ([2, 1, 0]) x3 o p u).getD P0).2.2.2.1), ii (((pkF ([2, 1, 0]) x3 o p u).getD P0).2.2.2.2.1), ii (((pkF ([2, 1, 0]) x3 o p u).getD P0).2.2.2.2.2)]) rfl rfl (cX (qH (.bool ((pkF ([2, 1, 0]) x3 o p u).isSome)) rfl rfl (cX (jo [sN, sN, sN, ii (0), ii (0), ii (0)] jr rfl ?_)))))
 intro b3
 refine cX (qV [] _ [x16, x17, x18, ii (((pkF ([2, 1, 0]) x3 o p u).getD P0).2.2.2.1), ii (((pkF ([2, 1, 0]) x3 o p u).getD P0).2.2.2.2.1), ii (((pkF ([2, 1, 0]) x3 o p u).getD P0).2.2.2.2.2)] jk rfl rfl rfl (qs (jb (qD hr18)) (qs (jb (qD hr19)) (qs (jb (qD hr20)) (qs rfl (qs rfl (qs rfl qZ)))))) rfl rfl rfl (qg (.bool ((pkF ([2, 1, 0]) x3 o p u).isSome)) rfl (qb (qc (qc (qa (cX (qy [x1, x2] jF jp rfl rfl (Rd.ownN [_, _] rfl rfl) (cX (qy [u2, u5, x13, ii ((p : Int)), ii ((u : Int)), ii ((o : Int))] jM jk rfl rfl (Rd.ownN [_] rfl rfl) (cX (qr (args := [.agg #[x1, x2], .agg #[u2, u5, x13, ii ((p : Int)), ii ((u : Int)), ii ((o : Int))]]) call52 rfl (PeakOk_spec hr1 hr2 f5_1hp_a f12_2hr hr15 (hll0 := (Nat.le_trans step_le9 (by decide))) (hlr0 := (Nat.le_trans step_le9 (by decide)))) ?_))))))))))))
 rintro _ _ _ _ ⟨rfl, rfl, rfl⟩
 refine cX (jg rfl (qf (.bool (!(peakL ([2, 1, 0]) x3 t5X1_a ((stepAtL ([2, 1, 0]) x3 t5X1_a (placeL ([2, 1, 0]) t5X1_a ((pathL ([2, 1, 0]) ((x3.getD o ([], [])).1) ((p : Int)).toNat))) ((u : Int))).getD []) ((stepAtL ([2, 1, 0]) x3 t5X1_a 0 ((o : Int))).getD []) ((p : Int)) ((u : Int)) ((o : Int))))) rfl ?_))
 by_cases h7 : (!(peakL ([2, 1, 0]) x3 t5X1_a ((stepAtL ([2, 1, 0]) x3 t5X1_a (placeL ([2, 1, 0]) t5X1_a ((pathL ([2, 1, 0]) ((x3.getD o ([], [])).1) ((p : Int)).toNat))) ((u : Int))).getD []) ((stepAtL ([2, 1, 0]) x3 t5X1_a 0 ((o : Int))).getD []) ((p : Int)) ((u : Int)) ((o : Int)))) = true
 ·exact absurd ((Bool.not_inj (y := false) h7).symm.trans hpkt) (by decide)
 rw [Bool.not_eq_true] at h7
 refine qk (t := 130) rfl (vB h7) (ql (.bool ((pkF ([2, 1, 0]) x3 o p u).isSome)) rfl (qk (t := 130) rfl (vB h7) (jg rfl (cX (qG (.bool (!((pkF ([2, 1, 0]) x3 o p u).isSome))) (vB h7) rfl (qb ?_))))))
 refine jO (t := !((pkF ([2, 1, 0]) x3 o p u).isSome)) rfl (fun h8 => ?_) (fun h8 => ?_)
 ·exact absurd ((Bool.not_inj (y := false) h8).symm.trans hgl.1) (by decide)
 refine qz (qc (qa (cX (qo (0) qK rfl qF (by decide) rfl rfl (cX (qy [x1] ja qF rfl rfl (Rd.ownN [_, _] rfl rfl) (cX (qo (0) qC rfl qp (by decide) rfl rfl (cX (qi qW rfl (Rd.own [] rfl rfl) (qf (u2) rfl (cX (qr (args := [.agg #[x1], x16, u2]) call54 rfl (sMatched_spec hr1 hr18 f5_1hp_a (ho := (hτ.topOk)) (hpo := (hgl.2.2.1.1)) (hla := (by decide))) ?_)))))))))))))
 rintro _ F18 _ le18 ⟨x19, rfl, hr22, rfl⟩
 replace hr1 := hr1.mono le18
 replace hr2 := hr2.mono le18
 replace f5_1hp_a := f5_1hp_a.mono le18
 replace hr15 := hr15.mono le18
 replace f12_2hr := f12_2hr.mono le18
 replace hr18 := hr18.mono le18
 replace hr19 := hr19.mono le18
 replace hr20 := hr20.mono le18
 refine qf (.tuple #[.agg #[x19], .bool ((matchB ([2, 1, 0]) (((pkF ([2, 1, 0]) x3 o p u).getD P0).1) t5X1_a).isSome)]) rfl (cX (qH (.agg #[x19]) rfl rfl (cX (qH (.bool ((matchB ([2, 1, 0]) (((pkF ([2, 1, 0]) x3 o p u).getD P0).1) t5X1_a).isSome)) rfl rfl (cX (jo [sN] jy rfl ?_))))))
 intro b4
 refine cX (qV [] _ [x19] jl rfl rfl rfl (qs (jb (RowsF.isSl hr22)) qZ) rfl rfl rfl (qg (.bool ((matchB ([2, 1, 0]) (((pkF ([2, 1, 0]) x3 o p u).getD P0).1) t5X1_a).isSome)) rfl (qb (qc (qc (qa (qf (.bool ((matchB ([2, 1, 0]) (((pkF ([2, 1, 0]) x3 o p u).getD P0).1) t5X1_a).isSome)) rfl (cX (jg rfl (qb ?_))))))))))
 refine jO (t := !((matchB ([2, 1, 0]) (((pkF ([2, 1, 0]) x3 o p u).getD P0).1) t5X1_a).isSome)) rfl (fun h9 => ?_) (fun h9 => ?_)
 ·exact absurd ((Bool.not_inj (y := false) h9).symm.trans hgl.2.1) (by decide)
 refine qz (qc (qa (cX (qy [x1, x2] jF jp rfl rfl (Rd.ownN [_, _, _] rfl rfl) (cX (qy [x16, x17, x18, ii (((pkF ([2, 1, 0]) x3 o p u).getD P0).2.2.2.1), ii (((pkF ([2, 1, 0]) x3 o p u).getD P0).2.2.2.2.1), ii (((pkF ([2, 1, 0]) x3 o p u).getD P0).2.2.2.2.2)] jM jk rfl rfl (Rd.ownN [_] rfl rfl) (cX (qy [x19] jG jl rfl rfl (Rd.ownN [] rfl rfl) (cX (qr (args := [.agg #[x1, x2], .agg #[x16, x17, x18, ii (((pkF ([2, 1, 0]) x3 o p u).getD P0).2.2.2.1), ii (((pkF ([2, 1, 0]) x3 o p u).getD P0).2.2.2.2.1), ii (((pkF ([2, 1, 0]) x3 o p u).getD P0).2.2.2.2.2)], .agg #[x19]]) call55 rfl (PeakUnder_spec hr1 hr2 hr18 hr19 hr20 hr22 (hll0 := (Nat.le_trans hgl.2.2.1.2.1 (by decide))) (hlr0 := (Nat.le_trans hgl.2.2.1.2.2 (by decide)))) ?_))))))))))
 rintro _ F19 _ le19 ⟨x20, x21, x22, rfl, hr23, hr24, hr25, hr26, rfl⟩
 replace f5_1hp_a := f5_1hp_a.mono le19
 replace hr15 := hr15.mono le19
 replace f12_2hr := f12_2hr.mono le19
 refine qf (.tuple #[.agg #[x20, x21, x22, ii ((peakUL ([2, 1, 0]) x3 (((pkF ([2, 1, 0]) x3 o p u).getD P0).1) (((pkF ([2, 1, 0]) x3 o p u).getD P0).2.1) (((pkF ([2, 1, 0]) x3 o p u).getD P0).2.2.1) (((pkF ([2, 1, 0]) x3 o p u).getD P0).2.2.2.1) (((pkF ([2, 1, 0]) x3 o p u).getD P0).2.2.2.2.1) (((pkF ([2, 1, 0]) x3 o p u).getD P0).2.2.2.2.2) (matchP ([2, 1, 0]) (((pkF ([2, 1, 0]) x3 o p u).getD P0).1) t5X1_a)).2.2.2.1.1), ii ((peakUL ([2, 1, 0]) x3 (((pkF ([2, 1, 0]) x3 o p u).getD P0).1) (((pkF ([2, 1, 0]) x3 o p u).getD P0).2.1) (((pkF ([2, 1, 0]) x3 o p u).getD P0).2.2.1) (((pkF ([2, 1, 0]) x3 o p u).getD P0).2.2.2.1) (((pkF ([2, 1, 0]) x3 o p u).getD P0).2.2.2.2.1) (((pkF ([2, 1, 0]) x3 o p u).getD P0).2.2.2.2.2) (matchP ([2, 1, 0]) (((pkF ([2, 1, 0]) x3 o p u).getD P0).1) t5X1_a)).2.2.2.1.2.1), ii ((peakUL ([2, 1, 0]) x3 (((pkF ([2, 1, 0]) x3 o p u).getD P0).1) (((pkF ([2, 1, 0]) x3 o p u).getD P0).2.1) (((pkF ([2, 1, 0]) x3 o p u).getD P0).2.2.1) (((pkF ([2, 1, 0]) x3 o p u).getD P0).2.2.2.1) (((pkF ([2, 1, 0]) x3 o p u).getD P0).2.2.2.2.1) (((pkF ([2, 1, 0]) x3 o p u).getD P0).2.2.2.2.2) (matchP ([2, 1, 0]) (((pkF ([2, 1, 0]) x3 o p u).getD P0).1) t5X1_a)).2.2.2.1.2.2)], .bool ((peakUL ([2, 1, 0]) x3 (((pkF ([2, 1, 0]) x3 o p u).getD P0).1) (((pkF ([2, 1, 0]) x3 o p u).getD P0).2.1) (((pkF ([2, 1, 0]) x3 o p u).getD P0).2.2.1) (((pkF ([2, 1, 0]) x3 o p u).getD P0).2.2.2.1) (((pkF ([2, 1, 0]) x3 o p u).getD P0).2.2.2.2.1) (((pkF ([2, 1, 0]) x3 o p u).getD P0).2.2.2.2.2) (matchP ([2, 1, 0]) (((pkF ([2, 1, 0]) x3 o p u).getD P0).1) t5X1_a)).2.2.2.2)]) rfl ?_
 refine cX (qH (.agg #[x20, x21, x22, ii ((peakUL ([2, 1, 0]) x3 (((pkF ([2, 1, 0]) x3 o p u).getD P0).1) (((pkF ([2, 1, 0]) x3 o p u).getD P0).2.1) (((pkF ([2, 1, 0]) x3 o p u).getD P0).2.2.1) (((pkF ([2, 1, 0]) x3 o p u).getD P0).2.2.2.1) (((pkF ([2, 1, 0]) x3 o p u).getD P0).2.2.2.2.1) (((pkF ([2, 1, 0]) x3 o p u).getD P0).2.2.2.2.2) (matchP ([2, 1, 0]) (((pkF ([2, 1, 0]) x3 o p u).getD P0).1) t5X1_a)).2.2.2.1.1), ii ((peakUL ([2, 1, 0]) x3 (((pkF ([2, 1, 0]) x3 o p u).getD P0).1) (((pkF ([2, 1, 0]) x3 o p u).getD P0).2.1) (((pkF ([2, 1, 0]) x3 o p u).getD P0).2.2.1) (((pkF ([2, 1, 0]) x3 o p u).getD P0).2.2.2.1) (((pkF ([2, 1, 0]) x3 o p u).getD P0).2.2.2.2.1) (((pkF ([2, 1, 0]) x3 o p u).getD P0).2.2.2.2.2) (matchP ([2, 1, 0]) (((pkF ([2, 1, 0]) x3 o p u).getD P0).1) t5X1_a)).2.2.2.1.2.1), ii ((peakUL ([2, 1, 0]) x3 (((pkF ([2, 1, 0]) x3 o p u).getD P0).1) (((pkF ([2, 1, 0]) x3 o p u).getD P0).2.1) (((pkF ([2, 1, 0]) x3 o p u).getD P0).2.2.1) (((pkF ([2, 1, 0]) x3 o p u).getD P0).2.2.2.1) (((pkF ([2, 1, 0]) x3 o p u).getD P0).2.2.2.2.1) (((pkF ([2, 1, 0]) x3 o p u).getD P0).2.2.2.2.2) (matchP ([2, 1, 0]) (((pkF ([2, 1, 0]) x3 o p u).getD P0).1) t5X1_a)).2.2.2.1.2.2)]) rfl rfl (cX (qH (.bool ((peakUL ([2, 1, 0]) x3 (((pkF ([2, 1, 0]) x3 o p u).getD P0).1) (((pkF ([2, 1, 0]) x3 o p u).getD P0).2.1) (((pkF ([2, 1, 0]) x3 o p u).getD P0).2.2.1) (((pkF ([2, 1, 0]) x3 o p u).getD P0).2.2.2.1) (((pkF ([2, 1, 0]) x3 o p u).getD P0).2.2.2.2.1) (((pkF ([2, 1, 0]) x3 o p u).getD P0).2.2.2.2.2) (matchP ([2, 1, 0]) (((pkF ([2, 1, 0]) x3 o p u).getD P0).1) t5X1_a)).2.2.2.2)) rfl rfl ?_)))
 refine cX (jo [sN, sN, sN, ii (0), ii (0), ii (0)] jr rfl ?_)
 intro b5
 refine cX (qV [] _ [x20, x21, x22, ii ((peakUL ([2, 1, 0]) x3 (((pkF ([2, 1, 0]) x3 o p u).getD P0).1) (((pkF ([2, 1, 0]) x3 o p u).getD P0).2.1) (((pkF ([2, 1, 0]) x3 o p u).getD P0).2.2.1) (((pkF ([2, 1, 0]) x3 o p u).getD P0).2.2.2.1) (((pkF ([2, 1, 0]) x3 o p u).getD P0).2.2.2.2.1) (((pkF ([2, 1, 0]) x3 o p u).getD P0).2.2.2.2.2) (matchP ([2, 1, 0]) (((pkF ([2, 1, 0]) x3 o p u).getD P0).1) t5X1_a)).2.2.2.1.1), ii ((peakUL ([2, 1, 0]) x3 (((pkF ([2, 1, 0]) x3 o p u).getD P0).1) (((pkF ([2, 1, 0]) x3 o p u).getD P0).2.1) (((pkF ([2, 1, 0]) x3 o p u).getD P0).2.2.1) (((pkF ([2, 1, 0]) x3 o p u).getD P0).2.2.2.1) (((pkF ([2, 1, 0]) x3 o p u).getD P0).2.2.2.2.1) (((pkF ([2, 1, 0]) x3 o p u).getD P0).2.2.2.2.2) (matchP ([2, 1, 0]) (((pkF ([2, 1, 0]) x3 o p u).getD P0).1) t5X1_a)).2.2.2.1.2.1), ii ((peakUL ([2, 1, 0]) x3 (((pkF ([2, 1, 0]) x3 o p u).getD P0).1) (((pkF ([2, 1, 0]) x3 o p u).getD P0).2.1) (((pkF ([2, 1, 0]) x3 o p u).getD P0).2.2.1) (((pkF ([2, 1, 0]) x3 o p u).getD P0).2.2.2.1) (((pkF ([2, 1, 0]) x3 o p u).getD P0).2.2.2.2.1) (((pkF ([2, 1, 0]) x3 o p u).getD P0).2.2.2.2.2) (matchP ([2, 1, 0]) (((pkF ([2, 1, 0]) x3 o p u).getD P0).1) t5X1_a)).2.2.2.1.2.2)] jk rfl rfl rfl (qs (jb (qD hr23)) (qs (jb (qD hr24)) (qs (jb (qD hr25)) (qs rfl (qs rfl (qs rfl qZ)))))) rfl rfl rfl (qg (.bool ((peakUL ([2, 1, 0]) x3 (((pkF ([2, 1, 0]) x3 o p u).getD P0).1) (((pkF ([2, 1, 0]) x3 o p u).getD P0).2.1) (((pkF ([2, 1, 0]) x3 o p u).getD P0).2.2.1) (((pkF ([2, 1, 0]) x3 o p u).getD P0).2.2.2.1) (((pkF ([2, 1, 0]) x3 o p u).getD P0).2.2.2.2.1) (((pkF ([2, 1, 0]) x3 o p u).getD P0).2.2.2.2.2) (matchP ([2, 1, 0]) (((pkF ([2, 1, 0]) x3 o p u).getD P0).1) t5X1_a)).2.2.2.2)) rfl ?_))
 refine qb (qc (qa (qf (.bool ((peakUL ([2, 1, 0]) x3 (((pkF ([2, 1, 0]) x3 o p u).getD P0).1) (((pkF ([2, 1, 0]) x3 o p u).getD P0).2.1) (((pkF ([2, 1, 0]) x3 o p u).getD P0).2.2.1) (((pkF ([2, 1, 0]) x3 o p u).getD P0).2.2.2.1) (((pkF ([2, 1, 0]) x3 o p u).getD P0).2.2.2.2.1) (((pkF ([2, 1, 0]) x3 o p u).getD P0).2.2.2.2.2) (matchP ([2, 1, 0]) (((pkF ([2, 1, 0]) x3 o p u).getD P0).1) t5X1_a)).2.2.2.2)) rfl (qf (.bool ((peakUL ([2, 1, 0]) x3 (((pkF ([2, 1, 0]) x3 o p u).getD P0).1) (((pkF ([2, 1, 0]) x3 o p u).getD P0).2.1) (((pkF ([2, 1, 0]) x3 o p u).getD P0).2.2.1) (((pkF ([2, 1, 0]) x3 o p u).getD P0).2.2.2.1) (((pkF ([2, 1, 0]) x3 o p u).getD P0).2.2.2.2.1) (((pkF ([2, 1, 0]) x3 o p u).getD P0).2.2.2.2.2) (matchP ([2, 1, 0]) (((pkF ([2, 1, 0]) x3 o p u).getD P0).1) t5X1_a)).2.2.2.2)) rfl ?_))))
 by_cases h10 : ((peakUL ([2, 1, 0]) x3 (((pkF ([2, 1, 0]) x3 o p u).getD P0).1) (((pkF ([2, 1, 0]) x3 o p u).getD P0).2.1) (((pkF ([2, 1, 0]) x3 o p u).getD P0).2.2.1) (((pkF ([2, 1, 0]) x3 o p u).getD P0).2.2.2.1) (((pkF ([2, 1, 0]) x3 o p u).getD P0).2.2.2.2.1) (((pkF ([2, 1, 0]) x3 o p u).getD P0).2.2.2.2.2) (matchP ([2, 1, 0]) (((pkF ([2, 1, 0]) x3 o p u).getD P0).1) t5X1_a)).2.2.2.2) = true
 ·refine qk (t := 153) rfl (vB h10) (qy [x20, x21, x22, ii ((peakUL ([2, 1, 0]) x3 (((pkF ([2, 1, 0]) x3 o p u).getD P0).1) (((pkF ([2, 1, 0]) x3 o p u).getD P0).2.1) (((pkF ([2, 1, 0]) x3 o p u).getD P0).2.2.1) (((pkF ([2, 1, 0]) x3 o p u).getD P0).2.2.2.1) (((pkF ([2, 1, 0]) x3 o p u).getD P0).2.2.2.2.1) (((pkF ([2, 1, 0]) x3 o p u).getD P0).2.2.2.2.2) (matchP ([2, 1, 0]) (((pkF ([2, 1, 0]) x3 o p u).getD P0).1) t5X1_a)).2.2.2.1.1), ii ((peakUL ([2, 1, 0]) x3 (((pkF ([2, 1, 0]) x3 o p u).getD P0).1) (((pkF ([2, 1, 0]) x3 o p u).getD P0).2.1) (((pkF ([2, 1, 0]) x3 o p u).getD P0).2.2.1) (((pkF ([2, 1, 0]) x3 o p u).getD P0).2.2.2.1) (((pkF ([2, 1, 0]) x3 o p u).getD P0).2.2.2.2.1) (((pkF ([2, 1, 0]) x3 o p u).getD P0).2.2.2.2.2) (matchP ([2, 1, 0]) (((pkF ([2, 1, 0]) x3 o p u).getD P0).1) t5X1_a)).2.2.2.1.2.1), ii ((peakUL ([2, 1, 0]) x3 (((pkF ([2, 1, 0]) x3 o p u).getD P0).1) (((pkF ([2, 1, 0]) x3 o p u).getD P0).2.1) (((pkF ([2, 1, 0]) x3 o p u).getD P0).2.2.1) (((pkF ([2, 1, 0]) x3 o p u).getD P0).2.2.2.1) (((pkF ([2, 1, 0]) x3 o p u).getD P0).2.2.2.2.1) (((pkF ([2, 1, 0]) x3 o p u).getD P0).2.2.2.2.2) (matchP ([2, 1, 0]) (((pkF ([2, 1, 0]) x3 o p u).getD P0).1) t5X1_a)).2.2.2.1.2.2)] jM jk rfl rfl (Rd.ownN [] rfl rfl) (qk (t := 153) rfl (vB h10) (qy [u2, u5, x13, ii ((p : Int)), ii ((u : Int)), ii ((o : Int))] jM jk rfl rfl (Rd.ownN [_, _, _] rfl rfl) (qk (t := 153) rfl (vB h10) (qr (args := [.agg #[x20, x21, x22, ii ((peakUL ([2, 1, 0]) x3 (((pkF ([2, 1, 0]) x3 o p u).getD P0).1) (((pkF ([2, 1, 0]) x3 o p u).getD P0).2.1) (((pkF ([2, 1, 0]) x3 o p u).getD P0).2.2.1) (((pkF ([2, 1, 0]) x3 o p u).getD P0).2.2.2.1) (((pkF ([2, 1, 0]) x3 o p u).getD P0).2.2.2.2.1) (((pkF ([2, 1, 0]) x3 o p u).getD P0).2.2.2.2.2) (matchP ([2, 1, 0]) (((pkF ([2, 1, 0]) x3 o p u).getD P0).1) t5X1_a)).2.2.2.1.1), ii ((peakUL ([2, 1, 0]) x3 (((pkF ([2, 1, 0]) x3 o p u).getD P0).1) (((pkF ([2, 1, 0]) x3 o p u).getD P0).2.1) (((pkF ([2, 1, 0]) x3 o p u).getD P0).2.2.1) (((pkF ([2, 1, 0]) x3 o p u).getD P0).2.2.2.1) (((pkF ([2, 1, 0]) x3 o p u).getD P0).2.2.2.2.1) (((pkF ([2, 1, 0]) x3 o p u).getD P0).2.2.2.2.2) (matchP ([2, 1, 0]) (((pkF ([2, 1, 0]) x3 o p u).getD P0).1) t5X1_a)).2.2.2.1.2.1), ii ((peakUL ([2, 1, 0]) x3 (((pkF ([2, 1, 0]) x3 o p u).getD P0).1) (((pkF ([2, 1, 0]) x3 o p u).getD P0).2.1) (((pkF ([2, 1, 0]) x3 o p u).getD P0).2.2.1) (((pkF ([2, 1, 0]) x3 o p u).getD P0).2.2.2.1) (((pkF ([2, 1, 0]) x3 o p u).getD P0).2.2.2.2.1) (((pkF ([2, 1, 0]) x3 o p u).getD P0).2.2.2.2.2) (matchP ([2, 1, 0]) (((pkF ([2, 1, 0]) x3 o p u).getD P0).1) t5X1_a)).2.2.2.1.2.2)], .agg #[u2, u5, x13, ii ((p : Int)), ii ((u : Int)), ii ((o : Int))]]) call56 rfl (SamePeak_spec hr23 hr24 hr25 f5_1hp_a f12_2hr hr15 (hw1 := (Nat.le_trans peakUL_bounds.1 (by decide))) (hw2 := (Nat.le_trans peakUL_bounds.2.1 (by decide))) (hw3 := (Nat.le_trans peakUL_bounds.2.2 (by decide)))) ?_)))))
  rintro _ F20 _ le20 ⟨rfl, rfl⟩
  refine cX (qN (.bool (decide ((((peakUL ([2, 1, 0]) x3 (((pkF ([2, 1, 0]) x3 o p u).getD P0).1) (((pkF ([2, 1, 0]) x3 o p u).getD P0).2.1) (((pkF ([2, 1, 0]) x3 o p u).getD P0).2.2.1) (((pkF ([2, 1, 0]) x3 o p u).getD P0).2.2.2.1) (((pkF ([2, 1, 0]) x3 o p u).getD P0).2.2.2.2.1) (((pkF ([2, 1, 0]) x3 o p u).getD P0).2.2.2.2.2) (matchP ([2, 1, 0]) (((pkF ([2, 1, 0]) x3 o p u).getD P0).1) t5X1_a)).1), ((peakUL ([2, 1, 0]) x3 (((pkF ([2, 1, 0]) x3 o p u).getD P0).1) (((pkF ([2, 1, 0]) x3 o p u).getD P0).2.1) (((pkF ([2, 1, 0]) x3 o p u).getD P0).2.2.1) (((pkF ([2, 1, 0]) x3 o p u).getD P0).2.2.2.1) (((pkF ([2, 1, 0]) x3 o p u).getD P0).2.2.2.2.1) (((pkF ([2, 1, 0]) x3 o p u).getD P0).2.2.2.2.2) (matchP ([2, 1, 0]) (((pkF ([2, 1, 0]) x3 o p u).getD P0).1) t5X1_a)).2.1), ((peakUL ([2, 1, 0]) x3 (((pkF ([2, 1, 0]) x3 o p u).getD P0).1) (((pkF ([2, 1, 0]) x3 o p u).getD P0).2.1) (((pkF ([2, 1, 0]) x3 o p u).getD P0).2.2.1) (((pkF ([2, 1, 0]) x3 o p u).getD P0).2.2.2.1) (((pkF ([2, 1, 0]) x3 o p u).getD P0).2.2.2.2.1) (((pkF ([2, 1, 0]) x3 o p u).getD P0).2.2.2.2.2) (matchP ([2, 1, 0]) (((pkF ([2, 1, 0]) x3 o p u).getD P0).1) t5X1_a)).2.2.1), ((peakUL ([2, 1, 0]) x3 (((pkF ([2, 1, 0]) x3 o p u).getD P0).1) (((pkF ([2, 1, 0]) x3 o p u).getD P0).2.1) (((pkF ([2, 1, 0]) x3 o p u).getD P0).2.2.1) (((pkF ([2, 1, 0]) x3 o p u).getD P0).2.2.2.1) (((pkF ([2, 1, 0]) x3 o p u).getD P0).2.2.2.2.1) (((pkF ([2, 1, 0]) x3 o p u).getD P0).2.2.2.2.2) (matchP ([2, 1, 0]) (((pkF ([2, 1, 0]) x3 o p u).getD P0).1) t5X1_a)).2.2.2.1.1), ((peakUL ([2, 1, 0]) x3 (((pkF ([2, 1, 0]) x3 o p u).getD P0).1) (((pkF ([2, 1, 0]) x3 o p u).getD P0).2.1) (((pkF ([2, 1, 0]) x3 o p u).getD P0).2.2.1) (((pkF ([2, 1, 0]) x3 o p u).getD P0).2.2.2.1) (((pkF ([2, 1, 0]) x3 o p u).getD P0).2.2.2.2.1) (((pkF ([2, 1, 0]) x3 o p u).getD P0).2.2.2.2.2) (matchP ([2, 1, 0]) (((pkF ([2, 1, 0]) x3 o p u).getD P0).1) t5X1_a)).2.2.2.1.2.1), ((peakUL ([2, 1, 0]) x3 (((pkF ([2, 1, 0]) x3 o p u).getD P0).1) (((pkF ([2, 1, 0]) x3 o p u).getD P0).2.1) (((pkF ([2, 1, 0]) x3 o p u).getD P0).2.2.1) (((pkF ([2, 1, 0]) x3 o p u).getD P0).2.2.2.1) (((pkF ([2, 1, 0]) x3 o p u).getD P0).2.2.2.2.1) (((pkF ([2, 1, 0]) x3 o p u).getD P0).2.2.2.2.2) (matchP ([2, 1, 0]) (((pkF ([2, 1, 0]) x3 o p u).getD P0).1) t5X1_a)).2.2.2.1.2.2)) = (t5X1_a, ((stepAtL ([2, 1, 0]) x3 t5X1_a (placeL ([2, 1, 0]) t5X1_a ((pathL ([2, 1, 0]) ((x3.getD o ([], [])).1) ((p : Int)).toNat))) ((u : Int))).getD []), ((stepAtL ([2, 1, 0]) x3 t5X1_a 0 ((o : Int))).getD []), ((p : Int)), ((u : Int)), ((o : Int)))))) (vB h10) rfl ?_)
  refine qg (.bool (decide ((((peakUL ([2, 1, 0]) x3 (((pkF ([2, 1, 0]) x3 o p u).getD P0).1) (((pkF ([2, 1, 0]) x3 o p u).getD P0).2.1) (((pkF ([2, 1, 0]) x3 o p u).getD P0).2.2.1) (((pkF ([2, 1, 0]) x3 o p u).getD P0).2.2.2.1) (((pkF ([2, 1, 0]) x3 o p u).getD P0).2.2.2.2.1) (((pkF ([2, 1, 0]) x3 o p u).getD P0).2.2.2.2.2) (matchP ([2, 1, 0]) (((pkF ([2, 1, 0]) x3 o p u).getD P0).1) t5X1_a)).1), ((peakUL ([2, 1, 0]) x3 (((pkF ([2, 1, 0]) x3 o p u).getD P0).1) (((pkF ([2, 1, 0]) x3 o p u).getD P0).2.1) (((pkF ([2, 1, 0]) x3 o p u).getD P0).2.2.1) (((pkF ([2, 1, 0]) x3 o p u).getD P0).2.2.2.1) (((pkF ([2, 1, 0]) x3 o p u).getD P0).2.2.2.2.1) (((pkF ([2, 1, 0]) x3 o p u).getD P0).2.2.2.2.2) (matchP ([2, 1, 0]) (((pkF ([2, 1, 0]) x3 o p u).getD P0).1) t5X1_a)).2.1), ((peakUL ([2, 1, 0]) x3 (((pkF ([2, 1, 0]) x3 o p u).getD P0).1) (((pkF ([2, 1, 0]) x3 o p u).getD P0).2.1) (((pkF ([2, 1, 0]) x3 o p u).getD P0).2.2.1) (((pkF ([2, 1, 0]) x3 o p u).getD P0).2.2.2.1) (((pkF ([2, 1, 0]) x3 o p u).getD P0).2.2.2.2.1) (((pkF ([2, 1, 0]) x3 o p u).getD P0).2.2.2.2.2) (matchP ([2, 1, 0]) (((pkF ([2, 1, 0]) x3 o p u).getD P0).1) t5X1_a)).2.2.1), ((peakUL ([2, 1, 0]) x3 (((pkF ([2, 1, 0]) x3 o p u).getD P0).1) (((pkF ([2, 1, 0]) x3 o p u).getD P0).2.1) (((pkF ([2, 1, 0]) x3 o p u).getD P0).2.2.1) (((pkF ([2, 1, 0]) x3 o p u).getD P0).2.2.2.1) (((pkF ([2, 1, 0]) x3 o p u).getD P0).2.2.2.2.1) (((pkF ([2, 1, 0]) x3 o p u).getD P0).2.2.2.2.2) (matchP ([2, 1, 0]) (((pkF ([2, 1, 0]) x3 o p u).getD P0).1) t5X1_a)).2.2.2.1.1), ((peakUL ([2, 1, 0]) x3 (((pkF ([2, 1, 0]) x3 o p u).getD P0).1) (((pkF ([2, 1, 0]) x3 o p u).getD P0).2.1) (((pkF ([2, 1, 0]) x3 o p u).getD P0).2.2.1) (((pkF ([2, 1, 0]) x3 o p u).getD P0).2.2.2.1) (((pkF ([2, 1, 0]) x3 o p u).getD P0).2.2.2.2.1) (((pkF ([2, 1, 0]) x3 o p u).getD P0).2.2.2.2.2) (matchP ([2, 1, 0]) (((pkF ([2, 1, 0]) x3 o p u).getD P0).1) t5X1_a)).2.2.2.1.2.1), ((peakUL ([2, 1, 0]) x3 (((pkF ([2, 1, 0]) x3 o p u).getD P0).1) (((pkF ([2, 1, 0]) x3 o p u).getD P0).2.1) (((pkF ([2, 1, 0]) x3 o p u).getD P0).2.2.1) (((pkF ([2, 1, 0]) x3 o p u).getD P0).2.2.2.1) (((pkF ([2, 1, 0]) x3 o p u).getD P0).2.2.2.2.1) (((pkF ([2, 1, 0]) x3 o p u).getD P0).2.2.2.2.2) (matchP ([2, 1, 0]) (((pkF ([2, 1, 0]) x3 o p u).getD P0).1) t5X1_a)).2.2.2.1.2.2)) = (t5X1_a, ((stepAtL ([2, 1, 0]) x3 t5X1_a (placeL ([2, 1, 0]) t5X1_a ((pathL ([2, 1, 0]) ((x3.getD o ([], [])).1) ((p : Int)).toNat))) ((u : Int))).getD []), ((stepAtL ([2, 1, 0]) x3 t5X1_a 0 ((o : Int))).getD []), ((p : Int)), ((u : Int)), ((o : Int)))))) rfl ?_
  refine qb (qw (qv (L' := L) [.bool (decide ((((peakUL ([2, 1, 0]) x3 (((pkF ([2, 1, 0]) x3 o p u).getD P0).1) (((pkF ([2, 1, 0]) x3 o p u).getD P0).2.1) (((pkF ([2, 1, 0]) x3 o p u).getD P0).2.2.1) (((pkF ([2, 1, 0]) x3 o p u).getD P0).2.2.2.1) (((pkF ([2, 1, 0]) x3 o p u).getD P0).2.2.2.2.1) (((pkF ([2, 1, 0]) x3 o p u).getD P0).2.2.2.2.2) (matchP ([2, 1, 0]) (((pkF ([2, 1, 0]) x3 o p u).getD P0).1) t5X1_a)).1), ((peakUL ([2, 1, 0]) x3 (((pkF ([2, 1, 0]) x3 o p u).getD P0).1) (((pkF ([2, 1, 0]) x3 o p u).getD P0).2.1) (((pkF ([2, 1, 0]) x3 o p u).getD P0).2.2.1) (((pkF ([2, 1, 0]) x3 o p u).getD P0).2.2.2.1) (((pkF ([2, 1, 0]) x3 o p u).getD P0).2.2.2.2.1) (((pkF ([2, 1, 0]) x3 o p u).getD P0).2.2.2.2.2) (matchP ([2, 1, 0]) (((pkF ([2, 1, 0]) x3 o p u).getD P0).1) t5X1_a)).2.1), ((peakUL ([2, 1, 0]) x3 (((pkF ([2, 1, 0]) x3 o p u).getD P0).1) (((pkF ([2, 1, 0]) x3 o p u).getD P0).2.1) (((pkF ([2, 1, 0]) x3 o p u).getD P0).2.2.1) (((pkF ([2, 1, 0]) x3 o p u).getD P0).2.2.2.1) (((pkF ([2, 1, 0]) x3 o p u).getD P0).2.2.2.2.1) (((pkF ([2, 1, 0]) x3 o p u).getD P0).2.2.2.2.2) (matchP ([2, 1, 0]) (((pkF ([2, 1, 0]) x3 o p u).getD P0).1) t5X1_a)).2.2.1), ((peakUL ([2, 1, 0]) x3 (((pkF ([2, 1, 0]) x3 o p u).getD P0).1) (((pkF ([2, 1, 0]) x3 o p u).getD P0).2.1) (((pkF ([2, 1, 0]) x3 o p u).getD P0).2.2.1) (((pkF ([2, 1, 0]) x3 o p u).getD P0).2.2.2.1) (((pkF ([2, 1, 0]) x3 o p u).getD P0).2.2.2.2.1) (((pkF ([2, 1, 0]) x3 o p u).getD P0).2.2.2.2.2) (matchP ([2, 1, 0]) (((pkF ([2, 1, 0]) x3 o p u).getD P0).1) t5X1_a)).2.2.2.1.1), ((peakUL ([2, 1, 0]) x3 (((pkF ([2, 1, 0]) x3 o p u).getD P0).1) (((pkF ([2, 1, 0]) x3 o p u).getD P0).2.1) (((pkF ([2, 1, 0]) x3 o p u).getD P0).2.2.1) (((pkF ([2, 1, 0]) x3 o p u).getD P0).2.2.2.1) (((pkF ([2, 1, 0]) x3 o p u).getD P0).2.2.2.2.1) (((pkF ([2, 1, 0]) x3 o p u).getD P0).2.2.2.2.2) (matchP ([2, 1, 0]) (((pkF ([2, 1, 0]) x3 o p u).getD P0).1) t5X1_a)).2.2.2.1.2.1), ((peakUL ([2, 1, 0]) x3 (((pkF ([2, 1, 0]) x3 o p u).getD P0).1) (((pkF ([2, 1, 0]) x3 o p u).getD P0).2.1) (((pkF ([2, 1, 0]) x3 o p u).getD P0).2.2.1) (((pkF ([2, 1, 0]) x3 o p u).getD P0).2.2.2.1) (((pkF ([2, 1, 0]) x3 o p u).getD P0).2.2.2.2.1) (((pkF ([2, 1, 0]) x3 o p u).getD P0).2.2.2.2.2) (matchP ([2, 1, 0]) (((pkF ([2, 1, 0]) x3 o p u).getD P0).1) t5X1_a)).2.2.2.1.2.2)) = (t5X1_a, ((stepAtL ([2, 1, 0]) x3 t5X1_a (placeL ([2, 1, 0]) t5X1_a ((pathL ([2, 1, 0]) ((x3.getD o ([], [])).1) ((p : Int)).toNat))) ((u : Int))).getD []), ((stepAtL ([2, 1, 0]) x3 t5X1_a 0 ((o : Int))).getD []), ((p : Int)), ((u : Int)), ((o : Int)))))] (.bool (decide ((((peakUL ([2, 1, 0]) x3 (((pkF ([2, 1, 0]) x3 o p u).getD P0).1) (((pkF ([2, 1, 0]) x3 o p u).getD P0).2.1) (((pkF ([2, 1, 0]) x3 o p u).getD P0).2.2.1) (((pkF ([2, 1, 0]) x3 o p u).getD P0).2.2.2.1) (((pkF ([2, 1, 0]) x3 o p u).getD P0).2.2.2.2.1) (((pkF ([2, 1, 0]) x3 o p u).getD P0).2.2.2.2.2) (matchP ([2, 1, 0]) (((pkF ([2, 1, 0]) x3 o p u).getD P0).1) t5X1_a)).1), ((peakUL ([2, 1, 0]) x3 (((pkF ([2, 1, 0]) x3 o p u).getD P0).1) (((pkF ([2, 1, 0]) x3 o p u).getD P0).2.1) (((pkF ([2, 1, 0]) x3 o p u).getD P0).2.2.1) (((pkF ([2, 1, 0]) x3 o p u).getD P0).2.2.2.1) (((pkF ([2, 1, 0]) x3 o p u).getD P0).2.2.2.2.1) (((pkF ([2, 1, 0]) x3 o p u).getD P0).2.2.2.2.2) (matchP ([2, 1, 0]) (((pkF ([2, 1, 0]) x3 o p u).getD P0).1) t5X1_a)).2.1), ((peakUL ([2, 1, 0]) x3 (((pkF ([2, 1, 0]) x3 o p u).getD P0).1) (((pkF ([2, 1, 0]) x3 o p u).getD P0).2.1) (((pkF ([2, 1, 0]) x3 o p u).getD P0).2.2.1) (((pkF ([2, 1, 0]) x3 o p u).getD P0).2.2.2.1) (((pkF ([2, 1, 0]) x3 o p u).getD P0).2.2.2.2.1) (((pkF ([2, 1, 0]) x3 o p u).getD P0).2.2.2.2.2) (matchP ([2, 1, 0]) (((pkF ([2, 1, 0]) x3 o p u).getD P0).1) t5X1_a)).2.2.1), ((peakUL ([2, 1, 0]) x3 (((pkF ([2, 1, 0]) x3 o p u).getD P0).1) (((pkF ([2, 1, 0]) x3 o p u).getD P0).2.1) (((pkF ([2, 1, 0]) x3 o p u).getD P0).2.2.1) (((pkF ([2, 1, 0]) x3 o p u).getD P0).2.2.2.1) (((pkF ([2, 1, 0]) x3 o p u).getD P0).2.2.2.2.1) (((pkF ([2, 1, 0]) x3 o p u).getD P0).2.2.2.2.2) (matchP ([2, 1, 0]) (((pkF ([2, 1, 0]) x3 o p u).getD P0).1) t5X1_a)).2.2.2.1.1), ((peakUL ([2, 1, 0]) x3 (((pkF ([2, 1, 0]) x3 o p u).getD P0).1) (((pkF ([2, 1, 0]) x3 o p u).getD P0).2.1) (((pkF ([2, 1, 0]) x3 o p u).getD P0).2.2.1) (((pkF ([2, 1, 0]) x3 o p u).getD P0).2.2.2.1) (((pkF ([2, 1, 0]) x3 o p u).getD P0).2.2.2.2.1) (((pkF ([2, 1, 0]) x3 o p u).getD P0).2.2.2.2.2) (matchP ([2, 1, 0]) (((pkF ([2, 1, 0]) x3 o p u).getD P0).1) t5X1_a)).2.2.2.1.2.1), ((peakUL ([2, 1, 0]) x3 (((pkF ([2, 1, 0]) x3 o p u).getD P0).1) (((pkF ([2, 1, 0]) x3 o p u).getD P0).2.1) (((pkF ([2, 1, 0]) x3 o p u).getD P0).2.2.1) (((pkF ([2, 1, 0]) x3 o p u).getD P0).2.2.2.1) (((pkF ([2, 1, 0]) x3 o p u).getD P0).2.2.2.2.1) (((pkF ([2, 1, 0]) x3 o p u).getD P0).2.2.2.2.2) (matchP ([2, 1, 0]) (((pkF ([2, 1, 0]) x3 o p u).getD P0).1) t5X1_a)).2.2.2.1.2.2)) = (t5X1_a, ((stepAtL ([2, 1, 0]) x3 t5X1_a (placeL ([2, 1, 0]) t5X1_a ((pathL ([2, 1, 0]) ((x3.getD o ([], [])).1) ((p : Int)).toNat))) ((u : Int))).getD []), ((stepAtL ([2, 1, 0]) x3 t5X1_a 0 ((o : Int))).getD []), ((p : Int)), ((u : Int)), ((o : Int)))))) (.tmp rfl .nil) rfl rF (qh (qh (qh (qh (qh (qh (qh (qh (qh le1 le8) le9) le11) le12) le16) le17) le18) le19) le20) (sD (sD (sD (sD (sD (sD sR)))))) ?_))
  exact ⟨(vB ((decide_eq_true (by rw [hgl.2.2.2])).symm)), rfl, rfl⟩
 rw [Bool.not_eq_true] at h10
 exact absurd (show (false : Bool) = true from (show _ = false from h10).symm.trans (congrArg (fun q => q.2.2.2.2) hgl.2.2.2)) (by decide)
end Go.Proofs.Ytcdjpapjjoldeaa
