/-
  Walks, one after the other (part 5).
-/
import Derived.Test.YtiaanelimbmniaaGreatQxL1
import Derived.Test.YtiaanelimbmniaaGreatQxB2
import Derived.Test.YtiaanelimbmniaaGreatQxB3
set_option linter.unusedSimpArgs false
set_option linter.unusedVariables false
namespace Go.Proofs.YtiaanelimbmniaaGreat
open Go X M Tryz

/- impl.deepOk -/
theorem deepOk_spec {F : FH} {L : List HP} {n : Int} :
    Does prog 87 [.int .i64 (n)] F (L) (fun v F' L' => (.bool (decide (0 ≤ n ∧ n ≤ 20)) : Value) = v ∧ F = F' ∧ L = L') := by
 refine Does.of_X func87 rfl rfl rfl ?_
 refine X.seq (X.region ?_)
 refine XL.as (.bool (false)) rfl ?_
 refine XL.nil (X.seq (X.region ?_))
 refine XL.mv (.int .i64 (n)) rfl ?_
 refine cX (XOp.geq (a := n) (b := 0) rfl rfl ?_)
 refine XL.mv (.bool (decide ((n : Int) ≥ 0))) rfl ?_
 by_cases h1 : (n : Int) ≥ 0
 ·refine XL.yes (t := 5) rfl (vT h1) (XOp.move (.int .i64 (n)) rfl ?_)
  refine XL.yes (t := 5) rfl (vT h1) (XOp.leq (a := n) (b := 20) rfl rfl ?_)
  refine cX (XOp.pickT (.bool (decide ((n : Int) ≤ 20))) (vT h1) rfl ?_)
  refine XL.as (.bool (decide ((n : Int) ≤ 20))) rfl ?_
  refine XL.nil ?_
  refine X.ret (retEnd (L' := L) [.bool (decide ((n : Int) ≤ 20))] (.bool (decide ((n : Int) ≤ 20))) (.tmp rfl .nil) rfl rF rF sR ?_)
  exact ⟨(vB (by simp_all <;> omega)), rfl, rfl⟩
 refine XL.no (t := 5) rfl (vF h1) ?_
 refine XL.no (t := 5) rfl (vF h1) ?_
 refine cX (XOp.pickF (.bool (false)) (vF h1) rfl ?_)
 refine XL.as (.bool (false)) rfl ?_
 refine XL.nil ?_
 refine X.ret (retEnd (L' := L) [.bool (false)] (.bool (false)) (.tmp rfl .nil) rfl rF rF sR ?_)
 exact ⟨(vB (by simp_all <;> omega)), rfl, rfl⟩

/- impl.JoinedPeak -/
set_option maxRecDepth 20000 in
theorem JoinedPeak_spec {F : FH} {L : List HP} {arv : Value} {ar : List Int} (har : IntsF F arv ar) {rsv : Value} {rs : List (List Int × List Int)} (hrs : PairsF F rsv rs) {tpv : Value} {tp : List Int} (htp : IntsF F tpv tp) {lfv : Value} {lf : List Int} (hlf : IntsF F lfv lf) {rtv : Value} {rt : List Int} (hrt : IntsF F rtv rt) {a : Int} {u : Int} {o : Int} {n : Int} (hll0 : lf.length ≤ 4000000) (hlr0 : rt.length ≤ 4000000) :
    Does prog 35 [.agg #[arv, rsv], .agg #[tpv, lfv, rtv, .int .i64 (a), .int .i64 (u), .int .i64 (o)], .int .i64 (n)] F (L) (fun v F' L' => ∃ (a1 : Value), ∃ (b1 : Value), ∃ (a2 : Value), ∃ (b2 : Value), (.tuple #[.agg #[a1, b1], .agg #[a2, b2], .bool ((peakJ ar rs tp lf rt a u o n).2.2.2.2)] : Value) = v ∧ (IntsF F' a1 (peakJ ar rs tp lf rt a u o n).1) ∧ (StepsF F' b1 (peakJ ar rs tp lf rt a u o n).2.1) ∧ (IntsF F' a2 (peakJ ar rs tp lf rt a u o n).2.2.1) ∧ (StepsF F' b2 (peakJ ar rs tp lf rt a u o n).2.2.2.1) ∧ (Fresh F F' (star [intsH 2 a1 (peakJ ar rs tp lf rt a u o n).1, stepsD 2 116 b1 (peakJ ar rs tp lf rt a u o n).2.1, intsH 2 a2 (peakJ ar rs tp lf rt a u o n).2.2.1, stepsD 2 116 b2 (peakJ ar rs tp lf rt a u o n).2.2.2.1])) ∧ L = L') := by
 refine Does.of_X func35 rfl rfl rfl ?_
 refine X.seq (X.region ?_)
 refine cX (XOp.box [arv, rsv] rfl rfl ?_)
 intro b1
 refine cX (XOp.box [tpv, lfv, rtv, .int .i64 (a), .int .i64 (u), .int .i64 (o)] rfl rfl ?_)
 intro b2
 refine cX (XOp.alloc [(.slice none 0 0), (.slice none 0 0)] zeroValue57 rfl ?_)
 intro b3
 refine cX (XOp.alloc [(.slice none 0 0), (.slice none 0 0)] zeroValue57 rfl ?_)
 intro b4
 refine XL.as (.bool (false)) rfl ?_
 refine XL.nil (X.seq (X.seq (X.region ?_)))
 refine cX (XOp.loadN [arv, rsv] isAgg37 sizeOf37 rfl rfl (Rd.ownN [_, _, _] rfl rfl) ?_)
 refine cX (XOp.loadN [tpv, lfv, rtv, .int .i64 (a), .int .i64 (u), .int .i64 (o)] isAgg74 sizeOf74 rfl rfl (Rd.ownN [_, _] rfl rfl) ?_)
 refine cX (XOp.call (args := [.agg #[arv, rsv], .agg #[tpv, lfv, rtv, .int .i64 (a), .int .i64 (u), .int .i64 (o)]]) call86 rfl (PeakOk_spec har hrs htp hlf hrt (hll0 := (by first | assumption | rfl | omega | simp)) (hlr0 := (by first | assumption | rfl | omega | simp))) ?_)
 rintro _ _ _ _ ⟨rfl, rfl, rfl⟩
 refine cX (XOp.notB (b := peakL ar rs tp lf rt a u o) rfl ?_)
 refine XL.mv (.bool (!(peakL ar rs tp lf rt a u o))) rfl ?_
 by_cases h1 : (!(peakL ar rs tp lf rt a u o)) = true
 ·have hpk : peakL ar rs tp lf rt a u o = false := by simpa using h1
  refine XL.no (t := 13) rfl (vB h1) ?_
  refine XL.no (t := 13) rfl (vB h1) ?_
  refine XL.no (t := 13) rfl (vB h1) ?_
  refine cX (XOp.pickT (.bool (true)) (vB h1) rfl ?_)
  refine XL.nil ?_
  refine X.condT rfl ?_
  refine X.seq (X.region ?_)
  refine cX (XOp.build [(.slice none 0 0), (.slice none 0 0)] [(.slice none 0 0), (.slice none 0 0)] [(0, 1), (1, 1)] [] runUnderlying57 zeroValue57 rfl (.cons rfl sizeOf22 (.cons rfl sizeOf55 PlacesAre.nil)) rfl CellsAre.nil ?_)
  refine cX (XOp.build [(.slice none 0 0), (.slice none 0 0)] [(.slice none 0 0), (.slice none 0 0)] [(0, 1), (1, 1)] [] runUnderlying57 zeroValue57 rfl (.cons rfl sizeOf22 (.cons rfl sizeOf55 PlacesAre.nil)) rfl CellsAre.nil ?_)
  refine cX (XOp.storeN (vs := [(.slice none 0 0), (.slice none 0 0)]) [_] _ [(.slice none 0 0), (.slice none 0 0)] sizeOf57 rfl rfl rfl (ones_cons rfl (ones_cons rfl ones_nil)) rfl rfl rfl ?_)
  refine cX (XOp.storeN (vs := [(.slice none 0 0), (.slice none 0 0)]) [] _ [(.slice none 0 0), (.slice none 0 0)] sizeOf57 rfl rfl rfl (ones_cons rfl (ones_cons rfl ones_nil)) rfl rfl rfl ?_)
  refine XL.as (.bool (false)) rfl ?_
  refine XL.nil ?_
  refine X.ret (thenQ_ret (retEnd (L' := L) [.agg #[(.slice none 0 0), (.slice none 0 0)], .agg #[(.slice none 0 0), (.slice none 0 0)], .bool (false)] (.tuple #[.agg #[(.slice none 0 0), (.slice none 0 0)], .agg #[(.slice none 0 0), (.slice none 0 0)], .bool (false)]) (.cell rfl (loadNV [(.slice none 0 0), (.slice none 0 0)] isAgg57 sizeOf57 rfl (Rd.ownN [_] rfl rfl)) (.cell rfl (loadNV [(.slice none 0 0), (.slice none 0 0)] isAgg57 sizeOf57 rfl (Rd.ownN [] rfl rfl)) (.tmp rfl .nil))) rfl rF rF (sD (sD (sD (sD sR)))) ?_))
  have e : peakJ ar rs tp lf rt a u o n = ([], [], [], [], false) := by first | exact peakJ_no hpk | exact peakJ_deep hn0
  exact ⟨_, _, _, _, by rw [e], by rw [e]; exact IntsF.nilV, by rw [e]; exact SlOf.nilV, by rw [e]; exact IntsF.nilV, by rw [e]; exact SlOf.nilV, by rw [e]; exact Fresh.app (Fresh.empty nilWalk) rF (Fresh.empty nilWalk) rF, rfl⟩
 rw [Bool.not_eq_true] at h1
 have hpk : peakL ar rs tp lf rt a u o = true := by simpa using h1
 have hpt := peak_terms hpk
 refine XL.yes (t := 13) rfl (vB h1) (XOp.move (.int .i64 (n)) rfl ?_)
 refine XL.yes (t := 13) rfl (vB h1) (XOp.call (args := [.int .i64 (n)]) call87 rfl (deepOk_spec (n := n)) ?_)
 rintro _ _ _ _ ⟨rfl, rfl, rfl⟩
 refine XL.yes (t := 13) rfl (vB h1) (XOp.notD (p := 0 ≤ n ∧ n ≤ 20) rfl ?_)
 refine cX (XOp.pickF (.bool (decide (¬(0 ≤ n ∧ n ≤ 20)))) (vB h1) rfl ?_)
 refine XL.nil ?_
 refine X.condD (p := ¬(0 ≤ n ∧ n ≤ 20)) rfl (fun h2 => ?_) (fun h2 => ?_)
 ·have hn0 : ¬ (0 ≤ n ∧ n ≤ 20) := by first | exact h2 | simpa using h2
  refine X.seq (X.region ?_)
  refine cX (XOp.build [(.slice none 0 0), (.slice none 0 0)] [(.slice none 0 0), (.slice none 0 0)] [(0, 1), (1, 1)] [] runUnderlying57 zeroValue57 rfl (.cons rfl sizeOf22 (.cons rfl sizeOf55 PlacesAre.nil)) rfl CellsAre.nil ?_)
  refine cX (XOp.build [(.slice none 0 0), (.slice none 0 0)] [(.slice none 0 0), (.slice none 0 0)] [(0, 1), (1, 1)] [] runUnderlying57 zeroValue57 rfl (.cons rfl sizeOf22 (.cons rfl sizeOf55 PlacesAre.nil)) rfl CellsAre.nil ?_)
  refine cX (XOp.storeN (vs := [(.slice none 0 0), (.slice none 0 0)]) [_] _ [(.slice none 0 0), (.slice none 0 0)] sizeOf57 rfl rfl rfl (ones_cons rfl (ones_cons rfl ones_nil)) rfl rfl rfl ?_)
  refine cX (XOp.storeN (vs := [(.slice none 0 0), (.slice none 0 0)]) [] _ [(.slice none 0 0), (.slice none 0 0)] sizeOf57 rfl rfl rfl (ones_cons rfl (ones_cons rfl ones_nil)) rfl rfl rfl ?_)
  refine XL.as (.bool (false)) rfl ?_
  refine XL.nil ?_
  refine X.ret (thenQ_ret (retEnd (L' := L) [.agg #[(.slice none 0 0), (.slice none 0 0)], .agg #[(.slice none 0 0), (.slice none 0 0)], .bool (false)] (.tuple #[.agg #[(.slice none 0 0), (.slice none 0 0)], .agg #[(.slice none 0 0), (.slice none 0 0)], .bool (false)]) (.cell rfl (loadNV [(.slice none 0 0), (.slice none 0 0)] isAgg57 sizeOf57 rfl (Rd.ownN [_] rfl rfl)) (.cell rfl (loadNV [(.slice none 0 0), (.slice none 0 0)] isAgg57 sizeOf57 rfl (Rd.ownN [] rfl rfl)) (.tmp rfl .nil))) rfl rF rF (sD (sD (sD (sD sR)))) ?_))
  have e : peakJ ar rs tp lf rt a u o n = ([], [], [], [], false) := by first | exact peakJ_no hpk | exact peakJ_deep hn0
  exact ⟨_, _, _, _, by rw [e], by rw [e]; exact IntsF.nilV, by rw [e]; exact SlOf.nilV, by rw [e]; exact IntsF.nilV, by rw [e]; exact SlOf.nilV, by rw [e]; exact Fresh.app (Fresh.empty nilWalk) rF (Fresh.empty nilWalk) rF, rfl⟩
 have hn20 : 0 ≤ n ∧ n ≤ 20 := by first | exact Classical.not_not.1 h2 | simpa using h2
 refine X.skip (X.seq (X.region ?_))
 refine cX (XOp.loadN [arv, rsv] isAgg37 sizeOf37 rfl rfl (Rd.ownN [_, _, _] rfl rfl) ?_)
 refine cX (XOp.fieldP (b := b2) (1) runUnderlying74 rfl sizeOf22 (by decide) rfl rfl ?_)
 refine cX (XOp.load1 (v := lfv) isAgg22 rfl (Rd.own [_, _] rfl rfl) ?_)
 refine cX (XOp.fieldP (b := b2) (2) runUnderlying74 rfl sizeOf22 (by decide) rfl rfl ?_)
 refine cX (XOp.load1 (v := rtv) isAgg22 rfl (Rd.own [_, _] rfl rfl) ?_)
 refine XL.mv (.int .i64 (n)) rfl ?_
 refine cX (XOp.call (args := [.agg #[arv, rsv], lfv, rtv, .int .i64 (n)]) call88 rfl (join0_spec (n := n) har hrs hlf hrt (hsys := (hpt.1)) (ho := (hpt.2.1)) (hob := (hpt.2.2)) (hn20 := (hn20))) ?_)
 rintro _ F1 _ le1 ⟨x1, x2, x3, x4, rfl, hr1, hr2, hr3, hr4, hr5, rfl⟩
 refine cX (XOp.extract (.agg #[x1, x2]) rfl rfl ?_)
 refine cX (XOp.extract (.agg #[x3, x4]) rfl rfl ?_)
 refine cX (XOp.extract (.bool ((join0 ar rs lf rt n).2.2.2.2)) rfl rfl ?_)
 refine cX (XOp.storeN (vs := [x1, x2]) [_] _ [x1, x2] sizeOf57 rfl rfl rfl (ones_cons (one_sl (IntsF.isSl hr1)) (ones_cons (one_sl (StepsF.isSl hr2)) ones_nil)) rfl rfl rfl ?_)
 refine cX (XOp.storeN (vs := [x3, x4]) [] _ [x3, x4] sizeOf57 rfl rfl rfl (ones_cons (one_sl (IntsF.isSl hr3)) (ones_cons (one_sl (StepsF.isSl hr4)) ones_nil)) rfl rfl rfl ?_)
 refine XL.as (.bool ((join0 ar rs lf rt n).2.2.2.2)) rfl ?_
 refine XL.nil ?_
 refine X.ret (retEnd (L' := L) [.agg #[x1, x2], .agg #[x3, x4], .bool ((join0 ar rs lf rt n).2.2.2.2)] (.tuple #[.agg #[x1, x2], .agg #[x3, x4], .bool ((join0 ar rs lf rt n).2.2.2.2)]) (.cell rfl (loadNV [x1, x2] isAgg57 sizeOf57 rfl (Rd.ownN [_] rfl rfl)) (.cell rfl (loadNV [x3, x4] isAgg57 sizeOf57 rfl (Rd.ownN [] rfl rfl)) (.tmp rfl .nil))) rfl le1 rF (sD (sD (sD (sD sR)))) ?_)
 have e := peakJ_join hpk hn20
 exact ⟨_, _, _, _, by rw [e], by rw [e]; exact hr1, by rw [e]; exact hr2, by rw [e]; exact hr3, by rw [e]; exact hr4, by rw [e]; exact hr5, rfl⟩

/- spec.JoinedPeak -/
set_option maxRecDepth 20000 in
theorem sJoinedPeak_spec {F : FH} {L : List HP} {arv : Value} {ar : List Int} (har : IntsF F arv ar) {rsv : Value} {rs : List (List Int × List Int)} (hrs : PairsF F rsv rs) {tpv : Value} {tp : List Int} (htp : IntsF F tpv tp) {lfv : Value} {lf : List Int} (hlf : IntsF F lfv lf) {rtv : Value} {rt : List Int} (hrt : IntsF F rtv rt) {a : Int} {u : Int} {o : Int} {n : Int} (hla : ar.length ≤ 4000000) (hlr : rs.length ≤ 4000000) (hrb : ∀ i, i < rs.length → (rs.getD i ([], [])).1.length ≤ 4000000 ∧ (rs.getD i ([], [])).2.length ≤ 4000000) (hlt : tp.length ≤ 4000000) (hll0 : lf.length ≤ 4000000) (hlr0 : rt.length ≤ 4000000) :
    Does prog 33 [.agg #[arv, rsv], .agg #[tpv, lfv, rtv, .int .i64 (a), .int .i64 (u), .int .i64 (o)], .int .i64 (n)] F (L) (fun v F' L' => ∃ (a1 : Value), ∃ (b1 : Value), ∃ (a2 : Value), ∃ (b2 : Value), (.tuple #[.agg #[a1, b1], .agg #[a2, b2], .bool ((peakJ ar rs tp lf rt a u o n).2.2.2.2)] : Value) = v ∧ (IntsF F' a1 (peakJ ar rs tp lf rt a u o n).1) ∧ (StepsF F' b1 (peakJ ar rs tp lf rt a u o n).2.1) ∧ (IntsF F' a2 (peakJ ar rs tp lf rt a u o n).2.2.1) ∧ (StepsF F' b2 (peakJ ar rs tp lf rt a u o n).2.2.2.1) ∧ L = L') := by
 refine Does.of_X func33 rfl rfl rfl ?_
 refine X.seq (X.region ?_)
 refine cX (XOp.box [arv, rsv] rfl rfl ?_)
 intro b1
 refine cX (XOp.box [tpv, lfv, rtv, .int .i64 (a), .int .i64 (u), .int .i64 (o)] rfl rfl ?_)
 intro b2
 refine cX (XOp.alloc [(.slice none 0 0), (.slice none 0 0)] zeroValue57 rfl ?_)
 intro b3
 refine cX (XOp.alloc [(.slice none 0 0), (.slice none 0 0)] zeroValue57 rfl ?_)
 intro b4
 refine XL.as (.bool (false)) rfl ?_
 refine XL.nil (X.seq (X.seq (X.region ?_)))
 refine cX (XOp.loadN [arv, rsv] isAgg37 sizeOf37 rfl rfl (Rd.ownN [_, _, _] rfl rfl) ?_)
 refine cX (XOp.loadN [tpv, lfv, rtv, .int .i64 (a), .int .i64 (u), .int .i64 (o)] isAgg74 sizeOf74 rfl rfl (Rd.ownN [_, _] rfl rfl) ?_)
 refine cX (XOp.call (args := [.agg #[arv, rsv], .agg #[tpv, lfv, rtv, .int .i64 (a), .int .i64 (u), .int .i64 (o)]]) call84 rfl (sPeakOk_spec har hrs htp hlf hrt (hla := (by first | assumption | rfl | omega | simp)) (hlr := (by first | assumption | rfl | omega | simp)) (hrb := (by first | assumption | rfl | omega | simp)) (hlt0 := (by first | assumption | rfl | omega | simp)) (hll0 := (by first | assumption | rfl | omega | simp)) (hlr0 := (by first | assumption | rfl | omega | simp))) ?_)
 rintro _ _ _ _ ⟨rfl, rfl, rfl⟩
 refine cX (XOp.notB (b := peakL ar rs tp lf rt a u o) rfl ?_)
 refine XL.nil ?_
 refine X.cond (t := !(peakL ar rs tp lf rt a u o)) rfl (fun h1 => ?_) (fun h1 => ?_)
 ·have hpk : peakL ar rs tp lf rt a u o = false := by simpa using h1
  refine X.seq (X.region ?_)
  refine cX (XOp.build [(.slice none 0 0), (.slice none 0 0)] [(.slice none 0 0), (.slice none 0 0)] [(0, 1), (1, 1)] [] runUnderlying57 zeroValue57 rfl (.cons rfl sizeOf22 (.cons rfl sizeOf55 PlacesAre.nil)) rfl CellsAre.nil ?_)
  refine cX (XOp.build [(.slice none 0 0), (.slice none 0 0)] [(.slice none 0 0), (.slice none 0 0)] [(0, 1), (1, 1)] [] runUnderlying57 zeroValue57 rfl (.cons rfl sizeOf22 (.cons rfl sizeOf55 PlacesAre.nil)) rfl CellsAre.nil ?_)
  refine cX (XOp.storeN (vs := [(.slice none 0 0), (.slice none 0 0)]) [_] _ [(.slice none 0 0), (.slice none 0 0)] sizeOf57 rfl rfl rfl (ones_cons rfl (ones_cons rfl ones_nil)) rfl rfl rfl ?_)
  refine cX (XOp.storeN (vs := [(.slice none 0 0), (.slice none 0 0)]) [] _ [(.slice none 0 0), (.slice none 0 0)] sizeOf57 rfl rfl rfl (ones_cons rfl (ones_cons rfl ones_nil)) rfl rfl rfl ?_)
  refine XL.as (.bool (false)) rfl ?_
  refine XL.nil ?_
  refine X.ret (thenQ_ret (retEnd (L' := L) [.agg #[(.slice none 0 0), (.slice none 0 0)], .agg #[(.slice none 0 0), (.slice none 0 0)], .bool (false)] (.tuple #[.agg #[(.slice none 0 0), (.slice none 0 0)], .agg #[(.slice none 0 0), (.slice none 0 0)], .bool (false)]) (.cell rfl (loadNV [(.slice none 0 0), (.slice none 0 0)] isAgg57 sizeOf57 rfl (Rd.ownN [_] rfl rfl)) (.cell rfl (loadNV [(.slice none 0 0), (.slice none 0 0)] isAgg57 sizeOf57 rfl (Rd.ownN [] rfl rfl)) (.tmp rfl .nil))) rfl rF rF (sD (sD (sD (sD sR)))) ?_))
  have e : peakJ ar rs tp lf rt a u o n = ([], [], [], [], false) := peakJ_no hpk
  exact ⟨_, _, _, _, by rw [e], by rw [e]; exact IntsF.nilV, by rw [e]; exact SlOf.nilV, by rw [e]; exact IntsF.nilV, by rw [e]; exact SlOf.nilV, rfl⟩
 have hpk : peakL ar rs tp lf rt a u o = true := by simpa using h1
 have hpt := peak_terms hpk
 refine X.skip (X.seq (X.region ?_))
 refine cX (XOp.loadN [arv, rsv] isAgg37 sizeOf37 rfl rfl (Rd.ownN [_, _, _] rfl rfl) ?_)
 refine cX (XOp.fieldP (b := b2) (1) runUnderlying74 rfl sizeOf22 (by decide) rfl rfl ?_)
 refine cX (XOp.load1 (v := lfv) isAgg22 rfl (Rd.own [_, _] rfl rfl) ?_)
 refine cX (XOp.fieldP (b := b2) (2) runUnderlying74 rfl sizeOf22 (by decide) rfl rfl ?_)
 refine cX (XOp.load1 (v := rtv) isAgg22 rfl (Rd.own [_, _] rfl rfl) ?_)
 refine XL.mv (.int .i64 (n)) rfl ?_
 refine cX (XOp.call (args := [.agg #[arv, rsv], lfv, rtv, .int .i64 (n)]) call85 rfl (sJoinOf_spec (n := n) har hrs hlf hrt (hla := (by first | assumption | rfl | omega | simp)) (hlr := (by first | assumption | rfl | omega | simp)) (hrb := (by first | assumption | rfl | omega | simp)) (hla9 := (by first | assumption | rfl | omega | simp)) (hlb9 := (by first | assumption | rfl | omega | simp))) ?_)
 rintro _ F1 _ le1 ⟨x1, x2, x3, x4, rfl, hr1, hr2, hr3, hr4, rfl⟩
 refine cX (XOp.extract (.agg #[x1, x2]) rfl rfl ?_)
 refine cX (XOp.extract (.agg #[x3, x4]) rfl rfl ?_)
 refine cX (XOp.extract (.bool ((joinF ar rs lf rt n).2.2.2.2)) rfl rfl ?_)
 refine cX (XOp.storeN (vs := [x1, x2]) [_] _ [x1, x2] sizeOf57 rfl rfl rfl (ones_cons (one_sl (IntsF.isSl hr1)) (ones_cons (one_sl (StepsF.isSl hr2)) ones_nil)) rfl rfl rfl ?_)
 refine cX (XOp.storeN (vs := [x3, x4]) [] _ [x3, x4] sizeOf57 rfl rfl rfl (ones_cons (one_sl (IntsF.isSl hr3)) (ones_cons (one_sl (StepsF.isSl hr4)) ones_nil)) rfl rfl rfl ?_)
 refine XL.as (.bool ((joinF ar rs lf rt n).2.2.2.2)) rfl ?_
 refine XL.nil ?_
 refine X.ret (retEnd (L' := L) [.agg #[x1, x2], .agg #[x3, x4], .bool ((joinF ar rs lf rt n).2.2.2.2)] (.tuple #[.agg #[x1, x2], .agg #[x3, x4], .bool ((joinF ar rs lf rt n).2.2.2.2)]) (.cell rfl (loadNV [x1, x2] isAgg57 sizeOf57 rfl (Rd.ownN [_] rfl rfl)) (.cell rfl (loadNV [x3, x4] isAgg57 sizeOf57 rfl (Rd.ownN [] rfl rfl)) (.tmp rfl .nil))) rfl le1 rF (sD (sD (sD (sD sR)))) ?_)
 have e := peakJ_yes (n := n) hpk
 exact ⟨_, _, _, _, by rw [e], by rw [e]; exact hr1, by rw [e]; exact hr2, by rw [e]; exact hr3, by rw [e]; exact hr4, rfl⟩

/- laws.markPeak -/
theorem markPeak_spec {F : FH} {L : List HP} {xv : Value} {x : List Int} {yv : Value} {y : List Int} {wv : Value} {w : List Int} {a : Int} {u : Int} {o : Int} {z : Int} (hz : 0 ≤ z ∧ z + (((x) ++ (y) ++ (w)).length : Int) ≤ 9000000000) :
    Does prog 38 [.agg #[xv, yv, wv, .int .i64 (a), .int .i64 (u), .int .i64 (o)], .int .i64 (z)] F (intsH 2 xv x :: intsH 2 yv y :: intsH 2 wv w :: L) (fun v F' L' => ∃ x' : List Int, ∃ y' : List Int, ∃ w' : List Int, ((x') ++ (y') ++ (w')) = iota z ((x) ++ (y) ++ (w)).length ∧ (.int .i64 (z + (((x) ++ (y) ++ (w)).length : Int)) : Value) = v ∧ F = F' ∧ intsH 2 xv x' :: intsH 2 yv y' :: intsH 2 wv w' :: L = L') := by
 refine Does.of_X func38 rfl rfl rfl ?_
 have hlx : (x ++ y ++ w).length = x.length + y.length + w.length := by rw [List.length_append, List.length_append]
 refine X.seq (X.region ?_)
 refine cX (XOp.box [xv, yv, wv, .int .i64 (a), .int .i64 (u), .int .i64 (o)] rfl rfl ?_)
 intro b1
 refine XL.as (.int .i64 (0)) rfl ?_
 refine XL.nil (X.seq (X.region ?_))
 refine cX (XOp.fieldP (b := b1) (0) runUnderlying74 rfl sizeOf22 (by decide) rfl rfl ?_)
 refine cX (XOp.load1 (v := xv) isAgg22 rfl (Rd.own [] rfl rfl) ?_)
 refine XL.mv (.int .i64 (z)) rfl ?_
 refine XL.weaken (Sub.front (A := [_])) ?_
 show XL _ _ _ _ _ _ _ (intsH 2 xv x :: cellsH b1 [xv, yv, wv, .int .i64 (a), .int .i64 (u), .int .i64 (o)] 74 :: intsH 2 yv y :: intsH 2 wv w :: L)
 refine cX (XOp.call (args := [xv, .int .i64 (z)]) call17 rfl (markInt64S_spec (by omega)) ?_)
 rintro _ _ _ _ ⟨m1, hm1, rfl, rfl, rfl⟩
 have hml1 := congrArg List.length hm1
 rw [iota_len] at hml1
 try simp only [List.length_append] at hml1
 refine XL.as (.int .i64 (z + (((x)).length : Int))) rfl ?_
 refine XL.nil (X.seq (X.region ?_))
 refine cX (XOp.fieldP (b := b1) (1) runUnderlying74 rfl sizeOf22 (by decide) rfl rfl ?_)
 refine cX (XOp.load1 (v := yv) isAgg22 rfl (Rd.own [_] rfl rfl) ?_)
 refine XL.mv (.int .i64 (z + (((x)).length : Int))) rfl ?_
 refine XL.weaken (Sub.front (A := [_, _])) ?_
 show XL _ _ _ _ _ _ _ (intsH 2 yv y :: intsH 2 xv m1 :: cellsH b1 [xv, yv, wv, .int .i64 (a), .int .i64 (u), .int .i64 (o)] 74 :: intsH 2 wv w :: L)
 refine cX (XOp.call (args := [yv, .int .i64 (z + (((x)).length : Int))]) call17 rfl (markInt64S_spec (by omega)) ?_)
 rintro _ _ _ _ ⟨m2, hm2, rfl, rfl, rfl⟩
 have hml2 := congrArg List.length hm2
 rw [iota_len] at hml2
 try simp only [List.length_append] at hml2
 refine XL.as (.int .i64 ((z + (((x)).length : Int)) + (((y)).length : Int))) rfl ?_
 refine XL.nil (X.seq (X.region ?_))
 refine cX (XOp.fieldP (b := b1) (2) runUnderlying74 rfl sizeOf22 (by decide) rfl rfl ?_)
 refine cX (XOp.load1 (v := wv) isAgg22 rfl (Rd.own [_, _] rfl rfl) ?_)
 refine XL.mv (.int .i64 ((z + (((x)).length : Int)) + (((y)).length : Int))) rfl ?_
 refine XL.weaken (Sub.front (A := [_, _, _])) ?_
 show XL _ _ _ _ _ _ _ (intsH 2 wv w :: intsH 2 yv m2 :: intsH 2 xv m1 :: cellsH b1 [xv, yv, wv, .int .i64 (a), .int .i64 (u), .int .i64 (o)] 74 :: L)
 refine cX (XOp.call (args := [wv, .int .i64 ((z + (((x)).length : Int)) + (((y)).length : Int))]) call17 rfl (markInt64S_spec (by omega)) ?_)
 rintro _ _ _ _ ⟨m3, hm3, rfl, rfl, rfl⟩
 have hml3 := congrArg List.length hm3
 rw [iota_len] at hml3
 try simp only [List.length_append] at hml3
 refine XL.as (.int .i64 (((z + (((x)).length : Int)) + (((y)).length : Int)) + (((w)).length : Int))) rfl ?_
 refine XL.nil (X.seq (X.region ?_))
 refine XL.mv (.int .i64 (((z + (((x)).length : Int)) + (((y)).length : Int)) + (((w)).length : Int))) rfl ?_
 refine XL.as (.int .i64 (((z + (((x)).length : Int)) + (((y)).length : Int)) + (((w)).length : Int))) rfl ?_
 refine XL.nil ?_
 refine X.ret (retEnd (L' := intsH 2 xv m1 :: intsH 2 yv m2 :: intsH 2 wv m3 :: L) [.int .i64 (((z + (((x)).length : Int)) + (((y)).length : Int)) + (((w)).length : Int))] (.int .i64 (((z + (((x)).length : Int)) + (((y)).length : Int)) + (((w)).length : Int))) (.tmp rfl .nil) rfl rF rF (Sub.trans (Sub.front (A := [_])) (Sub.trans (Sub.front (A := [_, _])) (sC (sC (sC (sD sR)))))) ?_)
 exact ⟨m1, m2, m3, by rw [List.length_append, iota_add, List.length_append, iota_add, hm1, hm2, hm3]; first | rfl | (congr 2; omega) | (rw [List.length_append]; congr 2; omega), congrArg (Value.int .i64) (by first | rfl | (simp only [List.length_append]; omega)), rfl, rfl⟩

/- laws.FnExactJoinedPeak -/
set_option maxRecDepth 20000 in
theorem FnExactJoinedPeak_does {F : FH} {L : List HP} {arv : Value} {ar : List Int} (har : IntsF F arv ar) {rsv : Value} {rs : List (List Int × List Int)} (hrs : PairsF F rsv rs) {tpv : Value} {tp : List Int} (htp : IntsF F tpv tp) {lfv : Value} {lf : List Int} (hlf : IntsF F lfv lf) {rtv : Value} {rt : List Int} (hrt : IntsF F rtv rt) {a : Int} {u : Int} {o : Int} {n : Int} (hlar : ar.length ≤ 9223372036854775807) (hlrs : rs.length ≤ 9223372036854775807) (hbrs : ∀ i, i < rs.length → (rs.getD i ([], [])).1.length ≤ 9223372036854775807 ∧ (rs.getD i ([], [])).2.length ≤ 9223372036854775807) (hltp : tp.length ≤ 9223372036854775807) (hllf : lf.length ≤ 9223372036854775807) (hlrt : rt.length ≤ 9223372036854775807) :
    Does prog 7 [.agg #[arv, rsv], .agg #[tpv, lfv, rtv, .int .i64 (a), .int .i64 (u), .int .i64 (o)], .int .i64 (n)] F (L) (fun v F' L' => (.bool (true) : Value) = v ∧ F = F' ∧ L = L') := by
 refine Does.of_X func7 rfl rfl rfl ?_
 have hnb := peakJ_bound (ar := ar) (rs := rs) (tp := tp) (lf := lf) (rt := rt) (a := a) (u := u) (o := o) (n := n)
 have hnb1 : WalkB (peakJ ar rs tp lf rt a u o n).1 (peakJ ar rs tp lf rt a u o n).2.1 := hnb.1
 have hnc1 := hnb1.1
 have hnd1 := hnb1.2.1
 have hne1 := hnb1.2.2.1
 have hnf1 := hnb1.2.2.2
 have hnb2 : WalkB (peakJ ar rs tp lf rt a u o n).2.2.1 (peakJ ar rs tp lf rt a u o n).2.2.2.1 := hnb.2
 have hnc2 := hnb2.1
 have hnd2 := hnb2.2.1
 have hne2 := hnb2.2.2.1
 have hnf2 := hnb2.2.2.2
 refine X.seq (X.region ?_)
 refine cX (XOp.box [arv, rsv] rfl rfl ?_)
 intro b1
 refine cX (XOp.box [tpv, lfv, rtv, .int .i64 (a), .int .i64 (u), .int .i64 (o)] rfl rfl ?_)
 intro b2
 refine XL.as (.bool (false)) rfl ?_
 refine XL.nil (X.seq (X.region ?_))
 refine XL.as (.int .i64 (1048576)) rfl ?_
 refine XL.nil (X.seq (X.region ?_))
 refine cX (XOp.loadN [arv, rsv] isAgg27 sizeOf27 rfl rfl (Rd.ownN [_] rfl rfl) ?_)
 refine XL.mv (.int .i64 (1048576)) rfl ?_
 refine cX (XOp.call (args := [.agg #[arv, rsv], .int .i64 (1048576)]) call8 rfl (szSystem_spec (z := 1048576) har hrs (hz := (by first | assumption | rfl | omega | simp)) (hal := (by first | assumption | rfl | omega | simp)) (hrl := (by first | assumption | rfl | omega | simp)) (hrb := (by first | assumption | rfl | omega | simp))) ?_)
 rintro _ _ _ _ ⟨rfl, rfl, rfl⟩
 refine XL.as (.int .i64 (dec 1048576 (ar.length + szR rs))) rfl ?_
 refine XL.nil (X.seq (X.seq (X.region ?_)))
 refine XL.mv (.int .i64 (dec 1048576 (ar.length + szR rs))) rfl ?_
 refine cX (XOp.lss (a := dec 1048576 (ar.length + szR rs)) (b := 0) rfl rfl ?_)
 refine XL.nil ?_
 refine X.condD (p := (dec 1048576 (ar.length + szR rs) : Int) < 0) rfl (fun h1 => ?_) (fun h1 => ?_)
 ·refine X.seq (X.region ?_)
  refine XL.as (.bool (true)) rfl ?_
  refine XL.nil ?_
  refine X.ret (thenQ_ret (retEnd (L' := L) [.bool (true)] (.bool (true)) (.tmp rfl .nil) rfl rF rF (sD (sD sR)) ?_))
  exact ⟨rfl, rfl, rfl⟩
 have hd1 := dec_le2 h1 (by omega)
 have hzrs := szR_le (rs := rs)
 have hirs := hzrs.2
 have hcrs : ∀ i, i < rs.length → (rs.getD i ([], [])).1.length ≤ 4000000 ∧ (rs.getD i ([], [])).2.length ≤ 4000000 := fun i hi => by have := hirs i hi; omega
 have hfrs := flatPair_len rs
 refine X.skip (X.seq (X.region ?_))
 refine cX (XOp.loadN [tpv, lfv, rtv, .int .i64 (a), .int .i64 (u), .int .i64 (o)] isAgg70 sizeOf70 rfl rfl (Rd.ownN [] rfl rfl) ?_)
 refine XL.mv (.int .i64 (dec 1048576 (ar.length + szR rs))) rfl ?_
 refine cX (XOp.call (args := [.agg #[tpv, lfv, rtv, .int .i64 (a), .int .i64 (u), .int .i64 (o)], .int .i64 (dec 1048576 (ar.length + szR rs))]) call32 rfl (szPeak_spec (z := dec 1048576 (ar.length + szR rs)) htp hlf hrt (hz := (by first | assumption | rfl | omega | simp)) (htl := (by first | assumption | rfl | omega | simp)) (hll := (by first | assumption | rfl | omega | simp)) (hrl := (by first | assumption | rfl | omega | simp))) ?_)
 rintro _ _ _ _ ⟨rfl, rfl, rfl⟩
 refine XL.as (.int .i64 (dec (dec 1048576 (ar.length + szR rs)) ((tp.length + lf.length) + rt.length))) rfl ?_
 refine XL.nil (X.seq (X.seq (X.region ?_)))
 refine XL.mv (.int .i64 (dec (dec 1048576 (ar.length + szR rs)) ((tp.length + lf.length) + rt.length))) rfl ?_
 refine cX (XOp.lss (a := dec (dec 1048576 (ar.length + szR rs)) ((tp.length + lf.length) + rt.length)) (b := 0) rfl rfl ?_)
 refine XL.nil ?_
 refine X.condD (p := (dec (dec 1048576 (ar.length + szR rs)) ((tp.length + lf.length) + rt.length) : Int) < 0) rfl (fun h2 => ?_) (fun h2 => ?_)
 ·refine X.seq (X.region ?_)
  refine XL.as (.bool (true)) rfl ?_
  refine XL.nil ?_
  refine X.ret (thenQ_ret (retEnd (L' := L) [.bool (true)] (.bool (true)) (.tmp rfl .nil) rfl rF rF (sD (sD sR)) ?_))
  exact ⟨rfl, rfl, rfl⟩
 have hd2 := dec_le2 h2 (by omega)
 refine X.skip (X.seq ?_)
 refine X.drawG [cellsH b2 [tpv, lfv, rtv, .int .i64 (a), .int .i64 (u), .int .i64 (o)] 70, cellsH b1 [arv, rsv] 27] L 14 [[], [], [], [], [], [], [5], [5], [5], [], [], [], [5, 10], [5, 11]] [[], [0], [], [2], [], [1, 3, 4], [5], [5, 6], [5, 6], [5, 6], [], [], [5, 7, 10], [5, 8, 11]] [[], [], [], [], [], [], [], [], [], [], [], [], [10], [11]] (phiG [fun FF us v => v = (.agg #[arv, rsv] : Value), fun FF us v => (.agg #[((aggAt v 0)), ((aggAt v 1))] : Value) = v ∧ (IntsF FF ((aggAt v 0)) ar) ∧ (PairsF FF ((aggAt v 1)) rs), fun FF us v => v = (.agg #[tpv, lfv, rtv, .int .i64 (a), .int .i64 (u), .int .i64 (o)] : Value), fun FF us v => (.agg #[((aggAt v 0)), ((aggAt v 1)), ((aggAt v 2)), .int .i64 (a), .int .i64 (u), .int .i64 (o)] : Value) = v ∧ (IntsF FF ((aggAt v 0)) tp) ∧ (IntsF FF ((aggAt v 1)) lf) ∧ (IntsF FF ((aggAt v 2)) rt), fun FF us v => v = (.int .i64 (n) : Value), fun FF us v => (.tuple #[.agg #[((aggAt (tupAt v 0) 0)), ((aggAt (tupAt v 0) 1))], .agg #[((aggAt (tupAt v 1) 0)), ((aggAt (tupAt v 1) 1))], .bool ((peakJ ar rs tp lf rt a u o n).2.2.2.2)] : Value) = v ∧ (IntsF FF ((aggAt (tupAt v 0) 0)) (peakJ ar rs tp lf rt a u o n).1) ∧ (StepsF FF ((aggAt (tupAt v 0) 1)) (peakJ ar rs tp lf rt a u o n).2.1) ∧ (IntsF FF ((aggAt (tupAt v 1) 0)) (peakJ ar rs tp lf rt a u o n).2.2.1) ∧ (StepsF FF ((aggAt (tupAt v 1) 1)) (peakJ ar rs tp lf rt a u o n).2.2.2.1), fun FF us v => v = (.tuple #[.agg #[((aggAt (tupAt (us.getD 0 undef) 0) 0)), ((aggAt (tupAt (us.getD 0 undef) 0) 1))], .agg #[((aggAt (tupAt (us.getD 0 undef) 1) 0)), ((aggAt (tupAt (us.getD 0 undef) 1) 1))], .bool ((peakJ ar rs tp lf rt a u o n).2.2.2.2)] : Value), fun FF us v => v = (.agg #[((aggAt (tupAt (us.getD 0 undef) 0) 0)), ((aggAt (tupAt (us.getD 0 undef) 0) 1))] : Value), fun FF us v => v = (.agg #[((aggAt (tupAt (us.getD 0 undef) 1) 0)), ((aggAt (tupAt (us.getD 0 undef) 1) 1))] : Value), fun FF us v => v = (.bool ((peakJ ar rs tp lf rt a u o n).2.2.2.2) : Value), fun FF us v => v = ptr (blk v) 0, fun FF us v => v = ptr (blk v) 0, fun FF us v => True, fun FF us v => True]) (ownL [fun us v => [], fun us v => [], fun us v => [], fun us v => [], fun us v => [], fun us v => [], fun us v => [], fun us v => [], fun us v => [], fun us v => [], fun us v => [cellsH (blk v) [(.slice none 0 0), (.slice none 0 0)] 57], fun us v => [cellsH (blk v) [(.slice none 0 0), (.slice none 0 0)] 57], fun us v => [cellsH (blk (us.getD 1 undef)) [((aggAt (tupAt (us.getD 0 undef) 0) 0)), ((aggAt (tupAt (us.getD 0 undef) 0) 1))] 57], fun us v => [cellsH (blk (us.getD 1 undef)) [((aggAt (tupAt (us.getD 0 undef) 1) 0)), ((aggAt (tupAt (us.getD 0 undef) 1) 1))] 57]]) mixed rfl rfl (by kernel_rfl) (by kernel_rfl) (MonoG.get (mC (fun le h => h) (mC (fun le h => ⟨h.1, h.2.1.mono le, h.2.2.mono le⟩) (mC (fun le h => h) (mC (fun le h => ⟨h.1, h.2.1.mono le, h.2.2.1.mono le, h.2.2.2.mono le⟩) (mC (fun le h => h) (mC (fun le h => ⟨h.1, h.2.1.mono le, h.2.2.1.mono le, h.2.2.2.1.mono le, h.2.2.2.2.mono le⟩) (mC (fun le h => h) (mC (fun le h => h) (mC (fun le h => h) (mC (fun le h => h) (mC (fun le h => h) (mC (fun le h => h) (mC (fun le h => h) (mC (fun le h => h) MonoG.nil))))))))))))))) ?_ ?_
 ·refine gC (fun vals Fs R leFs hpZ => ?_) ?_
  ·replace har := har.mono leFs
   replace hrs := hrs.mono leFs
   replace htp := htp.mono leFs
   replace hlf := hlf.mono leFs
   replace hrt := hrt.mono leFs
   refine XG.op (XOp.loadN [arv, rsv] isAgg27 sizeOf27 rfl rfl (Rd.ownN [_] rfl rfl) ?_)
   exact ⟨rfl, rfl⟩
  refine gC (fun vals Fs R leFs hpZ => ?_) ?_
  ·replace har := har.mono leFs
   replace hrs := hrs.mono leFs
   replace htp := htp.mono leFs
   replace hlf := hlf.mono leFs
   replace hrt := hrt.mono leFs
   rw [eS (l := [(0, (.agg #[arv, rsv] : Value))]) ⟨(hpZ 0 (by decide)), trivial⟩]
   refine XG.op (XOp.call (args := [.agg #[arv, rsv]]) call10 rfl (toSystem_spec har hrs (hla := (by first | assumption | rfl | omega | simp)) (hrl := (by first | assumption | rfl | omega | simp)) (hrb := (by first | assumption | rfl | omega | simp))) ?_)
   rintro _ F4 _ le4 ⟨x10, x11, rfl, hr12, hr13, hr14, rfl⟩
   replace har := har.mono le4
   replace hrs := hrs.mono le4
   replace htp := htp.mono le4
   replace hlf := hlf.mono le4
   replace hrt := hrt.mono le4
   exact ⟨⟨rfl, hr12, hr13⟩, rfl⟩
  refine gC (fun vals Fs R leFs hpZ => ?_) ?_
  ·replace har := har.mono leFs
   replace hrs := hrs.mono leFs
   replace htp := htp.mono leFs
   replace hlf := hlf.mono leFs
   replace hrt := hrt.mono leFs
   refine XG.op (XOp.loadN [tpv, lfv, rtv, .int .i64 (a), .int .i64 (u), .int .i64 (o)] isAgg70 sizeOf70 rfl rfl (Rd.ownN [] rfl rfl) ?_)
   exact ⟨rfl, rfl⟩
  refine gC (fun vals Fs R leFs hpZ => ?_) ?_
  ·replace har := har.mono leFs
   replace hrs := hrs.mono leFs
   replace htp := htp.mono leFs
   replace hlf := hlf.mono leFs
   replace hrt := hrt.mono leFs
   rw [eS (l := [(2, (.agg #[tpv, lfv, rtv, .int .i64 (a), .int .i64 (u), .int .i64 (o)] : Value))]) ⟨(hpZ 2 (by decide)), trivial⟩]
   refine XG.op (XOp.call (args := [.agg #[tpv, lfv, rtv, .int .i64 (a), .int .i64 (u), .int .i64 (o)]]) call34 rfl (toPeak_spec htp hlf hrt (htl := (by first | assumption | rfl | omega | simp)) (hll := (by first | assumption | rfl | omega | simp)) (hrl := (by first | assumption | rfl | omega | simp))) ?_)
   rintro _ F5 _ le5 ⟨x12, x13, x14, rfl, hr15, hr16, hr17, hr18, rfl⟩
   replace har := har.mono le5
   replace hrs := hrs.mono le5
   replace htp := htp.mono le5
   replace hlf := hlf.mono le5
   replace hrt := hrt.mono le5
   exact ⟨⟨rfl, hr15, hr16, hr17⟩, rfl⟩
  refine gC (fun vals Fs R leFs hpZ => ?_) ?_
  ·refine XG.op (XOp.move (.int .i64 (n)) rfl ?_)
   exact ⟨rfl, rfl⟩
  refine gC (fun vals Fs R leFs hpZ => ?_) ?_
  ·obtain ⟨e1, f1_1hr1, f1_1hr2⟩ := hpZ 1 (by decide)
   obtain ⟨e3, f3_1hr1, f3_1hr2, f3_1hr3⟩ := hpZ 3 (by decide)
   replace har := har.mono leFs
   replace hrs := hrs.mono leFs
   replace htp := htp.mono leFs
   replace hlf := hlf.mono leFs
   replace hrt := hrt.mono leFs
   rw [eS (l := [(1, (.agg #[((aggAt (vals 1) 0)), ((aggAt (vals 1) 1))] : Value)), (3, (.agg #[((aggAt (vals 3) 0)), ((aggAt (vals 3) 1)), ((aggAt (vals 3) 2)), .int .i64 (a), .int .i64 (u), .int .i64 (o)] : Value)), (4, (.int .i64 (n) : Value))]) ⟨(e1).symm, (e3).symm, (hpZ 4 (by decide)), trivial⟩]
   refine XG.op (XOp.call (args := [.agg #[((aggAt (vals 1) 0)), ((aggAt (vals 1) 1))], .agg #[((aggAt (vals 3) 0)), ((aggAt (vals 3) 1)), ((aggAt (vals 3) 2)), .int .i64 (a), .int .i64 (u), .int .i64 (o)], .int .i64 (n)]) call33 rfl (sJoinedPeak_spec (n := n) f1_1hr1 f1_1hr2 f3_1hr1 f3_1hr2 f3_1hr3 (hla := (by first | assumption | rfl | omega | simp)) (hlr := (by first | assumption | rfl | omega | simp)) (hrb := (by first | assumption | rfl | omega | simp)) (hlt := (by first | assumption | rfl | omega | simp)) (hll0 := (by first | assumption | rfl | omega | simp)) (hlr0 := (by first | assumption | rfl | omega | simp))) ?_)
   rintro _ F6 _ le6 ⟨x15, x16, x17, x18, rfl, hr19, hr20, hr21, hr22, rfl⟩
   replace har := har.mono le6
   replace hrs := hrs.mono le6
   replace htp := htp.mono le6
   replace hlf := hlf.mono le6
   replace hrt := hrt.mono le6
   replace f1_1hr1 := f1_1hr1.mono le6
   replace f1_1hr2 := f1_1hr2.mono le6
   replace f3_1hr1 := f3_1hr1.mono le6
   replace f3_1hr2 := f3_1hr2.mono le6
   replace f3_1hr3 := f3_1hr3.mono le6
   exact ⟨⟨rfl, hr19, hr20, hr21, hr22⟩, rfl⟩
  refine gC (fun vals Fs R leFs hpZ => ?_) ?_
  ·obtain ⟨e5, f5_1hr1, f5_1hr2, f5_1hr3, f5_1hr4⟩ := hpZ 5 (by decide)
   rw [eS (l := [(5, (.tuple #[.agg #[((aggAt (tupAt (vals 5) 0) 0)), ((aggAt (tupAt (vals 5) 0) 1))], .agg #[((aggAt (tupAt (vals 5) 1) 0)), ((aggAt (tupAt (vals 5) 1) 1))], .bool ((peakJ ar rs tp lf rt a u o n).2.2.2.2)] : Value))]) ⟨(e5).symm, trivial⟩]
   refine XG.op (XOp.move (.tuple #[.agg #[((aggAt (tupAt (vals 5) 0) 0)), ((aggAt (tupAt (vals 5) 0) 1))], .agg #[((aggAt (tupAt (vals 5) 1) 0)), ((aggAt (tupAt (vals 5) 1) 1))], .bool ((peakJ ar rs tp lf rt a u o n).2.2.2.2)]) rfl ?_)
   exact ⟨rfl, rfl⟩
  refine gC (fun vals Fs R leFs hpZ => ?_) ?_
  ·obtain ⟨e5, f5_1hr1, f5_1hr2, f5_1hr3, f5_1hr4⟩ := hpZ 5 (by decide)
   have e6 : vals 6 = (.tuple #[.agg #[((aggAt (tupAt (vals 5) 0) 0)), ((aggAt (tupAt (vals 5) 0) 1))], .agg #[((aggAt (tupAt (vals 5) 1) 0)), ((aggAt (tupAt (vals 5) 1) 1))], .bool ((peakJ ar rs tp lf rt a u o n).2.2.2.2)] : Value) := hpZ 6 (by decide)
   rw [eS (l := [(5, (.tuple #[.agg #[((aggAt (tupAt (vals 5) 0) 0)), ((aggAt (tupAt (vals 5) 0) 1))], .agg #[((aggAt (tupAt (vals 5) 1) 0)), ((aggAt (tupAt (vals 5) 1) 1))], .bool ((peakJ ar rs tp lf rt a u o n).2.2.2.2)] : Value)), (6, (.tuple #[.agg #[((aggAt (tupAt (vals 5) 0) 0)), ((aggAt (tupAt (vals 5) 0) 1))], .agg #[((aggAt (tupAt (vals 5) 1) 0)), ((aggAt (tupAt (vals 5) 1) 1))], .bool ((peakJ ar rs tp lf rt a u o n).2.2.2.2)] : Value))]) ⟨(e5).symm, e6, trivial⟩]
   refine XG.op (XOp.extract (.agg #[((aggAt (tupAt (vals 5) 0) 0)), ((aggAt (tupAt (vals 5) 0) 1))]) rfl rfl ?_)
   exact ⟨rfl, rfl⟩
  refine gC (fun vals Fs R leFs hpZ => ?_) ?_
  ·obtain ⟨e5, f5_1hr1, f5_1hr2, f5_1hr3, f5_1hr4⟩ := hpZ 5 (by decide)
   have e6 : vals 6 = (.tuple #[.agg #[((aggAt (tupAt (vals 5) 0) 0)), ((aggAt (tupAt (vals 5) 0) 1))], .agg #[((aggAt (tupAt (vals 5) 1) 0)), ((aggAt (tupAt (vals 5) 1) 1))], .bool ((peakJ ar rs tp lf rt a u o n).2.2.2.2)] : Value) := hpZ 6 (by decide)
   rw [eS (l := [(5, (.tuple #[.agg #[((aggAt (tupAt (vals 5) 0) 0)), ((aggAt (tupAt (vals 5) 0) 1))], .agg #[((aggAt (tupAt (vals 5) 1) 0)), ((aggAt (tupAt (vals 5) 1) 1))], .bool ((peakJ ar rs tp lf rt a u o n).2.2.2.2)] : Value)), (6, (.tuple #[.agg #[((aggAt (tupAt (vals 5) 0) 0)), ((aggAt (tupAt (vals 5) 0) 1))], .agg #[((aggAt (tupAt (vals 5) 1) 0)), ((aggAt (tupAt (vals 5) 1) 1))], .bool ((peakJ ar rs tp lf rt a u o n).2.2.2.2)] : Value))]) ⟨(e5).symm, e6, trivial⟩]
   refine XG.op (XOp.extract (.agg #[((aggAt (tupAt (vals 5) 1) 0)), ((aggAt (tupAt (vals 5) 1) 1))]) rfl rfl ?_)
   exact ⟨rfl, rfl⟩
  refine gC (fun vals Fs R leFs hpZ => ?_) ?_
  ·obtain ⟨e5, f5_1hr1, f5_1hr2, f5_1hr3, f5_1hr4⟩ := hpZ 5 (by decide)
   have e6 : vals 6 = (.tuple #[.agg #[((aggAt (tupAt (vals 5) 0) 0)), ((aggAt (tupAt (vals 5) 0) 1))], .agg #[((aggAt (tupAt (vals 5) 1) 0)), ((aggAt (tupAt (vals 5) 1) 1))], .bool ((peakJ ar rs tp lf rt a u o n).2.2.2.2)] : Value) := hpZ 6 (by decide)
   rw [eS (l := [(5, (.tuple #[.agg #[((aggAt (tupAt (vals 5) 0) 0)), ((aggAt (tupAt (vals 5) 0) 1))], .agg #[((aggAt (tupAt (vals 5) 1) 0)), ((aggAt (tupAt (vals 5) 1) 1))], .bool ((peakJ ar rs tp lf rt a u o n).2.2.2.2)] : Value)), (6, (.tuple #[.agg #[((aggAt (tupAt (vals 5) 0) 0)), ((aggAt (tupAt (vals 5) 0) 1))], .agg #[((aggAt (tupAt (vals 5) 1) 0)), ((aggAt (tupAt (vals 5) 1) 1))], .bool ((peakJ ar rs tp lf rt a u o n).2.2.2.2)] : Value))]) ⟨(e5).symm, e6, trivial⟩]
   refine XG.op (XOp.extract (.bool ((peakJ ar rs tp lf rt a u o n).2.2.2.2)) rfl rfl ?_)
   exact ⟨rfl, rfl⟩
  refine gC (fun vals Fs R leFs hpZ => ?_) ?_
  ·replace har := har.mono leFs
   replace hrs := hrs.mono leFs
   replace htp := htp.mono leFs
   replace hlf := hlf.mono leFs
   replace hrt := hrt.mono leFs
   refine XG.op (XOp.alloc [(.slice none 0 0), (.slice none 0 0)] zeroValue57 rfl ?_)
   intro b5
   exact ⟨rfl, rfl⟩
  refine gC (fun vals Fs R leFs hpZ => ?_) ?_
  ·replace har := har.mono leFs
   replace hrs := hrs.mono leFs
   replace htp := htp.mono leFs
   replace hlf := hlf.mono leFs
   replace hrt := hrt.mono leFs
   refine XG.op (XOp.alloc [(.slice none 0 0), (.slice none 0 0)] zeroValue57 rfl ?_)
   intro b6
   exact ⟨rfl, rfl⟩
  refine gC (fun vals Fs R leFs hpZ => ?_) ?_
  ·obtain ⟨e5, f5_1hr1, f5_1hr2, f5_1hr3, f5_1hr4⟩ := hpZ 5 (by decide)
   have e7 : vals 7 = (.agg #[((aggAt (tupAt (vals 5) 0) 0)), ((aggAt (tupAt (vals 5) 0) 1))] : Value) := hpZ 7 (by decide)
   have e10 : vals 10 = ptr (blk (vals 10)) 0 := hpZ 10 (by decide)
   replace har := har.mono leFs
   replace hrs := hrs.mono leFs
   replace htp := htp.mono leFs
   replace hlf := hlf.mono leFs
   replace hrt := hrt.mono leFs
   rw [eS (l := [(5, (.tuple #[.agg #[((aggAt (tupAt (vals 5) 0) 0)), ((aggAt (tupAt (vals 5) 0) 1))], .agg #[((aggAt (tupAt (vals 5) 1) 0)), ((aggAt (tupAt (vals 5) 1) 1))], .bool ((peakJ ar rs tp lf rt a u o n).2.2.2.2)] : Value)), (7, (.agg #[((aggAt (tupAt (vals 5) 0) 0)), ((aggAt (tupAt (vals 5) 0) 1))] : Value)), (10, ptr (blk (vals 10)) 0)]) ⟨(e5).symm, e7, e10, trivial⟩]
   show XG _ _ _ _ _ (cellsH (blk (vals 10)) [(.slice none 0 0), (.slice none 0 0)] 57 :: ([cellsH b2 [tpv, lfv, rtv, .int .i64 (a), .int .i64 (u), .int .i64 (o)] 70, cellsH b1 [arv, rsv] 27] ++ R)) _
   refine XG.op (XOp.storeN (vs := [((aggAt (tupAt (vals 5) 0) 0)), ((aggAt (tupAt (vals 5) 0) 1))]) [] _ [((aggAt (tupAt (vals 5) 0) 0)), ((aggAt (tupAt (vals 5) 0) 1))] sizeOf57 rfl rfl rfl (ones_cons (one_sl (IntsF.isSl f5_1hr1)) (ones_cons (one_sl (StepsF.isSl f5_1hr2)) ones_nil)) rfl rfl rfl ?_)
   exact ⟨trivial, rfl⟩
  refine gC (fun vals Fs R leFs hpZ => ?_) ?_
  ·obtain ⟨e5, f5_1hr1, f5_1hr2, f5_1hr3, f5_1hr4⟩ := hpZ 5 (by decide)
   have e8 : vals 8 = (.agg #[((aggAt (tupAt (vals 5) 1) 0)), ((aggAt (tupAt (vals 5) 1) 1))] : Value) := hpZ 8 (by decide)
   have e11 : vals 11 = ptr (blk (vals 11)) 0 := hpZ 11 (by decide)
   replace har := har.mono leFs
   replace hrs := hrs.mono leFs
   replace htp := htp.mono leFs
   replace hlf := hlf.mono leFs
   replace hrt := hrt.mono leFs
   rw [eS (l := [(5, (.tuple #[.agg #[((aggAt (tupAt (vals 5) 0) 0)), ((aggAt (tupAt (vals 5) 0) 1))], .agg #[((aggAt (tupAt (vals 5) 1) 0)), ((aggAt (tupAt (vals 5) 1) 1))], .bool ((peakJ ar rs tp lf rt a u o n).2.2.2.2)] : Value)), (8, (.agg #[((aggAt (tupAt (vals 5) 1) 0)), ((aggAt (tupAt (vals 5) 1) 1))] : Value)), (11, ptr (blk (vals 11)) 0)]) ⟨(e5).symm, e8, e11, trivial⟩]
   show XG _ _ _ _ _ (cellsH (blk (vals 11)) [(.slice none 0 0), (.slice none 0 0)] 57 :: ([cellsH b2 [tpv, lfv, rtv, .int .i64 (a), .int .i64 (u), .int .i64 (o)] 70, cellsH b1 [arv, rsv] 27] ++ R)) _
   refine XG.op (XOp.storeN (vs := [((aggAt (tupAt (vals 5) 1) 0)), ((aggAt (tupAt (vals 5) 1) 1))]) [] _ [((aggAt (tupAt (vals 5) 1) 0)), ((aggAt (tupAt (vals 5) 1) 1))] sizeOf57 rfl rfl rfl (ones_cons (one_sl (IntsF.isSl f5_1hr3)) (ones_cons (one_sl (StepsF.isSl f5_1hr4)) ones_nil)) rfl rfl rfl ?_)
   exact ⟨trivial, rfl⟩
  exact stepsG.nil
 intro vals F7 le7 hphi
 obtain ⟨e1, f1_1hr1, f1_1hr2⟩ := hphi 1 (by decide)
 obtain ⟨e3, f3_1hr1, f3_1hr2, f3_1hr3⟩ := hphi 3 (by decide)
 obtain ⟨e5, f5_1hr1, f5_1hr2, f5_1hr3, f5_1hr4⟩ := hphi 5 (by decide)
 have e6 : vals 6 = (.tuple #[.agg #[((aggAt (tupAt (vals 5) 0) 0)), ((aggAt (tupAt (vals 5) 0) 1))], .agg #[((aggAt (tupAt (vals 5) 1) 0)), ((aggAt (tupAt (vals 5) 1) 1))], .bool ((peakJ ar rs tp lf rt a u o n).2.2.2.2)] : Value) := hphi 6 (by decide)
 have e7 : vals 7 = (.agg #[((aggAt (tupAt (vals 5) 0) 0)), ((aggAt (tupAt (vals 5) 0) 1))] : Value) := hphi 7 (by decide)
 have e8 : vals 8 = (.agg #[((aggAt (tupAt (vals 5) 1) 0)), ((aggAt (tupAt (vals 5) 1) 1))] : Value) := hphi 8 (by decide)
 have e10 : vals 10 = ptr (blk (vals 10)) 0 := hphi 10 (by decide)
 have e11 : vals 11 = ptr (blk (vals 11)) 0 := hphi 11 (by decide)
 generalize hu1 : ((aggAt (vals 1) 0)) = u1 at e1 f1_1hr1 f1_1hr2 e3 f3_1hr1 f3_1hr2 f3_1hr3 e5 f5_1hr1 f5_1hr2 f5_1hr3 f5_1hr4 e6 e7 e8 e10 e11
 generalize hu2 : ((aggAt (vals 1) 1)) = u2 at e1 f1_1hr1 f1_1hr2 e3 f3_1hr1 f3_1hr2 f3_1hr3 e5 f5_1hr1 f5_1hr2 f5_1hr3 f5_1hr4 e6 e7 e8 e10 e11
 generalize hu3 : ((aggAt (vals 3) 0)) = u3 at e1 f1_1hr1 f1_1hr2 e3 f3_1hr1 f3_1hr2 f3_1hr3 e5 f5_1hr1 f5_1hr2 f5_1hr3 f5_1hr4 e6 e7 e8 e10 e11
 generalize hu4 : ((aggAt (vals 3) 1)) = u4 at e1 f1_1hr1 f1_1hr2 e3 f3_1hr1 f3_1hr2 f3_1hr3 e5 f5_1hr1 f5_1hr2 f5_1hr3 f5_1hr4 e6 e7 e8 e10 e11
 generalize hu5 : ((aggAt (vals 3) 2)) = u5 at e1 f1_1hr1 f1_1hr2 e3 f3_1hr1 f3_1hr2 f3_1hr3 e5 f5_1hr1 f5_1hr2 f5_1hr3 f5_1hr4 e6 e7 e8 e10 e11
 generalize hu6 : ((aggAt (tupAt (vals 5) 0) 0)) = u6 at e1 f1_1hr1 f1_1hr2 e3 f3_1hr1 f3_1hr2 f3_1hr3 e5 f5_1hr1 f5_1hr2 f5_1hr3 f5_1hr4 e6 e7 e8 e10 e11
 generalize hu7 : ((aggAt (tupAt (vals 5) 0) 1)) = u7 at e1 f1_1hr1 f1_1hr2 e3 f3_1hr1 f3_1hr2 f3_1hr3 e5 f5_1hr1 f5_1hr2 f5_1hr3 f5_1hr4 e6 e7 e8 e10 e11
 generalize hu8 : ((aggAt (tupAt (vals 5) 1) 0)) = u8 at e1 f1_1hr1 f1_1hr2 e3 f3_1hr1 f3_1hr2 f3_1hr3 e5 f5_1hr1 f5_1hr2 f5_1hr3 f5_1hr4 e6 e7 e8 e10 e11
 generalize hu9 : ((aggAt (tupAt (vals 5) 1) 1)) = u9 at e1 f1_1hr1 f1_1hr2 e3 f3_1hr1 f3_1hr2 f3_1hr3 e5 f5_1hr1 f5_1hr2 f5_1hr3 f5_1hr4 e6 e7 e8 e10 e11
 generalize hu10 : blk (vals 10) = b7 at e1 f1_1hr1 f1_1hr2 e3 f3_1hr1 f3_1hr2 f3_1hr3 e5 f5_1hr1 f5_1hr2 f5_1hr3 f5_1hr4 e6 e7 e8 e10 e11
 generalize hu11 : blk (vals 11) = b8 at e1 f1_1hr1 f1_1hr2 e3 f3_1hr1 f3_1hr2 f3_1hr3 e5 f5_1hr1 f5_1hr2 f5_1hr3 f5_1hr4 e6 e7 e8 e10 e11
 rw [eS (l := [(5, (.tuple #[.agg #[u6, u7], .agg #[u8, u9], .bool ((peakJ ar rs tp lf rt a u o n).2.2.2.2)] : Value)), (9, (.bool ((peakJ ar rs tp lf rt a u o n).2.2.2.2) : Value)), (10, ptr b7 0), (11, ptr b8 0)]) ⟨(e5).symm, (hphi 9 (by decide)), e10, e11, trivial⟩]
 replace har := har.mono le7
 replace hrs := hrs.mono le7
 replace htp := htp.mono le7
 replace hlf := hlf.mono le7
 replace hrt := hrt.mono le7
 show XL _ _ _ _ _ _ _ (cellsH b7 [u6, u7] 57 :: cellsH b8 [u8, u9] 57 :: cellsH b2 [tpv, lfv, rtv, .int .i64 (a), .int .i64 (u), .int .i64 (o)] 70 :: cellsH b1 [arv, rsv] 27 :: L)
 refine XL.as (.bool ((peakJ ar rs tp lf rt a u o n).2.2.2.2)) rfl ?_
 refine XL.nil (X.seq (X.region ?_))
 refine cX (XOp.loadN [arv, rsv] isAgg27 sizeOf27 rfl rfl (Rd.ownN [_, _, _] rfl rfl) ?_)
 refine cX (XOp.thawL ?_)
 refine id (XOp.call (args := [.agg #[arv, rsv]]) call10 rfl (toSystem_spec har hrs (hla := (by first | assumption | rfl | omega | simp)) (hrl := (by first | assumption | rfl | omega | simp)) (hrb := (by first | assumption | rfl | omega | simp))) ?_)
 rintro _ F8 _ le8 ⟨x19, x20, rfl, hr23, hr24, hr25, rfl⟩
 refine ⟨[intsH 2 x19 ar, pairsD 2 121 x20 rs], hr25, ?_⟩
 show XL _ _ _ _ _ _ _ (intsH 2 x19 ar :: pairsD 2 121 x20 rs :: cellsH b7 [u6, u7] 57 :: cellsH b8 [u8, u9] 57 :: cellsH b2 [tpv, lfv, rtv, .int .i64 (a), .int .i64 (u), .int .i64 (o)] 70 :: cellsH b1 [arv, rsv] 27 :: L)
 refine cX (XOp.alloc [(.slice none 0 0), (.slice none 0 0)] zeroValue37 rfl ?_)
 intro b9
 refine cX (XOp.storeN (vs := [x19, x20]) [] _ [x19, x20] sizeOf37 rfl rfl rfl (ones_cons (one_sl (IntsF.isSl hr23)) (ones_cons (one_sl (PairsF.isSl hr24)) ones_nil)) rfl rfl rfl ?_)
 refine XL.nil (X.seq (X.region ?_))
 refine cX (XOp.loadN [tpv, lfv, rtv, .int .i64 (a), .int .i64 (u), .int .i64 (o)] isAgg70 sizeOf70 rfl rfl (Rd.ownN [_, _, _, _, _] rfl rfl) ?_)
 refine cX (XOp.thawL ?_)
 refine id (XOp.call (args := [.agg #[tpv, lfv, rtv, .int .i64 (a), .int .i64 (u), .int .i64 (o)]]) call34 rfl (toPeak_spec htp hlf hrt (htl := (by first | assumption | rfl | omega | simp)) (hll := (by first | assumption | rfl | omega | simp)) (hrl := (by first | assumption | rfl | omega | simp))) ?_)
 rintro _ F9 _ le9 ⟨x21, x22, x23, rfl, hr26, hr27, hr28, hr29, rfl⟩
 refine ⟨[intsH 2 x21 tp, intsH 2 x22 lf, intsH 2 x23 rt], hr29, ?_⟩
 show XL _ _ _ _ _ _ _ (intsH 2 x21 tp :: intsH 2 x22 lf :: intsH 2 x23 rt :: cellsH b9 [x19, x20] 37 :: intsH 2 x19 ar :: pairsD 2 121 x20 rs :: cellsH b7 [u6, u7] 57 :: cellsH b8 [u8, u9] 57 :: cellsH b2 [tpv, lfv, rtv, .int .i64 (a), .int .i64 (u), .int .i64 (o)] 70 :: cellsH b1 [arv, rsv] 27 :: L)
 refine cX (XOp.alloc [(.slice none 0 0), (.slice none 0 0), (.slice none 0 0), .int .i64 (0), .int .i64 (0), .int .i64 (0)] zeroValue74 rfl ?_)
 intro b10
 refine cX (XOp.storeN (vs := [x21, x22, x23, .int .i64 (a), .int .i64 (u), .int .i64 (o)]) [] _ [x21, x22, x23, .int .i64 (a), .int .i64 (u), .int .i64 (o)] sizeOf74 rfl rfl rfl (ones_cons (one_sl (IntsF.isSl hr26)) (ones_cons (one_sl (IntsF.isSl hr27)) (ones_cons (one_sl (IntsF.isSl hr28)) (ones_cons rfl (ones_cons rfl (ones_cons rfl ones_nil)))))) rfl rfl rfl ?_)
 refine XL.nil (X.seq (X.region ?_))
 refine cX (XOp.loadN [x19, x20] isAgg37 sizeOf37 rfl rfl (Rd.ownN [_, _, _, _] rfl rfl) ?_)
 refine cX (XOp.loadN [x21, x22, x23, .int .i64 (a), .int .i64 (u), .int .i64 (o)] isAgg74 sizeOf74 rfl rfl (Rd.ownN [] rfl rfl) ?_)
 refine XL.mv (.int .i64 (n)) rfl ?_
 refine cX (XOp.lend [_, _, _, _, _] _ _ rfl (fun F10 le10 hz1 => ?_))
 refine id (XOp.lend [_, _, _, _, _] _ _ rfl (fun F11 le11 hz2 => ?_))
 refine id (XOp.lend [_] _ _ rfl (fun F12 le12 hz3 => ?_))
 refine id (XOp.lend [_] _ _ rfl (fun F13 le13 hz4 => ?_))
 refine id (XOp.lend [_] _ _ rfl (fun F14 le14 hz5 => ?_))
 have hf1 : IntsF _ x19 ar := (intsH.fz (xs := ar) hz1).mono (FLe.trans (FLe.trans (FLe.trans le11 le12) le13) le14)
 have hf2 : PairsF _ x20 rs := (pairsD.fz hz2).mono (FLe.trans (FLe.trans le12 le13) le14)
 have hf3 : IntsF _ x21 tp := (intsH.fz (xs := tp) hz3).mono (FLe.trans le13 le14)
 have hf4 : IntsF _ x22 lf := (intsH.fz (xs := lf) hz4).mono le14
 have hf5 : IntsF _ x23 rt := intsH.fz (xs := rt) hz5
 refine id (XOp.thawL ?_)
 refine id (XOp.call (args := [.agg #[x19, x20], .agg #[x21, x22, x23, .int .i64 (a), .int .i64 (u), .int .i64 (o)], .int .i64 (n)]) call35 rfl (JoinedPeak_spec (n := n) hf1 hf2 hf3 hf4 hf5 (hll0 := (by first | assumption | rfl | omega | simp)) (hlr0 := (by first | assumption | rfl | omega | simp))) ?_)
 rintro _ F15 _ le15 ⟨x24, x25, x26, x27, rfl, hr30, hr31, hr32, hr33, hr34, rfl⟩
 refine ⟨[intsH 2 x24 ((peakJ ar rs tp lf rt a u o n).1), stepsD 2 116 x25 ((peakJ ar rs tp lf rt a u o n).2.1), intsH 2 x26 ((peakJ ar rs tp lf rt a u o n).2.2.1), stepsD 2 116 x27 ((peakJ ar rs tp lf rt a u o n).2.2.2.1)], hr34, ?_⟩
 show XL _ _ _ _ _ _ _ (intsH 2 x19 ar :: pairsD 2 121 x20 rs :: intsH 2 x21 tp :: intsH 2 x22 lf :: intsH 2 x23 rt :: intsH 2 x24 ((peakJ ar rs tp lf rt a u o n).1) :: stepsD 2 116 x25 ((peakJ ar rs tp lf rt a u o n).2.1) :: intsH 2 x26 ((peakJ ar rs tp lf rt a u o n).2.2.1) :: stepsD 2 116 x27 ((peakJ ar rs tp lf rt a u o n).2.2.2.1) :: cellsH b10 [x21, x22, x23, .int .i64 (a), .int .i64 (u), .int .i64 (o)] 74 :: cellsH b9 [x19, x20] 37 :: cellsH b7 [u6, u7] 57 :: cellsH b8 [u8, u9] 57 :: cellsH b2 [tpv, lfv, rtv, .int .i64 (a), .int .i64 (u), .int .i64 (o)] 70 :: cellsH b1 [arv, rsv] 27 :: L)
 refine XL.mv (.tuple #[.agg #[x24, x25], .agg #[x26, x27], .bool ((peakJ ar rs tp lf rt a u o n).2.2.2.2)]) rfl ?_
 refine cX (XOp.extract (.agg #[x24, x25]) rfl rfl ?_)
 refine cX (XOp.extract (.agg #[x26, x27]) rfl rfl ?_)
 refine cX (XOp.extract (.bool ((peakJ ar rs tp lf rt a u o n).2.2.2.2)) rfl rfl ?_)
 refine cX (XOp.alloc [(.slice none 0 0), (.slice none 0 0)] zeroValue57 rfl ?_)
 intro b11
 refine cX (XOp.alloc [(.slice none 0 0), (.slice none 0 0)] zeroValue57 rfl ?_)
 intro b12
 refine cX (XOp.storeN (vs := [x24, x25]) [_] _ [x24, x25] sizeOf57 rfl rfl rfl (ones_cons (one_sl (IntsF.isSl hr30)) (ones_cons (one_sl (StepsF.isSl hr31)) ones_nil)) rfl rfl rfl ?_)
 refine cX (XOp.storeN (vs := [x26, x27]) [] _ [x26, x27] sizeOf57 rfl rfl rfl (ones_cons (one_sl (IntsF.isSl hr32)) (ones_cons (one_sl (StepsF.isSl hr33)) ones_nil)) rfl rfl rfl ?_)
 refine XL.as (.bool ((peakJ ar rs tp lf rt a u o n).2.2.2.2)) rfl ?_
 refine XL.nil (X.seq (X.seq (X.region ?_)))
 refine cX (XOp.loadN [x24, x25] isAgg57 sizeOf57 rfl rfl (Rd.ownN [_] rfl rfl) ?_)
 refine cX (XOp.loadN [u6, u7] isAgg57 sizeOf57 rfl rfl (Rd.ownN [_, _, _, _, _, _, _, _, _, _, _, _, _] rfl rfl) ?_)
 refine cX (XOp.lend [_, _, _, _, _, _, _] _ _ rfl (fun F16 le16 hz6 => ?_))
 refine id (XOp.lend [_, _, _, _, _, _, _] _ _ rfl (fun F17 le17 hz7 => ?_))
 have hf6 : IntsF _ x24 ((peakJ ar rs tp lf rt a u o n).1) := (intsH.fz (xs := (peakJ ar rs tp lf rt a u o n).1) hz6).mono le17
 have hf7 : StepsF _ x25 ((peakJ ar rs tp lf rt a u o n).2.1) := stepsD.fz hz7
 refine id (XOp.call (args := [.agg #[x24, x25], .agg #[u6, u7]]) call36 rfl (eqWalk_spec hf6 hf7 ((f5_1hr1.mono (FLe.trans le16 le17))) ((f5_1hr2.mono (FLe.trans le16 le17))) (hfl := (by first | assumption | rfl | omega | simp)) (hal := (by first | assumption | rfl | omega | simp)) (hbd := (by first | assumption | exact fun i hi => by have := hne1 i hi; omega | exact fun i hi => by have := hne2 i hi; omega))) ?_)
 rintro _ _ _ _ ⟨rfl, rfl, rfl⟩
 show XL _ _ _ _ _ _ _ (intsH 2 x24 ((peakJ ar rs tp lf rt a u o n).1) :: stepsD 2 116 x25 ((peakJ ar rs tp lf rt a u o n).2.1) :: cellsH b12 [x26, x27] 57 :: cellsH b11 [x24, x25] 57 :: intsH 2 x19 ar :: pairsD 2 121 x20 rs :: intsH 2 x21 tp :: intsH 2 x22 lf :: intsH 2 x23 rt :: intsH 2 x26 ((peakJ ar rs tp lf rt a u o n).2.2.1) :: stepsD 2 116 x27 ((peakJ ar rs tp lf rt a u o n).2.2.2.1) :: cellsH b10 [x21, x22, x23, .int .i64 (a), .int .i64 (u), .int .i64 (o)] 74 :: cellsH b9 [x19, x20] 37 :: cellsH b7 [u6, u7] 57 :: cellsH b8 [u8, u9] 57 :: cellsH b2 [tpv, lfv, rtv, .int .i64 (a), .int .i64 (u), .int .i64 (o)] 70 :: cellsH b1 [arv, rsv] 27 :: L)
 refine cX (XOp.notD (p := ((peakJ ar rs tp lf rt a u o n).1) = ((peakJ ar rs tp lf rt a u o n).1) ∧ ((peakJ ar rs tp lf rt a u o n).2.1) = ((peakJ ar rs tp lf rt a u o n).2.1)) rfl ?_)
 refine XL.mv (.bool (decide (¬(((peakJ ar rs tp lf rt a u o n).1) = ((peakJ ar rs tp lf rt a u o n).1) ∧ ((peakJ ar rs tp lf rt a u o n).2.1) = ((peakJ ar rs tp lf rt a u o n).2.1))))) rfl ?_
 by_cases h3 : ¬(((peakJ ar rs tp lf rt a u o n).1) = ((peakJ ar rs tp lf rt a u o n).1) ∧ ((peakJ ar rs tp lf rt a u o n).2.1) = ((peakJ ar rs tp lf rt a u o n).2.1))
 ·exact absurd (by first | rfl | exact ⟨rfl, rfl⟩ | exact ⟨⟨rfl, rfl⟩, rfl, rfl⟩ | simp) h3
 refine XL.yes (t := 58) rfl (vF h3) (XOp.loadN [x26, x27] isAgg57 sizeOf57 rfl rfl (Rd.ownN [_, _] rfl rfl) ?_)
 refine XL.yes (t := 58) rfl (vF h3) (XOp.loadN [u8, u9] isAgg57 sizeOf57 rfl rfl (Rd.ownN [_, _, _, _, _, _, _, _, _, _, _, _, _, _] rfl rfl) ?_)
 refine XL.yes (t := 58) rfl (vF h3) (XOp.lend [_, _, _, _, _, _, _, _, _] _ _ rfl (fun F18 le18 hz8 => ?_))
 refine id (XOp.lend [_, _, _, _, _, _, _, _, _] _ _ rfl (fun F19 le19 hz9 => ?_))
 have hf8 : IntsF _ x26 ((peakJ ar rs tp lf rt a u o n).2.2.1) := (intsH.fz (xs := (peakJ ar rs tp lf rt a u o n).2.2.1) hz8).mono le19
 have hf9 : StepsF _ x27 ((peakJ ar rs tp lf rt a u o n).2.2.2.1) := stepsD.fz hz9
 refine id (XOp.call (args := [.agg #[x26, x27], .agg #[u8, u9]]) call36 rfl (eqWalk_spec hf8 hf9 ((f5_1hr3.mono (FLe.trans le18 le19))) ((f5_1hr4.mono (FLe.trans le18 le19))) (hfl := (by first | assumption | rfl | omega | simp)) (hal := (by first | assumption | rfl | omega | simp)) (hbd := (by first | assumption | exact fun i hi => by have := hne1 i hi; omega | exact fun i hi => by have := hne2 i hi; omega))) ?_)
 rintro _ _ _ _ ⟨rfl, rfl, rfl⟩
 show XL _ _ _ _ _ _ _ (intsH 2 x26 ((peakJ ar rs tp lf rt a u o n).2.2.1) :: stepsD 2 116 x27 ((peakJ ar rs tp lf rt a u o n).2.2.2.1) :: intsH 2 x24 ((peakJ ar rs tp lf rt a u o n).1) :: stepsD 2 116 x25 ((peakJ ar rs tp lf rt a u o n).2.1) :: cellsH b12 [x26, x27] 57 :: cellsH b11 [x24, x25] 57 :: intsH 2 x19 ar :: pairsD 2 121 x20 rs :: intsH 2 x21 tp :: intsH 2 x22 lf :: intsH 2 x23 rt :: cellsH b10 [x21, x22, x23, .int .i64 (a), .int .i64 (u), .int .i64 (o)] 74 :: cellsH b9 [x19, x20] 37 :: cellsH b7 [u6, u7] 57 :: cellsH b8 [u8, u9] 57 :: cellsH b2 [tpv, lfv, rtv, .int .i64 (a), .int .i64 (u), .int .i64 (o)] 70 :: cellsH b1 [arv, rsv] 27 :: L)
 refine XL.yes (t := 58) rfl (vF h3) (XOp.notD (p := ((peakJ ar rs tp lf rt a u o n).2.2.1) = ((peakJ ar rs tp lf rt a u o n).2.2.1) ∧ ((peakJ ar rs tp lf rt a u o n).2.2.2.1) = ((peakJ ar rs tp lf rt a u o n).2.2.2.1)) rfl ?_)
 refine cX (XOp.pickF (.bool (decide (¬(((peakJ ar rs tp lf rt a u o n).2.2.1) = ((peakJ ar rs tp lf rt a u o n).2.2.1) ∧ ((peakJ ar rs tp lf rt a u o n).2.2.2.1) = ((peakJ ar rs tp lf rt a u o n).2.2.2.1))))) (vF h3) rfl ?_)
 refine XL.mv (.bool (decide (¬(((peakJ ar rs tp lf rt a u o n).2.2.1) = ((peakJ ar rs tp lf rt a u o n).2.2.1) ∧ ((peakJ ar rs tp lf rt a u o n).2.2.2.1) = ((peakJ ar rs tp lf rt a u o n).2.2.2.1))))) rfl ?_
 by_cases h4 : ¬(((peakJ ar rs tp lf rt a u o n).2.2.1) = ((peakJ ar rs tp lf rt a u o n).2.2.1) ∧ ((peakJ ar rs tp lf rt a u o n).2.2.2.1) = ((peakJ ar rs tp lf rt a u o n).2.2.2.1))
 ·exact absurd (by first | rfl | exact ⟨rfl, rfl⟩ | exact ⟨⟨rfl, rfl⟩, rfl, rfl⟩ | simp) h4
 refine XL.yes (t := 64) rfl (vF h4) (XOp.move (.bool ((peakJ ar rs tp lf rt a u o n).2.2.2.2)) rfl ?_)
 refine XL.yes (t := 64) rfl (vF h4) (XOp.move (.bool ((peakJ ar rs tp lf rt a u o n).2.2.2.2)) rfl ?_)
 refine XL.yes (t := 64) rfl (vF h4) (XOp.neB (a := (peakJ ar rs tp lf rt a u o n).2.2.2.2) (b := (peakJ ar rs tp lf rt a u o n).2.2.2.2) runUnderlying4 rfl rfl ?_)
 refine cX (XOp.pickF (.bool (decide (((peakJ ar rs tp lf rt a u o n).2.2.2.2) ≠ ((peakJ ar rs tp lf rt a u o n).2.2.2.2)))) (vF h4) rfl ?_)
 refine XL.nil ?_
 refine X.condD (p := ((peakJ ar rs tp lf rt a u o n).2.2.2.2) ≠ ((peakJ ar rs tp lf rt a u o n).2.2.2.2)) rfl (fun h5 => ?_) (fun h5 => ?_)
 ·exact absurd rfl h5
 refine X.skip (X.seq (X.seq ?_))
 refine X.drawG [intsH 2 x26 ((peakJ ar rs tp lf rt a u o n).2.2.1), stepsD 2 116 x27 ((peakJ ar rs tp lf rt a u o n).2.2.2.1), intsH 2 x24 ((peakJ ar rs tp lf rt a u o n).1), stepsD 2 116 x25 ((peakJ ar rs tp lf rt a u o n).2.1), cellsH b12 [x26, x27] 57, cellsH b11 [x24, x25] 57, intsH 2 x19 ar, pairsD 2 121 x20 rs, intsH 2 x21 tp, intsH 2 x22 lf, intsH 2 x23 rt, cellsH b10 [x21, x22, x23, .int .i64 (a), .int .i64 (u), .int .i64 (o)] 74, cellsH b9 [x19, x20] 37, cellsH b7 [u6, u7] 57, cellsH b8 [u8, u9] 57, cellsH b2 [tpv, lfv, rtv, .int .i64 (a), .int .i64 (u), .int .i64 (o)] 70, cellsH b1 [arv, rsv] 27] L 3 [[], [], []] [[], [], [1]] [[], [], []] (phiG [fun FF us v => v = (.agg #[x19, x20] : Value), fun FF us v => v = (.agg #[arv, rsv] : Value), fun FF us v => (.agg #[((aggAt v 0)), ((aggAt v 1))] : Value) = v ∧ (IntsF FF ((aggAt v 0)) ar) ∧ (PairsF FF ((aggAt v 1)) rs)]) (ownL [fun us v => [], fun us v => [], fun us v => []]) mixed rfl rfl (by kernel_rfl) (by kernel_rfl) (MonoG.get (mC (fun le h => h) (mC (fun le h => h) (mC (fun le h => ⟨h.1, h.2.1.mono le, h.2.2.mono le⟩) MonoG.nil)))) ?_ ?_
 ·refine gC (fun vals Fs R leFs hpZ => ?_) ?_
  ·replace har := har.mono leFs
   replace hrs := hrs.mono leFs
   replace htp := htp.mono leFs
   replace hlf := hlf.mono leFs
   replace hrt := hrt.mono leFs
   replace f5_1hr1 := f5_1hr1.mono leFs
   replace f5_1hr2 := f5_1hr2.mono leFs
   replace f5_1hr3 := f5_1hr3.mono leFs
   replace f5_1hr4 := f5_1hr4.mono leFs
   refine XG.op (XOp.loadN [x19, x20] isAgg37 sizeOf37 rfl rfl (Rd.ownN [_, _, _, _, _, _, _, _, _, _, _, _] rfl rfl) ?_)
   exact ⟨rfl, rfl⟩
  refine gC (fun vals Fs R leFs hpZ => ?_) ?_
  ·replace har := har.mono leFs
   replace hrs := hrs.mono leFs
   replace htp := htp.mono leFs
   replace hlf := hlf.mono leFs
   replace hrt := hrt.mono leFs
   replace f5_1hr1 := f5_1hr1.mono leFs
   replace f5_1hr2 := f5_1hr2.mono leFs
   replace f5_1hr3 := f5_1hr3.mono leFs
   replace f5_1hr4 := f5_1hr4.mono leFs
   refine XG.op (XOp.loadN [arv, rsv] isAgg27 sizeOf27 rfl rfl (Rd.ownN [_, _, _, _, _, _, _, _, _, _, _, _, _, _, _, _] rfl rfl) ?_)
   exact ⟨rfl, rfl⟩
  refine gC (fun vals Fs R leFs hpZ => ?_) ?_
  ·replace har := har.mono leFs
   replace hrs := hrs.mono leFs
   replace htp := htp.mono leFs
   replace hlf := hlf.mono leFs
   replace hrt := hrt.mono leFs
   replace f5_1hr1 := f5_1hr1.mono leFs
   replace f5_1hr2 := f5_1hr2.mono leFs
   replace f5_1hr3 := f5_1hr3.mono leFs
   replace f5_1hr4 := f5_1hr4.mono leFs
   rw [eS (l := [(1, (.agg #[arv, rsv] : Value))]) ⟨(hpZ 1 (by decide)), trivial⟩]
   refine XG.op (XOp.call (args := [.agg #[arv, rsv]]) call10 rfl (toSystem_spec har hrs (hla := (by first | assumption | rfl | omega | simp)) (hrl := (by first | assumption | rfl | omega | simp)) (hrb := (by first | assumption | rfl | omega | simp))) ?_)
   rintro _ F21 _ le21 ⟨x30, x31, rfl, hr38, hr39, hr40, rfl⟩
   replace har := har.mono le21
   replace hrs := hrs.mono le21
   replace htp := htp.mono le21
   replace hlf := hlf.mono le21
   replace hrt := hrt.mono le21
   replace f5_1hr1 := f5_1hr1.mono le21
   replace f5_1hr2 := f5_1hr2.mono le21
   replace f5_1hr3 := f5_1hr3.mono le21
   replace f5_1hr4 := f5_1hr4.mono le21
   exact ⟨⟨rfl, hr38, hr39⟩, rfl⟩
  exact stepsG.nil
 intro vals F22 le22 hphi
 obtain ⟨e2, f2_2hr1, f2_2hr2⟩ := hphi 2 (by decide)
 generalize hu12 : ((aggAt (vals 2) 0)) = u10 at e2 f2_2hr1 f2_2hr2
 generalize hu13 : ((aggAt (vals 2) 1)) = u11 at e2 f2_2hr1 f2_2hr2
 rw [eS (l := [(0, (.agg #[x19, x20] : Value)), (2, (.agg #[u10, u11] : Value))]) ⟨(hphi 0 (by decide)), (e2).symm, trivial⟩]
 replace har := har.mono le22
 replace hrs := hrs.mono le22
 replace htp := htp.mono le22
 replace hlf := hlf.mono le22
 replace hrt := hrt.mono le22
 replace f5_1hr1 := f5_1hr1.mono le22
 replace f5_1hr2 := f5_1hr2.mono le22
 replace f5_1hr3 := f5_1hr3.mono le22
 replace f5_1hr4 := f5_1hr4.mono le22
 show XL _ _ _ _ _ _ _ (intsH 2 x26 ((peakJ ar rs tp lf rt a u o n).2.2.1) :: stepsD 2 116 x27 ((peakJ ar rs tp lf rt a u o n).2.2.2.1) :: intsH 2 x24 ((peakJ ar rs tp lf rt a u o n).1) :: stepsD 2 116 x25 ((peakJ ar rs tp lf rt a u o n).2.1) :: cellsH b12 [x26, x27] 57 :: cellsH b11 [x24, x25] 57 :: intsH 2 x19 ar :: pairsD 2 121 x20 rs :: intsH 2 x21 tp :: intsH 2 x22 lf :: intsH 2 x23 rt :: cellsH b10 [x21, x22, x23, .int .i64 (a), .int .i64 (u), .int .i64 (o)] 74 :: cellsH b9 [x19, x20] 37 :: cellsH b7 [u6, u7] 57 :: cellsH b8 [u8, u9] 57 :: cellsH b2 [tpv, lfv, rtv, .int .i64 (a), .int .i64 (u), .int .i64 (o)] 70 :: cellsH b1 [arv, rsv] 27 :: L)
 refine cX (XOp.lend [_, _, _, _, _, _] _ _ rfl (fun F23 le23 hz10 => ?_))
 refine id (XOp.lend [_, _, _, _, _, _] _ _ rfl (fun F24 le24 hz11 => ?_))
 have hf10 : IntsF _ x19 ar := (intsH.fz (xs := ar) hz10).mono le24
 have hf11 : PairsF _ x20 rs := pairsD.fz hz11
 refine id (XOp.call (args := [.agg #[x19, x20], .agg #[u10, u11]]) call14 rfl (eqSystem_spec hf10 hf11 ((f2_2hr1.mono (FLe.trans le23 le24))) ((f2_2hr2.mono (FLe.trans le23 le24))) (hcl := (by first | assumption | rfl | omega | simp)) (hal := (by first | assumption | rfl | omega | simp)) (hbd := (by first | assumption | rfl | omega | simp))) ?_)
 rintro _ _ _ _ ⟨rfl, rfl, rfl⟩
 show XL _ _ _ _ _ _ _ (intsH 2 x19 ar :: pairsD 2 121 x20 rs :: intsH 2 x26 ((peakJ ar rs tp lf rt a u o n).2.2.1) :: stepsD 2 116 x27 ((peakJ ar rs tp lf rt a u o n).2.2.2.1) :: intsH 2 x24 ((peakJ ar rs tp lf rt a u o n).1) :: stepsD 2 116 x25 ((peakJ ar rs tp lf rt a u o n).2.1) :: cellsH b12 [x26, x27] 57 :: cellsH b11 [x24, x25] 57 :: intsH 2 x21 tp :: intsH 2 x22 lf :: intsH 2 x23 rt :: cellsH b10 [x21, x22, x23, .int .i64 (a), .int .i64 (u), .int .i64 (o)] 74 :: cellsH b9 [x19, x20] 37 :: cellsH b7 [u6, u7] 57 :: cellsH b8 [u8, u9] 57 :: cellsH b2 [tpv, lfv, rtv, .int .i64 (a), .int .i64 (u), .int .i64 (o)] 70 :: cellsH b1 [arv, rsv] 27 :: L)
 refine cX (XOp.notD (p := ar = ar ∧ rs = rs) rfl ?_)
 refine XL.nil ?_
 refine X.condD (p := ¬(ar = ar ∧ rs = rs)) rfl (fun h6 => ?_) (fun h6 => ?_)
 ·exact absurd (by first | rfl | exact ⟨rfl, rfl⟩ | exact ⟨⟨rfl, rfl⟩, rfl, rfl⟩ | simp) h6
 refine X.skip (X.seq (X.seq ?_))
 refine X.drawG [intsH 2 x19 ar, pairsD 2 121 x20 rs, intsH 2 x26 ((peakJ ar rs tp lf rt a u o n).2.2.1), stepsD 2 116 x27 ((peakJ ar rs tp lf rt a u o n).2.2.2.1), intsH 2 x24 ((peakJ ar rs tp lf rt a u o n).1), stepsD 2 116 x25 ((peakJ ar rs tp lf rt a u o n).2.1), cellsH b12 [x26, x27] 57, cellsH b11 [x24, x25] 57, intsH 2 x21 tp, intsH 2 x22 lf, intsH 2 x23 rt, cellsH b10 [x21, x22, x23, .int .i64 (a), .int .i64 (u), .int .i64 (o)] 74, cellsH b9 [x19, x20] 37, cellsH b7 [u6, u7] 57, cellsH b8 [u8, u9] 57, cellsH b2 [tpv, lfv, rtv, .int .i64 (a), .int .i64 (u), .int .i64 (o)] 70, cellsH b1 [arv, rsv] 27] L 3 [[], [], []] [[], [], [1]] [[], [], []] (phiG [fun FF us v => v = (.agg #[x21, x22, x23, .int .i64 (a), .int .i64 (u), .int .i64 (o)] : Value), fun FF us v => v = (.agg #[tpv, lfv, rtv, .int .i64 (a), .int .i64 (u), .int .i64 (o)] : Value), fun FF us v => (.agg #[((aggAt v 0)), ((aggAt v 1)), ((aggAt v 2)), .int .i64 (a), .int .i64 (u), .int .i64 (o)] : Value) = v ∧ (IntsF FF ((aggAt v 0)) tp) ∧ (IntsF FF ((aggAt v 1)) lf) ∧ (IntsF FF ((aggAt v 2)) rt)]) (ownL [fun us v => [], fun us v => [], fun us v => []]) mixed rfl rfl (by kernel_rfl) (by kernel_rfl) (MonoG.get (mC (fun le h => h) (mC (fun le h => h) (mC (fun le h => ⟨h.1, h.2.1.mono le, h.2.2.1.mono le, h.2.2.2.mono le⟩) MonoG.nil)))) ?_ ?_
 ·refine gC (fun vals Fs R leFs hpZ => ?_) ?_
  ·replace har := har.mono leFs
   replace hrs := hrs.mono leFs
   replace htp := htp.mono leFs
   replace hlf := hlf.mono leFs
   replace hrt := hrt.mono leFs
   replace f5_1hr1 := f5_1hr1.mono leFs
   replace f5_1hr2 := f5_1hr2.mono leFs
   replace f5_1hr3 := f5_1hr3.mono leFs
   replace f5_1hr4 := f5_1hr4.mono leFs
   refine XG.op (XOp.loadN [x21, x22, x23, .int .i64 (a), .int .i64 (u), .int .i64 (o)] isAgg74 sizeOf74 rfl rfl (Rd.ownN [_, _, _, _, _, _, _, _, _, _, _] rfl rfl) ?_)
   exact ⟨rfl, rfl⟩
  refine gC (fun vals Fs R leFs hpZ => ?_) ?_
  ·replace har := har.mono leFs
   replace hrs := hrs.mono leFs
   replace htp := htp.mono leFs
   replace hlf := hlf.mono leFs
   replace hrt := hrt.mono leFs
   replace f5_1hr1 := f5_1hr1.mono leFs
   replace f5_1hr2 := f5_1hr2.mono leFs
   replace f5_1hr3 := f5_1hr3.mono leFs
   replace f5_1hr4 := f5_1hr4.mono leFs
   refine XG.op (XOp.loadN [tpv, lfv, rtv, .int .i64 (a), .int .i64 (u), .int .i64 (o)] isAgg70 sizeOf70 rfl rfl (Rd.ownN [_, _, _, _, _, _, _, _, _, _, _, _, _, _, _] rfl rfl) ?_)
   exact ⟨rfl, rfl⟩
  refine gC (fun vals Fs R leFs hpZ => ?_) ?_
  ·replace har := har.mono leFs
   replace hrs := hrs.mono leFs
   replace htp := htp.mono leFs
   replace hlf := hlf.mono leFs
   replace hrt := hrt.mono leFs
   replace f5_1hr1 := f5_1hr1.mono leFs
   replace f5_1hr2 := f5_1hr2.mono leFs
   replace f5_1hr3 := f5_1hr3.mono leFs
   replace f5_1hr4 := f5_1hr4.mono leFs
   rw [eS (l := [(1, (.agg #[tpv, lfv, rtv, .int .i64 (a), .int .i64 (u), .int .i64 (o)] : Value))]) ⟨(hpZ 1 (by decide)), trivial⟩]
   refine XG.op (XOp.call (args := [.agg #[tpv, lfv, rtv, .int .i64 (a), .int .i64 (u), .int .i64 (o)]]) call34 rfl (toPeak_spec htp hlf hrt (htl := (by first | assumption | rfl | omega | simp)) (hll := (by first | assumption | rfl | omega | simp)) (hrl := (by first | assumption | rfl | omega | simp))) ?_)
   rintro _ F26 _ le26 ⟨x35, x36, x37, rfl, hr45, hr46, hr47, hr48, rfl⟩
   replace har := har.mono le26
   replace hrs := hrs.mono le26
   replace htp := htp.mono le26
   replace hlf := hlf.mono le26
   replace hrt := hrt.mono le26
   replace f5_1hr1 := f5_1hr1.mono le26
   replace f5_1hr2 := f5_1hr2.mono le26
   replace f5_1hr3 := f5_1hr3.mono le26
   replace f5_1hr4 := f5_1hr4.mono le26
   exact ⟨⟨rfl, hr45, hr46, hr47⟩, rfl⟩
  exact stepsG.nil
 intro vals F27 le27 hphi
 obtain ⟨e2, f2_3hr1, f2_3hr2, f2_3hr3⟩ := hphi 2 (by decide)
 generalize hu14 : ((aggAt (vals 2) 0)) = u12 at e2 f2_3hr1 f2_3hr2 f2_3hr3
 generalize hu15 : ((aggAt (vals 2) 1)) = u13 at e2 f2_3hr1 f2_3hr2 f2_3hr3
 generalize hu16 : ((aggAt (vals 2) 2)) = u14 at e2 f2_3hr1 f2_3hr2 f2_3hr3
 rw [eS (l := [(0, (.agg #[x21, x22, x23, .int .i64 (a), .int .i64 (u), .int .i64 (o)] : Value)), (2, (.agg #[u12, u13, u14, .int .i64 (a), .int .i64 (u), .int .i64 (o)] : Value))]) ⟨(hphi 0 (by decide)), (e2).symm, trivial⟩]
 replace har := har.mono le27
 replace hrs := hrs.mono le27
 replace htp := htp.mono le27
 replace hlf := hlf.mono le27
 replace hrt := hrt.mono le27
 replace f5_1hr1 := f5_1hr1.mono le27
 replace f5_1hr2 := f5_1hr2.mono le27
 replace f5_1hr3 := f5_1hr3.mono le27
 replace f5_1hr4 := f5_1hr4.mono le27
 show XL _ _ _ _ _ _ _ (intsH 2 x19 ar :: pairsD 2 121 x20 rs :: intsH 2 x26 ((peakJ ar rs tp lf rt a u o n).2.2.1) :: stepsD 2 116 x27 ((peakJ ar rs tp lf rt a u o n).2.2.2.1) :: intsH 2 x24 ((peakJ ar rs tp lf rt a u o n).1) :: stepsD 2 116 x25 ((peakJ ar rs tp lf rt a u o n).2.1) :: cellsH b12 [x26, x27] 57 :: cellsH b11 [x24, x25] 57 :: intsH 2 x21 tp :: intsH 2 x22 lf :: intsH 2 x23 rt :: cellsH b10 [x21, x22, x23, .int .i64 (a), .int .i64 (u), .int .i64 (o)] 74 :: cellsH b9 [x19, x20] 37 :: cellsH b7 [u6, u7] 57 :: cellsH b8 [u8, u9] 57 :: cellsH b2 [tpv, lfv, rtv, .int .i64 (a), .int .i64 (u), .int .i64 (o)] 70 :: cellsH b1 [arv, rsv] 27 :: L)
 refine cX (XOp.lend [_, _, _, _, _, _, _, _] _ _ rfl (fun F28 le28 hz12 => ?_))
 refine id (XOp.lend [_, _, _, _, _, _, _, _] _ _ rfl (fun F29 le29 hz13 => ?_))
 refine id (XOp.lend [_, _, _, _, _, _, _, _] _ _ rfl (fun F30 le30 hz14 => ?_))
 have hf12 : IntsF _ x21 tp := (intsH.fz (xs := tp) hz12).mono (FLe.trans le29 le30)
 have hf13 : IntsF _ x22 lf := (intsH.fz (xs := lf) hz13).mono le30
 have hf14 : IntsF _ x23 rt := intsH.fz (xs := rt) hz14
 refine id (XOp.call (args := [.agg #[x21, x22, x23, .int .i64 (a), .int .i64 (u), .int .i64 (o)], .agg #[u12, u13, u14, .int .i64 (a), .int .i64 (u), .int .i64 (o)]]) call37 rfl (eqPeak_spec hf12 hf13 hf14 ((f2_3hr1.mono (FLe.trans (FLe.trans le28 le29) le30))) ((f2_3hr2.mono (FLe.trans (FLe.trans le28 le29) le30))) ((f2_3hr3.mono (FLe.trans (FLe.trans le28 le29) le30))) (htl := (by first | assumption | rfl | omega | simp)) (hll := (by first | assumption | rfl | omega | simp)) (hrl := (by first | assumption | rfl | omega | simp))) ?_)
 rintro _ _ _ _ ⟨rfl, rfl, rfl⟩
 show XL _ _ _ _ _ _ _ (intsH 2 x21 tp :: intsH 2 x22 lf :: intsH 2 x23 rt :: intsH 2 x19 ar :: pairsD 2 121 x20 rs :: intsH 2 x26 ((peakJ ar rs tp lf rt a u o n).2.2.1) :: stepsD 2 116 x27 ((peakJ ar rs tp lf rt a u o n).2.2.2.1) :: intsH 2 x24 ((peakJ ar rs tp lf rt a u o n).1) :: stepsD 2 116 x25 ((peakJ ar rs tp lf rt a u o n).2.1) :: cellsH b12 [x26, x27] 57 :: cellsH b11 [x24, x25] 57 :: cellsH b10 [x21, x22, x23, .int .i64 (a), .int .i64 (u), .int .i64 (o)] 74 :: cellsH b9 [x19, x20] 37 :: cellsH b7 [u6, u7] 57 :: cellsH b8 [u8, u9] 57 :: cellsH b2 [tpv, lfv, rtv, .int .i64 (a), .int .i64 (u), .int .i64 (o)] 70 :: cellsH b1 [arv, rsv] 27 :: L)
 refine cX (XOp.notD (p := ((tp = tp ∧ lf = lf) ∧ rt = rt) ∧ (a = a ∧ u = u ∧ o = o)) rfl ?_)
 refine XL.nil ?_
 refine X.condD (p := ¬(((tp = tp ∧ lf = lf) ∧ rt = rt) ∧ (a = a ∧ u = u ∧ o = o))) rfl (fun h7 => ?_) (fun h7 => ?_)
 ·exact absurd (by first | rfl | exact ⟨rfl, rfl⟩ | exact ⟨⟨rfl, rfl⟩, rfl, rfl⟩ | simp) h7
 refine X.skip (X.seq (X.region ?_))
 refine XL.as (.int .i64 (1)) rfl ?_
 refine XL.nil (X.seq (X.region ?_))
 refine cX (XOp.loadN [x19, x20] isAgg37 sizeOf37 rfl rfl (Rd.ownN [_, _, _, _, _, _, _, _, _, _, _, _] rfl rfl) ?_)
 refine XL.mv (.int .i64 (1)) rfl ?_
 refine XL.weaken (Sub.front (A := [_, _, _, _])) ?_
 show XL _ _ _ _ _ _ _ (pairsD 2 121 x20 rs :: intsH 2 x21 tp :: intsH 2 x22 lf :: intsH 2 x23 rt :: intsH 2 x19 ar :: intsH 2 x26 ((peakJ ar rs tp lf rt a u o n).2.2.1) :: stepsD 2 116 x27 ((peakJ ar rs tp lf rt a u o n).2.2.2.1) :: intsH 2 x24 ((peakJ ar rs tp lf rt a u o n).1) :: stepsD 2 116 x25 ((peakJ ar rs tp lf rt a u o n).2.1) :: cellsH b12 [x26, x27] 57 :: cellsH b11 [x24, x25] 57 :: cellsH b10 [x21, x22, x23, .int .i64 (a), .int .i64 (u), .int .i64 (o)] 74 :: cellsH b9 [x19, x20] 37 :: cellsH b7 [u6, u7] 57 :: cellsH b8 [u8, u9] 57 :: cellsH b2 [tpv, lfv, rtv, .int .i64 (a), .int .i64 (u), .int .i64 (o)] 70 :: cellsH b1 [arv, rsv] 27 :: L)
 refine XL.weaken (Sub.front (A := [_, _, _, _])) ?_
 show XL _ _ _ _ _ _ _ (intsH 2 x19 ar :: pairsD 2 121 x20 rs :: intsH 2 x21 tp :: intsH 2 x22 lf :: intsH 2 x23 rt :: intsH 2 x26 ((peakJ ar rs tp lf rt a u o n).2.2.1) :: stepsD 2 116 x27 ((peakJ ar rs tp lf rt a u o n).2.2.2.1) :: intsH 2 x24 ((peakJ ar rs tp lf rt a u o n).1) :: stepsD 2 116 x25 ((peakJ ar rs tp lf rt a u o n).2.1) :: cellsH b12 [x26, x27] 57 :: cellsH b11 [x24, x25] 57 :: cellsH b10 [x21, x22, x23, .int .i64 (a), .int .i64 (u), .int .i64 (o)] 74 :: cellsH b9 [x19, x20] 37 :: cellsH b7 [u6, u7] 57 :: cellsH b8 [u8, u9] 57 :: cellsH b2 [tpv, lfv, rtv, .int .i64 (a), .int .i64 (u), .int .i64 (o)] 70 :: cellsH b1 [arv, rsv] 27 :: L)
 refine cX (XOp.call (args := [.agg #[x19, x20], .int .i64 (1)]) call16 rfl (markSystem_spec (by (try simp only [List.length_append]); omega) (by omega)) ?_)
 rintro _ _ _ _ ⟨m1, m2, hm1, hk1, rfl, rfl, rfl⟩
 have hml1 := congrArg List.length hm1
 rw [iota_len] at hml1
 try simp only [List.length_append] at hml1
 refine XL.as (.int .i64 (1 + (((ar) ++ (rs.flatMap flatPair)).length : Int))) rfl ?_
 refine XL.nil (X.seq (X.region ?_))
 refine cX (XOp.loadN [x21, x22, x23, .int .i64 (a), .int .i64 (u), .int .i64 (o)] isAgg74 sizeOf74 rfl rfl (Rd.ownN [_, _, _, _, _, _, _, _, _, _, _] rfl rfl) ?_)
 refine XL.mv (.int .i64 (1 + (((ar) ++ (rs.flatMap flatPair)).length : Int))) rfl ?_
 refine XL.weaken (Sub.front (A := [_, _, _, _])) ?_
 show XL _ _ _ _ _ _ _ (intsH 2 x23 rt :: intsH 2 x19 m1 :: pairsD 2 121 x20 m2 :: intsH 2 x21 tp :: intsH 2 x22 lf :: intsH 2 x26 ((peakJ ar rs tp lf rt a u o n).2.2.1) :: stepsD 2 116 x27 ((peakJ ar rs tp lf rt a u o n).2.2.2.1) :: intsH 2 x24 ((peakJ ar rs tp lf rt a u o n).1) :: stepsD 2 116 x25 ((peakJ ar rs tp lf rt a u o n).2.1) :: cellsH b12 [x26, x27] 57 :: cellsH b11 [x24, x25] 57 :: cellsH b10 [x21, x22, x23, .int .i64 (a), .int .i64 (u), .int .i64 (o)] 74 :: cellsH b9 [x19, x20] 37 :: cellsH b7 [u6, u7] 57 :: cellsH b8 [u8, u9] 57 :: cellsH b2 [tpv, lfv, rtv, .int .i64 (a), .int .i64 (u), .int .i64 (o)] 70 :: cellsH b1 [arv, rsv] 27 :: L)
 refine XL.weaken (Sub.front (A := [_, _, _, _])) ?_
 show XL _ _ _ _ _ _ _ (intsH 2 x22 lf :: intsH 2 x23 rt :: intsH 2 x19 m1 :: pairsD 2 121 x20 m2 :: intsH 2 x21 tp :: intsH 2 x26 ((peakJ ar rs tp lf rt a u o n).2.2.1) :: stepsD 2 116 x27 ((peakJ ar rs tp lf rt a u o n).2.2.2.1) :: intsH 2 x24 ((peakJ ar rs tp lf rt a u o n).1) :: stepsD 2 116 x25 ((peakJ ar rs tp lf rt a u o n).2.1) :: cellsH b12 [x26, x27] 57 :: cellsH b11 [x24, x25] 57 :: cellsH b10 [x21, x22, x23, .int .i64 (a), .int .i64 (u), .int .i64 (o)] 74 :: cellsH b9 [x19, x20] 37 :: cellsH b7 [u6, u7] 57 :: cellsH b8 [u8, u9] 57 :: cellsH b2 [tpv, lfv, rtv, .int .i64 (a), .int .i64 (u), .int .i64 (o)] 70 :: cellsH b1 [arv, rsv] 27 :: L)
 refine XL.weaken (Sub.front (A := [_, _, _, _])) ?_
 show XL _ _ _ _ _ _ _ (intsH 2 x21 tp :: intsH 2 x22 lf :: intsH 2 x23 rt :: intsH 2 x19 m1 :: pairsD 2 121 x20 m2 :: intsH 2 x26 ((peakJ ar rs tp lf rt a u o n).2.2.1) :: stepsD 2 116 x27 ((peakJ ar rs tp lf rt a u o n).2.2.2.1) :: intsH 2 x24 ((peakJ ar rs tp lf rt a u o n).1) :: stepsD 2 116 x25 ((peakJ ar rs tp lf rt a u o n).2.1) :: cellsH b12 [x26, x27] 57 :: cellsH b11 [x24, x25] 57 :: cellsH b10 [x21, x22, x23, .int .i64 (a), .int .i64 (u), .int .i64 (o)] 74 :: cellsH b9 [x19, x20] 37 :: cellsH b7 [u6, u7] 57 :: cellsH b8 [u8, u9] 57 :: cellsH b2 [tpv, lfv, rtv, .int .i64 (a), .int .i64 (u), .int .i64 (o)] 70 :: cellsH b1 [arv, rsv] 27 :: L)
 refine cX (XOp.call (args := [.agg #[x21, x22, x23, .int .i64 (a), .int .i64 (u), .int .i64 (o)], .int .i64 (1 + (((ar) ++ (rs.flatMap flatPair)).length : Int))]) call38 rfl (markPeak_spec (by (try simp only [List.length_append]); omega)) ?_)
 rintro _ _ _ _ ⟨m3, m4, m5, hm2, rfl, rfl, rfl⟩
 have hml2 := congrArg List.length hm2
 rw [iota_len] at hml2
 try simp only [List.length_append] at hml2
 refine XL.as (.int .i64 ((1 + (((ar) ++ (rs.flatMap flatPair)).length : Int)) + (((tp) ++ (lf) ++ (rt)).length : Int))) rfl ?_
 refine XL.nil (X.seq (X.seq (X.region ?_)))
 refine XL.mv (.int .i64 ((1 + (((ar) ++ (rs.flatMap flatPair)).length : Int)) + (((tp) ++ (lf) ++ (rt)).length : Int))) rfl ?_
 refine cX (XOp.lss (a := (1 + (((ar) ++ (rs.flatMap flatPair)).length : Int)) + (((tp) ++ (lf) ++ (rt)).length : Int)) (b := 0) rfl rfl ?_)
 refine XL.mv (.bool (decide (((1 + (((ar) ++ (rs.flatMap flatPair)).length : Int)) + (((tp) ++ (lf) ++ (rt)).length : Int) : Int) < 0))) rfl ?_
 by_cases h8 : ((1 + (((ar) ++ (rs.flatMap flatPair)).length : Int)) + (((tp) ++ (lf) ++ (rt)).length : Int) : Int) < 0
 ·exact absurd h8 (by omega)
 refine XL.yes (t := 87) rfl (vF h8) (XOp.loadN [x24, x25] isAgg57 sizeOf57 rfl rfl (Rd.ownN [_, _, _, _, _, _, _, _, _, _] rfl rfl) ?_)
 refine XL.yes (t := 87) rfl (vF h8) (XOp.loadN [u6, u7] isAgg57 sizeOf57 rfl rfl (Rd.ownN [_, _, _, _, _, _, _, _, _, _, _, _, _] rfl rfl) ?_)
 refine XL.yes (t := 87) rfl (vF h8) (XOp.lend [_, _, _, _, _, _, _] _ _ rfl (fun F31 le31 hz15 => ?_))
 refine id (XOp.lend [_, _, _, _, _, _, _] _ _ rfl (fun F32 le32 hz16 => ?_))
 have hf15 : IntsF _ x24 ((peakJ ar rs tp lf rt a u o n).1) := (intsH.fz (xs := (peakJ ar rs tp lf rt a u o n).1) hz15).mono le32
 have hf16 : StepsF _ x25 ((peakJ ar rs tp lf rt a u o n).2.1) := stepsD.fz hz16
 refine id (XOp.call (args := [.agg #[x24, x25], .agg #[u6, u7]]) call36 rfl (eqWalk_spec hf15 hf16 ((f5_1hr1.mono (FLe.trans le31 le32))) ((f5_1hr2.mono (FLe.trans le31 le32))) (hfl := (by first | assumption | rfl | omega | simp)) (hal := (by first | assumption | rfl | omega | simp)) (hbd := (by first | assumption | exact fun i hi => by have := hne1 i hi; omega | exact fun i hi => by have := hne2 i hi; omega))) ?_)
 rintro _ _ _ _ ⟨rfl, rfl, rfl⟩
 show XL _ _ _ _ _ _ _ (intsH 2 x24 ((peakJ ar rs tp lf rt a u o n).1) :: stepsD 2 116 x25 ((peakJ ar rs tp lf rt a u o n).2.1) :: intsH 2 x21 m3 :: intsH 2 x22 m4 :: intsH 2 x23 m5 :: intsH 2 x19 m1 :: pairsD 2 121 x20 m2 :: intsH 2 x26 ((peakJ ar rs tp lf rt a u o n).2.2.1) :: stepsD 2 116 x27 ((peakJ ar rs tp lf rt a u o n).2.2.2.1) :: cellsH b12 [x26, x27] 57 :: cellsH b11 [x24, x25] 57 :: cellsH b10 [x21, x22, x23, .int .i64 (a), .int .i64 (u), .int .i64 (o)] 74 :: cellsH b9 [x19, x20] 37 :: cellsH b7 [u6, u7] 57 :: cellsH b8 [u8, u9] 57 :: cellsH b2 [tpv, lfv, rtv, .int .i64 (a), .int .i64 (u), .int .i64 (o)] 70 :: cellsH b1 [arv, rsv] 27 :: L)
 refine XL.yes (t := 87) rfl (vF h8) (XOp.notD (p := ((peakJ ar rs tp lf rt a u o n).1) = ((peakJ ar rs tp lf rt a u o n).1) ∧ ((peakJ ar rs tp lf rt a u o n).2.1) = ((peakJ ar rs tp lf rt a u o n).2.1)) rfl ?_)
 refine cX (XOp.pickF (.bool (decide (¬(((peakJ ar rs tp lf rt a u o n).1) = ((peakJ ar rs tp lf rt a u o n).1) ∧ ((peakJ ar rs tp lf rt a u o n).2.1) = ((peakJ ar rs tp lf rt a u o n).2.1))))) (vF h8) rfl ?_)
 refine XL.mv (.bool (decide (¬(((peakJ ar rs tp lf rt a u o n).1) = ((peakJ ar rs tp lf rt a u o n).1) ∧ ((peakJ ar rs tp lf rt a u o n).2.1) = ((peakJ ar rs tp lf rt a u o n).2.1))))) rfl ?_
 refine XL.yes (t := 93) rfl (vF h3) (XOp.loadN [x26, x27] isAgg57 sizeOf57 rfl rfl (Rd.ownN [_, _, _, _, _, _, _, _, _] rfl rfl) ?_)
 refine XL.yes (t := 93) rfl (vF h3) (XOp.loadN [u8, u9] isAgg57 sizeOf57 rfl rfl (Rd.ownN [_, _, _, _, _, _, _, _, _, _, _, _, _, _] rfl rfl) ?_)
 refine XL.yes (t := 93) rfl (vF h3) (XOp.lend [_, _, _, _, _, _, _] _ _ rfl (fun F33 le33 hz17 => ?_))
 refine id (XOp.lend [_, _, _, _, _, _, _] _ _ rfl (fun F34 le34 hz18 => ?_))
 have hf17 : IntsF _ x26 ((peakJ ar rs tp lf rt a u o n).2.2.1) := (intsH.fz (xs := (peakJ ar rs tp lf rt a u o n).2.2.1) hz17).mono le34
 have hf18 : StepsF _ x27 ((peakJ ar rs tp lf rt a u o n).2.2.2.1) := stepsD.fz hz18
 refine id (XOp.call (args := [.agg #[x26, x27], .agg #[u8, u9]]) call36 rfl (eqWalk_spec hf17 hf18 ((f5_1hr3.mono (FLe.trans le33 le34))) ((f5_1hr4.mono (FLe.trans le33 le34))) (hfl := (by first | assumption | rfl | omega | simp)) (hal := (by first | assumption | rfl | omega | simp)) (hbd := (by first | assumption | exact fun i hi => by have := hne1 i hi; omega | exact fun i hi => by have := hne2 i hi; omega))) ?_)
 rintro _ _ _ _ ⟨rfl, rfl, rfl⟩
 show XL _ _ _ _ _ _ _ (intsH 2 x26 ((peakJ ar rs tp lf rt a u o n).2.2.1) :: stepsD 2 116 x27 ((peakJ ar rs tp lf rt a u o n).2.2.2.1) :: intsH 2 x24 ((peakJ ar rs tp lf rt a u o n).1) :: stepsD 2 116 x25 ((peakJ ar rs tp lf rt a u o n).2.1) :: intsH 2 x21 m3 :: intsH 2 x22 m4 :: intsH 2 x23 m5 :: intsH 2 x19 m1 :: pairsD 2 121 x20 m2 :: cellsH b12 [x26, x27] 57 :: cellsH b11 [x24, x25] 57 :: cellsH b10 [x21, x22, x23, .int .i64 (a), .int .i64 (u), .int .i64 (o)] 74 :: cellsH b9 [x19, x20] 37 :: cellsH b7 [u6, u7] 57 :: cellsH b8 [u8, u9] 57 :: cellsH b2 [tpv, lfv, rtv, .int .i64 (a), .int .i64 (u), .int .i64 (o)] 70 :: cellsH b1 [arv, rsv] 27 :: L)
 refine XL.yes (t := 93) rfl (vF h3) (XOp.notD (p := ((peakJ ar rs tp lf rt a u o n).2.2.1) = ((peakJ ar rs tp lf rt a u o n).2.2.1) ∧ ((peakJ ar rs tp lf rt a u o n).2.2.2.1) = ((peakJ ar rs tp lf rt a u o n).2.2.2.1)) rfl ?_)
 refine cX (XOp.pickF (.bool (decide (¬(((peakJ ar rs tp lf rt a u o n).2.2.1) = ((peakJ ar rs tp lf rt a u o n).2.2.1) ∧ ((peakJ ar rs tp lf rt a u o n).2.2.2.1) = ((peakJ ar rs tp lf rt a u o n).2.2.2.1))))) (vF h3) rfl ?_)
 refine XL.mv (.bool (decide (¬(((peakJ ar rs tp lf rt a u o n).2.2.1) = ((peakJ ar rs tp lf rt a u o n).2.2.1) ∧ ((peakJ ar rs tp lf rt a u o n).2.2.2.1) = ((peakJ ar rs tp lf rt a u o n).2.2.2.1))))) rfl ?_
 refine XL.yes (t := 99) rfl (vF h4) (XOp.move (.bool ((peakJ ar rs tp lf rt a u o n).2.2.2.2)) rfl ?_)
 refine XL.yes (t := 99) rfl (vF h4) (XOp.move (.bool ((peakJ ar rs tp lf rt a u o n).2.2.2.2)) rfl ?_)
 refine XL.yes (t := 99) rfl (vF h4) (XOp.neB (a := (peakJ ar rs tp lf rt a u o n).2.2.2.2) (b := (peakJ ar rs tp lf rt a u o n).2.2.2.2) runUnderlying4 rfl rfl ?_)
 refine cX (XOp.pickF (.bool (decide (((peakJ ar rs tp lf rt a u o n).2.2.2.2) ≠ ((peakJ ar rs tp lf rt a u o n).2.2.2.2)))) (vF h4) rfl ?_)
 refine XL.nil ?_
 refine X.condF (vF h5) ?_
 refine X.skip (X.seq (X.region ?_))
 refine XL.as (.int .i64 (1)) rfl ?_
 refine XL.nil (X.seq (X.region ?_))
 refine cX (XOp.loadN [x24, x25] isAgg57 sizeOf57 rfl rfl (Rd.ownN [_, _, _, _, _, _, _, _, _, _] rfl rfl) ?_)
 refine XL.mv (.int .i64 (1)) rfl ?_
 refine XL.weaken (Sub.front (A := [_, _, _])) ?_
 show XL _ _ _ _ _ _ _ (stepsD 2 116 x25 ((peakJ ar rs tp lf rt a u o n).2.1) :: intsH 2 x26 ((peakJ ar rs tp lf rt a u o n).2.2.1) :: stepsD 2 116 x27 ((peakJ ar rs tp lf rt a u o n).2.2.2.1) :: intsH 2 x24 ((peakJ ar rs tp lf rt a u o n).1) :: intsH 2 x21 m3 :: intsH 2 x22 m4 :: intsH 2 x23 m5 :: intsH 2 x19 m1 :: pairsD 2 121 x20 m2 :: cellsH b12 [x26, x27] 57 :: cellsH b11 [x24, x25] 57 :: cellsH b10 [x21, x22, x23, .int .i64 (a), .int .i64 (u), .int .i64 (o)] 74 :: cellsH b9 [x19, x20] 37 :: cellsH b7 [u6, u7] 57 :: cellsH b8 [u8, u9] 57 :: cellsH b2 [tpv, lfv, rtv, .int .i64 (a), .int .i64 (u), .int .i64 (o)] 70 :: cellsH b1 [arv, rsv] 27 :: L)
 refine XL.weaken (Sub.front (A := [_, _, _])) ?_
 show XL _ _ _ _ _ _ _ (intsH 2 x24 ((peakJ ar rs tp lf rt a u o n).1) :: stepsD 2 116 x25 ((peakJ ar rs tp lf rt a u o n).2.1) :: intsH 2 x26 ((peakJ ar rs tp lf rt a u o n).2.2.1) :: stepsD 2 116 x27 ((peakJ ar rs tp lf rt a u o n).2.2.2.1) :: intsH 2 x21 m3 :: intsH 2 x22 m4 :: intsH 2 x23 m5 :: intsH 2 x19 m1 :: pairsD 2 121 x20 m2 :: cellsH b12 [x26, x27] 57 :: cellsH b11 [x24, x25] 57 :: cellsH b10 [x21, x22, x23, .int .i64 (a), .int .i64 (u), .int .i64 (o)] 74 :: cellsH b9 [x19, x20] 37 :: cellsH b7 [u6, u7] 57 :: cellsH b8 [u8, u9] 57 :: cellsH b2 [tpv, lfv, rtv, .int .i64 (a), .int .i64 (u), .int .i64 (o)] 70 :: cellsH b1 [arv, rsv] 27 :: L)
 refine cX (XOp.call (args := [.agg #[x24, x25], .int .i64 (1)]) call39 rfl (markWalk_spec (by (try simp only [List.length_append]); omega) (by omega)) ?_)
 rintro _ _ _ _ ⟨m6, m7, hm3, hk2, rfl, rfl, rfl⟩
 have hml3 := congrArg List.length hm3
 rw [iota_len] at hml3
 try simp only [List.length_append] at hml3
 refine XL.as (.int .i64 (1 + (((((peakJ ar rs tp lf rt a u o n).1)) ++ (((peakJ ar rs tp lf rt a u o n).2.1).flatMap flatStep)).length : Int))) rfl ?_
 refine XL.nil (X.seq (X.region ?_))
 refine cX (XOp.loadN [x26, x27] isAgg57 sizeOf57 rfl rfl (Rd.ownN [_, _, _, _, _, _, _, _, _] rfl rfl) ?_)
 refine XL.mv (.int .i64 (1 + (((((peakJ ar rs tp lf rt a u o n).1)) ++ (((peakJ ar rs tp lf rt a u o n).2.1).flatMap flatStep)).length : Int))) rfl ?_
 refine XL.weaken (Sub.front (A := [_, _, _])) ?_
 show XL _ _ _ _ _ _ _ (stepsD 2 116 x27 ((peakJ ar rs tp lf rt a u o n).2.2.2.1) :: intsH 2 x24 m6 :: stepsD 2 116 x25 m7 :: intsH 2 x26 ((peakJ ar rs tp lf rt a u o n).2.2.1) :: intsH 2 x21 m3 :: intsH 2 x22 m4 :: intsH 2 x23 m5 :: intsH 2 x19 m1 :: pairsD 2 121 x20 m2 :: cellsH b12 [x26, x27] 57 :: cellsH b11 [x24, x25] 57 :: cellsH b10 [x21, x22, x23, .int .i64 (a), .int .i64 (u), .int .i64 (o)] 74 :: cellsH b9 [x19, x20] 37 :: cellsH b7 [u6, u7] 57 :: cellsH b8 [u8, u9] 57 :: cellsH b2 [tpv, lfv, rtv, .int .i64 (a), .int .i64 (u), .int .i64 (o)] 70 :: cellsH b1 [arv, rsv] 27 :: L)
 refine XL.weaken (Sub.front (A := [_, _, _])) ?_
 show XL _ _ _ _ _ _ _ (intsH 2 x26 ((peakJ ar rs tp lf rt a u o n).2.2.1) :: stepsD 2 116 x27 ((peakJ ar rs tp lf rt a u o n).2.2.2.1) :: intsH 2 x24 m6 :: stepsD 2 116 x25 m7 :: intsH 2 x21 m3 :: intsH 2 x22 m4 :: intsH 2 x23 m5 :: intsH 2 x19 m1 :: pairsD 2 121 x20 m2 :: cellsH b12 [x26, x27] 57 :: cellsH b11 [x24, x25] 57 :: cellsH b10 [x21, x22, x23, .int .i64 (a), .int .i64 (u), .int .i64 (o)] 74 :: cellsH b9 [x19, x20] 37 :: cellsH b7 [u6, u7] 57 :: cellsH b8 [u8, u9] 57 :: cellsH b2 [tpv, lfv, rtv, .int .i64 (a), .int .i64 (u), .int .i64 (o)] 70 :: cellsH b1 [arv, rsv] 27 :: L)
 refine cX (XOp.call (args := [.agg #[x26, x27], .int .i64 (1 + (((((peakJ ar rs tp lf rt a u o n).1)) ++ (((peakJ ar rs tp lf rt a u o n).2.1).flatMap flatStep)).length : Int))]) call39 rfl (markWalk_spec (by (try simp only [List.length_append]); omega) (by omega)) ?_)
 rintro _ _ _ _ ⟨m8, m9, hm4, hk3, rfl, rfl, rfl⟩
 have hml4 := congrArg List.length hm4
 rw [iota_len] at hml4
 try simp only [List.length_append] at hml4
 refine XL.as (.int .i64 ((1 + (((((peakJ ar rs tp lf rt a u o n).1)) ++ (((peakJ ar rs tp lf rt a u o n).2.1).flatMap flatStep)).length : Int)) + (((((peakJ ar rs tp lf rt a u o n).2.2.1)) ++ (((peakJ ar rs tp lf rt a u o n).2.2.2.1).flatMap flatStep)).length : Int))) rfl ?_
 refine XL.nil (X.seq (X.region ?_))
 refine XL.as (.int .i64 (1)) rfl ?_
 refine XL.nil (X.seq (X.region ?_))
 refine cX (XOp.loadN [x24, x25] isAgg57 sizeOf57 rfl rfl (Rd.ownN [_, _, _, _, _, _, _, _, _, _] rfl rfl) ?_)
 refine XL.mv (.int .i64 (1)) rfl ?_
 refine cX (XOp.lend [_, _] _ _ rfl (fun F35 le35 hz19 => ?_))
 refine id (XOp.lend [_, _] _ _ rfl (fun F36 le36 hz20 => ?_))
 have hf19 : IntsF _ x24 m6 := (intsH.fz (xs := m6) hz19).mono le36
 have hf20 : StepsF _ x25 m7 := stepsD.fz hz20
 refine id (XOp.call (args := [.agg #[x24, x25], .int .i64 (1)]) call40 rfl (heldWalk_spec (z := 1) hf19 hf20 (hzb := (by first | assumption | rfl | omega | simp)) (hxl := (by first | assumption | rfl | omega | simp))) ?_)
 rintro _ _ _ _ ⟨rfl, rfl, rfl⟩
 show XL _ _ _ _ _ _ _ (intsH 2 x24 m6 :: stepsD 2 116 x25 m7 :: intsH 2 x26 m8 :: stepsD 2 116 x27 m9 :: intsH 2 x21 m3 :: intsH 2 x22 m4 :: intsH 2 x23 m5 :: intsH 2 x19 m1 :: pairsD 2 121 x20 m2 :: cellsH b12 [x26, x27] 57 :: cellsH b11 [x24, x25] 57 :: cellsH b10 [x21, x22, x23, .int .i64 (a), .int .i64 (u), .int .i64 (o)] 74 :: cellsH b9 [x19, x20] 37 :: cellsH b7 [u6, u7] 57 :: cellsH b8 [u8, u9] 57 :: cellsH b2 [tpv, lfv, rtv, .int .i64 (a), .int .i64 (u), .int .i64 (o)] 70 :: cellsH b1 [arv, rsv] 27 :: L)
 refine XL.as (.int .i64 (heldF (m6 ++ m7.flatMap flatStep) 1)) rfl ?_
 refine XL.nil (X.seq (X.seq (X.region ?_)))
 refine XL.mv (.int .i64 (heldF (m6 ++ m7.flatMap flatStep) 1)) rfl ?_
 refine cX (XOp.lss (a := heldF (m6 ++ m7.flatMap flatStep) 1) (b := 0) rfl rfl ?_)
 refine XL.nil ?_
 refine X.condD (p := (heldF (m6 ++ m7.flatMap flatStep) 1 : Int) < 0) rfl (fun h9 => ?_) (fun h9 => ?_)
 ·rw [hm3, heldF_iota] at h9
  exact absurd h9 (by omega)
 have hh2 := (fun (l : List Int) (k k2 : Int) (n : Nat) (h : l = iota k n) (hk : k2 = k) => show heldF l k2 = k + n from (by subst hk; rw [h, heldF_iota])) _ _ (1) _ hm3 (by first | rfl | omega)
 have hh2l := hh2
 try simp only [List.length_append] at hh2l
 refine X.skip (X.seq (X.region ?_))
 refine cX (XOp.loadN [x26, x27] isAgg57 sizeOf57 rfl rfl (Rd.ownN [_, _, _, _, _, _, _, _, _] rfl rfl) ?_)
 refine XL.mv (.int .i64 (heldF (m6 ++ m7.flatMap flatStep) 1)) rfl ?_
 refine cX (XOp.lend [_, _] _ _ rfl (fun F37 le37 hz21 => ?_))
 refine id (XOp.lend [_, _] _ _ rfl (fun F38 le38 hz22 => ?_))
 have hf21 : IntsF _ x26 m8 := (intsH.fz (xs := m8) hz21).mono le38
 have hf22 : StepsF _ x27 m9 := stepsD.fz hz22
 refine id (XOp.call (args := [.agg #[x26, x27], .int .i64 (heldF (m6 ++ m7.flatMap flatStep) 1)]) call40 rfl (heldWalk_spec (z := heldF (m6 ++ m7.flatMap flatStep) 1) hf21 hf22 (hzb := (by first | assumption | rfl | omega | simp)) (hxl := (by first | assumption | rfl | omega | simp))) ?_)
 rintro _ _ _ _ ⟨rfl, rfl, rfl⟩
 show XL _ _ _ _ _ _ _ (intsH 2 x26 m8 :: stepsD 2 116 x27 m9 :: intsH 2 x24 m6 :: stepsD 2 116 x25 m7 :: intsH 2 x21 m3 :: intsH 2 x22 m4 :: intsH 2 x23 m5 :: intsH 2 x19 m1 :: pairsD 2 121 x20 m2 :: cellsH b12 [x26, x27] 57 :: cellsH b11 [x24, x25] 57 :: cellsH b10 [x21, x22, x23, .int .i64 (a), .int .i64 (u), .int .i64 (o)] 74 :: cellsH b9 [x19, x20] 37 :: cellsH b7 [u6, u7] 57 :: cellsH b8 [u8, u9] 57 :: cellsH b2 [tpv, lfv, rtv, .int .i64 (a), .int .i64 (u), .int .i64 (o)] 70 :: cellsH b1 [arv, rsv] 27 :: L)
 refine XL.as (.int .i64 (heldF (m8 ++ m9.flatMap flatStep) (heldF (m6 ++ m7.flatMap flatStep) 1))) rfl ?_
 refine XL.nil (X.seq (X.seq (X.region ?_)))
 refine XL.mv (.int .i64 (heldF (m8 ++ m9.flatMap flatStep) (heldF (m6 ++ m7.flatMap flatStep) 1))) rfl ?_
 refine cX (XOp.lss (a := heldF (m8 ++ m9.flatMap flatStep) (heldF (m6 ++ m7.flatMap flatStep) 1)) (b := 0) rfl rfl ?_)
 refine XL.nil ?_
 refine X.condD (p := (heldF (m8 ++ m9.flatMap flatStep) (heldF (m6 ++ m7.flatMap flatStep) 1) : Int) < 0) rfl (fun h10 => ?_) (fun h10 => ?_)
 ·have hh3 := (fun (l : List Int) (k k2 : Int) (n : Nat) (h : l = iota k n) (hk : k2 = k) => show heldF l k2 = k + n from (by subst hk; rw [h, heldF_iota])) _ _ (heldF (m6 ++ m7.flatMap flatStep) 1) _ hm4 (by first | rfl | omega)
  exact absurd h10 (by omega)
 have hh4 := (fun (l : List Int) (k k2 : Int) (n : Nat) (h : l = iota k n) (hk : k2 = k) => show heldF l k2 = k + n from (by subst hk; rw [h, heldF_iota])) _ _ (heldF (m6 ++ m7.flatMap flatStep) 1) _ hm4 (by first | rfl | omega)
 have hh4l := hh4
 try simp only [List.length_append] at hh4l
 refine X.skip (X.seq (X.seq (X.region ?_)))
 refine XL.mv (.int .i64 (heldF (m8 ++ m9.flatMap flatStep) (heldF (m6 ++ m7.flatMap flatStep) 1))) rfl ?_
 refine XL.mv (.int .i64 ((1 + (((((peakJ ar rs tp lf rt a u o n).1)) ++ (((peakJ ar rs tp lf rt a u o n).2.1).flatMap flatStep)).length : Int)) + (((((peakJ ar rs tp lf rt a u o n).2.2.1)) ++ (((peakJ ar rs tp lf rt a u o n).2.2.2.1).flatMap flatStep)).length : Int))) rfl ?_
 refine cX (XOp.neq (a := heldF (m8 ++ m9.flatMap flatStep) (heldF (m6 ++ m7.flatMap flatStep) 1)) (b := (1 + (((((peakJ ar rs tp lf rt a u o n).1)) ++ (((peakJ ar rs tp lf rt a u o n).2.1).flatMap flatStep)).length : Int)) + (((((peakJ ar rs tp lf rt a u o n).2.2.1)) ++ (((peakJ ar rs tp lf rt a u o n).2.2.2.1).flatMap flatStep)).length : Int)) rfl rfl ?_)
 refine XL.nil ?_
 refine X.condD (p := (heldF (m8 ++ m9.flatMap flatStep) (heldF (m6 ++ m7.flatMap flatStep) 1) : Int) ≠ (1 + (((((peakJ ar rs tp lf rt a u o n).1)) ++ (((peakJ ar rs tp lf rt a u o n).2.1).flatMap flatStep)).length : Int)) + (((((peakJ ar rs tp lf rt a u o n).2.2.1)) ++ (((peakJ ar rs tp lf rt a u o n).2.2.2.1).flatMap flatStep)).length : Int)) rfl (fun h11 => ?_) (fun h11 => ?_)
 ·exact absurd (by omega) h11
 refine X.skip (X.seq ?_)
 refine X.drawG [intsH 2 x26 m8, stepsD 2 116 x27 m9, intsH 2 x24 m6, stepsD 2 116 x25 m7, intsH 2 x21 m3, intsH 2 x22 m4, intsH 2 x23 m5, intsH 2 x19 m1, pairsD 2 121 x20 m2, cellsH b12 [x26, x27] 57, cellsH b11 [x24, x25] 57, cellsH b10 [x21, x22, x23, .int .i64 (a), .int .i64 (u), .int .i64 (o)] 74, cellsH b9 [x19, x20] 37, cellsH b7 [u6, u7] 57, cellsH b8 [u8, u9] 57, cellsH b2 [tpv, lfv, rtv, .int .i64 (a), .int .i64 (u), .int .i64 (o)] 70, cellsH b1 [arv, rsv] 27] L 14 [[], [], [], [], [], [], [5], [5], [5], [], [], [], [5, 10], [5, 11]] [[], [0], [], [2], [], [1, 3, 4], [5], [5, 6], [5, 6], [5, 6], [], [], [5, 7, 10], [5, 8, 11]] [[], [], [], [], [], [], [], [], [], [], [], [], [10], [11]] (phiG [fun FF us v => v = (.agg #[arv, rsv] : Value), fun FF us v => (.agg #[((aggAt v 0)), ((aggAt v 1))] : Value) = v ∧ (IntsF FF ((aggAt v 0)) ar) ∧ (PairsF FF ((aggAt v 1)) rs), fun FF us v => v = (.agg #[tpv, lfv, rtv, .int .i64 (a), .int .i64 (u), .int .i64 (o)] : Value), fun FF us v => (.agg #[((aggAt v 0)), ((aggAt v 1)), ((aggAt v 2)), .int .i64 (a), .int .i64 (u), .int .i64 (o)] : Value) = v ∧ (IntsF FF ((aggAt v 0)) tp) ∧ (IntsF FF ((aggAt v 1)) lf) ∧ (IntsF FF ((aggAt v 2)) rt), fun FF us v => v = (.int .i64 (n) : Value), fun FF us v => (.tuple #[.agg #[((aggAt (tupAt v 0) 0)), ((aggAt (tupAt v 0) 1))], .agg #[((aggAt (tupAt v 1) 0)), ((aggAt (tupAt v 1) 1))], .bool ((peakJ ar rs tp lf rt a u o n).2.2.2.2)] : Value) = v ∧ (IntsF FF ((aggAt (tupAt v 0) 0)) (peakJ ar rs tp lf rt a u o n).1) ∧ (StepsF FF ((aggAt (tupAt v 0) 1)) (peakJ ar rs tp lf rt a u o n).2.1) ∧ (IntsF FF ((aggAt (tupAt v 1) 0)) (peakJ ar rs tp lf rt a u o n).2.2.1) ∧ (StepsF FF ((aggAt (tupAt v 1) 1)) (peakJ ar rs tp lf rt a u o n).2.2.2.1), fun FF us v => v = (.tuple #[.agg #[((aggAt (tupAt (us.getD 0 undef) 0) 0)), ((aggAt (tupAt (us.getD 0 undef) 0) 1))], .agg #[((aggAt (tupAt (us.getD 0 undef) 1) 0)), ((aggAt (tupAt (us.getD 0 undef) 1) 1))], .bool ((peakJ ar rs tp lf rt a u o n).2.2.2.2)] : Value), fun FF us v => v = (.agg #[((aggAt (tupAt (us.getD 0 undef) 0) 0)), ((aggAt (tupAt (us.getD 0 undef) 0) 1))] : Value), fun FF us v => v = (.agg #[((aggAt (tupAt (us.getD 0 undef) 1) 0)), ((aggAt (tupAt (us.getD 0 undef) 1) 1))] : Value), fun FF us v => v = (.bool ((peakJ ar rs tp lf rt a u o n).2.2.2.2) : Value), fun FF us v => v = ptr (blk v) 0, fun FF us v => v = ptr (blk v) 0, fun FF us v => True, fun FF us v => True]) (ownL [fun us v => [], fun us v => [], fun us v => [], fun us v => [], fun us v => [], fun us v => [], fun us v => [], fun us v => [], fun us v => [], fun us v => [], fun us v => [cellsH (blk v) [(.slice none 0 0), (.slice none 0 0)] 57], fun us v => [cellsH (blk v) [(.slice none 0 0), (.slice none 0 0)] 57], fun us v => [cellsH (blk (us.getD 1 undef)) [((aggAt (tupAt (us.getD 0 undef) 0) 0)), ((aggAt (tupAt (us.getD 0 undef) 0) 1))] 57], fun us v => [cellsH (blk (us.getD 1 undef)) [((aggAt (tupAt (us.getD 0 undef) 1) 0)), ((aggAt (tupAt (us.getD 0 undef) 1) 1))] 57]]) mixed rfl rfl (by kernel_rfl) (by kernel_rfl) (MonoG.get (mC (fun le h => h) (mC (fun le h => ⟨h.1, h.2.1.mono le, h.2.2.mono le⟩) (mC (fun le h => h) (mC (fun le h => ⟨h.1, h.2.1.mono le, h.2.2.1.mono le, h.2.2.2.mono le⟩) (mC (fun le h => h) (mC (fun le h => ⟨h.1, h.2.1.mono le, h.2.2.1.mono le, h.2.2.2.1.mono le, h.2.2.2.2.mono le⟩) (mC (fun le h => h) (mC (fun le h => h) (mC (fun le h => h) (mC (fun le h => h) (mC (fun le h => h) (mC (fun le h => h) (mC (fun le h => h) (mC (fun le h => h) MonoG.nil))))))))))))))) ?_ ?_
 ·refine gC (fun vals Fs R leFs hpZ => ?_) ?_
  ·replace har := har.mono leFs
   replace hrs := hrs.mono leFs
   replace htp := htp.mono leFs
   replace hlf := hlf.mono leFs
   replace hrt := hrt.mono leFs
   replace f5_1hr1 := f5_1hr1.mono leFs
   replace f5_1hr2 := f5_1hr2.mono leFs
   replace f5_1hr3 := f5_1hr3.mono leFs
   replace f5_1hr4 := f5_1hr4.mono leFs
   refine XG.op (XOp.loadN [arv, rsv] isAgg27 sizeOf27 rfl rfl (Rd.ownN [_, _, _, _, _, _, _, _, _, _, _, _, _, _, _, _] rfl rfl) ?_)
   exact ⟨rfl, rfl⟩
  refine gC (fun vals Fs R leFs hpZ => ?_) ?_
  ·replace har := har.mono leFs
   replace hrs := hrs.mono leFs
   replace htp := htp.mono leFs
   replace hlf := hlf.mono leFs
   replace hrt := hrt.mono leFs
   replace f5_1hr1 := f5_1hr1.mono leFs
   replace f5_1hr2 := f5_1hr2.mono leFs
   replace f5_1hr3 := f5_1hr3.mono leFs
   replace f5_1hr4 := f5_1hr4.mono leFs
   rw [eS (l := [(0, (.agg #[arv, rsv] : Value))]) ⟨(hpZ 0 (by decide)), trivial⟩]
   refine XG.op (XOp.call (args := [.agg #[arv, rsv]]) call10 rfl (toSystem_spec har hrs (hla := (by first | assumption | rfl | omega | simp)) (hrl := (by first | assumption | rfl | omega | simp)) (hrb := (by first | assumption | rfl | omega | simp))) ?_)
   rintro _ F42 _ le42 ⟨x47, x48, rfl, hr61, hr62, hr63, rfl⟩
   replace har := har.mono le42
   replace htp := htp.mono le42
   replace hlf := hlf.mono le42
   replace hrt := hrt.mono le42
   replace f5_1hr1 := f5_1hr1.mono le42
   replace f5_1hr2 := f5_1hr2.mono le42
   replace f5_1hr3 := f5_1hr3.mono le42
   replace f5_1hr4 := f5_1hr4.mono le42
   exact ⟨⟨rfl, hr61, hr62⟩, rfl⟩
  refine gC (fun vals Fs R leFs hpZ => ?_) ?_
  ·replace har := har.mono leFs
   replace htp := htp.mono leFs
   replace hlf := hlf.mono leFs
   replace hrt := hrt.mono leFs
   replace f5_1hr1 := f5_1hr1.mono leFs
   replace f5_1hr2 := f5_1hr2.mono leFs
   replace f5_1hr3 := f5_1hr3.mono leFs
   replace f5_1hr4 := f5_1hr4.mono leFs
   refine XG.op (XOp.loadN [tpv, lfv, rtv, .int .i64 (a), .int .i64 (u), .int .i64 (o)] isAgg70 sizeOf70 rfl rfl (Rd.ownN [_, _, _, _, _, _, _, _, _, _, _, _, _, _, _] rfl rfl) ?_)
   exact ⟨rfl, rfl⟩
  refine gC (fun vals Fs R leFs hpZ => ?_) ?_
  ·replace har := har.mono leFs
   replace htp := htp.mono leFs
   replace hlf := hlf.mono leFs
   replace hrt := hrt.mono leFs
   replace f5_1hr1 := f5_1hr1.mono leFs
   replace f5_1hr2 := f5_1hr2.mono leFs
   replace f5_1hr3 := f5_1hr3.mono leFs
   replace f5_1hr4 := f5_1hr4.mono leFs
   rw [eS (l := [(2, (.agg #[tpv, lfv, rtv, .int .i64 (a), .int .i64 (u), .int .i64 (o)] : Value))]) ⟨(hpZ 2 (by decide)), trivial⟩]
   refine XG.op (XOp.call (args := [.agg #[tpv, lfv, rtv, .int .i64 (a), .int .i64 (u), .int .i64 (o)]]) call34 rfl (toPeak_spec htp hlf hrt (htl := (by first | assumption | rfl | omega | simp)) (hll := (by first | assumption | rfl | omega | simp)) (hrl := (by first | assumption | rfl | omega | simp))) ?_)
   rintro _ F43 _ le43 ⟨x49, x50, x51, rfl, hr64, hr65, hr66, hr67, rfl⟩
   replace har := har.mono le43
   replace f5_1hr1 := f5_1hr1.mono le43
   replace f5_1hr2 := f5_1hr2.mono le43
   replace f5_1hr3 := f5_1hr3.mono le43
   replace f5_1hr4 := f5_1hr4.mono le43
   exact ⟨⟨rfl, hr64, hr65, hr66⟩, rfl⟩
  refine gC (fun vals Fs R leFs hpZ => ?_) ?_
  ·refine XG.op (XOp.move (.int .i64 (n)) rfl ?_)
   exact ⟨rfl, rfl⟩
  refine gC (fun vals Fs R leFs hpZ => ?_) ?_
  ·obtain ⟨e1, f1_4hr1, f1_4hr2⟩ := hpZ 1 (by decide)
   obtain ⟨e3, f3_4hr1, f3_4hr2, f3_4hr3⟩ := hpZ 3 (by decide)
   replace har := har.mono leFs
   replace f5_1hr1 := f5_1hr1.mono leFs
   replace f5_1hr2 := f5_1hr2.mono leFs
   replace f5_1hr3 := f5_1hr3.mono leFs
   replace f5_1hr4 := f5_1hr4.mono leFs
   rw [eS (l := [(1, (.agg #[((aggAt (vals 1) 0)), ((aggAt (vals 1) 1))] : Value)), (3, (.agg #[((aggAt (vals 3) 0)), ((aggAt (vals 3) 1)), ((aggAt (vals 3) 2)), .int .i64 (a), .int .i64 (u), .int .i64 (o)] : Value)), (4, (.int .i64 (n) : Value))]) ⟨(e1).symm, (e3).symm, (hpZ 4 (by decide)), trivial⟩]
   refine XG.op (XOp.call (args := [.agg #[((aggAt (vals 1) 0)), ((aggAt (vals 1) 1))], .agg #[((aggAt (vals 3) 0)), ((aggAt (vals 3) 1)), ((aggAt (vals 3) 2)), .int .i64 (a), .int .i64 (u), .int .i64 (o)], .int .i64 (n)]) call35 rfl (JoinedPeak_spec (n := n) f1_4hr1 f1_4hr2 f3_4hr1 f3_4hr2 f3_4hr3 (hll0 := (by first | assumption | rfl | omega | simp)) (hlr0 := (by first | assumption | rfl | omega | simp))) ?_)
   rintro _ F44 _ le44 ⟨x52, x53, x54, x55, rfl, hr68, hr69, hr70, hr71, hr72, rfl⟩
   replace har := har.mono le44
   replace f5_1hr1 := f5_1hr1.mono le44
   replace f5_1hr2 := f5_1hr2.mono le44
   replace f5_1hr3 := f5_1hr3.mono le44
   replace f5_1hr4 := f5_1hr4.mono le44
   replace f1_4hr1 := f1_4hr1.mono le44
   replace f1_4hr2 := f1_4hr2.mono le44
   replace f3_4hr1 := f3_4hr1.mono le44
   replace f3_4hr2 := f3_4hr2.mono le44
   replace f3_4hr3 := f3_4hr3.mono le44
   exact ⟨⟨rfl, hr68, hr69, hr70, hr71⟩, rfl⟩
  refine gC (fun vals Fs R leFs hpZ => ?_) ?_
  ·obtain ⟨e5, f5_4hr1, f5_4hr2, f5_4hr3, f5_4hr4⟩ := hpZ 5 (by decide)
   rw [eS (l := [(5, (.tuple #[.agg #[((aggAt (tupAt (vals 5) 0) 0)), ((aggAt (tupAt (vals 5) 0) 1))], .agg #[((aggAt (tupAt (vals 5) 1) 0)), ((aggAt (tupAt (vals 5) 1) 1))], .bool ((peakJ ar rs tp lf rt a u o n).2.2.2.2)] : Value))]) ⟨(e5).symm, trivial⟩]
   refine XG.op (XOp.move (.tuple #[.agg #[((aggAt (tupAt (vals 5) 0) 0)), ((aggAt (tupAt (vals 5) 0) 1))], .agg #[((aggAt (tupAt (vals 5) 1) 0)), ((aggAt (tupAt (vals 5) 1) 1))], .bool ((peakJ ar rs tp lf rt a u o n).2.2.2.2)]) rfl ?_)
   exact ⟨rfl, rfl⟩
  refine gC (fun vals Fs R leFs hpZ => ?_) ?_
  ·obtain ⟨e5, f5_4hr1, f5_4hr2, f5_4hr3, f5_4hr4⟩ := hpZ 5 (by decide)
   have e6 : vals 6 = (.tuple #[.agg #[((aggAt (tupAt (vals 5) 0) 0)), ((aggAt (tupAt (vals 5) 0) 1))], .agg #[((aggAt (tupAt (vals 5) 1) 0)), ((aggAt (tupAt (vals 5) 1) 1))], .bool ((peakJ ar rs tp lf rt a u o n).2.2.2.2)] : Value) := hpZ 6 (by decide)
   rw [eS (l := [(5, (.tuple #[.agg #[((aggAt (tupAt (vals 5) 0) 0)), ((aggAt (tupAt (vals 5) 0) 1))], .agg #[((aggAt (tupAt (vals 5) 1) 0)), ((aggAt (tupAt (vals 5) 1) 1))], .bool ((peakJ ar rs tp lf rt a u o n).2.2.2.2)] : Value)), (6, (.tuple #[.agg #[((aggAt (tupAt (vals 5) 0) 0)), ((aggAt (tupAt (vals 5) 0) 1))], .agg #[((aggAt (tupAt (vals 5) 1) 0)), ((aggAt (tupAt (vals 5) 1) 1))], .bool ((peakJ ar rs tp lf rt a u o n).2.2.2.2)] : Value))]) ⟨(e5).symm, e6, trivial⟩]
   refine XG.op (XOp.extract (.agg #[((aggAt (tupAt (vals 5) 0) 0)), ((aggAt (tupAt (vals 5) 0) 1))]) rfl rfl ?_)
   exact ⟨rfl, rfl⟩
  refine gC (fun vals Fs R leFs hpZ => ?_) ?_
  ·obtain ⟨e5, f5_4hr1, f5_4hr2, f5_4hr3, f5_4hr4⟩ := hpZ 5 (by decide)
   have e6 : vals 6 = (.tuple #[.agg #[((aggAt (tupAt (vals 5) 0) 0)), ((aggAt (tupAt (vals 5) 0) 1))], .agg #[((aggAt (tupAt (vals 5) 1) 0)), ((aggAt (tupAt (vals 5) 1) 1))], .bool ((peakJ ar rs tp lf rt a u o n).2.2.2.2)] : Value) := hpZ 6 (by decide)
   rw [eS (l := [(5, (.tuple #[.agg #[((aggAt (tupAt (vals 5) 0) 0)), ((aggAt (tupAt (vals 5) 0) 1))], .agg #[((aggAt (tupAt (vals 5) 1) 0)), ((aggAt (tupAt (vals 5) 1) 1))], .bool ((peakJ ar rs tp lf rt a u o n).2.2.2.2)] : Value)), (6, (.tuple #[.agg #[((aggAt (tupAt (vals 5) 0) 0)), ((aggAt (tupAt (vals 5) 0) 1))], .agg #[((aggAt (tupAt (vals 5) 1) 0)), ((aggAt (tupAt (vals 5) 1) 1))], .bool ((peakJ ar rs tp lf rt a u o n).2.2.2.2)] : Value))]) ⟨(e5).symm, e6, trivial⟩]
   refine XG.op (XOp.extract (.agg #[((aggAt (tupAt (vals 5) 1) 0)), ((aggAt (tupAt (vals 5) 1) 1))]) rfl rfl ?_)
   exact ⟨rfl, rfl⟩
  refine gC (fun vals Fs R leFs hpZ => ?_) ?_
  ·obtain ⟨e5, f5_4hr1, f5_4hr2, f5_4hr3, f5_4hr4⟩ := hpZ 5 (by decide)
   have e6 : vals 6 = (.tuple #[.agg #[((aggAt (tupAt (vals 5) 0) 0)), ((aggAt (tupAt (vals 5) 0) 1))], .agg #[((aggAt (tupAt (vals 5) 1) 0)), ((aggAt (tupAt (vals 5) 1) 1))], .bool ((peakJ ar rs tp lf rt a u o n).2.2.2.2)] : Value) := hpZ 6 (by decide)
   rw [eS (l := [(5, (.tuple #[.agg #[((aggAt (tupAt (vals 5) 0) 0)), ((aggAt (tupAt (vals 5) 0) 1))], .agg #[((aggAt (tupAt (vals 5) 1) 0)), ((aggAt (tupAt (vals 5) 1) 1))], .bool ((peakJ ar rs tp lf rt a u o n).2.2.2.2)] : Value)), (6, (.tuple #[.agg #[((aggAt (tupAt (vals 5) 0) 0)), ((aggAt (tupAt (vals 5) 0) 1))], .agg #[((aggAt (tupAt (vals 5) 1) 0)), ((aggAt (tupAt (vals 5) 1) 1))], .bool ((peakJ ar rs tp lf rt a u o n).2.2.2.2)] : Value))]) ⟨(e5).symm, e6, trivial⟩]
   refine XG.op (XOp.extract (.bool ((peakJ ar rs tp lf rt a u o n).2.2.2.2)) rfl rfl ?_)
   exact ⟨rfl, rfl⟩
  refine gC (fun vals Fs R leFs hpZ => ?_) ?_
  ·replace har := har.mono leFs
   replace f5_1hr1 := f5_1hr1.mono leFs
   replace f5_1hr2 := f5_1hr2.mono leFs
   replace f5_1hr3 := f5_1hr3.mono leFs
   replace f5_1hr4 := f5_1hr4.mono leFs
   refine XG.op (XOp.alloc [(.slice none 0 0), (.slice none 0 0)] zeroValue57 rfl ?_)
   intro b15
   exact ⟨rfl, rfl⟩
  refine gC (fun vals Fs R leFs hpZ => ?_) ?_
  ·replace har := har.mono leFs
   replace f5_1hr1 := f5_1hr1.mono leFs
   replace f5_1hr2 := f5_1hr2.mono leFs
   replace f5_1hr3 := f5_1hr3.mono leFs
   replace f5_1hr4 := f5_1hr4.mono leFs
   refine XG.op (XOp.alloc [(.slice none 0 0), (.slice none 0 0)] zeroValue57 rfl ?_)
   intro b16
   exact ⟨rfl, rfl⟩
  refine gC (fun vals Fs R leFs hpZ => ?_) ?_
  ·obtain ⟨e5, f5_4hr1, f5_4hr2, f5_4hr3, f5_4hr4⟩ := hpZ 5 (by decide)
   have e7 : vals 7 = (.agg #[((aggAt (tupAt (vals 5) 0) 0)), ((aggAt (tupAt (vals 5) 0) 1))] : Value) := hpZ 7 (by decide)
   have e10 : vals 10 = ptr (blk (vals 10)) 0 := hpZ 10 (by decide)
   replace f5_1hr1 := f5_1hr1.mono leFs
   replace f5_1hr2 := f5_1hr2.mono leFs
   replace f5_1hr3 := f5_1hr3.mono leFs
   replace f5_1hr4 := f5_1hr4.mono leFs
   rw [eS (l := [(5, (.tuple #[.agg #[((aggAt (tupAt (vals 5) 0) 0)), ((aggAt (tupAt (vals 5) 0) 1))], .agg #[((aggAt (tupAt (vals 5) 1) 0)), ((aggAt (tupAt (vals 5) 1) 1))], .bool ((peakJ ar rs tp lf rt a u o n).2.2.2.2)] : Value)), (7, (.agg #[((aggAt (tupAt (vals 5) 0) 0)), ((aggAt (tupAt (vals 5) 0) 1))] : Value)), (10, ptr (blk (vals 10)) 0)]) ⟨(e5).symm, e7, e10, trivial⟩]
   show XG _ _ _ _ _ (cellsH (blk (vals 10)) [(.slice none 0 0), (.slice none 0 0)] 57 :: ([intsH 2 x26 m8, stepsD 2 116 x27 m9, intsH 2 x24 m6, stepsD 2 116 x25 m7, intsH 2 x21 m3, intsH 2 x22 m4, intsH 2 x23 m5, intsH 2 x19 m1, pairsD 2 121 x20 m2, cellsH b12 [x26, x27] 57, cellsH b11 [x24, x25] 57, cellsH b10 [x21, x22, x23, .int .i64 (a), .int .i64 (u), .int .i64 (o)] 74, cellsH b9 [x19, x20] 37, cellsH b7 [u6, u7] 57, cellsH b8 [u8, u9] 57, cellsH b2 [tpv, lfv, rtv, .int .i64 (a), .int .i64 (u), .int .i64 (o)] 70, cellsH b1 [arv, rsv] 27] ++ R)) _
   refine XG.op (XOp.storeN (vs := [((aggAt (tupAt (vals 5) 0) 0)), ((aggAt (tupAt (vals 5) 0) 1))]) [] _ [((aggAt (tupAt (vals 5) 0) 0)), ((aggAt (tupAt (vals 5) 0) 1))] sizeOf57 rfl rfl rfl (ones_cons (one_sl (IntsF.isSl f5_4hr1)) (ones_cons (one_sl (StepsF.isSl f5_4hr2)) ones_nil)) rfl rfl rfl ?_)
   exact ⟨trivial, rfl⟩
  refine gC (fun vals Fs R leFs hpZ => ?_) ?_
  ·obtain ⟨e5, f5_4hr1, f5_4hr2, f5_4hr3, f5_4hr4⟩ := hpZ 5 (by decide)
   have e8 : vals 8 = (.agg #[((aggAt (tupAt (vals 5) 1) 0)), ((aggAt (tupAt (vals 5) 1) 1))] : Value) := hpZ 8 (by decide)
   have e11 : vals 11 = ptr (blk (vals 11)) 0 := hpZ 11 (by decide)
   replace f5_1hr1 := f5_1hr1.mono leFs
   replace f5_1hr2 := f5_1hr2.mono leFs
   replace f5_1hr3 := f5_1hr3.mono leFs
   replace f5_1hr4 := f5_1hr4.mono leFs
   rw [eS (l := [(5, (.tuple #[.agg #[((aggAt (tupAt (vals 5) 0) 0)), ((aggAt (tupAt (vals 5) 0) 1))], .agg #[((aggAt (tupAt (vals 5) 1) 0)), ((aggAt (tupAt (vals 5) 1) 1))], .bool ((peakJ ar rs tp lf rt a u o n).2.2.2.2)] : Value)), (8, (.agg #[((aggAt (tupAt (vals 5) 1) 0)), ((aggAt (tupAt (vals 5) 1) 1))] : Value)), (11, ptr (blk (vals 11)) 0)]) ⟨(e5).symm, e8, e11, trivial⟩]
   show XG _ _ _ _ _ (cellsH (blk (vals 11)) [(.slice none 0 0), (.slice none 0 0)] 57 :: ([intsH 2 x26 m8, stepsD 2 116 x27 m9, intsH 2 x24 m6, stepsD 2 116 x25 m7, intsH 2 x21 m3, intsH 2 x22 m4, intsH 2 x23 m5, intsH 2 x19 m1, pairsD 2 121 x20 m2, cellsH b12 [x26, x27] 57, cellsH b11 [x24, x25] 57, cellsH b10 [x21, x22, x23, .int .i64 (a), .int .i64 (u), .int .i64 (o)] 74, cellsH b9 [x19, x20] 37, cellsH b7 [u6, u7] 57, cellsH b8 [u8, u9] 57, cellsH b2 [tpv, lfv, rtv, .int .i64 (a), .int .i64 (u), .int .i64 (o)] 70, cellsH b1 [arv, rsv] 27] ++ R)) _
   refine XG.op (XOp.storeN (vs := [((aggAt (tupAt (vals 5) 1) 0)), ((aggAt (tupAt (vals 5) 1) 1))]) [] _ [((aggAt (tupAt (vals 5) 1) 0)), ((aggAt (tupAt (vals 5) 1) 1))] sizeOf57 rfl rfl rfl (ones_cons (one_sl (IntsF.isSl f5_4hr3)) (ones_cons (one_sl (StepsF.isSl f5_4hr4)) ones_nil)) rfl rfl rfl ?_)
   exact ⟨trivial, rfl⟩
  exact stepsG.nil
 intro vals F45 le45 hphi
 obtain ⟨e1, f1_4hr1, f1_4hr2⟩ := hphi 1 (by decide)
 obtain ⟨e3, f3_4hr1, f3_4hr2, f3_4hr3⟩ := hphi 3 (by decide)
 obtain ⟨e5, f5_4hr1, f5_4hr2, f5_4hr3, f5_4hr4⟩ := hphi 5 (by decide)
 have e6 : vals 6 = (.tuple #[.agg #[((aggAt (tupAt (vals 5) 0) 0)), ((aggAt (tupAt (vals 5) 0) 1))], .agg #[((aggAt (tupAt (vals 5) 1) 0)), ((aggAt (tupAt (vals 5) 1) 1))], .bool ((peakJ ar rs tp lf rt a u o n).2.2.2.2)] : Value) := hphi 6 (by decide)
 have e7 : vals 7 = (.agg #[((aggAt (tupAt (vals 5) 0) 0)), ((aggAt (tupAt (vals 5) 0) 1))] : Value) := hphi 7 (by decide)
 have e8 : vals 8 = (.agg #[((aggAt (tupAt (vals 5) 1) 0)), ((aggAt (tupAt (vals 5) 1) 1))] : Value) := hphi 8 (by decide)
 have e10 : vals 10 = ptr (blk (vals 10)) 0 := hphi 10 (by decide)
 have e11 : vals 11 = ptr (blk (vals 11)) 0 := hphi 11 (by decide)
 generalize hu17 : ((aggAt (vals 1) 0)) = u15 at e1 f1_4hr1 f1_4hr2 e3 f3_4hr1 f3_4hr2 f3_4hr3 e5 f5_4hr1 f5_4hr2 f5_4hr3 f5_4hr4 e6 e7 e8 e10 e11
 generalize hu18 : ((aggAt (vals 1) 1)) = u16 at e1 f1_4hr1 f1_4hr2 e3 f3_4hr1 f3_4hr2 f3_4hr3 e5 f5_4hr1 f5_4hr2 f5_4hr3 f5_4hr4 e6 e7 e8 e10 e11
 generalize hu19 : ((aggAt (vals 3) 0)) = u17 at e1 f1_4hr1 f1_4hr2 e3 f3_4hr1 f3_4hr2 f3_4hr3 e5 f5_4hr1 f5_4hr2 f5_4hr3 f5_4hr4 e6 e7 e8 e10 e11
 generalize hu20 : ((aggAt (vals 3) 1)) = u18 at e1 f1_4hr1 f1_4hr2 e3 f3_4hr1 f3_4hr2 f3_4hr3 e5 f5_4hr1 f5_4hr2 f5_4hr3 f5_4hr4 e6 e7 e8 e10 e11
 generalize hu21 : ((aggAt (vals 3) 2)) = u19 at e1 f1_4hr1 f1_4hr2 e3 f3_4hr1 f3_4hr2 f3_4hr3 e5 f5_4hr1 f5_4hr2 f5_4hr3 f5_4hr4 e6 e7 e8 e10 e11
 generalize hu22 : ((aggAt (tupAt (vals 5) 0) 0)) = u20 at e1 f1_4hr1 f1_4hr2 e3 f3_4hr1 f3_4hr2 f3_4hr3 e5 f5_4hr1 f5_4hr2 f5_4hr3 f5_4hr4 e6 e7 e8 e10 e11
 generalize hu23 : ((aggAt (tupAt (vals 5) 0) 1)) = u21 at e1 f1_4hr1 f1_4hr2 e3 f3_4hr1 f3_4hr2 f3_4hr3 e5 f5_4hr1 f5_4hr2 f5_4hr3 f5_4hr4 e6 e7 e8 e10 e11
 generalize hu24 : ((aggAt (tupAt (vals 5) 1) 0)) = u22 at e1 f1_4hr1 f1_4hr2 e3 f3_4hr1 f3_4hr2 f3_4hr3 e5 f5_4hr1 f5_4hr2 f5_4hr3 f5_4hr4 e6 e7 e8 e10 e11
 generalize hu25 : ((aggAt (tupAt (vals 5) 1) 1)) = u23 at e1 f1_4hr1 f1_4hr2 e3 f3_4hr1 f3_4hr2 f3_4hr3 e5 f5_4hr1 f5_4hr2 f5_4hr3 f5_4hr4 e6 e7 e8 e10 e11
 generalize hu26 : blk (vals 10) = b17 at e1 f1_4hr1 f1_4hr2 e3 f3_4hr1 f3_4hr2 f3_4hr3 e5 f5_4hr1 f5_4hr2 f5_4hr3 f5_4hr4 e6 e7 e8 e10 e11
 generalize hu27 : blk (vals 11) = b18 at e1 f1_4hr1 f1_4hr2 e3 f3_4hr1 f3_4hr2 f3_4hr3 e5 f5_4hr1 f5_4hr2 f5_4hr3 f5_4hr4 e6 e7 e8 e10 e11
 rw [eS (l := [(5, (.tuple #[.agg #[u20, u21], .agg #[u22, u23], .bool ((peakJ ar rs tp lf rt a u o n).2.2.2.2)] : Value)), (9, (.bool ((peakJ ar rs tp lf rt a u o n).2.2.2.2) : Value)), (10, ptr b17 0), (11, ptr b18 0)]) ⟨(e5).symm, (hphi 9 (by decide)), e10, e11, trivial⟩]
 replace f5_1hr1 := f5_1hr1.mono le45
 replace f5_1hr2 := f5_1hr2.mono le45
 replace f5_1hr3 := f5_1hr3.mono le45
 replace f5_1hr4 := f5_1hr4.mono le45
 show XL _ _ _ _ _ _ _ (cellsH b17 [u20, u21] 57 :: cellsH b18 [u22, u23] 57 :: intsH 2 x26 m8 :: stepsD 2 116 x27 m9 :: intsH 2 x24 m6 :: stepsD 2 116 x25 m7 :: intsH 2 x21 m3 :: intsH 2 x22 m4 :: intsH 2 x23 m5 :: intsH 2 x19 m1 :: pairsD 2 121 x20 m2 :: cellsH b12 [x26, x27] 57 :: cellsH b11 [x24, x25] 57 :: cellsH b10 [x21, x22, x23, .int .i64 (a), .int .i64 (u), .int .i64 (o)] 74 :: cellsH b9 [x19, x20] 37 :: cellsH b7 [u6, u7] 57 :: cellsH b8 [u8, u9] 57 :: cellsH b2 [tpv, lfv, rtv, .int .i64 (a), .int .i64 (u), .int .i64 (o)] 70 :: cellsH b1 [arv, rsv] 27 :: L)
 refine XL.as (.bool ((peakJ ar rs tp lf rt a u o n).2.2.2.2)) rfl ?_
 refine XL.nil (X.seq (X.seq (X.region ?_)))
 refine cX (XOp.loadN [u20, u21] isAgg57 sizeOf57 rfl rfl (Rd.ownN [] rfl rfl) ?_)
 refine cX (XOp.loadN [u6, u7] isAgg57 sizeOf57 rfl rfl (Rd.ownN [_, _, _, _, _, _, _, _, _, _, _, _, _, _, _] rfl rfl) ?_)
 refine cX (XOp.call (args := [.agg #[u20, u21], .agg #[u6, u7]]) call36 rfl (eqWalk_spec f5_4hr1 f5_4hr2 f5_1hr1 f5_1hr2 (hfl := (by first | assumption | rfl | omega | simp)) (hal := (by first | assumption | rfl | omega | simp)) (hbd := (by first | assumption | exact fun i hi => by have := hne1 i hi; omega | exact fun i hi => by have := hne2 i hi; omega))) ?_)
 rintro _ _ _ _ ⟨rfl, rfl, rfl⟩
 refine cX (XOp.notD (p := ((peakJ ar rs tp lf rt a u o n).1) = ((peakJ ar rs tp lf rt a u o n).1) ∧ ((peakJ ar rs tp lf rt a u o n).2.1) = ((peakJ ar rs tp lf rt a u o n).2.1)) rfl ?_)
 refine XL.mv (.bool (decide (¬(((peakJ ar rs tp lf rt a u o n).1) = ((peakJ ar rs tp lf rt a u o n).1) ∧ ((peakJ ar rs tp lf rt a u o n).2.1) = ((peakJ ar rs tp lf rt a u o n).2.1))))) rfl ?_
 refine XL.yes (t := 137) rfl (vF h3) (XOp.loadN [u22, u23] isAgg57 sizeOf57 rfl rfl (Rd.ownN [_] rfl rfl) ?_)
 refine XL.yes (t := 137) rfl (vF h3) (XOp.loadN [u8, u9] isAgg57 sizeOf57 rfl rfl (Rd.ownN [_, _, _, _, _, _, _, _, _, _, _, _, _, _, _, _] rfl rfl) ?_)
 refine XL.yes (t := 137) rfl (vF h3) (XOp.call (args := [.agg #[u22, u23], .agg #[u8, u9]]) call36 rfl (eqWalk_spec f5_4hr3 f5_4hr4 f5_1hr3 f5_1hr4 (hfl := (by first | assumption | rfl | omega | simp)) (hal := (by first | assumption | rfl | omega | simp)) (hbd := (by first | assumption | exact fun i hi => by have := hne1 i hi; omega | exact fun i hi => by have := hne2 i hi; omega))) ?_)
 rintro _ _ _ _ ⟨rfl, rfl, rfl⟩
 refine XL.yes (t := 137) rfl (vF h3) (XOp.notD (p := ((peakJ ar rs tp lf rt a u o n).2.2.1) = ((peakJ ar rs tp lf rt a u o n).2.2.1) ∧ ((peakJ ar rs tp lf rt a u o n).2.2.2.1) = ((peakJ ar rs tp lf rt a u o n).2.2.2.1)) rfl ?_)
 refine cX (XOp.pickF (.bool (decide (¬(((peakJ ar rs tp lf rt a u o n).2.2.1) = ((peakJ ar rs tp lf rt a u o n).2.2.1) ∧ ((peakJ ar rs tp lf rt a u o n).2.2.2.1) = ((peakJ ar rs tp lf rt a u o n).2.2.2.1))))) (vF h3) rfl ?_)
 refine XL.mv (.bool (decide (¬(((peakJ ar rs tp lf rt a u o n).2.2.1) = ((peakJ ar rs tp lf rt a u o n).2.2.1) ∧ ((peakJ ar rs tp lf rt a u o n).2.2.2.1) = ((peakJ ar rs tp lf rt a u o n).2.2.2.1))))) rfl ?_
 refine XL.yes (t := 143) rfl (vF h4) (XOp.move (.bool ((peakJ ar rs tp lf rt a u o n).2.2.2.2)) rfl ?_)
 refine XL.yes (t := 143) rfl (vF h4) (XOp.move (.bool ((peakJ ar rs tp lf rt a u o n).2.2.2.2)) rfl ?_)
 refine XL.yes (t := 143) rfl (vF h4) (XOp.neB (a := (peakJ ar rs tp lf rt a u o n).2.2.2.2) (b := (peakJ ar rs tp lf rt a u o n).2.2.2.2) runUnderlying4 rfl rfl ?_)
 refine cX (XOp.pickF (.bool (decide (((peakJ ar rs tp lf rt a u o n).2.2.2.2) ≠ ((peakJ ar rs tp lf rt a u o n).2.2.2.2)))) (vF h4) rfl ?_)
 refine XL.nil ?_
 refine X.condF (vF h5) ?_
 refine X.skip (X.seq (X.region ?_))
 refine XL.as (.int .i64 (1)) rfl ?_
 refine XL.nil (X.seq (X.region ?_))
 refine cX (XOp.loadN [x24, x25] isAgg57 sizeOf57 rfl rfl (Rd.ownN [_, _, _, _, _, _, _, _, _, _, _, _] rfl rfl) ?_)
 refine XL.mv (.int .i64 (1)) rfl ?_
 refine cX (XOp.lend [_, _, _, _] _ _ rfl (fun F46 le46 hz23 => ?_))
 refine id (XOp.lend [_, _, _, _] _ _ rfl (fun F47 le47 hz24 => ?_))
 have hf23 : IntsF _ x24 m6 := (intsH.fz (xs := m6) hz23).mono le47
 have hf24 : StepsF _ x25 m7 := stepsD.fz hz24
 refine id (XOp.call (args := [.agg #[x24, x25], .int .i64 (1)]) call40 rfl (heldWalk_spec (z := 1) hf23 hf24 (hzb := (by first | assumption | rfl | omega | simp)) (hxl := (by first | assumption | rfl | omega | simp))) ?_)
 rintro _ _ _ _ ⟨rfl, rfl, rfl⟩
 show XL _ _ _ _ _ _ _ (intsH 2 x24 m6 :: stepsD 2 116 x25 m7 :: cellsH b17 [u20, u21] 57 :: cellsH b18 [u22, u23] 57 :: intsH 2 x26 m8 :: stepsD 2 116 x27 m9 :: intsH 2 x21 m3 :: intsH 2 x22 m4 :: intsH 2 x23 m5 :: intsH 2 x19 m1 :: pairsD 2 121 x20 m2 :: cellsH b12 [x26, x27] 57 :: cellsH b11 [x24, x25] 57 :: cellsH b10 [x21, x22, x23, .int .i64 (a), .int .i64 (u), .int .i64 (o)] 74 :: cellsH b9 [x19, x20] 37 :: cellsH b7 [u6, u7] 57 :: cellsH b8 [u8, u9] 57 :: cellsH b2 [tpv, lfv, rtv, .int .i64 (a), .int .i64 (u), .int .i64 (o)] 70 :: cellsH b1 [arv, rsv] 27 :: L)
 refine XL.as (.int .i64 (heldF (m6 ++ m7.flatMap flatStep) 1)) rfl ?_
 refine XL.nil (X.seq (X.seq (X.region ?_)))
 refine XL.mv (.int .i64 (heldF (m6 ++ m7.flatMap flatStep) 1)) rfl ?_
 refine cX (XOp.lss (a := heldF (m6 ++ m7.flatMap flatStep) 1) (b := 0) rfl rfl ?_)
 refine XL.nil ?_
 refine X.condF (vF h9) ?_
 refine X.skip (X.seq (X.region ?_))
 refine cX (XOp.loadN [x26, x27] isAgg57 sizeOf57 rfl rfl (Rd.ownN [_, _, _, _, _, _, _, _, _, _, _] rfl rfl) ?_)
 refine XL.mv (.int .i64 (heldF (m6 ++ m7.flatMap flatStep) 1)) rfl ?_
 refine cX (XOp.lend [_, _, _, _] _ _ rfl (fun F48 le48 hz25 => ?_))
 refine id (XOp.lend [_, _, _, _] _ _ rfl (fun F49 le49 hz26 => ?_))
 have hf25 : IntsF _ x26 m8 := (intsH.fz (xs := m8) hz25).mono le49
 have hf26 : StepsF _ x27 m9 := stepsD.fz hz26
 refine id (XOp.call (args := [.agg #[x26, x27], .int .i64 (heldF (m6 ++ m7.flatMap flatStep) 1)]) call40 rfl (heldWalk_spec (z := heldF (m6 ++ m7.flatMap flatStep) 1) hf25 hf26 (hzb := (by first | assumption | rfl | omega | simp)) (hxl := (by first | assumption | rfl | omega | simp))) ?_)
 rintro _ _ _ _ ⟨rfl, rfl, rfl⟩
 show XL _ _ _ _ _ _ _ (intsH 2 x26 m8 :: stepsD 2 116 x27 m9 :: intsH 2 x24 m6 :: stepsD 2 116 x25 m7 :: cellsH b17 [u20, u21] 57 :: cellsH b18 [u22, u23] 57 :: intsH 2 x21 m3 :: intsH 2 x22 m4 :: intsH 2 x23 m5 :: intsH 2 x19 m1 :: pairsD 2 121 x20 m2 :: cellsH b12 [x26, x27] 57 :: cellsH b11 [x24, x25] 57 :: cellsH b10 [x21, x22, x23, .int .i64 (a), .int .i64 (u), .int .i64 (o)] 74 :: cellsH b9 [x19, x20] 37 :: cellsH b7 [u6, u7] 57 :: cellsH b8 [u8, u9] 57 :: cellsH b2 [tpv, lfv, rtv, .int .i64 (a), .int .i64 (u), .int .i64 (o)] 70 :: cellsH b1 [arv, rsv] 27 :: L)
 refine XL.as (.int .i64 (heldF (m8 ++ m9.flatMap flatStep) (heldF (m6 ++ m7.flatMap flatStep) 1))) rfl ?_
 refine XL.nil (X.seq (X.seq (X.region ?_)))
 refine XL.mv (.int .i64 (heldF (m8 ++ m9.flatMap flatStep) (heldF (m6 ++ m7.flatMap flatStep) 1))) rfl ?_
 refine cX (XOp.lss (a := heldF (m8 ++ m9.flatMap flatStep) (heldF (m6 ++ m7.flatMap flatStep) 1)) (b := 0) rfl rfl ?_)
 refine XL.nil ?_
 refine X.condF (vF h10) ?_
 refine X.skip (X.seq (X.seq (X.region ?_)))
 refine XL.mv (.int .i64 (heldF (m8 ++ m9.flatMap flatStep) (heldF (m6 ++ m7.flatMap flatStep) 1))) rfl ?_
 refine XL.mv (.int .i64 ((1 + (((((peakJ ar rs tp lf rt a u o n).1)) ++ (((peakJ ar rs tp lf rt a u o n).2.1).flatMap flatStep)).length : Int)) + (((((peakJ ar rs tp lf rt a u o n).2.2.1)) ++ (((peakJ ar rs tp lf rt a u o n).2.2.2.1).flatMap flatStep)).length : Int))) rfl ?_
 refine cX (XOp.neq (a := heldF (m8 ++ m9.flatMap flatStep) (heldF (m6 ++ m7.flatMap flatStep) 1)) (b := (1 + (((((peakJ ar rs tp lf rt a u o n).1)) ++ (((peakJ ar rs tp lf rt a u o n).2.1).flatMap flatStep)).length : Int)) + (((((peakJ ar rs tp lf rt a u o n).2.2.1)) ++ (((peakJ ar rs tp lf rt a u o n).2.2.2.1).flatMap flatStep)).length : Int)) rfl rfl ?_)
 refine XL.nil ?_
 refine X.condF (vF h11) ?_
 refine X.skip (X.seq (X.region ?_))
 refine XL.as (.bool (true)) rfl ?_
 refine XL.nil ?_
 refine X.ret (retEnd (L' := L) [.bool (true)] (.bool (true)) (.tmp rfl .nil) rfl rF (FLe.trans (FLe.trans (FLe.trans le7 le22) le27) le45) (sD (sD (sD (sD (sD (sD (sD (sD (sD (sD (sD (sD (sD (sD (sD (sD (sD (sD (sD sR))))))))))))))))))) ?_)
 exact ⟨rfl, rfl, rfl⟩
end Go.Proofs.YtiaanelimbmniaaGreat
