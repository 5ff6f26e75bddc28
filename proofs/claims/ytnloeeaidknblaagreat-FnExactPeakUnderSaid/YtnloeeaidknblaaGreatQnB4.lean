/-
  Walks, one after the other (part 5).
-/
import Derived.Test.YtnloeeaidknblaaGreatQnB3
set_option linter.unusedSimpArgs false
set_option linter.unusedVariables false
namespace Go.Proofs.YtnloeeaidknblaaGreat
open Go X M

/- impl.PeakUnder -/
set_option maxRecDepth 20000 in
theorem PeakUnder_spec {F : FH} {L : List HP} {arv : Value} {ar : List Int} (har : IntsF F arv ar) {rsv : Value} {rs : List (List Int × List Int)} (hrs : PairsF F rsv rs) {tpv : Value} {tp : List Int} (htp : IntsF F tpv tp) {lfv : Value} {lf : List Int} (hlf : IntsF F lfv lf) {rtv : Value} {rt : List Int} (hrt : IntsF F rtv rt) {a : Int} {u : Int} {o : Int} {sv : Value} {s : List (List Int)} (hs : RowsF F sv s) (hll0 : lf.length ≤ 4000000) (hlr0 : rt.length ≤ 4000000) :
    Does Tryz.prog 33 [.agg #[arv, rsv], .agg #[tpv, lfv, rtv, .int .i64 (a), .int .i64 (u), .int .i64 (o)], .agg #[sv]] F (L) (fun v F' L' => ∃ (x : Value), ∃ (y : Value), ∃ (w : Value), (.tuple #[.agg #[x, y, w, .int .i64 ((peakUL ar rs tp lf rt a u o s).2.2.2.1.1), .int .i64 ((peakUL ar rs tp lf rt a u o s).2.2.2.1.2.1), .int .i64 ((peakUL ar rs tp lf rt a u o s).2.2.2.1.2.2)], .bool ((peakUL ar rs tp lf rt a u o s).2.2.2.2)] : Value) = v ∧ (IntsF F' x (peakUL ar rs tp lf rt a u o s).1) ∧ (IntsF F' y (peakUL ar rs tp lf rt a u o s).2.1) ∧ (IntsF F' w (peakUL ar rs tp lf rt a u o s).2.2.1) ∧ (Fresh F F' (star [intsH 2 x (peakUL ar rs tp lf rt a u o s).1, intsH 2 y (peakUL ar rs tp lf rt a u o s).2.1, intsH 2 w (peakUL ar rs tp lf rt a u o s).2.2.1])) ∧ L = L') := by
 refine Does.of_X Tryz.func33 rfl rfl rfl ?_
 refine X.seq ?_
 refine X.region ?_
 refine XL.cons (XOp.box [arv, rsv] rfl rfl ?_)
 intro b1
 refine XL.cons (XOp.box [tpv, lfv, rtv, .int .i64 (a), .int .i64 (u), .int .i64 (o)] rfl rfl ?_)
 intro b2
 refine XL.cons (XOp.box [sv] rfl rfl ?_)
 intro b3
 refine XL.cons (XOp.alloc [(.slice none 0 0), (.slice none 0 0), (.slice none 0 0), .int .i64 (0), .int .i64 (0), .int .i64 (0)] Tryz.zeroValue74 rfl ?_)
 intro b4
 refine XL.cons (XOp.assign (.bool (false)) rfl ?_)
 refine XL.nil ?_
 refine X.seq ?_
 refine X.seq ?_
 refine X.region ?_
 refine XL.cons (XOp.loadN [arv, rsv] Tryz.isAgg39 Tryz.sizeOf39 rfl rfl (Rd.ownN [_, _, _] rfl rfl) ?_)
 refine XL.cons (XOp.loadN [tpv, lfv, rtv, .int .i64 (a), .int .i64 (u), .int .i64 (o)] Tryz.isAgg74 Tryz.sizeOf74 rfl rfl (Rd.ownN [_, _] rfl rfl) ?_)
 refine XL.cons (XOp.call (args := [.agg #[arv, rsv], .agg #[tpv, lfv, rtv, .int .i64 (a), .int .i64 (u), .int .i64 (o)]]) Tryz.call93 rfl (PeakOk_spec har hrs htp hlf hrt (hll0 := (by first | assumption | rfl | omega | (left; simp; done) | (right; simp; done))) (hlr0 := (by first | assumption | rfl | omega | (left; simp; done) | (right; simp; done)))) ?_)
 rintro _ _ _ _ ⟨rfl, rfl, rfl⟩
 refine XL.cons (XOp.notB (b := peakL ar rs tp lf rt a u o) rfl ?_)
 refine XL.cons (XOp.move (.bool (!(peakL ar rs tp lf rt a u o))) rfl ?_)
 by_cases h1 : (!(peakL ar rs tp lf rt a u o)) = true
 ·refine XL.no (t := 18) rfl (congrArg Value.bool h1) ?_
  refine XL.no (t := 18) rfl (congrArg Value.bool h1) ?_
  refine XL.no (t := 18) rfl (congrArg Value.bool h1) ?_
  refine XL.no (t := 18) rfl (congrArg Value.bool h1) ?_
  refine XL.no (t := 18) rfl (congrArg Value.bool h1) ?_
  refine XL.cons (XOp.pickT (.bool (true)) (congrArg Value.bool h1) rfl ?_)
  refine XL.nil ?_
  refine X.condT rfl ?_
  refine X.seq ?_
  refine X.region ?_
  refine XL.cons (XOp.build [(.slice none 0 0), (.slice none 0 0), (.slice none 0 0), .int .i64 (0), .int .i64 (0), .int .i64 (0)] [(.slice none 0 0), (.slice none 0 0), (.slice none 0 0), .int .i64 (0), .int .i64 (0), .int .i64 (0)] [(0, 1), (1, 1), (2, 1), (3, 1), (4, 1), (5, 1)] [] Tryz.runUnderlying74 Tryz.zeroValue74 rfl (.cons rfl Tryz.sizeOf22 (.cons rfl Tryz.sizeOf22 (.cons rfl Tryz.sizeOf22 (.cons rfl Tryz.sizeOf2 (.cons rfl Tryz.sizeOf2 (.cons rfl Tryz.sizeOf2 PlacesAre.nil)))))) rfl CellsAre.nil ?_)
  refine XL.cons (XOp.storeN (vs := [(.slice none 0 0), (.slice none 0 0), (.slice none 0 0), .int .i64 (0), .int .i64 (0), .int .i64 (0)]) [] _ [(.slice none 0 0), (.slice none 0 0), (.slice none 0 0), .int .i64 (0), .int .i64 (0), .int .i64 (0)] Tryz.sizeOf74 rfl rfl rfl (ones_cons rfl (ones_cons rfl (ones_cons rfl (ones_cons rfl (ones_cons rfl (ones_cons rfl ones_nil)))))) rfl rfl rfl ?_)
  refine XL.cons (XOp.assign (.bool (false)) rfl ?_)
  refine XL.nil ?_
  refine X.ret (thenQ_ret (retEnd (L' := L) [.agg #[(.slice none 0 0), (.slice none 0 0), (.slice none 0 0), .int .i64 (0), .int .i64 (0), .int .i64 (0)], .bool (false)] (.tuple #[.agg #[(.slice none 0 0), (.slice none 0 0), (.slice none 0 0), .int .i64 (0), .int .i64 (0), .int .i64 (0)], .bool (false)]) (.cell rfl (loadNV [(.slice none 0 0), (.slice none 0 0), (.slice none 0 0), .int .i64 (0), .int .i64 (0), .int .i64 (0)] Tryz.isAgg74 Tryz.sizeOf74 rfl (Rd.ownN [] rfl rfl)) (.tmp rfl .nil)) rfl (FLe.refl _) (FLe.refl _) (Sub.drop (Sub.drop (Sub.drop (Sub.drop (Sub.refl _))))) ?_))
  have e : peakUL ar rs tp lf rt a u o s = ([], [], [], (0, 0, 0), false) := peakUL_no (fun h => by obtain ⟨h1, h2, h3, h4, h5⟩ := h; simp_all)
  exact ⟨_, _, _, by rw [e], by rw [e]; exact IntsF.nilV, by rw [e]; exact IntsF.nilV, by rw [e]; exact IntsF.nilV, by rw [e]; exact (Fresh.app (Fresh.app (Fresh.one (Fresh.ofNil (F := F) (F' := F) _)) (FLe.refl _) (Fresh.one (Fresh.ofNil (F := F) (F' := F) _)) (FLe.refl _)) (FLe.refl _) (Fresh.one (Fresh.ofNil (F := F) (F' := F) _)) (FLe.refl _)), rfl⟩
 ·rw [Bool.not_eq_true] at h1
  have hpk : peakL ar rs tp lf rt a u o = true := by simpa using h1
  obtain ⟨hq1, hq2, hq3, hq4⟩ := peakL_iff.1 hpk
  have hto := (stepAt_ok hq3).1
  have hro := (stepAt_ok hq3).2
  have hlo := (stepAt_ok hq4).2
  have htl := termOk_len hto
  have hll := termOk_len hlo
  have hrl := termOk_len hro
  have htg := fun k (hk : k < tp.length) => termOk_ge hto hk
  have hlg := fun k (hk : k < lf.length) => termOk_ge hlo hk
  have hrg := fun k (hk : k < rt.length) => termOk_ge hro hk
  refine XL.yes (t := 18) rfl (congrArg Value.bool h1) (XOp.fieldP (b := b1) (0) Tryz.runUnderlying39 rfl Tryz.sizeOf36 (by decide) rfl rfl ?_)
  refine XL.yes (t := 18) rfl (congrArg Value.bool h1) (XOp.loadN [arv] Tryz.isAgg36 Tryz.sizeOf36 rfl rfl (Rd.ownN [_, _, _] rfl rfl) ?_)
  refine XL.yes (t := 18) rfl (congrArg Value.bool h1) (XOp.loadN [sv] Tryz.isAgg78 Tryz.sizeOf78 rfl rfl (Rd.ownN [_] rfl rfl) ?_)
  refine XL.yes (t := 18) rfl (congrArg Value.bool h1) (XOp.call (args := [.agg #[arv], .agg #[sv]]) Tryz.call94 rfl (SubstOk_spec har hs) ?_)
  rintro _ _ _ _ ⟨rfl, rfl, rfl⟩
  refine XL.yes (t := 18) rfl (congrArg Value.bool h1) (XOp.notB (b := substOk ar s) rfl ?_)
  refine XL.cons (XOp.pickF (.bool (!(substOk ar s))) (congrArg Value.bool h1) rfl ?_)
  refine XL.nil ?_
  refine X.cond (t := !(substOk ar s)) rfl (fun h2 => ?_) (fun h2 => ?_)
  ·refine X.seq ?_
   refine X.region ?_
   refine XL.cons (XOp.build [(.slice none 0 0), (.slice none 0 0), (.slice none 0 0), .int .i64 (0), .int .i64 (0), .int .i64 (0)] [(.slice none 0 0), (.slice none 0 0), (.slice none 0 0), .int .i64 (0), .int .i64 (0), .int .i64 (0)] [(0, 1), (1, 1), (2, 1), (3, 1), (4, 1), (5, 1)] [] Tryz.runUnderlying74 Tryz.zeroValue74 rfl (.cons rfl Tryz.sizeOf22 (.cons rfl Tryz.sizeOf22 (.cons rfl Tryz.sizeOf22 (.cons rfl Tryz.sizeOf2 (.cons rfl Tryz.sizeOf2 (.cons rfl Tryz.sizeOf2 PlacesAre.nil)))))) rfl CellsAre.nil ?_)
   refine XL.cons (XOp.storeN (vs := [(.slice none 0 0), (.slice none 0 0), (.slice none 0 0), .int .i64 (0), .int .i64 (0), .int .i64 (0)]) [] _ [(.slice none 0 0), (.slice none 0 0), (.slice none 0 0), .int .i64 (0), .int .i64 (0), .int .i64 (0)] Tryz.sizeOf74 rfl rfl rfl (ones_cons rfl (ones_cons rfl (ones_cons rfl (ones_cons rfl (ones_cons rfl (ones_cons rfl ones_nil)))))) rfl rfl rfl ?_)
   refine XL.cons (XOp.assign (.bool (false)) rfl ?_)
   refine XL.nil ?_
   refine X.ret (thenQ_ret (retEnd (L' := L) [.agg #[(.slice none 0 0), (.slice none 0 0), (.slice none 0 0), .int .i64 (0), .int .i64 (0), .int .i64 (0)], .bool (false)] (.tuple #[.agg #[(.slice none 0 0), (.slice none 0 0), (.slice none 0 0), .int .i64 (0), .int .i64 (0), .int .i64 (0)], .bool (false)]) (.cell rfl (loadNV [(.slice none 0 0), (.slice none 0 0), (.slice none 0 0), .int .i64 (0), .int .i64 (0), .int .i64 (0)] Tryz.isAgg74 Tryz.sizeOf74 rfl (Rd.ownN [] rfl rfl)) (.tmp rfl .nil)) rfl (FLe.refl _) (FLe.refl _) (Sub.drop (Sub.drop (Sub.drop (Sub.drop (Sub.refl _))))) ?_))
   have e : peakUL ar rs tp lf rt a u o s = ([], [], [], (0, 0, 0), false) := peakUL_no (fun h => by obtain ⟨h1, h2, h3, h4, h5⟩ := h; simp_all)
   exact ⟨_, _, _, by rw [e], by rw [e]; exact IntsF.nilV, by rw [e]; exact IntsF.nilV, by rw [e]; exact IntsF.nilV, by rw [e]; exact (Fresh.app (Fresh.app (Fresh.one (Fresh.ofNil (F := F) (F' := F) _)) (FLe.refl _) (Fresh.one (Fresh.ofNil (F := F) (F' := F) _)) (FLe.refl _)) (FLe.refl _) (Fresh.one (Fresh.ofNil (F := F) (F' := F) _)) (FLe.refl _)), rfl⟩
  ·have hsk : substOk ar s = true := by simpa using h2
   have hsk2 := substOk_len hsk
   have hsk3 := (substOk_iff.1 hsk).2.1
   refine X.skip ?_
   refine X.seq ?_
   refine X.region ?_
   refine XL.cons (XOp.loadN [sv] Tryz.isAgg78 Tryz.sizeOf78 rfl rfl (Rd.ownN [_] rfl rfl) ?_)
   refine XL.cons (XOp.fieldP (b := b2) (0) Tryz.runUnderlying74 rfl Tryz.sizeOf22 (by decide) rfl rfl ?_)
   refine XL.cons (XOp.load1 (v := tpv) Tryz.isAgg22 rfl (Rd.own [_, _] rfl rfl) ?_)
   refine XL.cons (XOp.call (args := [.agg #[sv], tpv]) Tryz.call84 rfl (fill_spec hs htp (hsl := (by first | assumption | rfl | omega | (left; simp; done) | (right; simp; done))) (hsb := (fun i => by have := hsk2 i; omega)) (htl := (by first | assumption | rfl | omega | (left; simp; done) | (right; simp; done))) (htg := (by first | (exact fun k hk => by have := htg k hk; omega) | (exact fun k hk => by have := hlg k hk; omega) | (exact fun k hk => by have := hrg k hk; omega)))) ?_)
   rintro _ F1 _ le1 ⟨x1, rfl, hr1, hr2, rfl⟩
   replace har := har.mono le1
   replace hrs := hrs.mono le1
   replace htp := htp.mono le1
   replace hlf := hlf.mono le1
   replace hrt := hrt.mono le1
   replace hs := hs.mono le1
   refine XL.cons (XOp.move (.tuple #[x1, .bool ((fillL s tp).isSome)]) rfl ?_)
   refine XL.cons (XOp.extract (x1) rfl rfl ?_)
   refine XL.cons (XOp.extract (.bool ((fillL s tp).isSome)) rfl rfl ?_)
   refine XL.cons (XOp.assign (x1) rfl ?_)
   refine XL.cons (XOp.assign (.bool ((fillL s tp).isSome)) rfl ?_)
   refine XL.nil ?_
   refine X.seq ?_
   refine X.region ?_
   refine XL.cons (XOp.loadN [sv] Tryz.isAgg78 Tryz.sizeOf78 rfl rfl (Rd.ownN [_] rfl rfl) ?_)
   refine XL.cons (XOp.fieldP (b := b2) (1) Tryz.runUnderlying74 rfl Tryz.sizeOf22 (by decide) rfl rfl ?_)
   refine XL.cons (XOp.load1 (v := lfv) Tryz.isAgg22 rfl (Rd.own [_, _] rfl rfl) ?_)
   refine XL.cons (XOp.call (args := [.agg #[sv], lfv]) Tryz.call84 rfl (fill_spec hs hlf (hsl := (by first | assumption | rfl | omega | (left; simp; done) | (right; simp; done))) (hsb := (fun i => by have := hsk2 i; omega)) (htl := (by first | assumption | rfl | omega | (left; simp; done) | (right; simp; done))) (htg := (by first | (exact fun k hk => by have := htg k hk; omega) | (exact fun k hk => by have := hlg k hk; omega) | (exact fun k hk => by have := hrg k hk; omega)))) ?_)
   rintro _ F2 _ le2 ⟨x2, rfl, hr3, hr4, rfl⟩
   replace har := har.mono le2
   replace hrs := hrs.mono le2
   replace htp := htp.mono le2
   replace hlf := hlf.mono le2
   replace hrt := hrt.mono le2
   replace hs := hs.mono le2
   replace hr1 := hr1.mono le2
   refine XL.cons (XOp.move (.tuple #[x2, .bool ((fillL s lf).isSome)]) rfl ?_)
   refine XL.cons (XOp.extract (x2) rfl rfl ?_)
   refine XL.cons (XOp.extract (.bool ((fillL s lf).isSome)) rfl rfl ?_)
   refine XL.cons (XOp.assign (x2) rfl ?_)
   refine XL.cons (XOp.assign (.bool ((fillL s lf).isSome)) rfl ?_)
   refine XL.nil ?_
   refine X.seq ?_
   refine X.region ?_
   refine XL.cons (XOp.loadN [sv] Tryz.isAgg78 Tryz.sizeOf78 rfl rfl (Rd.ownN [_] rfl rfl) ?_)
   refine XL.cons (XOp.fieldP (b := b2) (2) Tryz.runUnderlying74 rfl Tryz.sizeOf22 (by decide) rfl rfl ?_)
   refine XL.cons (XOp.load1 (v := rtv) Tryz.isAgg22 rfl (Rd.own [_, _] rfl rfl) ?_)
   refine XL.cons (XOp.call (args := [.agg #[sv], rtv]) Tryz.call84 rfl (fill_spec hs hrt (hsl := (by first | assumption | rfl | omega | (left; simp; done) | (right; simp; done))) (hsb := (fun i => by have := hsk2 i; omega)) (htl := (by first | assumption | rfl | omega | (left; simp; done) | (right; simp; done))) (htg := (by first | (exact fun k hk => by have := htg k hk; omega) | (exact fun k hk => by have := hlg k hk; omega) | (exact fun k hk => by have := hrg k hk; omega)))) ?_)
   rintro _ F3 _ le3 ⟨x3, rfl, hr5, hr6, rfl⟩
   replace har := har.mono le3
   replace hrs := hrs.mono le3
   replace htp := htp.mono le3
   replace hlf := hlf.mono le3
   replace hrt := hrt.mono le3
   replace hs := hs.mono le3
   replace hr1 := hr1.mono le3
   replace hr3 := hr3.mono le3
   refine XL.cons (XOp.move (.tuple #[x3, .bool ((fillL s rt).isSome)]) rfl ?_)
   refine XL.cons (XOp.extract (x3) rfl rfl ?_)
   refine XL.cons (XOp.extract (.bool ((fillL s rt).isSome)) rfl rfl ?_)
   refine XL.cons (XOp.assign (x3) rfl ?_)
   refine XL.cons (XOp.assign (.bool ((fillL s rt).isSome)) rfl ?_)
   refine XL.nil ?_
   refine X.seq ?_
   refine X.seq ?_
   refine X.region ?_
   refine XL.cons (XOp.move (.bool ((fillL s tp).isSome)) rfl ?_)
   refine XL.cons (XOp.notB (b := (fillL s tp).isSome) rfl ?_)
   refine XL.cons (XOp.move (.bool (!((fillL s tp).isSome))) rfl ?_)
   by_cases h3 : (!((fillL s tp).isSome)) = true
   ·refine XL.no (t := 49) rfl (congrArg Value.bool h3) ?_
    refine XL.no (t := 49) rfl (congrArg Value.bool h3) ?_
    refine XL.cons (XOp.pickT (.bool (true)) (congrArg Value.bool h3) rfl ?_)
    refine XL.cons (XOp.move (.bool (true)) rfl ?_)
    refine XL.no (t := 53) rfl rfl ?_
    refine XL.no (t := 53) rfl rfl ?_
    refine XL.cons (XOp.pickT (.bool (true)) rfl rfl ?_)
    refine XL.nil ?_
    refine X.condT rfl ?_
    refine X.seq ?_
    refine X.region ?_
    refine XL.cons (XOp.build [(.slice none 0 0), (.slice none 0 0), (.slice none 0 0), .int .i64 (0), .int .i64 (0), .int .i64 (0)] [(.slice none 0 0), (.slice none 0 0), (.slice none 0 0), .int .i64 (0), .int .i64 (0), .int .i64 (0)] [(0, 1), (1, 1), (2, 1), (3, 1), (4, 1), (5, 1)] [] Tryz.runUnderlying74 Tryz.zeroValue74 rfl (.cons rfl Tryz.sizeOf22 (.cons rfl Tryz.sizeOf22 (.cons rfl Tryz.sizeOf22 (.cons rfl Tryz.sizeOf2 (.cons rfl Tryz.sizeOf2 (.cons rfl Tryz.sizeOf2 PlacesAre.nil)))))) rfl CellsAre.nil ?_)
    refine XL.cons (XOp.storeN (vs := [(.slice none 0 0), (.slice none 0 0), (.slice none 0 0), .int .i64 (0), .int .i64 (0), .int .i64 (0)]) [] _ [(.slice none 0 0), (.slice none 0 0), (.slice none 0 0), .int .i64 (0), .int .i64 (0), .int .i64 (0)] Tryz.sizeOf74 rfl rfl rfl (ones_cons rfl (ones_cons rfl (ones_cons rfl (ones_cons rfl (ones_cons rfl (ones_cons rfl ones_nil)))))) rfl rfl rfl ?_)
    refine XL.cons (XOp.assign (.bool (false)) rfl ?_)
    refine XL.nil ?_
    refine X.ret (thenQ_ret (retEnd (L' := L) [.agg #[(.slice none 0 0), (.slice none 0 0), (.slice none 0 0), .int .i64 (0), .int .i64 (0), .int .i64 (0)], .bool (false)] (.tuple #[.agg #[(.slice none 0 0), (.slice none 0 0), (.slice none 0 0), .int .i64 (0), .int .i64 (0), .int .i64 (0)], .bool (false)]) (.cell rfl (loadNV [(.slice none 0 0), (.slice none 0 0), (.slice none 0 0), .int .i64 (0), .int .i64 (0), .int .i64 (0)] Tryz.isAgg74 Tryz.sizeOf74 rfl (Rd.ownN [] rfl rfl)) (.tmp rfl .nil)) rfl (FLe.trans (FLe.trans le1 le2) le3) (FLe.refl _) (Sub.drop (Sub.drop (Sub.drop (Sub.drop (Sub.refl _))))) ?_))
    have e : peakUL ar rs tp lf rt a u o s = ([], [], [], (0, 0, 0), false) := peakUL_no (fun h => by obtain ⟨h1, h2, h3, h4, h5⟩ := h; simp_all)
    exact ⟨_, _, _, by rw [e], by rw [e]; exact IntsF.nilV, by rw [e]; exact IntsF.nilV, by rw [e]; exact IntsF.nilV, by rw [e]; exact (Fresh.app (Fresh.app ((Fresh.one (Fresh.ofNil (F := F3) (F' := F3) _)).base (FLe.trans (FLe.trans le1 le2) le3)) (FLe.trans (FLe.trans le1 le2) le3) (Fresh.one (Fresh.ofNil (F := F3) (F' := F3) _)) (FLe.refl _)) (FLe.trans (FLe.trans le1 le2) le3) (Fresh.one (Fresh.ofNil (F := F3) (F' := F3) _)) (FLe.refl _)), rfl⟩
   ·rw [Bool.not_eq_true] at h3
    refine XL.yes (t := 49) rfl (congrArg Value.bool h3) (XOp.move (.bool ((fillL s lf).isSome)) rfl ?_)
    refine XL.yes (t := 49) rfl (congrArg Value.bool h3) (XOp.notB (b := (fillL s lf).isSome) rfl ?_)
    refine XL.cons (XOp.pickF (.bool (!((fillL s lf).isSome))) (congrArg Value.bool h3) rfl ?_)
    refine XL.cons (XOp.move (.bool (!((fillL s lf).isSome))) rfl ?_)
    by_cases h4 : (!((fillL s lf).isSome)) = true
    ·refine XL.no (t := 53) rfl (congrArg Value.bool h4) ?_
     refine XL.no (t := 53) rfl (congrArg Value.bool h4) ?_
     refine XL.cons (XOp.pickT (.bool (true)) (congrArg Value.bool h4) rfl ?_)
     refine XL.nil ?_
     refine X.condT rfl ?_
     refine X.seq ?_
     refine X.region ?_
     refine XL.cons (XOp.build [(.slice none 0 0), (.slice none 0 0), (.slice none 0 0), .int .i64 (0), .int .i64 (0), .int .i64 (0)] [(.slice none 0 0), (.slice none 0 0), (.slice none 0 0), .int .i64 (0), .int .i64 (0), .int .i64 (0)] [(0, 1), (1, 1), (2, 1), (3, 1), (4, 1), (5, 1)] [] Tryz.runUnderlying74 Tryz.zeroValue74 rfl (.cons rfl Tryz.sizeOf22 (.cons rfl Tryz.sizeOf22 (.cons rfl Tryz.sizeOf22 (.cons rfl Tryz.sizeOf2 (.cons rfl Tryz.sizeOf2 (.cons rfl Tryz.sizeOf2 PlacesAre.nil)))))) rfl CellsAre.nil ?_)
     refine XL.cons (XOp.storeN (vs := [(.slice none 0 0), (.slice none 0 0), (.slice none 0 0), .int .i64 (0), .int .i64 (0), .int .i64 (0)]) [] _ [(.slice none 0 0), (.slice none 0 0), (.slice none 0 0), .int .i64 (0), .int .i64 (0), .int .i64 (0)] Tryz.sizeOf74 rfl rfl rfl (ones_cons rfl (ones_cons rfl (ones_cons rfl (ones_cons rfl (ones_cons rfl (ones_cons rfl ones_nil)))))) rfl rfl rfl ?_)
     refine XL.cons (XOp.assign (.bool (false)) rfl ?_)
     refine XL.nil ?_
     refine X.ret (thenQ_ret (retEnd (L' := L) [.agg #[(.slice none 0 0), (.slice none 0 0), (.slice none 0 0), .int .i64 (0), .int .i64 (0), .int .i64 (0)], .bool (false)] (.tuple #[.agg #[(.slice none 0 0), (.slice none 0 0), (.slice none 0 0), .int .i64 (0), .int .i64 (0), .int .i64 (0)], .bool (false)]) (.cell rfl (loadNV [(.slice none 0 0), (.slice none 0 0), (.slice none 0 0), .int .i64 (0), .int .i64 (0), .int .i64 (0)] Tryz.isAgg74 Tryz.sizeOf74 rfl (Rd.ownN [] rfl rfl)) (.tmp rfl .nil)) rfl (FLe.trans (FLe.trans le1 le2) le3) (FLe.refl _) (Sub.drop (Sub.drop (Sub.drop (Sub.drop (Sub.refl _))))) ?_))
     have e : peakUL ar rs tp lf rt a u o s = ([], [], [], (0, 0, 0), false) := peakUL_no (fun h => by obtain ⟨h1, h2, h3, h4, h5⟩ := h; simp_all)
     exact ⟨_, _, _, by rw [e], by rw [e]; exact IntsF.nilV, by rw [e]; exact IntsF.nilV, by rw [e]; exact IntsF.nilV, by rw [e]; exact (Fresh.app (Fresh.app ((Fresh.one (Fresh.ofNil (F := F3) (F' := F3) _)).base (FLe.trans (FLe.trans le1 le2) le3)) (FLe.trans (FLe.trans le1 le2) le3) (Fresh.one (Fresh.ofNil (F := F3) (F' := F3) _)) (FLe.refl _)) (FLe.trans (FLe.trans le1 le2) le3) (Fresh.one (Fresh.ofNil (F := F3) (F' := F3) _)) (FLe.refl _)), rfl⟩
    ·rw [Bool.not_eq_true] at h4
     refine XL.yes (t := 53) rfl (congrArg Value.bool h4) (XOp.move (.bool ((fillL s rt).isSome)) rfl ?_)
     refine XL.yes (t := 53) rfl (congrArg Value.bool h4) (XOp.notB (b := (fillL s rt).isSome) rfl ?_)
     refine XL.cons (XOp.pickF (.bool (!((fillL s rt).isSome))) (congrArg Value.bool h4) rfl ?_)
     refine XL.nil ?_
     refine X.cond (t := !((fillL s rt).isSome)) rfl (fun h5 => ?_) (fun h5 => ?_)
     ·refine X.seq ?_
      refine X.region ?_
      refine XL.cons (XOp.build [(.slice none 0 0), (.slice none 0 0), (.slice none 0 0), .int .i64 (0), .int .i64 (0), .int .i64 (0)] [(.slice none 0 0), (.slice none 0 0), (.slice none 0 0), .int .i64 (0), .int .i64 (0), .int .i64 (0)] [(0, 1), (1, 1), (2, 1), (3, 1), (4, 1), (5, 1)] [] Tryz.runUnderlying74 Tryz.zeroValue74 rfl (.cons rfl Tryz.sizeOf22 (.cons rfl Tryz.sizeOf22 (.cons rfl Tryz.sizeOf22 (.cons rfl Tryz.sizeOf2 (.cons rfl Tryz.sizeOf2 (.cons rfl Tryz.sizeOf2 PlacesAre.nil)))))) rfl CellsAre.nil ?_)
      refine XL.cons (XOp.storeN (vs := [(.slice none 0 0), (.slice none 0 0), (.slice none 0 0), .int .i64 (0), .int .i64 (0), .int .i64 (0)]) [] _ [(.slice none 0 0), (.slice none 0 0), (.slice none 0 0), .int .i64 (0), .int .i64 (0), .int .i64 (0)] Tryz.sizeOf74 rfl rfl rfl (ones_cons rfl (ones_cons rfl (ones_cons rfl (ones_cons rfl (ones_cons rfl (ones_cons rfl ones_nil)))))) rfl rfl rfl ?_)
      refine XL.cons (XOp.assign (.bool (false)) rfl ?_)
      refine XL.nil ?_
      refine X.ret (thenQ_ret (retEnd (L' := L) [.agg #[(.slice none 0 0), (.slice none 0 0), (.slice none 0 0), .int .i64 (0), .int .i64 (0), .int .i64 (0)], .bool (false)] (.tuple #[.agg #[(.slice none 0 0), (.slice none 0 0), (.slice none 0 0), .int .i64 (0), .int .i64 (0), .int .i64 (0)], .bool (false)]) (.cell rfl (loadNV [(.slice none 0 0), (.slice none 0 0), (.slice none 0 0), .int .i64 (0), .int .i64 (0), .int .i64 (0)] Tryz.isAgg74 Tryz.sizeOf74 rfl (Rd.ownN [] rfl rfl)) (.tmp rfl .nil)) rfl (FLe.trans (FLe.trans le1 le2) le3) (FLe.refl _) (Sub.drop (Sub.drop (Sub.drop (Sub.drop (Sub.refl _))))) ?_))
      have e : peakUL ar rs tp lf rt a u o s = ([], [], [], (0, 0, 0), false) := peakUL_no (fun h => by obtain ⟨h1, h2, h3, h4, h5⟩ := h; simp_all)
      exact ⟨_, _, _, by rw [e], by rw [e]; exact IntsF.nilV, by rw [e]; exact IntsF.nilV, by rw [e]; exact IntsF.nilV, by rw [e]; exact (Fresh.app (Fresh.app ((Fresh.one (Fresh.ofNil (F := F3) (F' := F3) _)).base (FLe.trans (FLe.trans le1 le2) le3)) (FLe.trans (FLe.trans le1 le2) le3) (Fresh.one (Fresh.ofNil (F := F3) (F' := F3) _)) (FLe.refl _)) (FLe.trans (FLe.trans le1 le2) le3) (Fresh.one (Fresh.ofNil (F := F3) (F' := F3) _)) (FLe.refl _)), rfl⟩
     ·refine X.skip ?_
      refine X.seq ?_
      refine X.region ?_
      refine XL.cons (XOp.move (x1) rfl ?_)
      refine XL.cons (XOp.move (x2) rfl ?_)
      refine XL.cons (XOp.move (x3) rfl ?_)
      refine XL.cons (XOp.fieldP (b := b2) (3) Tryz.runUnderlying74 rfl Tryz.sizeOf2 (by decide) rfl rfl ?_)
      refine XL.cons (XOp.load1 (v := .int .i64 (a)) Tryz.isAgg2 rfl (Rd.own [_, _] rfl rfl) ?_)
      refine XL.cons (XOp.fieldP (b := b2) (4) Tryz.runUnderlying74 rfl Tryz.sizeOf2 (by decide) rfl rfl ?_)
      refine XL.cons (XOp.load1 (v := .int .i64 (u)) Tryz.isAgg2 rfl (Rd.own [_, _] rfl rfl) ?_)
      refine XL.cons (XOp.fieldP (b := b2) (5) Tryz.runUnderlying74 rfl Tryz.sizeOf2 (by decide) rfl rfl ?_)
      refine XL.cons (XOp.load1 (v := .int .i64 (o)) Tryz.isAgg2 rfl (Rd.own [_, _] rfl rfl) ?_)
      refine XL.cons (XOp.build [x1, x2, x3, .int .i64 (a), .int .i64 (u), .int .i64 (o)] [(.slice none 0 0), (.slice none 0 0), (.slice none 0 0), .int .i64 (0), .int .i64 (0), .int .i64 (0)] [(0, 1), (1, 1), (2, 1), (3, 1), (4, 1), (5, 1)] [(0, [x1]), (1, [x2]), (2, [x3]), (3, [.int .i64 (a)]), (4, [.int .i64 (u)]), (5, [.int .i64 (o)])] Tryz.runUnderlying74 Tryz.zeroValue74 rfl (.cons rfl Tryz.sizeOf22 (.cons rfl Tryz.sizeOf22 (.cons rfl Tryz.sizeOf22 (.cons rfl Tryz.sizeOf2 (.cons rfl Tryz.sizeOf2 (.cons rfl Tryz.sizeOf2 PlacesAre.nil)))))) rfl (.cons (cells_one (IntsF.isSl hr1)) (.cons (cells_one (IntsF.isSl hr3)) (.cons (cells_one (IntsF.isSl hr5)) (.cons rfl (.cons rfl (.cons rfl CellsAre.nil)))))) ?_)
      refine XL.cons (XOp.storeN (vs := [x1, x2, x3, .int .i64 (a), .int .i64 (u), .int .i64 (o)]) [] _ [x1, x2, x3, .int .i64 (a), .int .i64 (u), .int .i64 (o)] Tryz.sizeOf74 rfl rfl rfl (ones_cons (one_sl (IntsF.isSl hr1)) (ones_cons (one_sl (IntsF.isSl hr3)) (ones_cons (one_sl (IntsF.isSl hr5)) (ones_cons rfl (ones_cons rfl (ones_cons rfl ones_nil)))))) rfl rfl rfl ?_)
      refine XL.cons (XOp.assign (.bool (true)) rfl ?_)
      refine XL.nil ?_
      refine X.ret (retEnd (L' := L) [.agg #[x1, x2, x3, .int .i64 (a), .int .i64 (u), .int .i64 (o)], .bool (true)] (.tuple #[.agg #[x1, x2, x3, .int .i64 (a), .int .i64 (u), .int .i64 (o)], .bool (true)]) (.cell rfl (loadNV [x1, x2, x3, .int .i64 (a), .int .i64 (u), .int .i64 (o)] Tryz.isAgg74 Tryz.sizeOf74 rfl (Rd.ownN [] rfl rfl)) (.tmp rfl .nil)) rfl (FLe.trans (FLe.trans le1 le2) le3) (FLe.refl _) (Sub.drop (Sub.drop (Sub.drop (Sub.drop (Sub.refl _))))) ?_)
      have e := peakUL_yes (ar := ar) (rs := rs) (top := tp) (left := lf) (right := rt) (a := a) (u := u) (o := o) (s := s) ⟨hpk, by simp_all, by simp_all, by simp_all, by simp_all⟩
      exact ⟨_, _, _, by rw [e], by rw [e]; exact hr1, by rw [e]; exact hr3, by rw [e]; exact hr5, by rw [e]; exact (Fresh.app (Fresh.app (Fresh.one hr2) le1 (Fresh.one hr4) le2) (FLe.trans le1 le2) (Fresh.one hr6) le3), rfl⟩

/- spec.PeakUnder -/
set_option maxRecDepth 20000 in
theorem sPeakUnder_spec {F : FH} {L : List HP} {arv : Value} {ar : List Int} (har : IntsF F arv ar) {rsv : Value} {rs : List (List Int × List Int)} (hrs : PairsF F rsv rs) {tpv : Value} {tp : List Int} (htp : IntsF F tpv tp) {lfv : Value} {lf : List Int} (hlf : IntsF F lfv lf) {rtv : Value} {rt : List Int} (hrt : IntsF F rtv rt) {a : Int} {u : Int} {o : Int} {sv : Value} {s : List (List Int)} (hs : RowsF F sv s) (hla : ar.length ≤ 4000000) (hlr : rs.length ≤ 4000000) (hrb : ∀ i, i < rs.length → (rs.getD i ([], [])).1.length ≤ 4000000 ∧ (rs.getD i ([], [])).2.length ≤ 4000000) (hlt0 : tp.length ≤ 4000000) (hll0 : lf.length ≤ 4000000) (hlr0 : rt.length ≤ 4000000) (hlrow : s.length ≤ 4000000) (hrowb : ∀ i, i < s.length → (s.getD i []).length ≤ 4000000) :
    Does Tryz.prog 30 [.agg #[arv, rsv], .agg #[tpv, lfv, rtv, .int .i64 (a), .int .i64 (u), .int .i64 (o)], .agg #[sv]] F (L) (fun v F' L' => ∃ (x : Value), ∃ (y : Value), ∃ (w : Value), (.tuple #[.agg #[x, y, w, .int .i64 ((peakUL ar rs tp lf rt a u o s).2.2.2.1.1), .int .i64 ((peakUL ar rs tp lf rt a u o s).2.2.2.1.2.1), .int .i64 ((peakUL ar rs tp lf rt a u o s).2.2.2.1.2.2)], .bool ((peakUL ar rs tp lf rt a u o s).2.2.2.2)] : Value) = v ∧ (IntsF F' x (peakUL ar rs tp lf rt a u o s).1) ∧ (IntsF F' y (peakUL ar rs tp lf rt a u o s).2.1) ∧ (IntsF F' w (peakUL ar rs tp lf rt a u o s).2.2.1) ∧ L = L') := by
 refine Does.of_X Tryz.func30 rfl rfl rfl ?_
 refine X.seq ?_
 refine X.region ?_
 refine XL.cons (XOp.box [arv, rsv] rfl rfl ?_)
 intro b1
 refine XL.cons (XOp.box [tpv, lfv, rtv, .int .i64 (a), .int .i64 (u), .int .i64 (o)] rfl rfl ?_)
 intro b2
 refine XL.cons (XOp.box [sv] rfl rfl ?_)
 intro b3
 refine XL.cons (XOp.alloc [(.slice none 0 0), (.slice none 0 0), (.slice none 0 0), .int .i64 (0), .int .i64 (0), .int .i64 (0)] Tryz.zeroValue74 rfl ?_)
 intro b4
 refine XL.cons (XOp.assign (.bool (false)) rfl ?_)
 refine XL.nil ?_
 refine X.seq ?_
 refine X.seq ?_
 refine X.region ?_
 refine XL.cons (XOp.loadN [arv, rsv] Tryz.isAgg39 Tryz.sizeOf39 rfl rfl (Rd.ownN [_, _, _] rfl rfl) ?_)
 refine XL.cons (XOp.loadN [tpv, lfv, rtv, .int .i64 (a), .int .i64 (u), .int .i64 (o)] Tryz.isAgg74 Tryz.sizeOf74 rfl rfl (Rd.ownN [_, _] rfl rfl) ?_)
 refine XL.cons (XOp.call (args := [.agg #[arv, rsv], .agg #[tpv, lfv, rtv, .int .i64 (a), .int .i64 (u), .int .i64 (o)]]) Tryz.call90 rfl (sPeakOk_spec har hrs htp hlf hrt (hla := (by first | assumption | rfl | omega | (left; simp; done) | (right; simp; done))) (hlr := (by first | assumption | rfl | omega | (left; simp; done) | (right; simp; done))) (hrb := (by first | assumption | rfl | omega | (left; simp; done) | (right; simp; done))) (hlt0 := (by first | assumption | rfl | omega | (left; simp; done) | (right; simp; done))) (hll0 := (by first | assumption | rfl | omega | (left; simp; done) | (right; simp; done))) (hlr0 := (by first | assumption | rfl | omega | (left; simp; done) | (right; simp; done)))) ?_)
 rintro _ _ _ _ ⟨rfl, rfl, rfl⟩
 refine XL.cons (XOp.notB (b := peakL ar rs tp lf rt a u o) rfl ?_)
 refine XL.nil ?_
 refine X.cond (t := !(peakL ar rs tp lf rt a u o)) rfl (fun h1 => ?_) (fun h1 => ?_)
 ·refine X.seq ?_
  refine X.region ?_
  refine XL.cons (XOp.build [(.slice none 0 0), (.slice none 0 0), (.slice none 0 0), .int .i64 (0), .int .i64 (0), .int .i64 (0)] [(.slice none 0 0), (.slice none 0 0), (.slice none 0 0), .int .i64 (0), .int .i64 (0), .int .i64 (0)] [(0, 1), (1, 1), (2, 1), (3, 1), (4, 1), (5, 1)] [] Tryz.runUnderlying74 Tryz.zeroValue74 rfl (.cons rfl Tryz.sizeOf22 (.cons rfl Tryz.sizeOf22 (.cons rfl Tryz.sizeOf22 (.cons rfl Tryz.sizeOf2 (.cons rfl Tryz.sizeOf2 (.cons rfl Tryz.sizeOf2 PlacesAre.nil)))))) rfl CellsAre.nil ?_)
  refine XL.cons (XOp.storeN (vs := [(.slice none 0 0), (.slice none 0 0), (.slice none 0 0), .int .i64 (0), .int .i64 (0), .int .i64 (0)]) [] _ [(.slice none 0 0), (.slice none 0 0), (.slice none 0 0), .int .i64 (0), .int .i64 (0), .int .i64 (0)] Tryz.sizeOf74 rfl rfl rfl (ones_cons rfl (ones_cons rfl (ones_cons rfl (ones_cons rfl (ones_cons rfl (ones_cons rfl ones_nil)))))) rfl rfl rfl ?_)
  refine XL.cons (XOp.assign (.bool (false)) rfl ?_)
  refine XL.nil ?_
  refine X.ret (thenQ_ret (retEnd (L' := L) [.agg #[(.slice none 0 0), (.slice none 0 0), (.slice none 0 0), .int .i64 (0), .int .i64 (0), .int .i64 (0)], .bool (false)] (.tuple #[.agg #[(.slice none 0 0), (.slice none 0 0), (.slice none 0 0), .int .i64 (0), .int .i64 (0), .int .i64 (0)], .bool (false)]) (.cell rfl (loadNV [(.slice none 0 0), (.slice none 0 0), (.slice none 0 0), .int .i64 (0), .int .i64 (0), .int .i64 (0)] Tryz.isAgg74 Tryz.sizeOf74 rfl (Rd.ownN [] rfl rfl)) (.tmp rfl .nil)) rfl (FLe.refl _) (FLe.refl _) (Sub.drop (Sub.drop (Sub.drop (Sub.drop (Sub.refl _))))) ?_))
  have e : peakUL ar rs tp lf rt a u o s = ([], [], [], (0, 0, 0), false) := peakUL_no (fun h => by obtain ⟨h1, h2, h3, h4, h5⟩ := h; simp_all)
  exact ⟨_, _, _, by rw [e], by rw [e]; exact IntsF.nilV, by rw [e]; exact IntsF.nilV, by rw [e]; exact IntsF.nilV, rfl⟩
 ·have hpk : peakL ar rs tp lf rt a u o = true := by simpa using h1
  obtain ⟨hq1, hq2, hq3, hq4⟩ := peakL_iff.1 hpk
  have hto := (stepAt_ok hq3).1
  have hro := (stepAt_ok hq3).2
  have hlo := (stepAt_ok hq4).2
  have htl := termOk_len hto
  have hll := termOk_len hlo
  have hrl := termOk_len hro
  have htg := fun k (hk : k < tp.length) => termOk_ge hto hk
  have hlg := fun k (hk : k < lf.length) => termOk_ge hlo hk
  have hrg := fun k (hk : k < rt.length) => termOk_ge hro hk
  have hft : filledL ar s tp = if substOk ar s = true then fillL s tp else none := by unfold filledL; simp [hto]
  have hfl : filledL ar s lf = if substOk ar s = true then fillL s lf else none := by unfold filledL; simp [hlo]
  have hfr : filledL ar s rt = if substOk ar s = true then fillL s rt else none := by unfold filledL; simp [hro]
  refine X.skip ?_
  refine X.seq ?_
  refine X.region ?_
  refine XL.cons (XOp.fieldP (b := b1) (0) Tryz.runUnderlying39 rfl Tryz.sizeOf36 (by decide) rfl rfl ?_)
  refine XL.cons (XOp.loadN [arv] Tryz.isAgg36 Tryz.sizeOf36 rfl rfl (Rd.ownN [_, _, _] rfl rfl) ?_)
  refine XL.cons (XOp.loadN [sv] Tryz.isAgg78 Tryz.sizeOf78 rfl rfl (Rd.ownN [_] rfl rfl) ?_)
  refine XL.cons (XOp.fieldP (b := b2) (0) Tryz.runUnderlying74 rfl Tryz.sizeOf22 (by decide) rfl rfl ?_)
  refine XL.cons (XOp.load1 (v := tpv) Tryz.isAgg22 rfl (Rd.own [_, _] rfl rfl) ?_)
  refine XL.cons (XOp.call (args := [.agg #[arv], .agg #[sv], tpv]) Tryz.call91 rfl (sFilled_spec har hs htp (hla := (by first | assumption | rfl | omega | (left; simp; done) | (right; simp; done))) (hsl := (by first | assumption | rfl | omega | (left; simp; done) | (right; simp; done))) (hsb := (by first | assumption | rfl | omega | (left; simp; done) | (right; simp; done))) (hlt := (by first | assumption | rfl | omega | (left; simp; done) | (right; simp; done)))) ?_)
  rintro _ F1 _ le1 ⟨x1, rfl, hr1, rfl⟩
  replace har := har.mono le1
  replace hrs := hrs.mono le1
  replace htp := htp.mono le1
  replace hlf := hlf.mono le1
  replace hrt := hrt.mono le1
  replace hs := hs.mono le1
  refine XL.cons (XOp.move (.tuple #[x1, .bool ((filledL ar s tp).isSome)]) rfl ?_)
  refine XL.cons (XOp.extract (x1) rfl rfl ?_)
  refine XL.cons (XOp.extract (.bool ((filledL ar s tp).isSome)) rfl rfl ?_)
  refine XL.cons (XOp.assign (x1) rfl ?_)
  refine XL.cons (XOp.assign (.bool ((filledL ar s tp).isSome)) rfl ?_)
  refine XL.nil ?_
  refine X.seq ?_
  refine X.region ?_
  refine XL.cons (XOp.fieldP (b := b1) (0) Tryz.runUnderlying39 rfl Tryz.sizeOf36 (by decide) rfl rfl ?_)
  refine XL.cons (XOp.loadN [arv] Tryz.isAgg36 Tryz.sizeOf36 rfl rfl (Rd.ownN [_, _, _] rfl rfl) ?_)
  refine XL.cons (XOp.loadN [sv] Tryz.isAgg78 Tryz.sizeOf78 rfl rfl (Rd.ownN [_] rfl rfl) ?_)
  refine XL.cons (XOp.fieldP (b := b2) (1) Tryz.runUnderlying74 rfl Tryz.sizeOf22 (by decide) rfl rfl ?_)
  refine XL.cons (XOp.load1 (v := lfv) Tryz.isAgg22 rfl (Rd.own [_, _] rfl rfl) ?_)
  refine XL.cons (XOp.call (args := [.agg #[arv], .agg #[sv], lfv]) Tryz.call91 rfl (sFilled_spec har hs hlf (hla := (by first | assumption | rfl | omega | (left; simp; done) | (right; simp; done))) (hsl := (by first | assumption | rfl | omega | (left; simp; done) | (right; simp; done))) (hsb := (by first | assumption | rfl | omega | (left; simp; done) | (right; simp; done))) (hlt := (by first | assumption | rfl | omega | (left; simp; done) | (right; simp; done)))) ?_)
  rintro _ F2 _ le2 ⟨x2, rfl, hr2, rfl⟩
  replace har := har.mono le2
  replace hrs := hrs.mono le2
  replace htp := htp.mono le2
  replace hlf := hlf.mono le2
  replace hrt := hrt.mono le2
  replace hs := hs.mono le2
  replace hr1 := hr1.mono le2
  refine XL.cons (XOp.move (.tuple #[x2, .bool ((filledL ar s lf).isSome)]) rfl ?_)
  refine XL.cons (XOp.extract (x2) rfl rfl ?_)
  refine XL.cons (XOp.extract (.bool ((filledL ar s lf).isSome)) rfl rfl ?_)
  refine XL.cons (XOp.assign (x2) rfl ?_)
  refine XL.cons (XOp.assign (.bool ((filledL ar s lf).isSome)) rfl ?_)
  refine XL.nil ?_
  refine X.seq ?_
  refine X.region ?_
  refine XL.cons (XOp.fieldP (b := b1) (0) Tryz.runUnderlying39 rfl Tryz.sizeOf36 (by decide) rfl rfl ?_)
  refine XL.cons (XOp.loadN [arv] Tryz.isAgg36 Tryz.sizeOf36 rfl rfl (Rd.ownN [_, _, _] rfl rfl) ?_)
  refine XL.cons (XOp.loadN [sv] Tryz.isAgg78 Tryz.sizeOf78 rfl rfl (Rd.ownN [_] rfl rfl) ?_)
  refine XL.cons (XOp.fieldP (b := b2) (2) Tryz.runUnderlying74 rfl Tryz.sizeOf22 (by decide) rfl rfl ?_)
  refine XL.cons (XOp.load1 (v := rtv) Tryz.isAgg22 rfl (Rd.own [_, _] rfl rfl) ?_)
  refine XL.cons (XOp.call (args := [.agg #[arv], .agg #[sv], rtv]) Tryz.call91 rfl (sFilled_spec har hs hrt (hla := (by first | assumption | rfl | omega | (left; simp; done) | (right; simp; done))) (hsl := (by first | assumption | rfl | omega | (left; simp; done) | (right; simp; done))) (hsb := (by first | assumption | rfl | omega | (left; simp; done) | (right; simp; done))) (hlt := (by first | assumption | rfl | omega | (left; simp; done) | (right; simp; done)))) ?_)
  rintro _ F3 _ le3 ⟨x3, rfl, hr3, rfl⟩
  replace har := har.mono le3
  replace hrs := hrs.mono le3
  replace htp := htp.mono le3
  replace hlf := hlf.mono le3
  replace hrt := hrt.mono le3
  replace hs := hs.mono le3
  replace hr1 := hr1.mono le3
  replace hr2 := hr2.mono le3
  refine XL.cons (XOp.move (.tuple #[x3, .bool ((filledL ar s rt).isSome)]) rfl ?_)
  refine XL.cons (XOp.extract (x3) rfl rfl ?_)
  refine XL.cons (XOp.extract (.bool ((filledL ar s rt).isSome)) rfl rfl ?_)
  refine XL.cons (XOp.assign (x3) rfl ?_)
  refine XL.cons (XOp.assign (.bool ((filledL ar s rt).isSome)) rfl ?_)
  refine XL.nil ?_
  refine X.seq ?_
  refine X.seq ?_
  refine X.region ?_
  refine XL.cons (XOp.move (.bool ((filledL ar s tp).isSome)) rfl ?_)
  refine XL.cons (XOp.notB (b := (filledL ar s tp).isSome) rfl ?_)
  refine XL.cons (XOp.move (.bool (!((filledL ar s tp).isSome))) rfl ?_)
  by_cases h2 : (!((filledL ar s tp).isSome)) = true
  ·refine XL.no (t := 48) rfl (congrArg Value.bool h2) ?_
   refine XL.no (t := 48) rfl (congrArg Value.bool h2) ?_
   refine XL.cons (XOp.pickT (.bool (true)) (congrArg Value.bool h2) rfl ?_)
   refine XL.cons (XOp.move (.bool (true)) rfl ?_)
   refine XL.no (t := 52) rfl rfl ?_
   refine XL.no (t := 52) rfl rfl ?_
   refine XL.cons (XOp.pickT (.bool (true)) rfl rfl ?_)
   refine XL.nil ?_
   refine X.condT rfl ?_
   refine X.seq ?_
   refine X.region ?_
   refine XL.cons (XOp.build [(.slice none 0 0), (.slice none 0 0), (.slice none 0 0), .int .i64 (0), .int .i64 (0), .int .i64 (0)] [(.slice none 0 0), (.slice none 0 0), (.slice none 0 0), .int .i64 (0), .int .i64 (0), .int .i64 (0)] [(0, 1), (1, 1), (2, 1), (3, 1), (4, 1), (5, 1)] [] Tryz.runUnderlying74 Tryz.zeroValue74 rfl (.cons rfl Tryz.sizeOf22 (.cons rfl Tryz.sizeOf22 (.cons rfl Tryz.sizeOf22 (.cons rfl Tryz.sizeOf2 (.cons rfl Tryz.sizeOf2 (.cons rfl Tryz.sizeOf2 PlacesAre.nil)))))) rfl CellsAre.nil ?_)
   refine XL.cons (XOp.storeN (vs := [(.slice none 0 0), (.slice none 0 0), (.slice none 0 0), .int .i64 (0), .int .i64 (0), .int .i64 (0)]) [] _ [(.slice none 0 0), (.slice none 0 0), (.slice none 0 0), .int .i64 (0), .int .i64 (0), .int .i64 (0)] Tryz.sizeOf74 rfl rfl rfl (ones_cons rfl (ones_cons rfl (ones_cons rfl (ones_cons rfl (ones_cons rfl (ones_cons rfl ones_nil)))))) rfl rfl rfl ?_)
   refine XL.cons (XOp.assign (.bool (false)) rfl ?_)
   refine XL.nil ?_
   refine X.ret (thenQ_ret (retEnd (L' := L) [.agg #[(.slice none 0 0), (.slice none 0 0), (.slice none 0 0), .int .i64 (0), .int .i64 (0), .int .i64 (0)], .bool (false)] (.tuple #[.agg #[(.slice none 0 0), (.slice none 0 0), (.slice none 0 0), .int .i64 (0), .int .i64 (0), .int .i64 (0)], .bool (false)]) (.cell rfl (loadNV [(.slice none 0 0), (.slice none 0 0), (.slice none 0 0), .int .i64 (0), .int .i64 (0), .int .i64 (0)] Tryz.isAgg74 Tryz.sizeOf74 rfl (Rd.ownN [] rfl rfl)) (.tmp rfl .nil)) rfl (FLe.trans (FLe.trans le1 le2) le3) (FLe.refl _) (Sub.drop (Sub.drop (Sub.drop (Sub.drop (Sub.refl _))))) ?_))
   have e : peakUL ar rs tp lf rt a u o s = ([], [], [], (0, 0, 0), false) := peakUL_no (fun h => by obtain ⟨h1, h2, h3, h4, h5⟩ := h; simp_all)
   exact ⟨_, _, _, by rw [e], by rw [e]; exact IntsF.nilV, by rw [e]; exact IntsF.nilV, by rw [e]; exact IntsF.nilV, rfl⟩
  ·rw [Bool.not_eq_true] at h2
   refine XL.yes (t := 48) rfl (congrArg Value.bool h2) (XOp.move (.bool ((filledL ar s lf).isSome)) rfl ?_)
   refine XL.yes (t := 48) rfl (congrArg Value.bool h2) (XOp.notB (b := (filledL ar s lf).isSome) rfl ?_)
   refine XL.cons (XOp.pickF (.bool (!((filledL ar s lf).isSome))) (congrArg Value.bool h2) rfl ?_)
   refine XL.cons (XOp.move (.bool (!((filledL ar s lf).isSome))) rfl ?_)
   by_cases h3 : (!((filledL ar s lf).isSome)) = true
   ·refine XL.no (t := 52) rfl (congrArg Value.bool h3) ?_
    refine XL.no (t := 52) rfl (congrArg Value.bool h3) ?_
    refine XL.cons (XOp.pickT (.bool (true)) (congrArg Value.bool h3) rfl ?_)
    refine XL.nil ?_
    refine X.condT rfl ?_
    refine X.seq ?_
    refine X.region ?_
    refine XL.cons (XOp.build [(.slice none 0 0), (.slice none 0 0), (.slice none 0 0), .int .i64 (0), .int .i64 (0), .int .i64 (0)] [(.slice none 0 0), (.slice none 0 0), (.slice none 0 0), .int .i64 (0), .int .i64 (0), .int .i64 (0)] [(0, 1), (1, 1), (2, 1), (3, 1), (4, 1), (5, 1)] [] Tryz.runUnderlying74 Tryz.zeroValue74 rfl (.cons rfl Tryz.sizeOf22 (.cons rfl Tryz.sizeOf22 (.cons rfl Tryz.sizeOf22 (.cons rfl Tryz.sizeOf2 (.cons rfl Tryz.sizeOf2 (.cons rfl Tryz.sizeOf2 PlacesAre.nil)))))) rfl CellsAre.nil ?_)
    refine XL.cons (XOp.storeN (vs := [(.slice none 0 0), (.slice none 0 0), (.slice none 0 0), .int .i64 (0), .int .i64 (0), .int .i64 (0)]) [] _ [(.slice none 0 0), (.slice none 0 0), (.slice none 0 0), .int .i64 (0), .int .i64 (0), .int .i64 (0)] Tryz.sizeOf74 rfl rfl rfl (ones_cons rfl (ones_cons rfl (ones_cons rfl (ones_cons rfl (ones_cons rfl (ones_cons rfl ones_nil)))))) rfl rfl rfl ?_)
    refine XL.cons (XOp.assign (.bool (false)) rfl ?_)
    refine XL.nil ?_
    refine X.ret (thenQ_ret (retEnd (L' := L) [.agg #[(.slice none 0 0), (.slice none 0 0), (.slice none 0 0), .int .i64 (0), .int .i64 (0), .int .i64 (0)], .bool (false)] (.tuple #[.agg #[(.slice none 0 0), (.slice none 0 0), (.slice none 0 0), .int .i64 (0), .int .i64 (0), .int .i64 (0)], .bool (false)]) (.cell rfl (loadNV [(.slice none 0 0), (.slice none 0 0), (.slice none 0 0), .int .i64 (0), .int .i64 (0), .int .i64 (0)] Tryz.isAgg74 Tryz.sizeOf74 rfl (Rd.ownN [] rfl rfl)) (.tmp rfl .nil)) rfl (FLe.trans (FLe.trans le1 le2) le3) (FLe.refl _) (Sub.drop (Sub.drop (Sub.drop (Sub.drop (Sub.refl _))))) ?_))
    have e : peakUL ar rs tp lf rt a u o s = ([], [], [], (0, 0, 0), false) := peakUL_no (fun h => by obtain ⟨h1, h2, h3, h4, h5⟩ := h; simp_all)
    exact ⟨_, _, _, by rw [e], by rw [e]; exact IntsF.nilV, by rw [e]; exact IntsF.nilV, by rw [e]; exact IntsF.nilV, rfl⟩
   ·rw [Bool.not_eq_true] at h3
    refine XL.yes (t := 52) rfl (congrArg Value.bool h3) (XOp.move (.bool ((filledL ar s rt).isSome)) rfl ?_)
    refine XL.yes (t := 52) rfl (congrArg Value.bool h3) (XOp.notB (b := (filledL ar s rt).isSome) rfl ?_)
    refine XL.cons (XOp.pickF (.bool (!((filledL ar s rt).isSome))) (congrArg Value.bool h3) rfl ?_)
    refine XL.nil ?_
    refine X.cond (t := !((filledL ar s rt).isSome)) rfl (fun h4 => ?_) (fun h4 => ?_)
    ·refine X.seq ?_
     refine X.region ?_
     refine XL.cons (XOp.build [(.slice none 0 0), (.slice none 0 0), (.slice none 0 0), .int .i64 (0), .int .i64 (0), .int .i64 (0)] [(.slice none 0 0), (.slice none 0 0), (.slice none 0 0), .int .i64 (0), .int .i64 (0), .int .i64 (0)] [(0, 1), (1, 1), (2, 1), (3, 1), (4, 1), (5, 1)] [] Tryz.runUnderlying74 Tryz.zeroValue74 rfl (.cons rfl Tryz.sizeOf22 (.cons rfl Tryz.sizeOf22 (.cons rfl Tryz.sizeOf22 (.cons rfl Tryz.sizeOf2 (.cons rfl Tryz.sizeOf2 (.cons rfl Tryz.sizeOf2 PlacesAre.nil)))))) rfl CellsAre.nil ?_)
     refine XL.cons (XOp.storeN (vs := [(.slice none 0 0), (.slice none 0 0), (.slice none 0 0), .int .i64 (0), .int .i64 (0), .int .i64 (0)]) [] _ [(.slice none 0 0), (.slice none 0 0), (.slice none 0 0), .int .i64 (0), .int .i64 (0), .int .i64 (0)] Tryz.sizeOf74 rfl rfl rfl (ones_cons rfl (ones_cons rfl (ones_cons rfl (ones_cons rfl (ones_cons rfl (ones_cons rfl ones_nil)))))) rfl rfl rfl ?_)
     refine XL.cons (XOp.assign (.bool (false)) rfl ?_)
     refine XL.nil ?_
     refine X.ret (thenQ_ret (retEnd (L' := L) [.agg #[(.slice none 0 0), (.slice none 0 0), (.slice none 0 0), .int .i64 (0), .int .i64 (0), .int .i64 (0)], .bool (false)] (.tuple #[.agg #[(.slice none 0 0), (.slice none 0 0), (.slice none 0 0), .int .i64 (0), .int .i64 (0), .int .i64 (0)], .bool (false)]) (.cell rfl (loadNV [(.slice none 0 0), (.slice none 0 0), (.slice none 0 0), .int .i64 (0), .int .i64 (0), .int .i64 (0)] Tryz.isAgg74 Tryz.sizeOf74 rfl (Rd.ownN [] rfl rfl)) (.tmp rfl .nil)) rfl (FLe.trans (FLe.trans le1 le2) le3) (FLe.refl _) (Sub.drop (Sub.drop (Sub.drop (Sub.drop (Sub.refl _))))) ?_))
     have e : peakUL ar rs tp lf rt a u o s = ([], [], [], (0, 0, 0), false) := peakUL_no (fun h => by obtain ⟨h1, h2, h3, h4, h5⟩ := h; simp_all)
     exact ⟨_, _, _, by rw [e], by rw [e]; exact IntsF.nilV, by rw [e]; exact IntsF.nilV, by rw [e]; exact IntsF.nilV, rfl⟩
    ·refine X.skip ?_
     refine X.seq ?_
     refine X.region ?_
     refine XL.cons (XOp.move (x1) rfl ?_)
     refine XL.cons (XOp.move (x2) rfl ?_)
     refine XL.cons (XOp.move (x3) rfl ?_)
     refine XL.cons (XOp.fieldP (b := b2) (3) Tryz.runUnderlying74 rfl Tryz.sizeOf2 (by decide) rfl rfl ?_)
     refine XL.cons (XOp.load1 (v := .int .i64 (a)) Tryz.isAgg2 rfl (Rd.own [_, _] rfl rfl) ?_)
     refine XL.cons (XOp.fieldP (b := b2) (4) Tryz.runUnderlying74 rfl Tryz.sizeOf2 (by decide) rfl rfl ?_)
     refine XL.cons (XOp.load1 (v := .int .i64 (u)) Tryz.isAgg2 rfl (Rd.own [_, _] rfl rfl) ?_)
     refine XL.cons (XOp.fieldP (b := b2) (5) Tryz.runUnderlying74 rfl Tryz.sizeOf2 (by decide) rfl rfl ?_)
     refine XL.cons (XOp.load1 (v := .int .i64 (o)) Tryz.isAgg2 rfl (Rd.own [_, _] rfl rfl) ?_)
     refine XL.cons (XOp.build [x1, x2, x3, .int .i64 (a), .int .i64 (u), .int .i64 (o)] [(.slice none 0 0), (.slice none 0 0), (.slice none 0 0), .int .i64 (0), .int .i64 (0), .int .i64 (0)] [(0, 1), (1, 1), (2, 1), (3, 1), (4, 1), (5, 1)] [(0, [x1]), (1, [x2]), (2, [x3]), (3, [.int .i64 (a)]), (4, [.int .i64 (u)]), (5, [.int .i64 (o)])] Tryz.runUnderlying74 Tryz.zeroValue74 rfl (.cons rfl Tryz.sizeOf22 (.cons rfl Tryz.sizeOf22 (.cons rfl Tryz.sizeOf22 (.cons rfl Tryz.sizeOf2 (.cons rfl Tryz.sizeOf2 (.cons rfl Tryz.sizeOf2 PlacesAre.nil)))))) rfl (.cons (cells_one (IntsF.isSl hr1)) (.cons (cells_one (IntsF.isSl hr2)) (.cons (cells_one (IntsF.isSl hr3)) (.cons rfl (.cons rfl (.cons rfl CellsAre.nil)))))) ?_)
     refine XL.cons (XOp.storeN (vs := [x1, x2, x3, .int .i64 (a), .int .i64 (u), .int .i64 (o)]) [] _ [x1, x2, x3, .int .i64 (a), .int .i64 (u), .int .i64 (o)] Tryz.sizeOf74 rfl rfl rfl (ones_cons (one_sl (IntsF.isSl hr1)) (ones_cons (one_sl (IntsF.isSl hr2)) (ones_cons (one_sl (IntsF.isSl hr3)) (ones_cons rfl (ones_cons rfl (ones_cons rfl ones_nil)))))) rfl rfl rfl ?_)
     refine XL.cons (XOp.assign (.bool (true)) rfl ?_)
     refine XL.nil ?_
     refine X.ret (retEnd (L' := L) [.agg #[x1, x2, x3, .int .i64 (a), .int .i64 (u), .int .i64 (o)], .bool (true)] (.tuple #[.agg #[x1, x2, x3, .int .i64 (a), .int .i64 (u), .int .i64 (o)], .bool (true)]) (.cell rfl (loadNV [x1, x2, x3, .int .i64 (a), .int .i64 (u), .int .i64 (o)] Tryz.isAgg74 Tryz.sizeOf74 rfl (Rd.ownN [] rfl rfl)) (.tmp rfl .nil)) rfl (FLe.trans (FLe.trans le1 le2) le3) (FLe.refl _) (Sub.drop (Sub.drop (Sub.drop (Sub.drop (Sub.refl _))))) ?_)
     have hsk : substOk ar s = true := by
       cases hx : substOk ar s with
       | true => rfl
       | false => (rw [hx] at hft; simp [hft] at *)
     rw [if_pos hsk] at hft hfl hfr
     rw [hft] at *
     rw [hfl] at *
     rw [hfr] at *
     have e := peakUL_yes (ar := ar) (rs := rs) (top := tp) (left := lf) (right := rt) (a := a) (u := u) (o := o) (s := s) ⟨hpk, hsk, by simp_all, by simp_all, by simp_all⟩
     exact ⟨_, _, _, by rw [e], by rw [e]; exact hr1, by rw [e]; exact hr2, by rw [e]; exact hr3, rfl⟩

/- laws.markPeak -/
theorem markPeak_spec {F : FH} {L : List HP} {xv : Value} {x : List Int} {yv : Value} {y : List Int} {wv : Value} {w : List Int} {a : Int} {u : Int} {o : Int} {z : Int} (hz : 0 ≤ z ∧ z + (((x) ++ (y) ++ (w)).length : Int) ≤ 9000000000) :
    Does Tryz.prog 37 [.agg #[xv, yv, wv, .int .i64 (a), .int .i64 (u), .int .i64 (o)], .int .i64 (z)] F (intsH 2 xv x :: intsH 2 yv y :: intsH 2 wv w :: L) (fun v F' L' => ∃ x' : List Int, ∃ y' : List Int, ∃ w' : List Int, ((x') ++ (y') ++ (w')) = iota z ((x) ++ (y) ++ (w)).length ∧ (.int .i64 (z + (((x) ++ (y) ++ (w)).length : Int)) : Value) = v ∧ F = F' ∧ intsH 2 xv x' :: intsH 2 yv y' :: intsH 2 wv w' :: L = L') := by
 refine Does.of_X Tryz.func37 rfl rfl rfl ?_
 have hlx : (x ++ y ++ w).length = x.length + y.length + w.length := by rw [List.length_append, List.length_append]
 refine X.seq ?_
 refine X.region ?_
 refine XL.cons (XOp.box [xv, yv, wv, .int .i64 (a), .int .i64 (u), .int .i64 (o)] rfl rfl ?_)
 intro b1
 refine XL.cons (XOp.assign (.int .i64 (0)) rfl ?_)
 refine XL.nil ?_
 refine X.seq ?_
 refine X.region ?_
 refine XL.cons (XOp.fieldP (b := b1) (0) Tryz.runUnderlying74 rfl Tryz.sizeOf22 (by decide) rfl rfl ?_)
 refine XL.cons (XOp.load1 (v := xv) Tryz.isAgg22 rfl (Rd.own [] rfl rfl) ?_)
 refine XL.cons (XOp.move (.int .i64 (z)) rfl ?_)
 refine XL.weaken (Sub.front (A := [_])) ?_
 show XL _ _ _ _ _ _ _ (intsH 2 xv x :: cellsH b1 [xv, yv, wv, .int .i64 (a), .int .i64 (u), .int .i64 (o)] 74 :: intsH 2 yv y :: intsH 2 wv w :: L)
 refine XL.cons (XOp.call (args := [xv, .int .i64 (z)]) Tryz.call26 rfl (markInt64S_spec (by omega)) ?_)
 rintro _ _ _ _ ⟨m1, hm1, rfl, rfl, rfl⟩
 have hml1 := congrArg List.length hm1
 rw [iota_len] at hml1
 try simp only [List.length_append] at hml1
 refine XL.cons (XOp.assign (.int .i64 (z + (((x)).length : Int))) rfl ?_)
 refine XL.nil ?_
 refine X.seq ?_
 refine X.region ?_
 refine XL.cons (XOp.fieldP (b := b1) (1) Tryz.runUnderlying74 rfl Tryz.sizeOf22 (by decide) rfl rfl ?_)
 refine XL.cons (XOp.load1 (v := yv) Tryz.isAgg22 rfl (Rd.own [_] rfl rfl) ?_)
 refine XL.cons (XOp.move (.int .i64 (z + (((x)).length : Int))) rfl ?_)
 refine XL.weaken (Sub.front (A := [_, _])) ?_
 show XL _ _ _ _ _ _ _ (intsH 2 yv y :: intsH 2 xv m1 :: cellsH b1 [xv, yv, wv, .int .i64 (a), .int .i64 (u), .int .i64 (o)] 74 :: intsH 2 wv w :: L)
 refine XL.cons (XOp.call (args := [yv, .int .i64 (z + (((x)).length : Int))]) Tryz.call26 rfl (markInt64S_spec (by omega)) ?_)
 rintro _ _ _ _ ⟨m2, hm2, rfl, rfl, rfl⟩
 have hml2 := congrArg List.length hm2
 rw [iota_len] at hml2
 try simp only [List.length_append] at hml2
 refine XL.cons (XOp.assign (.int .i64 ((z + (((x)).length : Int)) + (((y)).length : Int))) rfl ?_)
 refine XL.nil ?_
 refine X.seq ?_
 refine X.region ?_
 refine XL.cons (XOp.fieldP (b := b1) (2) Tryz.runUnderlying74 rfl Tryz.sizeOf22 (by decide) rfl rfl ?_)
 refine XL.cons (XOp.load1 (v := wv) Tryz.isAgg22 rfl (Rd.own [_, _] rfl rfl) ?_)
 refine XL.cons (XOp.move (.int .i64 ((z + (((x)).length : Int)) + (((y)).length : Int))) rfl ?_)
 refine XL.weaken (Sub.front (A := [_, _, _])) ?_
 show XL _ _ _ _ _ _ _ (intsH 2 wv w :: intsH 2 yv m2 :: intsH 2 xv m1 :: cellsH b1 [xv, yv, wv, .int .i64 (a), .int .i64 (u), .int .i64 (o)] 74 :: L)
 refine XL.cons (XOp.call (args := [wv, .int .i64 ((z + (((x)).length : Int)) + (((y)).length : Int))]) Tryz.call26 rfl (markInt64S_spec (by omega)) ?_)
 rintro _ _ _ _ ⟨m3, hm3, rfl, rfl, rfl⟩
 have hml3 := congrArg List.length hm3
 rw [iota_len] at hml3
 try simp only [List.length_append] at hml3
 refine XL.cons (XOp.assign (.int .i64 (((z + (((x)).length : Int)) + (((y)).length : Int)) + (((w)).length : Int))) rfl ?_)
 refine XL.nil ?_
 refine X.seq ?_
 refine X.region ?_
 refine XL.cons (XOp.move (.int .i64 (((z + (((x)).length : Int)) + (((y)).length : Int)) + (((w)).length : Int))) rfl ?_)
 refine XL.cons (XOp.assign (.int .i64 (((z + (((x)).length : Int)) + (((y)).length : Int)) + (((w)).length : Int))) rfl ?_)
 refine XL.nil ?_
 refine X.ret (retEnd (L' := intsH 2 xv m1 :: intsH 2 yv m2 :: intsH 2 wv m3 :: L) [.int .i64 (((z + (((x)).length : Int)) + (((y)).length : Int)) + (((w)).length : Int))] (.int .i64 (((z + (((x)).length : Int)) + (((y)).length : Int)) + (((w)).length : Int))) (.tmp rfl .nil) rfl (FLe.refl _) (FLe.refl _) (Sub.trans (Sub.front (A := [_])) (Sub.trans (Sub.front (A := [_, _])) (Sub.cons (Sub.cons (Sub.cons (Sub.drop (Sub.refl _))))))) ?_)
 exact ⟨m1, m2, m3, by rw [List.length_append, iota_add, List.length_append, iota_add, hm1, hm2, hm3]; first | rfl | (congr 2; omega) | (rw [List.length_append]; congr 2; omega), congrArg (Value.int .i64) (by first | rfl | (simp only [List.length_append]; omega)), rfl, rfl⟩

/- laws.heldPeak -/
theorem heldPeak_spec {F : FH} {L : List HP} {fv : Value} {f : List Int} (hf : IntsF F fv f) {gv : Value} {g : List Int} (hg : IntsF F gv g) {xv : Value} {x : List Int} (hx : IntsF F xv x) {a : Int} {u : Int} {o : Int} {z : Int} (hzb : 0 ≤ z ∧ z + ((f.length + g.length + x.length : Nat) : Int) ≤ 9000000000) :
    Does Tryz.prog 39 [.agg #[fv, gv, xv, .int .i64 (a), .int .i64 (u), .int .i64 (o)], .int .i64 (z)] F (L) (fun v F' L' => (.int .i64 (heldF ((f ++ g) ++ x) z) : Value) = v ∧ F = F' ∧ L = L') := by
 refine Does.of_X Tryz.func39 rfl rfl rfl ?_
 have hh1 := heldF_range (xs := f) hzb.1
 have hh2 := fun (h : 0 ≤ heldF f z) => heldF_range (xs := g) h
 refine X.seq ?_
 refine X.region ?_
 refine XL.cons (XOp.box [fv, gv, xv, .int .i64 (a), .int .i64 (u), .int .i64 (o)] rfl rfl ?_)
 intro b1
 refine XL.cons (XOp.assign (.int .i64 (0)) rfl ?_)
 refine XL.nil ?_
 refine X.seq ?_
 refine X.region ?_
 refine XL.cons (XOp.fieldP (b := b1) (0) Tryz.runUnderlying74 rfl Tryz.sizeOf22 (by decide) rfl rfl ?_)
 refine XL.cons (XOp.load1 (v := fv) Tryz.isAgg22 rfl (Rd.own [] rfl rfl) ?_)
 refine XL.cons (XOp.move (.int .i64 (z)) rfl ?_)
 refine XL.cons (XOp.call (args := [fv, .int .i64 (z)]) Tryz.call27 rfl (heldInt64S_spec (z := z) hf (hzb := (by first | assumption | rfl | omega | (left; simp; done) | (right; simp; done)))) ?_)
 rintro _ _ _ _ ⟨rfl, rfl, rfl⟩
 refine XL.cons (XOp.assign (.int .i64 (heldF f z)) rfl ?_)
 refine XL.nil ?_
 refine X.seq ?_
 refine X.seq ?_
 refine X.region ?_
 refine XL.cons (XOp.move (.int .i64 (heldF f z)) rfl ?_)
 refine XL.cons (XOp.lss (a := heldF f z) (b := 0) rfl rfl ?_)
 refine XL.nil ?_
 refine X.condD (p := (heldF f z : Int) < 0) rfl (fun h1 => ?_) (fun h1 => ?_)
 ·refine X.seq ?_
  refine X.region ?_
  refine XL.cons (XOp.assign (.int .i64 (-1)) rfl ?_)
  refine XL.nil ?_
  refine X.ret (thenQ_ret (retEnd (L' := L) [.int .i64 (-1)] (.int .i64 (-1)) (.tmp rfl .nil) rfl (FLe.refl _) (FLe.refl _) (Sub.drop (Sub.refl _)) ?_))
  exact ⟨(congrArg (Value.int .i64) (by rw [heldF_append (by omega), heldF_append (by omega)]; have h9 := fun (h : 0 ≤ heldF f z) (h2 : 0 ≤ heldF g (heldF f z)) => heldF_range (xs := x) h2; (repeat' split) <;> first | rfl | omega)), rfl, rfl⟩
 ·refine X.skip ?_
  refine X.seq ?_
  refine X.region ?_
  refine XL.cons (XOp.fieldP (b := b1) (1) Tryz.runUnderlying74 rfl Tryz.sizeOf22 (by decide) rfl rfl ?_)
  refine XL.cons (XOp.load1 (v := gv) Tryz.isAgg22 rfl (Rd.own [] rfl rfl) ?_)
  refine XL.cons (XOp.move (.int .i64 (heldF f z)) rfl ?_)
  refine XL.cons (XOp.call (args := [gv, .int .i64 (heldF f z)]) Tryz.call27 rfl (heldInt64S_spec (z := heldF f z) hg (hzb := (by first | assumption | rfl | omega | (left; simp; done) | (right; simp; done)))) ?_)
  rintro _ _ _ _ ⟨rfl, rfl, rfl⟩
  refine XL.cons (XOp.assign (.int .i64 (heldF g (heldF f z))) rfl ?_)
  refine XL.nil ?_
  refine X.seq ?_
  refine X.seq ?_
  refine X.region ?_
  refine XL.cons (XOp.move (.int .i64 (heldF g (heldF f z))) rfl ?_)
  refine XL.cons (XOp.lss (a := heldF g (heldF f z)) (b := 0) rfl rfl ?_)
  refine XL.nil ?_
  refine X.condD (p := (heldF g (heldF f z) : Int) < 0) rfl (fun h2 => ?_) (fun h2 => ?_)
  ·refine X.seq ?_
   refine X.region ?_
   refine XL.cons (XOp.assign (.int .i64 (-1)) rfl ?_)
   refine XL.nil ?_
   refine X.ret (thenQ_ret (retEnd (L' := L) [.int .i64 (-1)] (.int .i64 (-1)) (.tmp rfl .nil) rfl (FLe.refl _) (FLe.refl _) (Sub.drop (Sub.refl _)) ?_))
   exact ⟨(congrArg (Value.int .i64) (by rw [heldF_append (by omega), heldF_append (by omega)]; have h9 := fun (h : 0 ≤ heldF f z) (h2 : 0 ≤ heldF g (heldF f z)) => heldF_range (xs := x) h2; (repeat' split) <;> first | rfl | omega)), rfl, rfl⟩
  ·refine X.skip ?_
   refine X.seq ?_
   refine X.region ?_
   refine XL.cons (XOp.fieldP (b := b1) (2) Tryz.runUnderlying74 rfl Tryz.sizeOf22 (by decide) rfl rfl ?_)
   refine XL.cons (XOp.load1 (v := xv) Tryz.isAgg22 rfl (Rd.own [] rfl rfl) ?_)
   refine XL.cons (XOp.move (.int .i64 (heldF g (heldF f z))) rfl ?_)
   refine XL.cons (XOp.call (args := [xv, .int .i64 (heldF g (heldF f z))]) Tryz.call27 rfl (heldInt64S_spec (z := heldF g (heldF f z)) hx (hzb := (by first | assumption | rfl | omega | (left; simp; done) | (right; simp; done)))) ?_)
   rintro _ _ _ _ ⟨rfl, rfl, rfl⟩
   refine XL.cons (XOp.assign (.int .i64 (heldF x (heldF g (heldF f z)))) rfl ?_)
   refine XL.nil ?_
   refine X.seq ?_
   refine X.seq ?_
   refine X.region ?_
   refine XL.cons (XOp.move (.int .i64 (heldF x (heldF g (heldF f z)))) rfl ?_)
   refine XL.cons (XOp.lss (a := heldF x (heldF g (heldF f z))) (b := 0) rfl rfl ?_)
   refine XL.nil ?_
   refine X.condD (p := (heldF x (heldF g (heldF f z)) : Int) < 0) rfl (fun h3 => ?_) (fun h3 => ?_)
   ·refine X.seq ?_
    refine X.region ?_
    refine XL.cons (XOp.assign (.int .i64 (-1)) rfl ?_)
    refine XL.nil ?_
    refine X.ret (thenQ_ret (retEnd (L' := L) [.int .i64 (-1)] (.int .i64 (-1)) (.tmp rfl .nil) rfl (FLe.refl _) (FLe.refl _) (Sub.drop (Sub.refl _)) ?_))
    exact ⟨(congrArg (Value.int .i64) (by rw [heldF_append (by omega), heldF_append (by omega)]; have h9 := fun (h : 0 ≤ heldF f z) (h2 : 0 ≤ heldF g (heldF f z)) => heldF_range (xs := x) h2; (repeat' split) <;> first | rfl | omega)), rfl, rfl⟩
   ·refine X.skip ?_
    refine X.seq ?_
    refine X.region ?_
    refine XL.cons (XOp.move (.int .i64 (heldF x (heldF g (heldF f z)))) rfl ?_)
    refine XL.cons (XOp.assign (.int .i64 (heldF x (heldF g (heldF f z)))) rfl ?_)
    refine XL.nil ?_
    refine X.ret (retEnd (L' := L) [.int .i64 (heldF x (heldF g (heldF f z)))] (.int .i64 (heldF x (heldF g (heldF f z)))) (.tmp rfl .nil) rfl (FLe.refl _) (FLe.refl _) (Sub.drop (Sub.refl _)) ?_)
    exact ⟨(congrArg (Value.int .i64) (by rw [heldF_append (by omega), heldF_append (by omega)]; have h9 := fun (h : 0 ≤ heldF f z) (h2 : 0 ≤ heldF g (heldF f z)) => heldF_range (xs := x) h2; (repeat' split) <;> first | rfl | omega)), rfl, rfl⟩

/- laws.FnExactPeakUnder -/
set_option maxRecDepth 20000 in
theorem FnExactPeakUnder_does {F : FH} {L : List HP} {arv : Value} {ar : List Int} (har : IntsF F arv ar) {rsv : Value} {rs : List (List Int × List Int)} (hrs : PairsF F rsv rs) {tpv : Value} {tp : List Int} (htp : IntsF F tpv tp) {lfv : Value} {lf : List Int} (hlf : IntsF F lfv lf) {rtv : Value} {rt : List Int} (hrt : IntsF F rtv rt) {a : Int} {u : Int} {o : Int} {sv : Value} {s : List (List Int)} (hs : RowsF F sv s) (hlar : ar.length ≤ 9223372036854775807) (hlrs : rs.length ≤ 9223372036854775807) (hbrs : ∀ i, i < rs.length → (rs.getD i ([], [])).1.length ≤ 9223372036854775807 ∧ (rs.getD i ([], [])).2.length ≤ 9223372036854775807) (hltp : tp.length ≤ 9223372036854775807) (hllf : lf.length ≤ 9223372036854775807) (hlrt : rt.length ≤ 9223372036854775807) (hls : s.length ≤ 9223372036854775807) (hbs : ∀ i, i < s.length → (s.getD i []).length ≤ 9223372036854775807) :
    Does Tryz.prog 5 [.agg #[arv, rsv], .agg #[tpv, lfv, rtv, .int .i64 (a), .int .i64 (u), .int .i64 (o)], .agg #[sv]] F (L) (fun v F' L' => (.bool (true) : Value) = v ∧ F = F' ∧ L = L') := by
 refine Does.of_X Tryz.func5 rfl rfl rfl ?_
 have hnc := peakUL_bounds (ar := ar) (rs := rs) (top := tp) (left := lf) (right := rt) (a := a) (u := u) (o := o) (s := s)
 have hnd := hnc.2.1
 have hne := hnc.2.2
 refine X.seq ?_
 refine X.region ?_
 refine XL.cons (XOp.box [arv, rsv] rfl rfl ?_)
 intro b1
 refine XL.cons (XOp.box [tpv, lfv, rtv, .int .i64 (a), .int .i64 (u), .int .i64 (o)] rfl rfl ?_)
 intro b2
 refine XL.cons (XOp.box [sv] rfl rfl ?_)
 intro b3
 refine XL.cons (XOp.assign (.bool (false)) rfl ?_)
 refine XL.nil ?_
 refine X.seq ?_
 refine X.region ?_
 refine XL.cons (XOp.assign (.int .i64 (1048576)) rfl ?_)
 refine XL.nil ?_
 refine X.seq ?_
 refine X.region ?_
 refine XL.cons (XOp.loadN [arv, rsv] Tryz.isAgg27 Tryz.sizeOf27 rfl rfl (Rd.ownN [_, _] rfl rfl) ?_)
 refine XL.cons (XOp.move (.int .i64 (1048576)) rfl ?_)
 refine XL.cons (XOp.call (args := [.agg #[arv, rsv], .int .i64 (1048576)]) Tryz.call7 rfl (szSystem_spec (z := 1048576) har hrs (hz := (by first | assumption | rfl | omega | (left; simp; done) | (right; simp; done))) (hal := (by first | assumption | rfl | omega | (left; simp; done) | (right; simp; done))) (hrl := (by first | assumption | rfl | omega | (left; simp; done) | (right; simp; done))) (hrb := (by first | assumption | rfl | omega | (left; simp; done) | (right; simp; done)))) ?_)
 rintro _ _ _ _ ⟨rfl, rfl, rfl⟩
 refine XL.cons (XOp.assign (.int .i64 (dec 1048576 (ar.length + szR rs))) rfl ?_)
 refine XL.nil ?_
 refine X.seq ?_
 refine X.seq ?_
 refine X.region ?_
 refine XL.cons (XOp.move (.int .i64 (dec 1048576 (ar.length + szR rs))) rfl ?_)
 refine XL.cons (XOp.lss (a := dec 1048576 (ar.length + szR rs)) (b := 0) rfl rfl ?_)
 refine XL.nil ?_
 refine X.condD (p := (dec 1048576 (ar.length + szR rs) : Int) < 0) rfl (fun h1 => ?_) (fun h1 => ?_)
 ·refine X.seq ?_
  refine X.region ?_
  refine XL.cons (XOp.assign (.bool (true)) rfl ?_)
  refine XL.nil ?_
  refine X.ret (thenQ_ret (retEnd (L' := L) [.bool (true)] (.bool (true)) (.tmp rfl .nil) rfl (FLe.refl _) (FLe.refl _) (Sub.drop (Sub.drop (Sub.drop (Sub.refl _)))) ?_))
  exact ⟨rfl, rfl, rfl⟩
 ·have hd1 := dec_le2 h1 (by omega)
  have hzrs := szR_le (rs := rs)
  have hirs := hzrs.2
  have hcrs : ∀ i, i < rs.length → (rs.getD i ([], [])).1.length ≤ 4000000 ∧ (rs.getD i ([], [])).2.length ≤ 4000000 := fun i hi => by have := hirs i hi; omega
  have hfrs := flatPair_len rs
  refine X.skip ?_
  refine X.seq ?_
  refine X.region ?_
  refine XL.cons (XOp.loadN [tpv, lfv, rtv, .int .i64 (a), .int .i64 (u), .int .i64 (o)] Tryz.isAgg68 Tryz.sizeOf68 rfl rfl (Rd.ownN [_] rfl rfl) ?_)
  refine XL.cons (XOp.move (.int .i64 (dec 1048576 (ar.length + szR rs))) rfl ?_)
  refine XL.cons (XOp.call (args := [.agg #[tpv, lfv, rtv, .int .i64 (a), .int .i64 (u), .int .i64 (o)], .int .i64 (dec 1048576 (ar.length + szR rs))]) Tryz.call28 rfl (szPeak_spec (z := dec 1048576 (ar.length + szR rs)) htp hlf hrt (hz := (by first | assumption | rfl | omega | (left; simp; done) | (right; simp; done))) (htl := (by first | assumption | rfl | omega | (left; simp; done) | (right; simp; done))) (hll := (by first | assumption | rfl | omega | (left; simp; done) | (right; simp; done))) (hrl := (by first | assumption | rfl | omega | (left; simp; done) | (right; simp; done)))) ?_)
  rintro _ _ _ _ ⟨rfl, rfl, rfl⟩
  refine XL.cons (XOp.assign (.int .i64 (dec (dec 1048576 (ar.length + szR rs)) ((tp.length + lf.length) + rt.length))) rfl ?_)
  refine XL.nil ?_
  refine X.seq ?_
  refine X.seq ?_
  refine X.region ?_
  refine XL.cons (XOp.move (.int .i64 (dec (dec 1048576 (ar.length + szR rs)) ((tp.length + lf.length) + rt.length))) rfl ?_)
  refine XL.cons (XOp.lss (a := dec (dec 1048576 (ar.length + szR rs)) ((tp.length + lf.length) + rt.length)) (b := 0) rfl rfl ?_)
  refine XL.nil ?_
  refine X.condD (p := (dec (dec 1048576 (ar.length + szR rs)) ((tp.length + lf.length) + rt.length) : Int) < 0) rfl (fun h2 => ?_) (fun h2 => ?_)
  ·refine X.seq ?_
   refine X.region ?_
   refine XL.cons (XOp.assign (.bool (true)) rfl ?_)
   refine XL.nil ?_
   refine X.ret (thenQ_ret (retEnd (L' := L) [.bool (true)] (.bool (true)) (.tmp rfl .nil) rfl (FLe.refl _) (FLe.refl _) (Sub.drop (Sub.drop (Sub.drop (Sub.refl _)))) ?_))
   exact ⟨rfl, rfl, rfl⟩
  ·have hd2 := dec_le2 h2 (by omega)
   refine X.skip ?_
   refine X.seq ?_
   refine X.region ?_
   refine XL.cons (XOp.loadN [sv] Tryz.isAgg71 Tryz.sizeOf71 rfl rfl (Rd.ownN [] rfl rfl) ?_)
   refine XL.cons (XOp.move (.int .i64 (dec (dec 1048576 (ar.length + szR rs)) ((tp.length + lf.length) + rt.length))) rfl ?_)
   refine XL.cons (XOp.call (args := [.agg #[sv], .int .i64 (dec (dec 1048576 (ar.length + szR rs)) ((tp.length + lf.length) + rt.length))]) Tryz.call29 rfl (szSubst_spec (z := dec (dec 1048576 (ar.length + szR rs)) ((tp.length + lf.length) + rt.length)) hs (hz := (by first | assumption | rfl | omega | (left; simp; done) | (right; simp; done))) (hrl := (by first | assumption | rfl | omega | (left; simp; done) | (right; simp; done))) (hrb := (by first | assumption | rfl | omega | (left; simp; done) | (right; simp; done)))) ?_)
   rintro _ _ _ _ ⟨rfl, rfl, rfl⟩
   refine XL.cons (XOp.assign (.int .i64 (dec (dec (dec 1048576 (ar.length + szR rs)) ((tp.length + lf.length) + rt.length)) (szG lenR s))) rfl ?_)
   refine XL.nil ?_
   refine X.seq ?_
   refine X.seq ?_
   refine X.region ?_
   refine XL.cons (XOp.move (.int .i64 (dec (dec (dec 1048576 (ar.length + szR rs)) ((tp.length + lf.length) + rt.length)) (szG lenR s))) rfl ?_)
   refine XL.cons (XOp.lss (a := dec (dec (dec 1048576 (ar.length + szR rs)) ((tp.length + lf.length) + rt.length)) (szG lenR s)) (b := 0) rfl rfl ?_)
   refine XL.nil ?_
   refine X.condD (p := (dec (dec (dec 1048576 (ar.length + szR rs)) ((tp.length + lf.length) + rt.length)) (szG lenR s) : Int) < 0) rfl (fun h3 => ?_) (fun h3 => ?_)
   ·refine X.seq ?_
    refine X.region ?_
    refine XL.cons (XOp.assign (.bool (true)) rfl ?_)
    refine XL.nil ?_
    refine X.ret (thenQ_ret (retEnd (L' := L) [.bool (true)] (.bool (true)) (.tmp rfl .nil) rfl (FLe.refl _) (FLe.refl _) (Sub.drop (Sub.drop (Sub.drop (Sub.refl _)))) ?_))
    exact ⟨rfl, rfl, rfl⟩
   ·have hd3 := dec_le2 h3 (by omega)
    have hzs := szG_le (f := lenR) (l := s) ([] : List Int)
    have his := hzs.2
    have hcs : ∀ i, i < s.length → (s.getD i []).length ≤ 4000000 := fun i hi => by have h9 := his i hi; have h8 : lenR (s.getD i []) = (s.getD i []).length := rfl; omega
    have hfs := flatRow_len s
    have hq9s : szG lenR s = s.length + gTo lenR s s.length := rfl
    refine X.skip ?_
    refine X.seq ?_
    refine X.drawG [cellsH b3 [sv] 71, cellsH b2 [tpv, lfv, rtv, .int .i64 (a), .int .i64 (u), .int .i64 (o)] 68, cellsH b1 [arv, rsv] 27] L 12 [[], [], [], [], [], [], [], [6], [6], [], [], [6, 10]] [[], [0], [], [2], [], [4], [1, 3, 5], [6], [6, 7], [6, 7], [], [6, 8, 10]] [[], [], [], [], [], [], [], [], [], [], [], [10]] (phiG [fun FF us v => v = (.agg #[arv, rsv] : Value), fun FF us v => (.agg #[((aggAt v 0)), ((aggAt v 1))] : Value) = v ∧ (IntsF FF ((aggAt v 0)) ar) ∧ (PairsF FF ((aggAt v 1)) rs), fun FF us v => v = (.agg #[tpv, lfv, rtv, .int .i64 (a), .int .i64 (u), .int .i64 (o)] : Value), fun FF us v => (.agg #[((aggAt v 0)), ((aggAt v 1)), ((aggAt v 2)), .int .i64 (a), .int .i64 (u), .int .i64 (o)] : Value) = v ∧ (IntsF FF ((aggAt v 0)) tp) ∧ (IntsF FF ((aggAt v 1)) lf) ∧ (IntsF FF ((aggAt v 2)) rt), fun FF us v => v = (.agg #[sv] : Value), fun FF us v => (.agg #[((aggAt v 0))] : Value) = v ∧ (RowsF FF ((aggAt v 0)) s), fun FF us v => (.tuple #[.agg #[((aggAt (tupAt v 0) 0)), ((aggAt (tupAt v 0) 1)), ((aggAt (tupAt v 0) 2)), .int .i64 ((peakUL ar rs tp lf rt a u o s).2.2.2.1.1), .int .i64 ((peakUL ar rs tp lf rt a u o s).2.2.2.1.2.1), .int .i64 ((peakUL ar rs tp lf rt a u o s).2.2.2.1.2.2)], .bool ((peakUL ar rs tp lf rt a u o s).2.2.2.2)] : Value) = v ∧ (IntsF FF ((aggAt (tupAt v 0) 0)) (peakUL ar rs tp lf rt a u o s).1) ∧ (IntsF FF ((aggAt (tupAt v 0) 1)) (peakUL ar rs tp lf rt a u o s).2.1) ∧ (IntsF FF ((aggAt (tupAt v 0) 2)) (peakUL ar rs tp lf rt a u o s).2.2.1), fun FF us v => v = (.tuple #[.agg #[((aggAt (tupAt (us.getD 0 undef) 0) 0)), ((aggAt (tupAt (us.getD 0 undef) 0) 1)), ((aggAt (tupAt (us.getD 0 undef) 0) 2)), .int .i64 ((peakUL ar rs tp lf rt a u o s).2.2.2.1.1), .int .i64 ((peakUL ar rs tp lf rt a u o s).2.2.2.1.2.1), .int .i64 ((peakUL ar rs tp lf rt a u o s).2.2.2.1.2.2)], .bool ((peakUL ar rs tp lf rt a u o s).2.2.2.2)] : Value), fun FF us v => v = (.agg #[((aggAt (tupAt (us.getD 0 undef) 0) 0)), ((aggAt (tupAt (us.getD 0 undef) 0) 1)), ((aggAt (tupAt (us.getD 0 undef) 0) 2)), .int .i64 ((peakUL ar rs tp lf rt a u o s).2.2.2.1.1), .int .i64 ((peakUL ar rs tp lf rt a u o s).2.2.2.1.2.1), .int .i64 ((peakUL ar rs tp lf rt a u o s).2.2.2.1.2.2)] : Value), fun FF us v => v = (.bool ((peakUL ar rs tp lf rt a u o s).2.2.2.2) : Value), fun FF us v => v = ptr (blk v) 0, fun FF us v => True]) (ownL [fun us v => [], fun us v => [], fun us v => [], fun us v => [], fun us v => [], fun us v => [], fun us v => [], fun us v => [], fun us v => [], fun us v => [], fun us v => [cellsH (blk v) [(.slice none 0 0), (.slice none 0 0), (.slice none 0 0), .int .i64 (0), .int .i64 (0), .int .i64 (0)] 74], fun us v => [cellsH (blk (us.getD 1 undef)) [((aggAt (tupAt (us.getD 0 undef) 0) 0)), ((aggAt (tupAt (us.getD 0 undef) 0) 1)), ((aggAt (tupAt (us.getD 0 undef) 0) 2)), .int .i64 ((peakUL ar rs tp lf rt a u o s).2.2.2.1.1), .int .i64 ((peakUL ar rs tp lf rt a u o s).2.2.2.1.2.1), .int .i64 ((peakUL ar rs tp lf rt a u o s).2.2.2.1.2.2)] 74]]) mixed rfl rfl (by kernel_rfl) (by kernel_rfl) (MonoG.get (MonoG.cons (fun le h => h) (MonoG.cons (fun le h => ⟨h.1, h.2.1.mono le, h.2.2.mono le⟩) (MonoG.cons (fun le h => h) (MonoG.cons (fun le h => ⟨h.1, h.2.1.mono le, h.2.2.1.mono le, h.2.2.2.mono le⟩) (MonoG.cons (fun le h => h) (MonoG.cons (fun le h => ⟨h.1, h.2.mono le⟩) (MonoG.cons (fun le h => ⟨h.1, h.2.1.mono le, h.2.2.1.mono le, h.2.2.2.mono le⟩) (MonoG.cons (fun le h => h) (MonoG.cons (fun le h => h) (MonoG.cons (fun le h => h) (MonoG.cons (fun le h => h) (MonoG.cons (fun le h => h) MonoG.nil))))))))))))) ?_ ?_
    ·refine stepsG.cons (fun vals Fs R leFs hpZ => ?_) ?_
     ·replace har := har.mono leFs
      replace hrs := hrs.mono leFs
      replace htp := htp.mono leFs
      replace hlf := hlf.mono leFs
      replace hrt := hrt.mono leFs
      replace hs := hs.mono leFs
      refine XG.op (XOp.loadN [arv, rsv] Tryz.isAgg27 Tryz.sizeOf27 rfl rfl (Rd.ownN [_, _] rfl rfl) ?_)
      exact ⟨rfl, rfl⟩
     refine stepsG.cons (fun vals Fs R leFs hpZ => ?_) ?_
     ·have e0 : vals 0 = (.agg #[arv, rsv] : Value) := hpZ 0 (by decide)
      replace har := har.mono leFs
      replace hrs := hrs.mono leFs
      replace htp := htp.mono leFs
      replace hlf := hlf.mono leFs
      replace hrt := hrt.mono leFs
      replace hs := hs.mono leFs
      rw [(envs_of_sat (l := [(0, (.agg #[arv, rsv] : Value))]) ⟨e0, trivial⟩).symm]
      refine XG.op (XOp.call (args := [.agg #[arv, rsv]]) Tryz.call11 rfl (toSystem_spec har hrs (hla := (by first | assumption | rfl | omega | (left; simp; done) | (right; simp; done))) (hrl := (by first | assumption | rfl | omega | (left; simp; done) | (right; simp; done))) (hrb := (by first | assumption | rfl | omega | (left; simp; done) | (right; simp; done)))) ?_)
      rintro _ F5 _ le5 ⟨x10, x11, rfl, hr13, hr14, hr15, rfl⟩
      replace har := har.mono le5
      replace hrs := hrs.mono le5
      replace htp := htp.mono le5
      replace hlf := hlf.mono le5
      replace hrt := hrt.mono le5
      replace hs := hs.mono le5
      exact ⟨⟨rfl, hr13, hr14⟩, rfl⟩
     refine stepsG.cons (fun vals Fs R leFs hpZ => ?_) ?_
     ·replace har := har.mono leFs
      replace hrs := hrs.mono leFs
      replace htp := htp.mono leFs
      replace hlf := hlf.mono leFs
      replace hrt := hrt.mono leFs
      replace hs := hs.mono leFs
      refine XG.op (XOp.loadN [tpv, lfv, rtv, .int .i64 (a), .int .i64 (u), .int .i64 (o)] Tryz.isAgg68 Tryz.sizeOf68 rfl rfl (Rd.ownN [_] rfl rfl) ?_)
      exact ⟨rfl, rfl⟩
     refine stepsG.cons (fun vals Fs R leFs hpZ => ?_) ?_
     ·have e2 : vals 2 = (.agg #[tpv, lfv, rtv, .int .i64 (a), .int .i64 (u), .int .i64 (o)] : Value) := hpZ 2 (by decide)
      replace har := har.mono leFs
      replace hrs := hrs.mono leFs
      replace htp := htp.mono leFs
      replace hlf := hlf.mono leFs
      replace hrt := hrt.mono leFs
      replace hs := hs.mono leFs
      rw [(envs_of_sat (l := [(2, (.agg #[tpv, lfv, rtv, .int .i64 (a), .int .i64 (u), .int .i64 (o)] : Value))]) ⟨e2, trivial⟩).symm]
      refine XG.op (XOp.call (args := [.agg #[tpv, lfv, rtv, .int .i64 (a), .int .i64 (u), .int .i64 (o)]]) Tryz.call31 rfl (toPeak_spec htp hlf hrt (htl := (by first | assumption | rfl | omega | (left; simp; done) | (right; simp; done))) (hll := (by first | assumption | rfl | omega | (left; simp; done) | (right; simp; done))) (hrl := (by first | assumption | rfl | omega | (left; simp; done) | (right; simp; done)))) ?_)
      rintro _ F6 _ le6 ⟨x12, x13, x14, rfl, hr16, hr17, hr18, hr19, rfl⟩
      replace har := har.mono le6
      replace hrs := hrs.mono le6
      replace htp := htp.mono le6
      replace hlf := hlf.mono le6
      replace hrt := hrt.mono le6
      replace hs := hs.mono le6
      exact ⟨⟨rfl, hr16, hr17, hr18⟩, rfl⟩
     refine stepsG.cons (fun vals Fs R leFs hpZ => ?_) ?_
     ·replace har := har.mono leFs
      replace hrs := hrs.mono leFs
      replace htp := htp.mono leFs
      replace hlf := hlf.mono leFs
      replace hrt := hrt.mono leFs
      replace hs := hs.mono leFs
      refine XG.op (XOp.loadN [sv] Tryz.isAgg71 Tryz.sizeOf71 rfl rfl (Rd.ownN [] rfl rfl) ?_)
      exact ⟨rfl, rfl⟩
     refine stepsG.cons (fun vals Fs R leFs hpZ => ?_) ?_
     ·have e4 : vals 4 = (.agg #[sv] : Value) := hpZ 4 (by decide)
      replace har := har.mono leFs
      replace hrs := hrs.mono leFs
      replace htp := htp.mono leFs
      replace hlf := hlf.mono leFs
      replace hrt := hrt.mono leFs
      replace hs := hs.mono leFs
      rw [(envs_of_sat (l := [(4, (.agg #[sv] : Value))]) ⟨e4, trivial⟩).symm]
      refine XG.op (XOp.call (args := [.agg #[sv]]) Tryz.call32 rfl (toSubst_spec hs (hsl := (by first | assumption | rfl | omega | (left; simp; done) | (right; simp; done))) (hsb := (by first | assumption | rfl | omega | (left; simp; done) | (right; simp; done)))) ?_)
      rintro _ F7 _ le7 ⟨x15, rfl, hr20, hr21, rfl⟩
      replace har := har.mono le7
      replace hrs := hrs.mono le7
      replace htp := htp.mono le7
      replace hlf := hlf.mono le7
      replace hrt := hrt.mono le7
      replace hs := hs.mono le7
      exact ⟨⟨rfl, hr20⟩, rfl⟩
     refine stepsG.cons (fun vals Fs R leFs hpZ => ?_) ?_
     ·obtain ⟨e1, f1_1hr1, f1_1hr2⟩ := hpZ 1 (by decide)
      obtain ⟨e3, f3_1hr1, f3_1hr2, f3_1hr3⟩ := hpZ 3 (by decide)
      obtain ⟨e5, f5_1hr⟩ := hpZ 5 (by decide)
      replace har := har.mono leFs
      replace hrs := hrs.mono leFs
      replace htp := htp.mono leFs
      replace hlf := hlf.mono leFs
      replace hrt := hrt.mono leFs
      replace hs := hs.mono leFs
      rw [(envs_of_sat (l := [(1, (.agg #[((aggAt (vals 1) 0)), ((aggAt (vals 1) 1))] : Value)), (3, (.agg #[((aggAt (vals 3) 0)), ((aggAt (vals 3) 1)), ((aggAt (vals 3) 2)), .int .i64 (a), .int .i64 (u), .int .i64 (o)] : Value)), (5, (.agg #[((aggAt (vals 5) 0))] : Value))]) ⟨(e1).symm, (e3).symm, (e5).symm, trivial⟩).symm]
      refine XG.op (XOp.call (args := [.agg #[((aggAt (vals 1) 0)), ((aggAt (vals 1) 1))], .agg #[((aggAt (vals 3) 0)), ((aggAt (vals 3) 1)), ((aggAt (vals 3) 2)), .int .i64 (a), .int .i64 (u), .int .i64 (o)], .agg #[((aggAt (vals 5) 0))]]) Tryz.call30 rfl (sPeakUnder_spec f1_1hr1 f1_1hr2 f3_1hr1 f3_1hr2 f3_1hr3 f5_1hr (hla := (by first | assumption | rfl | omega | (left; simp; done) | (right; simp; done))) (hlr := (by first | assumption | rfl | omega | (left; simp; done) | (right; simp; done))) (hrb := (by first | assumption | rfl | omega | (left; simp; done) | (right; simp; done))) (hlt0 := (by first | assumption | rfl | omega | (left; simp; done) | (right; simp; done))) (hll0 := (by first | assumption | rfl | omega | (left; simp; done) | (right; simp; done))) (hlr0 := (by first | assumption | rfl | omega | (left; simp; done) | (right; simp; done))) (hlrow := (by first | assumption | rfl | omega | (left; simp; done) | (right; simp; done))) (hrowb := (by first | assumption | rfl | omega | (left; simp; done) | (right; simp; done)))) ?_)
      rintro _ F8 _ le8 ⟨x16, x17, x18, rfl, hr22, hr23, hr24, rfl⟩
      replace har := har.mono le8
      replace hrs := hrs.mono le8
      replace htp := htp.mono le8
      replace hlf := hlf.mono le8
      replace hrt := hrt.mono le8
      replace hs := hs.mono le8
      replace f1_1hr1 := f1_1hr1.mono le8
      replace f1_1hr2 := f1_1hr2.mono le8
      replace f3_1hr1 := f3_1hr1.mono le8
      replace f3_1hr2 := f3_1hr2.mono le8
      replace f3_1hr3 := f3_1hr3.mono le8
      replace f5_1hr := f5_1hr.mono le8
      exact ⟨⟨rfl, hr22, hr23, hr24⟩, rfl⟩
     refine stepsG.cons (fun vals Fs R leFs hpZ => ?_) ?_
     ·obtain ⟨e6, f6_1hr1, f6_1hr2, f6_1hr3⟩ := hpZ 6 (by decide)
      rw [(envs_of_sat (l := [(6, (.tuple #[.agg #[((aggAt (tupAt (vals 6) 0) 0)), ((aggAt (tupAt (vals 6) 0) 1)), ((aggAt (tupAt (vals 6) 0) 2)), .int .i64 ((peakUL ar rs tp lf rt a u o s).2.2.2.1.1), .int .i64 ((peakUL ar rs tp lf rt a u o s).2.2.2.1.2.1), .int .i64 ((peakUL ar rs tp lf rt a u o s).2.2.2.1.2.2)], .bool ((peakUL ar rs tp lf rt a u o s).2.2.2.2)] : Value))]) ⟨(e6).symm, trivial⟩).symm]
      refine XG.op (XOp.move (.tuple #[.agg #[((aggAt (tupAt (vals 6) 0) 0)), ((aggAt (tupAt (vals 6) 0) 1)), ((aggAt (tupAt (vals 6) 0) 2)), .int .i64 ((peakUL ar rs tp lf rt a u o s).2.2.2.1.1), .int .i64 ((peakUL ar rs tp lf rt a u o s).2.2.2.1.2.1), .int .i64 ((peakUL ar rs tp lf rt a u o s).2.2.2.1.2.2)], .bool ((peakUL ar rs tp lf rt a u o s).2.2.2.2)]) rfl ?_)
      exact ⟨rfl, rfl⟩
     refine stepsG.cons (fun vals Fs R leFs hpZ => ?_) ?_
     ·obtain ⟨e6, f6_1hr1, f6_1hr2, f6_1hr3⟩ := hpZ 6 (by decide)
      have e7 : vals 7 = (.tuple #[.agg #[((aggAt (tupAt (vals 6) 0) 0)), ((aggAt (tupAt (vals 6) 0) 1)), ((aggAt (tupAt (vals 6) 0) 2)), .int .i64 ((peakUL ar rs tp lf rt a u o s).2.2.2.1.1), .int .i64 ((peakUL ar rs tp lf rt a u o s).2.2.2.1.2.1), .int .i64 ((peakUL ar rs tp lf rt a u o s).2.2.2.1.2.2)], .bool ((peakUL ar rs tp lf rt a u o s).2.2.2.2)] : Value) := hpZ 7 (by decide)
      rw [(envs_of_sat (l := [(6, (.tuple #[.agg #[((aggAt (tupAt (vals 6) 0) 0)), ((aggAt (tupAt (vals 6) 0) 1)), ((aggAt (tupAt (vals 6) 0) 2)), .int .i64 ((peakUL ar rs tp lf rt a u o s).2.2.2.1.1), .int .i64 ((peakUL ar rs tp lf rt a u o s).2.2.2.1.2.1), .int .i64 ((peakUL ar rs tp lf rt a u o s).2.2.2.1.2.2)], .bool ((peakUL ar rs tp lf rt a u o s).2.2.2.2)] : Value)), (7, (.tuple #[.agg #[((aggAt (tupAt (vals 6) 0) 0)), ((aggAt (tupAt (vals 6) 0) 1)), ((aggAt (tupAt (vals 6) 0) 2)), .int .i64 ((peakUL ar rs tp lf rt a u o s).2.2.2.1.1), .int .i64 ((peakUL ar rs tp lf rt a u o s).2.2.2.1.2.1), .int .i64 ((peakUL ar rs tp lf rt a u o s).2.2.2.1.2.2)], .bool ((peakUL ar rs tp lf rt a u o s).2.2.2.2)] : Value))]) ⟨(e6).symm, e7, trivial⟩).symm]
      refine XG.op (XOp.extract (.agg #[((aggAt (tupAt (vals 6) 0) 0)), ((aggAt (tupAt (vals 6) 0) 1)), ((aggAt (tupAt (vals 6) 0) 2)), .int .i64 ((peakUL ar rs tp lf rt a u o s).2.2.2.1.1), .int .i64 ((peakUL ar rs tp lf rt a u o s).2.2.2.1.2.1), .int .i64 ((peakUL ar rs tp lf rt a u o s).2.2.2.1.2.2)]) rfl rfl ?_)
      exact ⟨rfl, rfl⟩
     refine stepsG.cons (fun vals Fs R leFs hpZ => ?_) ?_
     ·obtain ⟨e6, f6_1hr1, f6_1hr2, f6_1hr3⟩ := hpZ 6 (by decide)
      have e7 : vals 7 = (.tuple #[.agg #[((aggAt (tupAt (vals 6) 0) 0)), ((aggAt (tupAt (vals 6) 0) 1)), ((aggAt (tupAt (vals 6) 0) 2)), .int .i64 ((peakUL ar rs tp lf rt a u o s).2.2.2.1.1), .int .i64 ((peakUL ar rs tp lf rt a u o s).2.2.2.1.2.1), .int .i64 ((peakUL ar rs tp lf rt a u o s).2.2.2.1.2.2)], .bool ((peakUL ar rs tp lf rt a u o s).2.2.2.2)] : Value) := hpZ 7 (by decide)
      rw [(envs_of_sat (l := [(6, (.tuple #[.agg #[((aggAt (tupAt (vals 6) 0) 0)), ((aggAt (tupAt (vals 6) 0) 1)), ((aggAt (tupAt (vals 6) 0) 2)), .int .i64 ((peakUL ar rs tp lf rt a u o s).2.2.2.1.1), .int .i64 ((peakUL ar rs tp lf rt a u o s).2.2.2.1.2.1), .int .i64 ((peakUL ar rs tp lf rt a u o s).2.2.2.1.2.2)], .bool ((peakUL ar rs tp lf rt a u o s).2.2.2.2)] : Value)), (7, (.tuple #[.agg #[((aggAt (tupAt (vals 6) 0) 0)), ((aggAt (tupAt (vals 6) 0) 1)), ((aggAt (tupAt (vals 6) 0) 2)), .int .i64 ((peakUL ar rs tp lf rt a u o s).2.2.2.1.1), .int .i64 ((peakUL ar rs tp lf rt a u o s).2.2.2.1.2.1), .int .i64 ((peakUL ar rs tp lf rt a u o s).2.2.2.1.2.2)], .bool ((peakUL ar rs tp lf rt a u o s).2.2.2.2)] : Value))]) ⟨(e6).symm, e7, trivial⟩).symm]
      refine XG.op (XOp.extract (.bool ((peakUL ar rs tp lf rt a u o s).2.2.2.2)) rfl rfl ?_)
      exact ⟨rfl, rfl⟩
     refine stepsG.cons (fun vals Fs R leFs hpZ => ?_) ?_
     ·replace har := har.mono leFs
      replace hrs := hrs.mono leFs
      replace htp := htp.mono leFs
      replace hlf := hlf.mono leFs
      replace hrt := hrt.mono leFs
      replace hs := hs.mono leFs
      refine XG.op (XOp.alloc [(.slice none 0 0), (.slice none 0 0), (.slice none 0 0), .int .i64 (0), .int .i64 (0), .int .i64 (0)] Tryz.zeroValue74 rfl ?_)
      intro b5
      exact ⟨rfl, rfl⟩
     refine stepsG.cons (fun vals Fs R leFs hpZ => ?_) ?_
     ·obtain ⟨e6, f6_1hr1, f6_1hr2, f6_1hr3⟩ := hpZ 6 (by decide)
      have e8 : vals 8 = (.agg #[((aggAt (tupAt (vals 6) 0) 0)), ((aggAt (tupAt (vals 6) 0) 1)), ((aggAt (tupAt (vals 6) 0) 2)), .int .i64 ((peakUL ar rs tp lf rt a u o s).2.2.2.1.1), .int .i64 ((peakUL ar rs tp lf rt a u o s).2.2.2.1.2.1), .int .i64 ((peakUL ar rs tp lf rt a u o s).2.2.2.1.2.2)] : Value) := hpZ 8 (by decide)
      have e10 : vals 10 = ptr (blk (vals 10)) 0 := hpZ 10 (by decide)
      replace har := har.mono leFs
      replace hrs := hrs.mono leFs
      replace htp := htp.mono leFs
      replace hlf := hlf.mono leFs
      replace hrt := hrt.mono leFs
      replace hs := hs.mono leFs
      rw [(envs_of_sat (l := [(6, (.tuple #[.agg #[((aggAt (tupAt (vals 6) 0) 0)), ((aggAt (tupAt (vals 6) 0) 1)), ((aggAt (tupAt (vals 6) 0) 2)), .int .i64 ((peakUL ar rs tp lf rt a u o s).2.2.2.1.1), .int .i64 ((peakUL ar rs tp lf rt a u o s).2.2.2.1.2.1), .int .i64 ((peakUL ar rs tp lf rt a u o s).2.2.2.1.2.2)], .bool ((peakUL ar rs tp lf rt a u o s).2.2.2.2)] : Value)), (8, (.agg #[((aggAt (tupAt (vals 6) 0) 0)), ((aggAt (tupAt (vals 6) 0) 1)), ((aggAt (tupAt (vals 6) 0) 2)), .int .i64 ((peakUL ar rs tp lf rt a u o s).2.2.2.1.1), .int .i64 ((peakUL ar rs tp lf rt a u o s).2.2.2.1.2.1), .int .i64 ((peakUL ar rs tp lf rt a u o s).2.2.2.1.2.2)] : Value)), (10, ptr (blk (vals 10)) 0)]) ⟨(e6).symm, e8, e10, trivial⟩).symm]
      show XG _ _ _ _ _ (cellsH (blk (vals 10)) [(.slice none 0 0), (.slice none 0 0), (.slice none 0 0), .int .i64 (0), .int .i64 (0), .int .i64 (0)] 74 :: ([cellsH b3 [sv] 71, cellsH b2 [tpv, lfv, rtv, .int .i64 (a), .int .i64 (u), .int .i64 (o)] 68, cellsH b1 [arv, rsv] 27] ++ R)) _
      refine XG.op (XOp.storeN (vs := [((aggAt (tupAt (vals 6) 0) 0)), ((aggAt (tupAt (vals 6) 0) 1)), ((aggAt (tupAt (vals 6) 0) 2)), .int .i64 ((peakUL ar rs tp lf rt a u o s).2.2.2.1.1), .int .i64 ((peakUL ar rs tp lf rt a u o s).2.2.2.1.2.1), .int .i64 ((peakUL ar rs tp lf rt a u o s).2.2.2.1.2.2)]) [] _ [((aggAt (tupAt (vals 6) 0) 0)), ((aggAt (tupAt (vals 6) 0) 1)), ((aggAt (tupAt (vals 6) 0) 2)), .int .i64 ((peakUL ar rs tp lf rt a u o s).2.2.2.1.1), .int .i64 ((peakUL ar rs tp lf rt a u o s).2.2.2.1.2.1), .int .i64 ((peakUL ar rs tp lf rt a u o s).2.2.2.1.2.2)] Tryz.sizeOf74 rfl rfl rfl (ones_cons (one_sl (IntsF.isSl f6_1hr1)) (ones_cons (one_sl (IntsF.isSl f6_1hr2)) (ones_cons (one_sl (IntsF.isSl f6_1hr3)) (ones_cons rfl (ones_cons rfl (ones_cons rfl ones_nil)))))) rfl rfl rfl ?_)
      exact ⟨trivial, rfl⟩
     exact stepsG.nil
    ·intro vals F9 le9 hphi
     have e0 : vals 0 = (.agg #[arv, rsv] : Value) := hphi 0 (by decide)
     obtain ⟨e1, f1_1hr1, f1_1hr2⟩ := hphi 1 (by decide)
     have e2 : vals 2 = (.agg #[tpv, lfv, rtv, .int .i64 (a), .int .i64 (u), .int .i64 (o)] : Value) := hphi 2 (by decide)
     obtain ⟨e3, f3_1hr1, f3_1hr2, f3_1hr3⟩ := hphi 3 (by decide)
     have e4 : vals 4 = (.agg #[sv] : Value) := hphi 4 (by decide)
     obtain ⟨e5, f5_1hr⟩ := hphi 5 (by decide)
     obtain ⟨e6, f6_1hr1, f6_1hr2, f6_1hr3⟩ := hphi 6 (by decide)
     have e7 : vals 7 = (.tuple #[.agg #[((aggAt (tupAt (vals 6) 0) 0)), ((aggAt (tupAt (vals 6) 0) 1)), ((aggAt (tupAt (vals 6) 0) 2)), .int .i64 ((peakUL ar rs tp lf rt a u o s).2.2.2.1.1), .int .i64 ((peakUL ar rs tp lf rt a u o s).2.2.2.1.2.1), .int .i64 ((peakUL ar rs tp lf rt a u o s).2.2.2.1.2.2)], .bool ((peakUL ar rs tp lf rt a u o s).2.2.2.2)] : Value) := hphi 7 (by decide)
     have e8 : vals 8 = (.agg #[((aggAt (tupAt (vals 6) 0) 0)), ((aggAt (tupAt (vals 6) 0) 1)), ((aggAt (tupAt (vals 6) 0) 2)), .int .i64 ((peakUL ar rs tp lf rt a u o s).2.2.2.1.1), .int .i64 ((peakUL ar rs tp lf rt a u o s).2.2.2.1.2.1), .int .i64 ((peakUL ar rs tp lf rt a u o s).2.2.2.1.2.2)] : Value) := hphi 8 (by decide)
     have e9 : vals 9 = (.bool ((peakUL ar rs tp lf rt a u o s).2.2.2.2) : Value) := hphi 9 (by decide)
     have e10 : vals 10 = ptr (blk (vals 10)) 0 := hphi 10 (by decide)
     generalize hu1 : ((aggAt (vals 1) 0)) = u1 at e0 e1 f1_1hr1 f1_1hr2 e2 e3 f3_1hr1 f3_1hr2 f3_1hr3 e4 e5 f5_1hr e6 f6_1hr1 f6_1hr2 f6_1hr3 e7 e8 e9 e10
     generalize hu2 : ((aggAt (vals 1) 1)) = u2 at e0 e1 f1_1hr1 f1_1hr2 e2 e3 f3_1hr1 f3_1hr2 f3_1hr3 e4 e5 f5_1hr e6 f6_1hr1 f6_1hr2 f6_1hr3 e7 e8 e9 e10
     generalize hu3 : ((aggAt (vals 3) 0)) = u3 at e0 e1 f1_1hr1 f1_1hr2 e2 e3 f3_1hr1 f3_1hr2 f3_1hr3 e4 e5 f5_1hr e6 f6_1hr1 f6_1hr2 f6_1hr3 e7 e8 e9 e10
     generalize hu4 : ((aggAt (vals 3) 1)) = u4 at e0 e1 f1_1hr1 f1_1hr2 e2 e3 f3_1hr1 f3_1hr2 f3_1hr3 e4 e5 f5_1hr e6 f6_1hr1 f6_1hr2 f6_1hr3 e7 e8 e9 e10
     generalize hu5 : ((aggAt (vals 3) 2)) = u5 at e0 e1 f1_1hr1 f1_1hr2 e2 e3 f3_1hr1 f3_1hr2 f3_1hr3 e4 e5 f5_1hr e6 f6_1hr1 f6_1hr2 f6_1hr3 e7 e8 e9 e10
     generalize hu6 : ((aggAt (vals 5) 0)) = u6 at e0 e1 f1_1hr1 f1_1hr2 e2 e3 f3_1hr1 f3_1hr2 f3_1hr3 e4 e5 f5_1hr e6 f6_1hr1 f6_1hr2 f6_1hr3 e7 e8 e9 e10
     generalize hu7 : ((aggAt (tupAt (vals 6) 0) 0)) = u7 at e0 e1 f1_1hr1 f1_1hr2 e2 e3 f3_1hr1 f3_1hr2 f3_1hr3 e4 e5 f5_1hr e6 f6_1hr1 f6_1hr2 f6_1hr3 e7 e8 e9 e10
     generalize hu8 : ((aggAt (tupAt (vals 6) 0) 1)) = u8 at e0 e1 f1_1hr1 f1_1hr2 e2 e3 f3_1hr1 f3_1hr2 f3_1hr3 e4 e5 f5_1hr e6 f6_1hr1 f6_1hr2 f6_1hr3 e7 e8 e9 e10
     generalize hu9 : ((aggAt (tupAt (vals 6) 0) 2)) = u9 at e0 e1 f1_1hr1 f1_1hr2 e2 e3 f3_1hr1 f3_1hr2 f3_1hr3 e4 e5 f5_1hr e6 f6_1hr1 f6_1hr2 f6_1hr3 e7 e8 e9 e10
     generalize hu10 : blk (vals 10) = b6 at e0 e1 f1_1hr1 f1_1hr2 e2 e3 f3_1hr1 f3_1hr2 f3_1hr3 e4 e5 f5_1hr e6 f6_1hr1 f6_1hr2 f6_1hr3 e7 e8 e9 e10
     rw [(envs_of_sat (l := [(0, (.agg #[arv, rsv] : Value)), (1, (.agg #[u1, u2] : Value)), (2, (.agg #[tpv, lfv, rtv, .int .i64 (a), .int .i64 (u), .int .i64 (o)] : Value)), (3, (.agg #[u3, u4, u5, .int .i64 (a), .int .i64 (u), .int .i64 (o)] : Value)), (4, (.agg #[sv] : Value)), (5, (.agg #[u6] : Value)), (6, (.tuple #[.agg #[u7, u8, u9, .int .i64 ((peakUL ar rs tp lf rt a u o s).2.2.2.1.1), .int .i64 ((peakUL ar rs tp lf rt a u o s).2.2.2.1.2.1), .int .i64 ((peakUL ar rs tp lf rt a u o s).2.2.2.1.2.2)], .bool ((peakUL ar rs tp lf rt a u o s).2.2.2.2)] : Value)), (7, (.tuple #[.agg #[u7, u8, u9, .int .i64 ((peakUL ar rs tp lf rt a u o s).2.2.2.1.1), .int .i64 ((peakUL ar rs tp lf rt a u o s).2.2.2.1.2.1), .int .i64 ((peakUL ar rs tp lf rt a u o s).2.2.2.1.2.2)], .bool ((peakUL ar rs tp lf rt a u o s).2.2.2.2)] : Value)), (8, (.agg #[u7, u8, u9, .int .i64 ((peakUL ar rs tp lf rt a u o s).2.2.2.1.1), .int .i64 ((peakUL ar rs tp lf rt a u o s).2.2.2.1.2.1), .int .i64 ((peakUL ar rs tp lf rt a u o s).2.2.2.1.2.2)] : Value)), (9, (.bool ((peakUL ar rs tp lf rt a u o s).2.2.2.2) : Value)), (10, ptr b6 0)]) ⟨e0, (e1).symm, e2, (e3).symm, e4, (e5).symm, (e6).symm, e7, e8, e9, e10, trivial⟩).symm]
     replace har := har.mono le9
     replace hrs := hrs.mono le9
     replace htp := htp.mono le9
     replace hlf := hlf.mono le9
     replace hrt := hrt.mono le9
     replace hs := hs.mono le9
     show XL _ _ _ _ _ _ _ (cellsH b6 [u7, u8, u9, .int .i64 ((peakUL ar rs tp lf rt a u o s).2.2.2.1.1), .int .i64 ((peakUL ar rs tp lf rt a u o s).2.2.2.1.2.1), .int .i64 ((peakUL ar rs tp lf rt a u o s).2.2.2.1.2.2)] 74 :: cellsH b3 [sv] 71 :: cellsH b2 [tpv, lfv, rtv, .int .i64 (a), .int .i64 (u), .int .i64 (o)] 68 :: cellsH b1 [arv, rsv] 27 :: L)
     refine XL.cons (XOp.assign (.bool ((peakUL ar rs tp lf rt a u o s).2.2.2.2)) rfl ?_)
     refine XL.nil ?_
     refine X.seq ?_
     refine X.region ?_
     refine XL.cons (XOp.loadN [arv, rsv] Tryz.isAgg27 Tryz.sizeOf27 rfl rfl (Rd.ownN [_, _, _] rfl rfl) ?_)
     refine XL.cons (XOp.thawL ?_)
     refine id (XOp.call (args := [.agg #[arv, rsv]]) Tryz.call11 rfl (toSystem_spec har hrs (hla := (by first | assumption | rfl | omega | (left; simp; done) | (right; simp; done))) (hrl := (by first | assumption | rfl | omega | (left; simp; done) | (right; simp; done))) (hrb := (by first | assumption | rfl | omega | (left; simp; done) | (right; simp; done)))) ?_)
     rintro _ F10 _ le10 ⟨x19, x20, rfl, hr25, hr26, hr27, rfl⟩
     refine ⟨[intsH 2 x19 ar, pairsD 2 161 x20 rs], hr27, ?_⟩
     show XL _ _ _ _ _ _ _ (intsH 2 x19 ar :: pairsD 2 161 x20 rs :: cellsH b6 [u7, u8, u9, .int .i64 ((peakUL ar rs tp lf rt a u o s).2.2.2.1.1), .int .i64 ((peakUL ar rs tp lf rt a u o s).2.2.2.1.2.1), .int .i64 ((peakUL ar rs tp lf rt a u o s).2.2.2.1.2.2)] 74 :: cellsH b3 [sv] 71 :: cellsH b2 [tpv, lfv, rtv, .int .i64 (a), .int .i64 (u), .int .i64 (o)] 68 :: cellsH b1 [arv, rsv] 27 :: L)
     refine XL.cons (XOp.alloc [(.slice none 0 0), (.slice none 0 0)] Tryz.zeroValue39 rfl ?_)
     intro b7
     refine XL.cons (XOp.storeN (vs := [x19, x20]) [] _ [x19, x20] Tryz.sizeOf39 rfl rfl rfl (ones_cons (one_sl (IntsF.isSl hr25)) (ones_cons (one_sl (PairsF.isSl hr26)) ones_nil)) rfl rfl rfl ?_)
     refine XL.nil ?_
     refine X.seq ?_
     refine X.region ?_
     refine XL.cons (XOp.loadN [tpv, lfv, rtv, .int .i64 (a), .int .i64 (u), .int .i64 (o)] Tryz.isAgg68 Tryz.sizeOf68 rfl rfl (Rd.ownN [_, _, _, _, _] rfl rfl) ?_)
     refine XL.cons (XOp.thawL ?_)
     refine id (XOp.call (args := [.agg #[tpv, lfv, rtv, .int .i64 (a), .int .i64 (u), .int .i64 (o)]]) Tryz.call31 rfl (toPeak_spec htp hlf hrt (htl := (by first | assumption | rfl | omega | (left; simp; done) | (right; simp; done))) (hll := (by first | assumption | rfl | omega | (left; simp; done) | (right; simp; done))) (hrl := (by first | assumption | rfl | omega | (left; simp; done) | (right; simp; done)))) ?_)
     rintro _ F11 _ le11 ⟨x21, x22, x23, rfl, hr28, hr29, hr30, hr31, rfl⟩
     refine ⟨[intsH 2 x21 tp, intsH 2 x22 lf, intsH 2 x23 rt], hr31, ?_⟩
     show XL _ _ _ _ _ _ _ (intsH 2 x21 tp :: intsH 2 x22 lf :: intsH 2 x23 rt :: cellsH b7 [x19, x20] 39 :: intsH 2 x19 ar :: pairsD 2 161 x20 rs :: cellsH b6 [u7, u8, u9, .int .i64 ((peakUL ar rs tp lf rt a u o s).2.2.2.1.1), .int .i64 ((peakUL ar rs tp lf rt a u o s).2.2.2.1.2.1), .int .i64 ((peakUL ar rs tp lf rt a u o s).2.2.2.1.2.2)] 74 :: cellsH b3 [sv] 71 :: cellsH b2 [tpv, lfv, rtv, .int .i64 (a), .int .i64 (u), .int .i64 (o)] 68 :: cellsH b1 [arv, rsv] 27 :: L)
     refine XL.cons (XOp.alloc [(.slice none 0 0), (.slice none 0 0), (.slice none 0 0), .int .i64 (0), .int .i64 (0), .int .i64 (0)] Tryz.zeroValue74 rfl ?_)
     intro b8
     refine XL.cons (XOp.storeN (vs := [x21, x22, x23, .int .i64 (a), .int .i64 (u), .int .i64 (o)]) [] _ [x21, x22, x23, .int .i64 (a), .int .i64 (u), .int .i64 (o)] Tryz.sizeOf74 rfl rfl rfl (ones_cons (one_sl (IntsF.isSl hr28)) (ones_cons (one_sl (IntsF.isSl hr29)) (ones_cons (one_sl (IntsF.isSl hr30)) (ones_cons rfl (ones_cons rfl (ones_cons rfl ones_nil)))))) rfl rfl rfl ?_)
     refine XL.nil ?_
     refine X.seq ?_
     refine X.region ?_
     refine XL.cons (XOp.loadN [sv] Tryz.isAgg71 Tryz.sizeOf71 rfl rfl (Rd.ownN [_, _, _, _, _, _, _, _] rfl rfl) ?_)
     refine XL.cons (XOp.thawL ?_)
     refine id (XOp.call (args := [.agg #[sv]]) Tryz.call32 rfl (toSubst_spec hs (hsl := (by first | assumption | rfl | omega | (left; simp; done) | (right; simp; done))) (hsb := (by first | assumption | rfl | omega | (left; simp; done) | (right; simp; done)))) ?_)
     rintro _ F12 _ le12 ⟨x24, rfl, hr32, hr33, rfl⟩
     refine ⟨[rowsD 2 22 x24 s], hr33, ?_⟩
     show XL _ _ _ _ _ _ _ (rowsD 2 22 x24 s :: cellsH b8 [x21, x22, x23, .int .i64 (a), .int .i64 (u), .int .i64 (o)] 74 :: intsH 2 x21 tp :: intsH 2 x22 lf :: intsH 2 x23 rt :: cellsH b7 [x19, x20] 39 :: intsH 2 x19 ar :: pairsD 2 161 x20 rs :: cellsH b6 [u7, u8, u9, .int .i64 ((peakUL ar rs tp lf rt a u o s).2.2.2.1.1), .int .i64 ((peakUL ar rs tp lf rt a u o s).2.2.2.1.2.1), .int .i64 ((peakUL ar rs tp lf rt a u o s).2.2.2.1.2.2)] 74 :: cellsH b3 [sv] 71 :: cellsH b2 [tpv, lfv, rtv, .int .i64 (a), .int .i64 (u), .int .i64 (o)] 68 :: cellsH b1 [arv, rsv] 27 :: L)
     refine XL.cons (XOp.alloc [(.slice none 0 0)] Tryz.zeroValue78 rfl ?_)
     intro b9
     refine XL.cons (XOp.storeN (vs := [x24]) [] _ [x24] Tryz.sizeOf78 rfl rfl rfl (ones_cons (one_sl (RowsF.isSl hr32)) ones_nil) rfl rfl rfl ?_)
     refine XL.nil ?_
     refine X.seq ?_
     refine X.region ?_
     refine XL.cons (XOp.loadN [x19, x20] Tryz.isAgg39 Tryz.sizeOf39 rfl rfl (Rd.ownN [_, _, _, _, _, _] rfl rfl) ?_)
     refine XL.cons (XOp.loadN [x21, x22, x23, .int .i64 (a), .int .i64 (u), .int .i64 (o)] Tryz.isAgg74 Tryz.sizeOf74 rfl rfl (Rd.ownN [_, _] rfl rfl) ?_)
     refine XL.cons (XOp.loadN [x24] Tryz.isAgg78 Tryz.sizeOf78 rfl rfl (Rd.ownN [] rfl rfl) ?_)
     refine XL.cons (XOp.lend [_, _, _, _, _, _, _] _ _ rfl (fun F13 le13 hz1 => ?_))
     refine id (XOp.lend [_, _, _, _, _, _, _] _ _ rfl (fun F14 le14 hz2 => ?_))
     refine id (XOp.lend [_, _, _] _ _ rfl (fun F15 le15 hz3 => ?_))
     refine id (XOp.lend [_, _, _] _ _ rfl (fun F16 le16 hz4 => ?_))
     refine id (XOp.lend [_, _, _] _ _ rfl (fun F17 le17 hz5 => ?_))
     refine id (XOp.lend [_] _ _ rfl (fun F18 le18 hz6 => ?_))
     have hf1 : IntsF _ x19 ar := (intsH.fz (xs := ar) hz1).mono (FLe.trans (FLe.trans (FLe.trans (FLe.trans le14 le15) le16) le17) le18)
     have hf2 : PairsF _ x20 rs := (pairsD.fz hz2).mono (FLe.trans (FLe.trans (FLe.trans le15 le16) le17) le18)
     have hf3 : IntsF _ x21 tp := (intsH.fz (xs := tp) hz3).mono (FLe.trans (FLe.trans le16 le17) le18)
     have hf4 : IntsF _ x22 lf := (intsH.fz (xs := lf) hz4).mono (FLe.trans le17 le18)
     have hf5 : IntsF _ x23 rt := (intsH.fz (xs := rt) hz5).mono le18
     have hf6 : RowsF _ x24 s := rowsD.fz hz6
     refine id (XOp.thawL ?_)
     refine id (XOp.call (args := [.agg #[x19, x20], .agg #[x21, x22, x23, .int .i64 (a), .int .i64 (u), .int .i64 (o)], .agg #[x24]]) Tryz.call33 rfl (PeakUnder_spec hf1 hf2 hf3 hf4 hf5 hf6 (hll0 := (by first | assumption | rfl | omega | (left; simp; done) | (right; simp; done))) (hlr0 := (by first | assumption | rfl | omega | (left; simp; done) | (right; simp; done)))) ?_)
     rintro _ F19 _ le19 ⟨x25, x26, x27, rfl, hr34, hr35, hr36, hr37, rfl⟩
     refine ⟨[intsH 2 x25 ((peakUL ar rs tp lf rt a u o s).1), intsH 2 x26 ((peakUL ar rs tp lf rt a u o s).2.1), intsH 2 x27 ((peakUL ar rs tp lf rt a u o s).2.2.1)], hr37, ?_⟩
     show XL _ _ _ _ _ _ _ (intsH 2 x19 ar :: pairsD 2 161 x20 rs :: intsH 2 x21 tp :: intsH 2 x22 lf :: intsH 2 x23 rt :: rowsD 2 22 x24 s :: intsH 2 x25 ((peakUL ar rs tp lf rt a u o s).1) :: intsH 2 x26 ((peakUL ar rs tp lf rt a u o s).2.1) :: intsH 2 x27 ((peakUL ar rs tp lf rt a u o s).2.2.1) :: cellsH b9 [x24] 78 :: cellsH b8 [x21, x22, x23, .int .i64 (a), .int .i64 (u), .int .i64 (o)] 74 :: cellsH b7 [x19, x20] 39 :: cellsH b6 [u7, u8, u9, .int .i64 ((peakUL ar rs tp lf rt a u o s).2.2.2.1.1), .int .i64 ((peakUL ar rs tp lf rt a u o s).2.2.2.1.2.1), .int .i64 ((peakUL ar rs tp lf rt a u o s).2.2.2.1.2.2)] 74 :: cellsH b3 [sv] 71 :: cellsH b2 [tpv, lfv, rtv, .int .i64 (a), .int .i64 (u), .int .i64 (o)] 68 :: cellsH b1 [arv, rsv] 27 :: L)
     refine XL.cons (XOp.move (.tuple #[.agg #[x25, x26, x27, .int .i64 ((peakUL ar rs tp lf rt a u o s).2.2.2.1.1), .int .i64 ((peakUL ar rs tp lf rt a u o s).2.2.2.1.2.1), .int .i64 ((peakUL ar rs tp lf rt a u o s).2.2.2.1.2.2)], .bool ((peakUL ar rs tp lf rt a u o s).2.2.2.2)]) rfl ?_)
     refine XL.cons (XOp.extract (.agg #[x25, x26, x27, .int .i64 ((peakUL ar rs tp lf rt a u o s).2.2.2.1.1), .int .i64 ((peakUL ar rs tp lf rt a u o s).2.2.2.1.2.1), .int .i64 ((peakUL ar rs tp lf rt a u o s).2.2.2.1.2.2)]) rfl rfl ?_)
     refine XL.cons (XOp.extract (.bool ((peakUL ar rs tp lf rt a u o s).2.2.2.2)) rfl rfl ?_)
     refine XL.cons (XOp.alloc [(.slice none 0 0), (.slice none 0 0), (.slice none 0 0), .int .i64 (0), .int .i64 (0), .int .i64 (0)] Tryz.zeroValue74 rfl ?_)
     intro b10
     refine XL.cons (XOp.storeN (vs := [x25, x26, x27, .int .i64 ((peakUL ar rs tp lf rt a u o s).2.2.2.1.1), .int .i64 ((peakUL ar rs tp lf rt a u o s).2.2.2.1.2.1), .int .i64 ((peakUL ar rs tp lf rt a u o s).2.2.2.1.2.2)]) [] _ [x25, x26, x27, .int .i64 ((peakUL ar rs tp lf rt a u o s).2.2.2.1.1), .int .i64 ((peakUL ar rs tp lf rt a u o s).2.2.2.1.2.1), .int .i64 ((peakUL ar rs tp lf rt a u o s).2.2.2.1.2.2)] Tryz.sizeOf74 rfl rfl rfl (ones_cons (one_sl (IntsF.isSl hr34)) (ones_cons (one_sl (IntsF.isSl hr35)) (ones_cons (one_sl (IntsF.isSl hr36)) (ones_cons rfl (ones_cons rfl (ones_cons rfl ones_nil)))))) rfl rfl rfl ?_)
     refine XL.cons (XOp.assign (.bool ((peakUL ar rs tp lf rt a u o s).2.2.2.2)) rfl ?_)
     refine XL.nil ?_
     refine X.seq ?_
     refine X.seq ?_
     refine X.region ?_
     refine XL.cons (XOp.loadN [x25, x26, x27, .int .i64 ((peakUL ar rs tp lf rt a u o s).2.2.2.1.1), .int .i64 ((peakUL ar rs tp lf rt a u o s).2.2.2.1.2.1), .int .i64 ((peakUL ar rs tp lf rt a u o s).2.2.2.1.2.2)] Tryz.isAgg74 Tryz.sizeOf74 rfl rfl (Rd.ownN [] rfl rfl) ?_)
     refine XL.cons (XOp.loadN [u7, u8, u9, .int .i64 ((peakUL ar rs tp lf rt a u o s).2.2.2.1.1), .int .i64 ((peakUL ar rs tp lf rt a u o s).2.2.2.1.2.1), .int .i64 ((peakUL ar rs tp lf rt a u o s).2.2.2.1.2.2)] Tryz.isAgg74 Tryz.sizeOf74 rfl rfl (Rd.ownN [_, _, _, _, _, _, _, _, _, _, _, _, _] rfl rfl) ?_)
     refine XL.cons (XOp.lend [_, _, _, _, _, _, _] _ _ rfl (fun F20 le20 hz7 => ?_))
     refine id (XOp.lend [_, _, _, _, _, _, _] _ _ rfl (fun F21 le21 hz8 => ?_))
     refine id (XOp.lend [_, _, _, _, _, _, _] _ _ rfl (fun F22 le22 hz9 => ?_))
     have hf7 : IntsF _ x25 ((peakUL ar rs tp lf rt a u o s).1) := (intsH.fz (xs := (peakUL ar rs tp lf rt a u o s).1) hz7).mono (FLe.trans le21 le22)
     have hf8 : IntsF _ x26 ((peakUL ar rs tp lf rt a u o s).2.1) := (intsH.fz (xs := (peakUL ar rs tp lf rt a u o s).2.1) hz8).mono le22
     have hf9 : IntsF _ x27 ((peakUL ar rs tp lf rt a u o s).2.2.1) := intsH.fz (xs := (peakUL ar rs tp lf rt a u o s).2.2.1) hz9
     refine id (XOp.call (args := [.agg #[x25, x26, x27, .int .i64 ((peakUL ar rs tp lf rt a u o s).2.2.2.1.1), .int .i64 ((peakUL ar rs tp lf rt a u o s).2.2.2.1.2.1), .int .i64 ((peakUL ar rs tp lf rt a u o s).2.2.2.1.2.2)], .agg #[u7, u8, u9, .int .i64 ((peakUL ar rs tp lf rt a u o s).2.2.2.1.1), .int .i64 ((peakUL ar rs tp lf rt a u o s).2.2.2.1.2.1), .int .i64 ((peakUL ar rs tp lf rt a u o s).2.2.2.1.2.2)]]) Tryz.call34 rfl (eqPeak_spec hf7 hf8 hf9 ((f6_1hr1.mono (FLe.trans (FLe.trans le20 le21) le22))) ((f6_1hr2.mono (FLe.trans (FLe.trans le20 le21) le22))) ((f6_1hr3.mono (FLe.trans (FLe.trans le20 le21) le22))) (htl := (by first | assumption | rfl | omega | (left; simp; done) | (right; simp; done))) (hll := (by first | assumption | rfl | omega | (left; simp; done) | (right; simp; done))) (hrl := (by first | assumption | rfl | omega | (left; simp; done) | (right; simp; done)))) ?_)
     rintro _ _ _ _ ⟨rfl, rfl, rfl⟩
     show XL _ _ _ _ _ _ _ (intsH 2 x25 ((peakUL ar rs tp lf rt a u o s).1) :: intsH 2 x26 ((peakUL ar rs tp lf rt a u o s).2.1) :: intsH 2 x27 ((peakUL ar rs tp lf rt a u o s).2.2.1) :: cellsH b10 [x25, x26, x27, .int .i64 ((peakUL ar rs tp lf rt a u o s).2.2.2.1.1), .int .i64 ((peakUL ar rs tp lf rt a u o s).2.2.2.1.2.1), .int .i64 ((peakUL ar rs tp lf rt a u o s).2.2.2.1.2.2)] 74 :: intsH 2 x19 ar :: pairsD 2 161 x20 rs :: intsH 2 x21 tp :: intsH 2 x22 lf :: intsH 2 x23 rt :: rowsD 2 22 x24 s :: cellsH b9 [x24] 78 :: cellsH b8 [x21, x22, x23, .int .i64 (a), .int .i64 (u), .int .i64 (o)] 74 :: cellsH b7 [x19, x20] 39 :: cellsH b6 [u7, u8, u9, .int .i64 ((peakUL ar rs tp lf rt a u o s).2.2.2.1.1), .int .i64 ((peakUL ar rs tp lf rt a u o s).2.2.2.1.2.1), .int .i64 ((peakUL ar rs tp lf rt a u o s).2.2.2.1.2.2)] 74 :: cellsH b3 [sv] 71 :: cellsH b2 [tpv, lfv, rtv, .int .i64 (a), .int .i64 (u), .int .i64 (o)] 68 :: cellsH b1 [arv, rsv] 27 :: L)
     refine XL.cons (XOp.notD (p := ((((peakUL ar rs tp lf rt a u o s).1) = ((peakUL ar rs tp lf rt a u o s).1) ∧ ((peakUL ar rs tp lf rt a u o s).2.1) = ((peakUL ar rs tp lf rt a u o s).2.1)) ∧ ((peakUL ar rs tp lf rt a u o s).2.2.1) = ((peakUL ar rs tp lf rt a u o s).2.2.1)) ∧ (((peakUL ar rs tp lf rt a u o s).2.2.2.1.1) = ((peakUL ar rs tp lf rt a u o s).2.2.2.1.1) ∧ ((peakUL ar rs tp lf rt a u o s).2.2.2.1.2.1) = ((peakUL ar rs tp lf rt a u o s).2.2.2.1.2.1) ∧ ((peakUL ar rs tp lf rt a u o s).2.2.2.1.2.2) = ((peakUL ar rs tp lf rt a u o s).2.2.2.1.2.2))) rfl ?_)
     refine XL.cons (XOp.move (.bool (decide (¬(((((peakUL ar rs tp lf rt a u o s).1) = ((peakUL ar rs tp lf rt a u o s).1) ∧ ((peakUL ar rs tp lf rt a u o s).2.1) = ((peakUL ar rs tp lf rt a u o s).2.1)) ∧ ((peakUL ar rs tp lf rt a u o s).2.2.1) = ((peakUL ar rs tp lf rt a u o s).2.2.1)) ∧ (((peakUL ar rs tp lf rt a u o s).2.2.2.1.1) = ((peakUL ar rs tp lf rt a u o s).2.2.2.1.1) ∧ ((peakUL ar rs tp lf rt a u o s).2.2.2.1.2.1) = ((peakUL ar rs tp lf rt a u o s).2.2.2.1.2.1) ∧ ((peakUL ar rs tp lf rt a u o s).2.2.2.1.2.2) = ((peakUL ar rs tp lf rt a u o s).2.2.2.1.2.2)))))) rfl ?_)
     by_cases h4 : ¬(((((peakUL ar rs tp lf rt a u o s).1) = ((peakUL ar rs tp lf rt a u o s).1) ∧ ((peakUL ar rs tp lf rt a u o s).2.1) = ((peakUL ar rs tp lf rt a u o s).2.1)) ∧ ((peakUL ar rs tp lf rt a u o s).2.2.1) = ((peakUL ar rs tp lf rt a u o s).2.2.1)) ∧ (((peakUL ar rs tp lf rt a u o s).2.2.2.1.1) = ((peakUL ar rs tp lf rt a u o s).2.2.2.1.1) ∧ ((peakUL ar rs tp lf rt a u o s).2.2.2.1.2.1) = ((peakUL ar rs tp lf rt a u o s).2.2.2.1.2.1) ∧ ((peakUL ar rs tp lf rt a u o s).2.2.2.1.2.2) = ((peakUL ar rs tp lf rt a u o s).2.2.2.1.2.2)))
     ·exact absurd (by first | rfl | exact ⟨rfl, rfl⟩ | exact ⟨⟨rfl, rfl⟩, rfl, rfl⟩ | simp) h4
     ·refine XL.yes (t := 62) rfl (congrArg Value.bool (decide_eq_false h4)) (XOp.move (.bool ((peakUL ar rs tp lf rt a u o s).2.2.2.2)) rfl ?_)
      refine XL.yes (t := 62) rfl (congrArg Value.bool (decide_eq_false h4)) (XOp.move (.bool ((peakUL ar rs tp lf rt a u o s).2.2.2.2)) rfl ?_)
      refine XL.yes (t := 62) rfl (congrArg Value.bool (decide_eq_false h4)) (XOp.neB (a := (peakUL ar rs tp lf rt a u o s).2.2.2.2) (b := (peakUL ar rs tp lf rt a u o s).2.2.2.2) Tryz.runUnderlying4 rfl rfl ?_)
      refine XL.cons (XOp.pickF (.bool (decide (((peakUL ar rs tp lf rt a u o s).2.2.2.2) ≠ ((peakUL ar rs tp lf rt a u o s).2.2.2.2)))) (congrArg Value.bool (decide_eq_false h4)) rfl ?_)
      refine XL.nil ?_
      refine X.condD (p := ((peakUL ar rs tp lf rt a u o s).2.2.2.2) ≠ ((peakUL ar rs tp lf rt a u o s).2.2.2.2)) rfl (fun h5 => ?_) (fun h5 => ?_)
      ·exact absurd rfl h5
      ·refine X.skip ?_
       refine X.seq ?_
       refine X.seq ?_
       refine X.drawG [intsH 2 x25 ((peakUL ar rs tp lf rt a u o s).1), intsH 2 x26 ((peakUL ar rs tp lf rt a u o s).2.1), intsH 2 x27 ((peakUL ar rs tp lf rt a u o s).2.2.1), cellsH b10 [x25, x26, x27, .int .i64 ((peakUL ar rs tp lf rt a u o s).2.2.2.1.1), .int .i64 ((peakUL ar rs tp lf rt a u o s).2.2.2.1.2.1), .int .i64 ((peakUL ar rs tp lf rt a u o s).2.2.2.1.2.2)] 74, intsH 2 x19 ar, pairsD 2 161 x20 rs, intsH 2 x21 tp, intsH 2 x22 lf, intsH 2 x23 rt, rowsD 2 22 x24 s, cellsH b9 [x24] 78, cellsH b8 [x21, x22, x23, .int .i64 (a), .int .i64 (u), .int .i64 (o)] 74, cellsH b7 [x19, x20] 39, cellsH b6 [u7, u8, u9, .int .i64 ((peakUL ar rs tp lf rt a u o s).2.2.2.1.1), .int .i64 ((peakUL ar rs tp lf rt a u o s).2.2.2.1.2.1), .int .i64 ((peakUL ar rs tp lf rt a u o s).2.2.2.1.2.2)] 74, cellsH b3 [sv] 71, cellsH b2 [tpv, lfv, rtv, .int .i64 (a), .int .i64 (u), .int .i64 (o)] 68, cellsH b1 [arv, rsv] 27] L 3 [[], [], []] [[], [], [1]] [[], [], []] (phiG [fun FF us v => v = (.agg #[x19, x20] : Value), fun FF us v => v = (.agg #[arv, rsv] : Value), fun FF us v => (.agg #[((aggAt v 0)), ((aggAt v 1))] : Value) = v ∧ (IntsF FF ((aggAt v 0)) ar) ∧ (PairsF FF ((aggAt v 1)) rs)]) (ownL [fun us v => [], fun us v => [], fun us v => []]) mixed rfl rfl (by kernel_rfl) (by kernel_rfl) (MonoG.get (MonoG.cons (fun le h => h) (MonoG.cons (fun le h => h) (MonoG.cons (fun le h => ⟨h.1, h.2.1.mono le, h.2.2.mono le⟩) MonoG.nil)))) ?_ ?_
       ·refine stepsG.cons (fun vals Fs R leFs hpZ => ?_) ?_
        ·replace har := har.mono leFs
         replace hrs := hrs.mono leFs
         replace htp := htp.mono leFs
         replace hlf := hlf.mono leFs
         replace hrt := hrt.mono leFs
         replace hs := hs.mono leFs
         replace f1_1hr1 := f1_1hr1.mono leFs
         replace f1_1hr2 := f1_1hr2.mono leFs
         replace f3_1hr1 := f3_1hr1.mono leFs
         replace f3_1hr2 := f3_1hr2.mono leFs
         replace f3_1hr3 := f3_1hr3.mono leFs
         replace f5_1hr := f5_1hr.mono leFs
         replace f6_1hr1 := f6_1hr1.mono leFs
         replace f6_1hr2 := f6_1hr2.mono leFs
         replace f6_1hr3 := f6_1hr3.mono leFs
         refine XG.op (XOp.loadN [x19, x20] Tryz.isAgg39 Tryz.sizeOf39 rfl rfl (Rd.ownN [_, _, _, _, _, _, _, _, _, _, _, _] rfl rfl) ?_)
         exact ⟨rfl, rfl⟩
        refine stepsG.cons (fun vals Fs R leFs hpZ => ?_) ?_
        ·replace har := har.mono leFs
         replace hrs := hrs.mono leFs
         replace htp := htp.mono leFs
         replace hlf := hlf.mono leFs
         replace hrt := hrt.mono leFs
         replace hs := hs.mono leFs
         replace f1_1hr1 := f1_1hr1.mono leFs
         replace f1_1hr2 := f1_1hr2.mono leFs
         replace f3_1hr1 := f3_1hr1.mono leFs
         replace f3_1hr2 := f3_1hr2.mono leFs
         replace f3_1hr3 := f3_1hr3.mono leFs
         replace f5_1hr := f5_1hr.mono leFs
         replace f6_1hr1 := f6_1hr1.mono leFs
         replace f6_1hr2 := f6_1hr2.mono leFs
         replace f6_1hr3 := f6_1hr3.mono leFs
         refine XG.op (XOp.loadN [arv, rsv] Tryz.isAgg27 Tryz.sizeOf27 rfl rfl (Rd.ownN [_, _, _, _, _, _, _, _, _, _, _, _, _, _, _, _] rfl rfl) ?_)
         exact ⟨rfl, rfl⟩
        refine stepsG.cons (fun vals Fs R leFs hpZ => ?_) ?_
        ·have e1 : vals 1 = (.agg #[arv, rsv] : Value) := hpZ 1 (by decide)
         replace har := har.mono leFs
         replace hrs := hrs.mono leFs
         replace htp := htp.mono leFs
         replace hlf := hlf.mono leFs
         replace hrt := hrt.mono leFs
         replace hs := hs.mono leFs
         replace f1_1hr1 := f1_1hr1.mono leFs
         replace f1_1hr2 := f1_1hr2.mono leFs
         replace f3_1hr1 := f3_1hr1.mono leFs
         replace f3_1hr2 := f3_1hr2.mono leFs
         replace f3_1hr3 := f3_1hr3.mono leFs
         replace f5_1hr := f5_1hr.mono leFs
         replace f6_1hr1 := f6_1hr1.mono leFs
         replace f6_1hr2 := f6_1hr2.mono leFs
         replace f6_1hr3 := f6_1hr3.mono leFs
         rw [(envs_of_sat (l := [(1, (.agg #[arv, rsv] : Value))]) ⟨e1, trivial⟩).symm]
         refine XG.op (XOp.call (args := [.agg #[arv, rsv]]) Tryz.call11 rfl (toSystem_spec har hrs (hla := (by first | assumption | rfl | omega | (left; simp; done) | (right; simp; done))) (hrl := (by first | assumption | rfl | omega | (left; simp; done) | (right; simp; done))) (hrb := (by first | assumption | rfl | omega | (left; simp; done) | (right; simp; done)))) ?_)
         rintro _ F24 _ le24 ⟨x30, x31, rfl, hr41, hr42, hr43, rfl⟩
         replace har := har.mono le24
         replace hrs := hrs.mono le24
         replace htp := htp.mono le24
         replace hlf := hlf.mono le24
         replace hrt := hrt.mono le24
         replace hs := hs.mono le24
         replace f1_1hr1 := f1_1hr1.mono le24
         replace f1_1hr2 := f1_1hr2.mono le24
         replace f3_1hr1 := f3_1hr1.mono le24
         replace f3_1hr2 := f3_1hr2.mono le24
         replace f3_1hr3 := f3_1hr3.mono le24
         replace f5_1hr := f5_1hr.mono le24
         replace f6_1hr1 := f6_1hr1.mono le24
         replace f6_1hr2 := f6_1hr2.mono le24
         replace f6_1hr3 := f6_1hr3.mono le24
         exact ⟨⟨rfl, hr41, hr42⟩, rfl⟩
        exact stepsG.nil
       ·intro vals F25 le25 hphi
        have e0 : vals 0 = (.agg #[x19, x20] : Value) := hphi 0 (by decide)
        have e1 : vals 1 = (.agg #[arv, rsv] : Value) := hphi 1 (by decide)
        obtain ⟨e2, f2_2hr1, f2_2hr2⟩ := hphi 2 (by decide)
        generalize hu11 : ((aggAt (vals 2) 0)) = u10 at e0 e1 e2 f2_2hr1 f2_2hr2
        generalize hu12 : ((aggAt (vals 2) 1)) = u11 at e0 e1 e2 f2_2hr1 f2_2hr2
        rw [(envs_of_sat (l := [(0, (.agg #[x19, x20] : Value)), (1, (.agg #[arv, rsv] : Value)), (2, (.agg #[u10, u11] : Value))]) ⟨e0, e1, (e2).symm, trivial⟩).symm]
        replace har := har.mono le25
        replace hrs := hrs.mono le25
        replace htp := htp.mono le25
        replace hlf := hlf.mono le25
        replace hrt := hrt.mono le25
        replace hs := hs.mono le25
        replace f1_1hr1 := f1_1hr1.mono le25
        replace f1_1hr2 := f1_1hr2.mono le25
        replace f3_1hr1 := f3_1hr1.mono le25
        replace f3_1hr2 := f3_1hr2.mono le25
        replace f3_1hr3 := f3_1hr3.mono le25
        replace f5_1hr := f5_1hr.mono le25
        replace f6_1hr1 := f6_1hr1.mono le25
        replace f6_1hr2 := f6_1hr2.mono le25
        replace f6_1hr3 := f6_1hr3.mono le25
        show XL _ _ _ _ _ _ _ (intsH 2 x25 ((peakUL ar rs tp lf rt a u o s).1) :: intsH 2 x26 ((peakUL ar rs tp lf rt a u o s).2.1) :: intsH 2 x27 ((peakUL ar rs tp lf rt a u o s).2.2.1) :: cellsH b10 [x25, x26, x27, .int .i64 ((peakUL ar rs tp lf rt a u o s).2.2.2.1.1), .int .i64 ((peakUL ar rs tp lf rt a u o s).2.2.2.1.2.1), .int .i64 ((peakUL ar rs tp lf rt a u o s).2.2.2.1.2.2)] 74 :: intsH 2 x19 ar :: pairsD 2 161 x20 rs :: intsH 2 x21 tp :: intsH 2 x22 lf :: intsH 2 x23 rt :: rowsD 2 22 x24 s :: cellsH b9 [x24] 78 :: cellsH b8 [x21, x22, x23, .int .i64 (a), .int .i64 (u), .int .i64 (o)] 74 :: cellsH b7 [x19, x20] 39 :: cellsH b6 [u7, u8, u9, .int .i64 ((peakUL ar rs tp lf rt a u o s).2.2.2.1.1), .int .i64 ((peakUL ar rs tp lf rt a u o s).2.2.2.1.2.1), .int .i64 ((peakUL ar rs tp lf rt a u o s).2.2.2.1.2.2)] 74 :: cellsH b3 [sv] 71 :: cellsH b2 [tpv, lfv, rtv, .int .i64 (a), .int .i64 (u), .int .i64 (o)] 68 :: cellsH b1 [arv, rsv] 27 :: L)
        refine XL.cons (XOp.lend [_, _, _, _] _ _ rfl (fun F26 le26 hz10 => ?_))
        refine id (XOp.lend [_, _, _, _] _ _ rfl (fun F27 le27 hz11 => ?_))
        have hf10 : IntsF _ x19 ar := (intsH.fz (xs := ar) hz10).mono le27
        have hf11 : PairsF _ x20 rs := pairsD.fz hz11
        refine id (XOp.call (args := [.agg #[x19, x20], .agg #[u10, u11]]) Tryz.call15 rfl (eqSystem_spec hf10 hf11 ((f2_2hr1.mono (FLe.trans le26 le27))) ((f2_2hr2.mono (FLe.trans le26 le27))) (hcl := (by first | assumption | rfl | omega | (left; simp; done) | (right; simp; done))) (hal := (by first | assumption | rfl | omega | (left; simp; done) | (right; simp; done))) (hbd := (by first | assumption | rfl | omega | (left; simp; done) | (right; simp; done)))) ?_)
        rintro _ _ _ _ ⟨rfl, rfl, rfl⟩
        show XL _ _ _ _ _ _ _ (intsH 2 x19 ar :: pairsD 2 161 x20 rs :: intsH 2 x25 ((peakUL ar rs tp lf rt a u o s).1) :: intsH 2 x26 ((peakUL ar rs tp lf rt a u o s).2.1) :: intsH 2 x27 ((peakUL ar rs tp lf rt a u o s).2.2.1) :: cellsH b10 [x25, x26, x27, .int .i64 ((peakUL ar rs tp lf rt a u o s).2.2.2.1.1), .int .i64 ((peakUL ar rs tp lf rt a u o s).2.2.2.1.2.1), .int .i64 ((peakUL ar rs tp lf rt a u o s).2.2.2.1.2.2)] 74 :: intsH 2 x21 tp :: intsH 2 x22 lf :: intsH 2 x23 rt :: rowsD 2 22 x24 s :: cellsH b9 [x24] 78 :: cellsH b8 [x21, x22, x23, .int .i64 (a), .int .i64 (u), .int .i64 (o)] 74 :: cellsH b7 [x19, x20] 39 :: cellsH b6 [u7, u8, u9, .int .i64 ((peakUL ar rs tp lf rt a u o s).2.2.2.1.1), .int .i64 ((peakUL ar rs tp lf rt a u o s).2.2.2.1.2.1), .int .i64 ((peakUL ar rs tp lf rt a u o s).2.2.2.1.2.2)] 74 :: cellsH b3 [sv] 71 :: cellsH b2 [tpv, lfv, rtv, .int .i64 (a), .int .i64 (u), .int .i64 (o)] 68 :: cellsH b1 [arv, rsv] 27 :: L)
        refine XL.cons (XOp.notD (p := ar = ar ∧ rs = rs) rfl ?_)
        refine XL.nil ?_
        refine X.condD (p := ¬(ar = ar ∧ rs = rs)) rfl (fun h6 => ?_) (fun h6 => ?_)
        ·exact absurd (by first | rfl | exact ⟨rfl, rfl⟩ | exact ⟨⟨rfl, rfl⟩, rfl, rfl⟩ | simp) h6
        ·refine X.skip ?_
         refine X.seq ?_
         refine X.seq ?_
         refine X.drawG [intsH 2 x19 ar, pairsD 2 161 x20 rs, intsH 2 x25 ((peakUL ar rs tp lf rt a u o s).1), intsH 2 x26 ((peakUL ar rs tp lf rt a u o s).2.1), intsH 2 x27 ((peakUL ar rs tp lf rt a u o s).2.2.1), cellsH b10 [x25, x26, x27, .int .i64 ((peakUL ar rs tp lf rt a u o s).2.2.2.1.1), .int .i64 ((peakUL ar rs tp lf rt a u o s).2.2.2.1.2.1), .int .i64 ((peakUL ar rs tp lf rt a u o s).2.2.2.1.2.2)] 74, intsH 2 x21 tp, intsH 2 x22 lf, intsH 2 x23 rt, rowsD 2 22 x24 s, cellsH b9 [x24] 78, cellsH b8 [x21, x22, x23, .int .i64 (a), .int .i64 (u), .int .i64 (o)] 74, cellsH b7 [x19, x20] 39, cellsH b6 [u7, u8, u9, .int .i64 ((peakUL ar rs tp lf rt a u o s).2.2.2.1.1), .int .i64 ((peakUL ar rs tp lf rt a u o s).2.2.2.1.2.1), .int .i64 ((peakUL ar rs tp lf rt a u o s).2.2.2.1.2.2)] 74, cellsH b3 [sv] 71, cellsH b2 [tpv, lfv, rtv, .int .i64 (a), .int .i64 (u), .int .i64 (o)] 68, cellsH b1 [arv, rsv] 27] L 3 [[], [], []] [[], [], [1]] [[], [], []] (phiG [fun FF us v => v = (.agg #[x21, x22, x23, .int .i64 (a), .int .i64 (u), .int .i64 (o)] : Value), fun FF us v => v = (.agg #[tpv, lfv, rtv, .int .i64 (a), .int .i64 (u), .int .i64 (o)] : Value), fun FF us v => (.agg #[((aggAt v 0)), ((aggAt v 1)), ((aggAt v 2)), .int .i64 (a), .int .i64 (u), .int .i64 (o)] : Value) = v ∧ (IntsF FF ((aggAt v 0)) tp) ∧ (IntsF FF ((aggAt v 1)) lf) ∧ (IntsF FF ((aggAt v 2)) rt)]) (ownL [fun us v => [], fun us v => [], fun us v => []]) mixed rfl rfl (by kernel_rfl) (by kernel_rfl) (MonoG.get (MonoG.cons (fun le h => h) (MonoG.cons (fun le h => h) (MonoG.cons (fun le h => ⟨h.1, h.2.1.mono le, h.2.2.1.mono le, h.2.2.2.mono le⟩) MonoG.nil)))) ?_ ?_
         ·refine stepsG.cons (fun vals Fs R leFs hpZ => ?_) ?_
          ·replace har := har.mono leFs
           replace hrs := hrs.mono leFs
           replace htp := htp.mono leFs
           replace hlf := hlf.mono leFs
           replace hrt := hrt.mono leFs
           replace hs := hs.mono leFs
           replace f1_1hr1 := f1_1hr1.mono leFs
           replace f1_1hr2 := f1_1hr2.mono leFs
           replace f3_1hr1 := f3_1hr1.mono leFs
           replace f3_1hr2 := f3_1hr2.mono leFs
           replace f3_1hr3 := f3_1hr3.mono leFs
           replace f5_1hr := f5_1hr.mono leFs
           replace f6_1hr1 := f6_1hr1.mono leFs
           replace f6_1hr2 := f6_1hr2.mono leFs
           replace f6_1hr3 := f6_1hr3.mono leFs
           replace f2_2hr1 := f2_2hr1.mono leFs
           replace f2_2hr2 := f2_2hr2.mono leFs
           refine XG.op (XOp.loadN [x21, x22, x23, .int .i64 (a), .int .i64 (u), .int .i64 (o)] Tryz.isAgg74 Tryz.sizeOf74 rfl rfl (Rd.ownN [_, _, _, _, _, _, _, _, _, _, _] rfl rfl) ?_)
           exact ⟨rfl, rfl⟩
          refine stepsG.cons (fun vals Fs R leFs hpZ => ?_) ?_
          ·replace har := har.mono leFs
           replace hrs := hrs.mono leFs
           replace htp := htp.mono leFs
           replace hlf := hlf.mono leFs
           replace hrt := hrt.mono leFs
           replace hs := hs.mono leFs
           replace f1_1hr1 := f1_1hr1.mono leFs
           replace f1_1hr2 := f1_1hr2.mono leFs
           replace f3_1hr1 := f3_1hr1.mono leFs
           replace f3_1hr2 := f3_1hr2.mono leFs
           replace f3_1hr3 := f3_1hr3.mono leFs
           replace f5_1hr := f5_1hr.mono leFs
           replace f6_1hr1 := f6_1hr1.mono leFs
           replace f6_1hr2 := f6_1hr2.mono leFs
           replace f6_1hr3 := f6_1hr3.mono leFs
           replace f2_2hr1 := f2_2hr1.mono leFs
           replace f2_2hr2 := f2_2hr2.mono leFs
           refine XG.op (XOp.loadN [tpv, lfv, rtv, .int .i64 (a), .int .i64 (u), .int .i64 (o)] Tryz.isAgg68 Tryz.sizeOf68 rfl rfl (Rd.ownN [_, _, _, _, _, _, _, _, _, _, _, _, _, _, _] rfl rfl) ?_)
           exact ⟨rfl, rfl⟩
          refine stepsG.cons (fun vals Fs R leFs hpZ => ?_) ?_
          ·have e1 : vals 1 = (.agg #[tpv, lfv, rtv, .int .i64 (a), .int .i64 (u), .int .i64 (o)] : Value) := hpZ 1 (by decide)
           replace har := har.mono leFs
           replace hrs := hrs.mono leFs
           replace htp := htp.mono leFs
           replace hlf := hlf.mono leFs
           replace hrt := hrt.mono leFs
           replace hs := hs.mono leFs
           replace f1_1hr1 := f1_1hr1.mono leFs
           replace f1_1hr2 := f1_1hr2.mono leFs
           replace f3_1hr1 := f3_1hr1.mono leFs
           replace f3_1hr2 := f3_1hr2.mono leFs
           replace f3_1hr3 := f3_1hr3.mono leFs
           replace f5_1hr := f5_1hr.mono leFs
           replace f6_1hr1 := f6_1hr1.mono leFs
           replace f6_1hr2 := f6_1hr2.mono leFs
           replace f6_1hr3 := f6_1hr3.mono leFs
           replace f2_2hr1 := f2_2hr1.mono leFs
           replace f2_2hr2 := f2_2hr2.mono leFs
           rw [(envs_of_sat (l := [(1, (.agg #[tpv, lfv, rtv, .int .i64 (a), .int .i64 (u), .int .i64 (o)] : Value))]) ⟨e1, trivial⟩).symm]
           refine XG.op (XOp.call (args := [.agg #[tpv, lfv, rtv, .int .i64 (a), .int .i64 (u), .int .i64 (o)]]) Tryz.call31 rfl (toPeak_spec htp hlf hrt (htl := (by first | assumption | rfl | omega | (left; simp; done) | (right; simp; done))) (hll := (by first | assumption | rfl | omega | (left; simp; done) | (right; simp; done))) (hrl := (by first | assumption | rfl | omega | (left; simp; done) | (right; simp; done)))) ?_)
           rintro _ F29 _ le29 ⟨x35, x36, x37, rfl, hr48, hr49, hr50, hr51, rfl⟩
           replace har := har.mono le29
           replace hrs := hrs.mono le29
           replace htp := htp.mono le29
           replace hlf := hlf.mono le29
           replace hrt := hrt.mono le29
           replace hs := hs.mono le29
           replace f1_1hr1 := f1_1hr1.mono le29
           replace f1_1hr2 := f1_1hr2.mono le29
           replace f3_1hr1 := f3_1hr1.mono le29
           replace f3_1hr2 := f3_1hr2.mono le29
           replace f3_1hr3 := f3_1hr3.mono le29
           replace f5_1hr := f5_1hr.mono le29
           replace f6_1hr1 := f6_1hr1.mono le29
           replace f6_1hr2 := f6_1hr2.mono le29
           replace f6_1hr3 := f6_1hr3.mono le29
           replace f2_2hr1 := f2_2hr1.mono le29
           replace f2_2hr2 := f2_2hr2.mono le29
           exact ⟨⟨rfl, hr48, hr49, hr50⟩, rfl⟩
          exact stepsG.nil
         ·intro vals F30 le30 hphi
          have e0 : vals 0 = (.agg #[x21, x22, x23, .int .i64 (a), .int .i64 (u), .int .i64 (o)] : Value) := hphi 0 (by decide)
          have e1 : vals 1 = (.agg #[tpv, lfv, rtv, .int .i64 (a), .int .i64 (u), .int .i64 (o)] : Value) := hphi 1 (by decide)
          obtain ⟨e2, f2_3hr1, f2_3hr2, f2_3hr3⟩ := hphi 2 (by decide)
          generalize hu13 : ((aggAt (vals 2) 0)) = u12 at e0 e1 e2 f2_3hr1 f2_3hr2 f2_3hr3
          generalize hu14 : ((aggAt (vals 2) 1)) = u13 at e0 e1 e2 f2_3hr1 f2_3hr2 f2_3hr3
          generalize hu15 : ((aggAt (vals 2) 2)) = u14 at e0 e1 e2 f2_3hr1 f2_3hr2 f2_3hr3
          rw [(envs_of_sat (l := [(0, (.agg #[x21, x22, x23, .int .i64 (a), .int .i64 (u), .int .i64 (o)] : Value)), (1, (.agg #[tpv, lfv, rtv, .int .i64 (a), .int .i64 (u), .int .i64 (o)] : Value)), (2, (.agg #[u12, u13, u14, .int .i64 (a), .int .i64 (u), .int .i64 (o)] : Value))]) ⟨e0, e1, (e2).symm, trivial⟩).symm]
          replace har := har.mono le30
          replace hrs := hrs.mono le30
          replace htp := htp.mono le30
          replace hlf := hlf.mono le30
          replace hrt := hrt.mono le30
          replace hs := hs.mono le30
          replace f1_1hr1 := f1_1hr1.mono le30
          replace f1_1hr2 := f1_1hr2.mono le30
          replace f3_1hr1 := f3_1hr1.mono le30
          replace f3_1hr2 := f3_1hr2.mono le30
          replace f3_1hr3 := f3_1hr3.mono le30
          replace f5_1hr := f5_1hr.mono le30
          replace f6_1hr1 := f6_1hr1.mono le30
          replace f6_1hr2 := f6_1hr2.mono le30
          replace f6_1hr3 := f6_1hr3.mono le30
          replace f2_2hr1 := f2_2hr1.mono le30
          replace f2_2hr2 := f2_2hr2.mono le30
          show XL _ _ _ _ _ _ _ (intsH 2 x19 ar :: pairsD 2 161 x20 rs :: intsH 2 x25 ((peakUL ar rs tp lf rt a u o s).1) :: intsH 2 x26 ((peakUL ar rs tp lf rt a u o s).2.1) :: intsH 2 x27 ((peakUL ar rs tp lf rt a u o s).2.2.1) :: cellsH b10 [x25, x26, x27, .int .i64 ((peakUL ar rs tp lf rt a u o s).2.2.2.1.1), .int .i64 ((peakUL ar rs tp lf rt a u o s).2.2.2.1.2.1), .int .i64 ((peakUL ar rs tp lf rt a u o s).2.2.2.1.2.2)] 74 :: intsH 2 x21 tp :: intsH 2 x22 lf :: intsH 2 x23 rt :: rowsD 2 22 x24 s :: cellsH b9 [x24] 78 :: cellsH b8 [x21, x22, x23, .int .i64 (a), .int .i64 (u), .int .i64 (o)] 74 :: cellsH b7 [x19, x20] 39 :: cellsH b6 [u7, u8, u9, .int .i64 ((peakUL ar rs tp lf rt a u o s).2.2.2.1.1), .int .i64 ((peakUL ar rs tp lf rt a u o s).2.2.2.1.2.1), .int .i64 ((peakUL ar rs tp lf rt a u o s).2.2.2.1.2.2)] 74 :: cellsH b3 [sv] 71 :: cellsH b2 [tpv, lfv, rtv, .int .i64 (a), .int .i64 (u), .int .i64 (o)] 68 :: cellsH b1 [arv, rsv] 27 :: L)
          refine XL.cons (XOp.lend [_, _, _, _, _, _] _ _ rfl (fun F31 le31 hz12 => ?_))
          refine id (XOp.lend [_, _, _, _, _, _] _ _ rfl (fun F32 le32 hz13 => ?_))
          refine id (XOp.lend [_, _, _, _, _, _] _ _ rfl (fun F33 le33 hz14 => ?_))
          have hf12 : IntsF _ x21 tp := (intsH.fz (xs := tp) hz12).mono (FLe.trans le32 le33)
          have hf13 : IntsF _ x22 lf := (intsH.fz (xs := lf) hz13).mono le33
          have hf14 : IntsF _ x23 rt := intsH.fz (xs := rt) hz14
          refine id (XOp.call (args := [.agg #[x21, x22, x23, .int .i64 (a), .int .i64 (u), .int .i64 (o)], .agg #[u12, u13, u14, .int .i64 (a), .int .i64 (u), .int .i64 (o)]]) Tryz.call34 rfl (eqPeak_spec hf12 hf13 hf14 ((f2_3hr1.mono (FLe.trans (FLe.trans le31 le32) le33))) ((f2_3hr2.mono (FLe.trans (FLe.trans le31 le32) le33))) ((f2_3hr3.mono (FLe.trans (FLe.trans le31 le32) le33))) (htl := (by first | assumption | rfl | omega | (left; simp; done) | (right; simp; done))) (hll := (by first | assumption | rfl | omega | (left; simp; done) | (right; simp; done))) (hrl := (by first | assumption | rfl | omega | (left; simp; done) | (right; simp; done)))) ?_)
          rintro _ _ _ _ ⟨rfl, rfl, rfl⟩
          show XL _ _ _ _ _ _ _ (intsH 2 x21 tp :: intsH 2 x22 lf :: intsH 2 x23 rt :: intsH 2 x19 ar :: pairsD 2 161 x20 rs :: intsH 2 x25 ((peakUL ar rs tp lf rt a u o s).1) :: intsH 2 x26 ((peakUL ar rs tp lf rt a u o s).2.1) :: intsH 2 x27 ((peakUL ar rs tp lf rt a u o s).2.2.1) :: cellsH b10 [x25, x26, x27, .int .i64 ((peakUL ar rs tp lf rt a u o s).2.2.2.1.1), .int .i64 ((peakUL ar rs tp lf rt a u o s).2.2.2.1.2.1), .int .i64 ((peakUL ar rs tp lf rt a u o s).2.2.2.1.2.2)] 74 :: rowsD 2 22 x24 s :: cellsH b9 [x24] 78 :: cellsH b8 [x21, x22, x23, .int .i64 (a), .int .i64 (u), .int .i64 (o)] 74 :: cellsH b7 [x19, x20] 39 :: cellsH b6 [u7, u8, u9, .int .i64 ((peakUL ar rs tp lf rt a u o s).2.2.2.1.1), .int .i64 ((peakUL ar rs tp lf rt a u o s).2.2.2.1.2.1), .int .i64 ((peakUL ar rs tp lf rt a u o s).2.2.2.1.2.2)] 74 :: cellsH b3 [sv] 71 :: cellsH b2 [tpv, lfv, rtv, .int .i64 (a), .int .i64 (u), .int .i64 (o)] 68 :: cellsH b1 [arv, rsv] 27 :: L)
          refine XL.cons (XOp.notD (p := ((tp = tp ∧ lf = lf) ∧ rt = rt) ∧ (a = a ∧ u = u ∧ o = o)) rfl ?_)
          refine XL.nil ?_
          refine X.condD (p := ¬(((tp = tp ∧ lf = lf) ∧ rt = rt) ∧ (a = a ∧ u = u ∧ o = o))) rfl (fun h7 => ?_) (fun h7 => ?_)
          ·exact absurd (by first | rfl | exact ⟨rfl, rfl⟩ | exact ⟨⟨rfl, rfl⟩, rfl, rfl⟩ | simp) h7
          ·refine X.skip ?_
           refine X.seq ?_
           refine X.seq ?_
           refine X.drawG [intsH 2 x21 tp, intsH 2 x22 lf, intsH 2 x23 rt, intsH 2 x19 ar, pairsD 2 161 x20 rs, intsH 2 x25 ((peakUL ar rs tp lf rt a u o s).1), intsH 2 x26 ((peakUL ar rs tp lf rt a u o s).2.1), intsH 2 x27 ((peakUL ar rs tp lf rt a u o s).2.2.1), cellsH b10 [x25, x26, x27, .int .i64 ((peakUL ar rs tp lf rt a u o s).2.2.2.1.1), .int .i64 ((peakUL ar rs tp lf rt a u o s).2.2.2.1.2.1), .int .i64 ((peakUL ar rs tp lf rt a u o s).2.2.2.1.2.2)] 74, rowsD 2 22 x24 s, cellsH b9 [x24] 78, cellsH b8 [x21, x22, x23, .int .i64 (a), .int .i64 (u), .int .i64 (o)] 74, cellsH b7 [x19, x20] 39, cellsH b6 [u7, u8, u9, .int .i64 ((peakUL ar rs tp lf rt a u o s).2.2.2.1.1), .int .i64 ((peakUL ar rs tp lf rt a u o s).2.2.2.1.2.1), .int .i64 ((peakUL ar rs tp lf rt a u o s).2.2.2.1.2.2)] 74, cellsH b3 [sv] 71, cellsH b2 [tpv, lfv, rtv, .int .i64 (a), .int .i64 (u), .int .i64 (o)] 68, cellsH b1 [arv, rsv] 27] L 3 [[], [], []] [[], [], [1]] [[], [], []] (phiG [fun FF us v => v = (.agg #[x24] : Value), fun FF us v => v = (.agg #[sv] : Value), fun FF us v => (.agg #[((aggAt v 0))] : Value) = v ∧ (RowsF FF ((aggAt v 0)) s)]) (ownL [fun us v => [], fun us v => [], fun us v => []]) mixed rfl rfl (by kernel_rfl) (by kernel_rfl) (MonoG.get (MonoG.cons (fun le h => h) (MonoG.cons (fun le h => h) (MonoG.cons (fun le h => ⟨h.1, h.2.mono le⟩) MonoG.nil)))) ?_ ?_
           ·refine stepsG.cons (fun vals Fs R leFs hpZ => ?_) ?_
            ·replace har := har.mono leFs
             replace hrs := hrs.mono leFs
             replace htp := htp.mono leFs
             replace hlf := hlf.mono leFs
             replace hrt := hrt.mono leFs
             replace hs := hs.mono leFs
             replace f1_1hr1 := f1_1hr1.mono leFs
             replace f1_1hr2 := f1_1hr2.mono leFs
             replace f3_1hr1 := f3_1hr1.mono leFs
             replace f3_1hr2 := f3_1hr2.mono leFs
             replace f3_1hr3 := f3_1hr3.mono leFs
             replace f5_1hr := f5_1hr.mono leFs
             replace f6_1hr1 := f6_1hr1.mono leFs
             replace f6_1hr2 := f6_1hr2.mono leFs
             replace f6_1hr3 := f6_1hr3.mono leFs
             replace f2_2hr1 := f2_2hr1.mono leFs
             replace f2_2hr2 := f2_2hr2.mono leFs
             replace f2_3hr1 := f2_3hr1.mono leFs
             replace f2_3hr2 := f2_3hr2.mono leFs
             replace f2_3hr3 := f2_3hr3.mono leFs
             refine XG.op (XOp.loadN [x24] Tryz.isAgg78 Tryz.sizeOf78 rfl rfl (Rd.ownN [_, _, _, _, _, _, _, _, _, _] rfl rfl) ?_)
             exact ⟨rfl, rfl⟩
            refine stepsG.cons (fun vals Fs R leFs hpZ => ?_) ?_
            ·replace har := har.mono leFs
             replace hrs := hrs.mono leFs
             replace htp := htp.mono leFs
             replace hlf := hlf.mono leFs
             replace hrt := hrt.mono leFs
             replace hs := hs.mono leFs
             replace f1_1hr1 := f1_1hr1.mono leFs
             replace f1_1hr2 := f1_1hr2.mono leFs
             replace f3_1hr1 := f3_1hr1.mono leFs
             replace f3_1hr2 := f3_1hr2.mono leFs
             replace f3_1hr3 := f3_1hr3.mono leFs
             replace f5_1hr := f5_1hr.mono leFs
             replace f6_1hr1 := f6_1hr1.mono leFs
             replace f6_1hr2 := f6_1hr2.mono leFs
             replace f6_1hr3 := f6_1hr3.mono leFs
             replace f2_2hr1 := f2_2hr1.mono leFs
             replace f2_2hr2 := f2_2hr2.mono leFs
             replace f2_3hr1 := f2_3hr1.mono leFs
             replace f2_3hr2 := f2_3hr2.mono leFs
             replace f2_3hr3 := f2_3hr3.mono leFs
             refine XG.op (XOp.loadN [sv] Tryz.isAgg71 Tryz.sizeOf71 rfl rfl (Rd.ownN [_, _, _, _, _, _, _, _, _, _, _, _, _, _] rfl rfl) ?_)
             exact ⟨rfl, rfl⟩
            refine stepsG.cons (fun vals Fs R leFs hpZ => ?_) ?_
            ·have e1 : vals 1 = (.agg #[sv] : Value) := hpZ 1 (by decide)
             replace har := har.mono leFs
             replace hrs := hrs.mono leFs
             replace htp := htp.mono leFs
             replace hlf := hlf.mono leFs
             replace hrt := hrt.mono leFs
             replace hs := hs.mono leFs
             replace f1_1hr1 := f1_1hr1.mono leFs
             replace f1_1hr2 := f1_1hr2.mono leFs
             replace f3_1hr1 := f3_1hr1.mono leFs
             replace f3_1hr2 := f3_1hr2.mono leFs
             replace f3_1hr3 := f3_1hr3.mono leFs
             replace f5_1hr := f5_1hr.mono leFs
             replace f6_1hr1 := f6_1hr1.mono leFs
             replace f6_1hr2 := f6_1hr2.mono leFs
             replace f6_1hr3 := f6_1hr3.mono leFs
             replace f2_2hr1 := f2_2hr1.mono leFs
             replace f2_2hr2 := f2_2hr2.mono leFs
             replace f2_3hr1 := f2_3hr1.mono leFs
             replace f2_3hr2 := f2_3hr2.mono leFs
             replace f2_3hr3 := f2_3hr3.mono leFs
             rw [(envs_of_sat (l := [(1, (.agg #[sv] : Value))]) ⟨e1, trivial⟩).symm]
             refine XG.op (XOp.call (args := [.agg #[sv]]) Tryz.call32 rfl (toSubst_spec hs (hsl := (by first | assumption | rfl | omega | (left; simp; done) | (right; simp; done))) (hsb := (by first | assumption | rfl | omega | (left; simp; done) | (right; simp; done)))) ?_)
             rintro _ F35 _ le35 ⟨x39, rfl, hr54, hr55, rfl⟩
             replace har := har.mono le35
             replace hrs := hrs.mono le35
             replace htp := htp.mono le35
             replace hlf := hlf.mono le35
             replace hrt := hrt.mono le35
             replace hs := hs.mono le35
             replace f1_1hr1 := f1_1hr1.mono le35
             replace f1_1hr2 := f1_1hr2.mono le35
             replace f3_1hr1 := f3_1hr1.mono le35
             replace f3_1hr2 := f3_1hr2.mono le35
             replace f3_1hr3 := f3_1hr3.mono le35
             replace f5_1hr := f5_1hr.mono le35
             replace f6_1hr1 := f6_1hr1.mono le35
             replace f6_1hr2 := f6_1hr2.mono le35
             replace f6_1hr3 := f6_1hr3.mono le35
             replace f2_2hr1 := f2_2hr1.mono le35
             replace f2_2hr2 := f2_2hr2.mono le35
             replace f2_3hr1 := f2_3hr1.mono le35
             replace f2_3hr2 := f2_3hr2.mono le35
             replace f2_3hr3 := f2_3hr3.mono le35
             exact ⟨⟨rfl, hr54⟩, rfl⟩
            exact stepsG.nil
           ·intro vals F36 le36 hphi
            have e0 : vals 0 = (.agg #[x24] : Value) := hphi 0 (by decide)
            have e1 : vals 1 = (.agg #[sv] : Value) := hphi 1 (by decide)
            obtain ⟨e2, f2_4hr⟩ := hphi 2 (by decide)
            generalize hu16 : ((aggAt (vals 2) 0)) = u15 at e0 e1 e2 f2_4hr
            rw [(envs_of_sat (l := [(0, (.agg #[x24] : Value)), (1, (.agg #[sv] : Value)), (2, (.agg #[u15] : Value))]) ⟨e0, e1, (e2).symm, trivial⟩).symm]
            replace har := har.mono le36
            replace hrs := hrs.mono le36
            replace htp := htp.mono le36
            replace hlf := hlf.mono le36
            replace hrt := hrt.mono le36
            replace hs := hs.mono le36
            replace f1_1hr1 := f1_1hr1.mono le36
            replace f1_1hr2 := f1_1hr2.mono le36
            replace f3_1hr1 := f3_1hr1.mono le36
            replace f3_1hr2 := f3_1hr2.mono le36
            replace f3_1hr3 := f3_1hr3.mono le36
            replace f5_1hr := f5_1hr.mono le36
            replace f6_1hr1 := f6_1hr1.mono le36
            replace f6_1hr2 := f6_1hr2.mono le36
            replace f6_1hr3 := f6_1hr3.mono le36
            replace f2_2hr1 := f2_2hr1.mono le36
            replace f2_2hr2 := f2_2hr2.mono le36
            replace f2_3hr1 := f2_3hr1.mono le36
            replace f2_3hr2 := f2_3hr2.mono le36
            replace f2_3hr3 := f2_3hr3.mono le36
            show XL _ _ _ _ _ _ _ (intsH 2 x21 tp :: intsH 2 x22 lf :: intsH 2 x23 rt :: intsH 2 x19 ar :: pairsD 2 161 x20 rs :: intsH 2 x25 ((peakUL ar rs tp lf rt a u o s).1) :: intsH 2 x26 ((peakUL ar rs tp lf rt a u o s).2.1) :: intsH 2 x27 ((peakUL ar rs tp lf rt a u o s).2.2.1) :: cellsH b10 [x25, x26, x27, .int .i64 ((peakUL ar rs tp lf rt a u o s).2.2.2.1.1), .int .i64 ((peakUL ar rs tp lf rt a u o s).2.2.2.1.2.1), .int .i64 ((peakUL ar rs tp lf rt a u o s).2.2.2.1.2.2)] 74 :: rowsD 2 22 x24 s :: cellsH b9 [x24] 78 :: cellsH b8 [x21, x22, x23, .int .i64 (a), .int .i64 (u), .int .i64 (o)] 74 :: cellsH b7 [x19, x20] 39 :: cellsH b6 [u7, u8, u9, .int .i64 ((peakUL ar rs tp lf rt a u o s).2.2.2.1.1), .int .i64 ((peakUL ar rs tp lf rt a u o s).2.2.2.1.2.1), .int .i64 ((peakUL ar rs tp lf rt a u o s).2.2.2.1.2.2)] 74 :: cellsH b3 [sv] 71 :: cellsH b2 [tpv, lfv, rtv, .int .i64 (a), .int .i64 (u), .int .i64 (o)] 68 :: cellsH b1 [arv, rsv] 27 :: L)
            refine XL.cons (XOp.lend [_, _, _, _, _, _, _, _, _] _ _ rfl (fun F37 le37 hz15 => ?_))
            have hf15 : RowsF _ x24 s := rowsD.fz hz15
            refine id (XOp.call (args := [.agg #[x24], .agg #[u15]]) Tryz.call35 rfl (eqSubst_spec hf15 ((f2_4hr.mono le37)) (hal := (by first | assumption | rfl | omega | (left; simp; done) | (right; simp; done))) (hbd := (by first | assumption | rfl | omega | (left; simp; done) | (right; simp; done)))) ?_)
            rintro _ _ _ _ ⟨rfl, rfl, rfl⟩
            show XL _ _ _ _ _ _ _ (rowsD 2 22 x24 s :: intsH 2 x21 tp :: intsH 2 x22 lf :: intsH 2 x23 rt :: intsH 2 x19 ar :: pairsD 2 161 x20 rs :: intsH 2 x25 ((peakUL ar rs tp lf rt a u o s).1) :: intsH 2 x26 ((peakUL ar rs tp lf rt a u o s).2.1) :: intsH 2 x27 ((peakUL ar rs tp lf rt a u o s).2.2.1) :: cellsH b10 [x25, x26, x27, .int .i64 ((peakUL ar rs tp lf rt a u o s).2.2.2.1.1), .int .i64 ((peakUL ar rs tp lf rt a u o s).2.2.2.1.2.1), .int .i64 ((peakUL ar rs tp lf rt a u o s).2.2.2.1.2.2)] 74 :: cellsH b9 [x24] 78 :: cellsH b8 [x21, x22, x23, .int .i64 (a), .int .i64 (u), .int .i64 (o)] 74 :: cellsH b7 [x19, x20] 39 :: cellsH b6 [u7, u8, u9, .int .i64 ((peakUL ar rs tp lf rt a u o s).2.2.2.1.1), .int .i64 ((peakUL ar rs tp lf rt a u o s).2.2.2.1.2.1), .int .i64 ((peakUL ar rs tp lf rt a u o s).2.2.2.1.2.2)] 74 :: cellsH b3 [sv] 71 :: cellsH b2 [tpv, lfv, rtv, .int .i64 (a), .int .i64 (u), .int .i64 (o)] 68 :: cellsH b1 [arv, rsv] 27 :: L)
            refine XL.cons (XOp.notD (p := s = s) rfl ?_)
            refine XL.nil ?_
            refine X.condD (p := ¬(s = s)) rfl (fun h8 => ?_) (fun h8 => ?_)
            ·exact absurd (by first | rfl | exact ⟨rfl, rfl⟩ | exact ⟨⟨rfl, rfl⟩, rfl, rfl⟩ | simp) h8
            ·refine X.skip ?_
             refine X.seq ?_
             refine X.region ?_
             refine XL.cons (XOp.assign (.int .i64 (1)) rfl ?_)
             refine XL.nil ?_
             refine X.seq ?_
             refine X.region ?_
             refine XL.cons (XOp.loadN [x19, x20] Tryz.isAgg39 Tryz.sizeOf39 rfl rfl (Rd.ownN [_, _, _, _, _, _, _, _, _, _, _, _] rfl rfl) ?_)
             refine XL.cons (XOp.move (.int .i64 (1)) rfl ?_)
             refine XL.weaken (Sub.front (A := [_, _, _, _, _])) ?_
             show XL _ _ _ _ _ _ _ (pairsD 2 161 x20 rs :: rowsD 2 22 x24 s :: intsH 2 x21 tp :: intsH 2 x22 lf :: intsH 2 x23 rt :: intsH 2 x19 ar :: intsH 2 x25 ((peakUL ar rs tp lf rt a u o s).1) :: intsH 2 x26 ((peakUL ar rs tp lf rt a u o s).2.1) :: intsH 2 x27 ((peakUL ar rs tp lf rt a u o s).2.2.1) :: cellsH b10 [x25, x26, x27, .int .i64 ((peakUL ar rs tp lf rt a u o s).2.2.2.1.1), .int .i64 ((peakUL ar rs tp lf rt a u o s).2.2.2.1.2.1), .int .i64 ((peakUL ar rs tp lf rt a u o s).2.2.2.1.2.2)] 74 :: cellsH b9 [x24] 78 :: cellsH b8 [x21, x22, x23, .int .i64 (a), .int .i64 (u), .int .i64 (o)] 74 :: cellsH b7 [x19, x20] 39 :: cellsH b6 [u7, u8, u9, .int .i64 ((peakUL ar rs tp lf rt a u o s).2.2.2.1.1), .int .i64 ((peakUL ar rs tp lf rt a u o s).2.2.2.1.2.1), .int .i64 ((peakUL ar rs tp lf rt a u o s).2.2.2.1.2.2)] 74 :: cellsH b3 [sv] 71 :: cellsH b2 [tpv, lfv, rtv, .int .i64 (a), .int .i64 (u), .int .i64 (o)] 68 :: cellsH b1 [arv, rsv] 27 :: L)
             refine XL.weaken (Sub.front (A := [_, _, _, _, _])) ?_
             show XL _ _ _ _ _ _ _ (intsH 2 x19 ar :: pairsD 2 161 x20 rs :: rowsD 2 22 x24 s :: intsH 2 x21 tp :: intsH 2 x22 lf :: intsH 2 x23 rt :: intsH 2 x25 ((peakUL ar rs tp lf rt a u o s).1) :: intsH 2 x26 ((peakUL ar rs tp lf rt a u o s).2.1) :: intsH 2 x27 ((peakUL ar rs tp lf rt a u o s).2.2.1) :: cellsH b10 [x25, x26, x27, .int .i64 ((peakUL ar rs tp lf rt a u o s).2.2.2.1.1), .int .i64 ((peakUL ar rs tp lf rt a u o s).2.2.2.1.2.1), .int .i64 ((peakUL ar rs tp lf rt a u o s).2.2.2.1.2.2)] 74 :: cellsH b9 [x24] 78 :: cellsH b8 [x21, x22, x23, .int .i64 (a), .int .i64 (u), .int .i64 (o)] 74 :: cellsH b7 [x19, x20] 39 :: cellsH b6 [u7, u8, u9, .int .i64 ((peakUL ar rs tp lf rt a u o s).2.2.2.1.1), .int .i64 ((peakUL ar rs tp lf rt a u o s).2.2.2.1.2.1), .int .i64 ((peakUL ar rs tp lf rt a u o s).2.2.2.1.2.2)] 74 :: cellsH b3 [sv] 71 :: cellsH b2 [tpv, lfv, rtv, .int .i64 (a), .int .i64 (u), .int .i64 (o)] 68 :: cellsH b1 [arv, rsv] 27 :: L)
             refine XL.cons (XOp.call (args := [.agg #[x19, x20], .int .i64 (1)]) Tryz.call36 rfl (markSystem_spec (by (try simp only [List.length_append]); omega) (by omega)) ?_)
             rintro _ _ _ _ ⟨m1, m2, hm1, hk1, rfl, rfl, rfl⟩
             have hml1 := congrArg List.length hm1
             rw [iota_len] at hml1
             try simp only [List.length_append] at hml1
             refine XL.cons (XOp.assign (.int .i64 (1 + (((ar) ++ (rs.flatMap flatPair)).length : Int))) rfl ?_)
             refine XL.nil ?_
             refine X.seq ?_
             refine X.region ?_
             refine XL.cons (XOp.loadN [x21, x22, x23, .int .i64 (a), .int .i64 (u), .int .i64 (o)] Tryz.isAgg74 Tryz.sizeOf74 rfl rfl (Rd.ownN [_, _, _, _, _, _, _, _, _, _, _] rfl rfl) ?_)
             refine XL.cons (XOp.move (.int .i64 (1 + (((ar) ++ (rs.flatMap flatPair)).length : Int))) rfl ?_)
             refine XL.weaken (Sub.front (A := [_, _, _, _, _])) ?_
             show XL _ _ _ _ _ _ _ (intsH 2 x23 rt :: intsH 2 x19 m1 :: pairsD 2 161 x20 m2 :: rowsD 2 22 x24 s :: intsH 2 x21 tp :: intsH 2 x22 lf :: intsH 2 x25 ((peakUL ar rs tp lf rt a u o s).1) :: intsH 2 x26 ((peakUL ar rs tp lf rt a u o s).2.1) :: intsH 2 x27 ((peakUL ar rs tp lf rt a u o s).2.2.1) :: cellsH b10 [x25, x26, x27, .int .i64 ((peakUL ar rs tp lf rt a u o s).2.2.2.1.1), .int .i64 ((peakUL ar rs tp lf rt a u o s).2.2.2.1.2.1), .int .i64 ((peakUL ar rs tp lf rt a u o s).2.2.2.1.2.2)] 74 :: cellsH b9 [x24] 78 :: cellsH b8 [x21, x22, x23, .int .i64 (a), .int .i64 (u), .int .i64 (o)] 74 :: cellsH b7 [x19, x20] 39 :: cellsH b6 [u7, u8, u9, .int .i64 ((peakUL ar rs tp lf rt a u o s).2.2.2.1.1), .int .i64 ((peakUL ar rs tp lf rt a u o s).2.2.2.1.2.1), .int .i64 ((peakUL ar rs tp lf rt a u o s).2.2.2.1.2.2)] 74 :: cellsH b3 [sv] 71 :: cellsH b2 [tpv, lfv, rtv, .int .i64 (a), .int .i64 (u), .int .i64 (o)] 68 :: cellsH b1 [arv, rsv] 27 :: L)
             refine XL.weaken (Sub.front (A := [_, _, _, _, _])) ?_
             show XL _ _ _ _ _ _ _ (intsH 2 x22 lf :: intsH 2 x23 rt :: intsH 2 x19 m1 :: pairsD 2 161 x20 m2 :: rowsD 2 22 x24 s :: intsH 2 x21 tp :: intsH 2 x25 ((peakUL ar rs tp lf rt a u o s).1) :: intsH 2 x26 ((peakUL ar rs tp lf rt a u o s).2.1) :: intsH 2 x27 ((peakUL ar rs tp lf rt a u o s).2.2.1) :: cellsH b10 [x25, x26, x27, .int .i64 ((peakUL ar rs tp lf rt a u o s).2.2.2.1.1), .int .i64 ((peakUL ar rs tp lf rt a u o s).2.2.2.1.2.1), .int .i64 ((peakUL ar rs tp lf rt a u o s).2.2.2.1.2.2)] 74 :: cellsH b9 [x24] 78 :: cellsH b8 [x21, x22, x23, .int .i64 (a), .int .i64 (u), .int .i64 (o)] 74 :: cellsH b7 [x19, x20] 39 :: cellsH b6 [u7, u8, u9, .int .i64 ((peakUL ar rs tp lf rt a u o s).2.2.2.1.1), .int .i64 ((peakUL ar rs tp lf rt a u o s).2.2.2.1.2.1), .int .i64 ((peakUL ar rs tp lf rt a u o s).2.2.2.1.2.2)] 74 :: cellsH b3 [sv] 71 :: cellsH b2 [tpv, lfv, rtv, .int .i64 (a), .int .i64 (u), .int .i64 (o)] 68 :: cellsH b1 [arv, rsv] 27 :: L)
             refine XL.weaken (Sub.front (A := [_, _, _, _, _])) ?_
             show XL _ _ _ _ _ _ _ (intsH 2 x21 tp :: intsH 2 x22 lf :: intsH 2 x23 rt :: intsH 2 x19 m1 :: pairsD 2 161 x20 m2 :: rowsD 2 22 x24 s :: intsH 2 x25 ((peakUL ar rs tp lf rt a u o s).1) :: intsH 2 x26 ((peakUL ar rs tp lf rt a u o s).2.1) :: intsH 2 x27 ((peakUL ar rs tp lf rt a u o s).2.2.1) :: cellsH b10 [x25, x26, x27, .int .i64 ((peakUL ar rs tp lf rt a u o s).2.2.2.1.1), .int .i64 ((peakUL ar rs tp lf rt a u o s).2.2.2.1.2.1), .int .i64 ((peakUL ar rs tp lf rt a u o s).2.2.2.1.2.2)] 74 :: cellsH b9 [x24] 78 :: cellsH b8 [x21, x22, x23, .int .i64 (a), .int .i64 (u), .int .i64 (o)] 74 :: cellsH b7 [x19, x20] 39 :: cellsH b6 [u7, u8, u9, .int .i64 ((peakUL ar rs tp lf rt a u o s).2.2.2.1.1), .int .i64 ((peakUL ar rs tp lf rt a u o s).2.2.2.1.2.1), .int .i64 ((peakUL ar rs tp lf rt a u o s).2.2.2.1.2.2)] 74 :: cellsH b3 [sv] 71 :: cellsH b2 [tpv, lfv, rtv, .int .i64 (a), .int .i64 (u), .int .i64 (o)] 68 :: cellsH b1 [arv, rsv] 27 :: L)
             refine XL.cons (XOp.call (args := [.agg #[x21, x22, x23, .int .i64 (a), .int .i64 (u), .int .i64 (o)], .int .i64 (1 + (((ar) ++ (rs.flatMap flatPair)).length : Int))]) Tryz.call37 rfl (markPeak_spec (by (try simp only [List.length_append]); omega)) ?_)
             rintro _ _ _ _ ⟨m3, m4, m5, hm2, rfl, rfl, rfl⟩
             have hml2 := congrArg List.length hm2
             rw [iota_len] at hml2
             try simp only [List.length_append] at hml2
             refine XL.cons (XOp.assign (.int .i64 ((1 + (((ar) ++ (rs.flatMap flatPair)).length : Int)) + (((tp) ++ (lf) ++ (rt)).length : Int))) rfl ?_)
             refine XL.nil ?_
             refine X.seq ?_
             refine X.region ?_
             refine XL.cons (XOp.loadN [x24] Tryz.isAgg78 Tryz.sizeOf78 rfl rfl (Rd.ownN [_, _, _, _, _, _, _, _, _, _] rfl rfl) ?_)
             refine XL.cons (XOp.move (.int .i64 ((1 + (((ar) ++ (rs.flatMap flatPair)).length : Int)) + (((tp) ++ (lf) ++ (rt)).length : Int))) rfl ?_)
             refine XL.weaken (Sub.front (A := [_, _, _, _, _])) ?_
             show XL _ _ _ _ _ _ _ (rowsD 2 22 x24 s :: intsH 2 x21 m3 :: intsH 2 x22 m4 :: intsH 2 x23 m5 :: intsH 2 x19 m1 :: pairsD 2 161 x20 m2 :: intsH 2 x25 ((peakUL ar rs tp lf rt a u o s).1) :: intsH 2 x26 ((peakUL ar rs tp lf rt a u o s).2.1) :: intsH 2 x27 ((peakUL ar rs tp lf rt a u o s).2.2.1) :: cellsH b10 [x25, x26, x27, .int .i64 ((peakUL ar rs tp lf rt a u o s).2.2.2.1.1), .int .i64 ((peakUL ar rs tp lf rt a u o s).2.2.2.1.2.1), .int .i64 ((peakUL ar rs tp lf rt a u o s).2.2.2.1.2.2)] 74 :: cellsH b9 [x24] 78 :: cellsH b8 [x21, x22, x23, .int .i64 (a), .int .i64 (u), .int .i64 (o)] 74 :: cellsH b7 [x19, x20] 39 :: cellsH b6 [u7, u8, u9, .int .i64 ((peakUL ar rs tp lf rt a u o s).2.2.2.1.1), .int .i64 ((peakUL ar rs tp lf rt a u o s).2.2.2.1.2.1), .int .i64 ((peakUL ar rs tp lf rt a u o s).2.2.2.1.2.2)] 74 :: cellsH b3 [sv] 71 :: cellsH b2 [tpv, lfv, rtv, .int .i64 (a), .int .i64 (u), .int .i64 (o)] 68 :: cellsH b1 [arv, rsv] 27 :: L)
             refine XL.cons (XOp.call (args := [.agg #[x24], .int .i64 ((1 + (((ar) ++ (rs.flatMap flatPair)).length : Int)) + (((tp) ++ (lf) ++ (rt)).length : Int))]) Tryz.call38 rfl (markSubst_spec (by (try simp only [List.length_append]); omega) (by omega)) ?_)
             rintro _ _ _ _ ⟨m6, hm3, hk2, rfl, rfl, rfl⟩
             have hml3 := congrArg List.length hm3
             rw [iota_len] at hml3
             try simp only [List.length_append] at hml3
             refine XL.cons (XOp.assign (.int .i64 (((1 + (((ar) ++ (rs.flatMap flatPair)).length : Int)) + (((tp) ++ (lf) ++ (rt)).length : Int)) + (((s.flatMap flatRow)).length : Int))) rfl ?_)
             refine XL.nil ?_
             refine X.seq ?_
             refine X.seq ?_
             refine X.region ?_
             refine XL.cons (XOp.move (.int .i64 (((1 + (((ar) ++ (rs.flatMap flatPair)).length : Int)) + (((tp) ++ (lf) ++ (rt)).length : Int)) + (((s.flatMap flatRow)).length : Int))) rfl ?_)
             refine XL.cons (XOp.lss (a := ((1 + (((ar) ++ (rs.flatMap flatPair)).length : Int)) + (((tp) ++ (lf) ++ (rt)).length : Int)) + (((s.flatMap flatRow)).length : Int)) (b := 0) rfl rfl ?_)
             refine XL.cons (XOp.move (.bool (decide ((((1 + (((ar) ++ (rs.flatMap flatPair)).length : Int)) + (((tp) ++ (lf) ++ (rt)).length : Int)) + (((s.flatMap flatRow)).length : Int) : Int) < 0))) rfl ?_)
             by_cases h9 : (((1 + (((ar) ++ (rs.flatMap flatPair)).length : Int)) + (((tp) ++ (lf) ++ (rt)).length : Int)) + (((s.flatMap flatRow)).length : Int) : Int) < 0
             ·exact absurd h9 (by omega)
             ·refine XL.yes (t := 93) rfl (congrArg Value.bool (decide_eq_false h9)) (XOp.loadN [x25, x26, x27, .int .i64 ((peakUL ar rs tp lf rt a u o s).2.2.2.1.1), .int .i64 ((peakUL ar rs tp lf rt a u o s).2.2.2.1.2.1), .int .i64 ((peakUL ar rs tp lf rt a u o s).2.2.2.1.2.2)] Tryz.isAgg74 Tryz.sizeOf74 rfl rfl (Rd.ownN [_, _, _, _, _, _, _, _, _] rfl rfl) ?_)
              refine XL.yes (t := 93) rfl (congrArg Value.bool (decide_eq_false h9)) (XOp.loadN [u7, u8, u9, .int .i64 ((peakUL ar rs tp lf rt a u o s).2.2.2.1.1), .int .i64 ((peakUL ar rs tp lf rt a u o s).2.2.2.1.2.1), .int .i64 ((peakUL ar rs tp lf rt a u o s).2.2.2.1.2.2)] Tryz.isAgg74 Tryz.sizeOf74 rfl rfl (Rd.ownN [_, _, _, _, _, _, _, _, _, _, _, _, _] rfl rfl) ?_)
              refine XL.yes (t := 93) rfl (congrArg Value.bool (decide_eq_false h9)) (XOp.lend [_, _, _, _, _, _] _ _ rfl (fun F38 le38 hz16 => ?_))
              refine id (XOp.lend [_, _, _, _, _, _] _ _ rfl (fun F39 le39 hz17 => ?_))
              refine id (XOp.lend [_, _, _, _, _, _] _ _ rfl (fun F40 le40 hz18 => ?_))
              have hf16 : IntsF _ x25 ((peakUL ar rs tp lf rt a u o s).1) := (intsH.fz (xs := (peakUL ar rs tp lf rt a u o s).1) hz16).mono (FLe.trans le39 le40)
              have hf17 : IntsF _ x26 ((peakUL ar rs tp lf rt a u o s).2.1) := (intsH.fz (xs := (peakUL ar rs tp lf rt a u o s).2.1) hz17).mono le40
              have hf18 : IntsF _ x27 ((peakUL ar rs tp lf rt a u o s).2.2.1) := intsH.fz (xs := (peakUL ar rs tp lf rt a u o s).2.2.1) hz18
              refine id (XOp.call (args := [.agg #[x25, x26, x27, .int .i64 ((peakUL ar rs tp lf rt a u o s).2.2.2.1.1), .int .i64 ((peakUL ar rs tp lf rt a u o s).2.2.2.1.2.1), .int .i64 ((peakUL ar rs tp lf rt a u o s).2.2.2.1.2.2)], .agg #[u7, u8, u9, .int .i64 ((peakUL ar rs tp lf rt a u o s).2.2.2.1.1), .int .i64 ((peakUL ar rs tp lf rt a u o s).2.2.2.1.2.1), .int .i64 ((peakUL ar rs tp lf rt a u o s).2.2.2.1.2.2)]]) Tryz.call34 rfl (eqPeak_spec hf16 hf17 hf18 ((f6_1hr1.mono (FLe.trans (FLe.trans le38 le39) le40))) ((f6_1hr2.mono (FLe.trans (FLe.trans le38 le39) le40))) ((f6_1hr3.mono (FLe.trans (FLe.trans le38 le39) le40))) (htl := (by first | assumption | rfl | omega | (left; simp; done) | (right; simp; done))) (hll := (by first | assumption | rfl | omega | (left; simp; done) | (right; simp; done))) (hrl := (by first | assumption | rfl | omega | (left; simp; done) | (right; simp; done)))) ?_)
              rintro _ _ _ _ ⟨rfl, rfl, rfl⟩
              show XL _ _ _ _ _ _ _ (intsH 2 x25 ((peakUL ar rs tp lf rt a u o s).1) :: intsH 2 x26 ((peakUL ar rs tp lf rt a u o s).2.1) :: intsH 2 x27 ((peakUL ar rs tp lf rt a u o s).2.2.1) :: rowsD 2 22 x24 m6 :: intsH 2 x21 m3 :: intsH 2 x22 m4 :: intsH 2 x23 m5 :: intsH 2 x19 m1 :: pairsD 2 161 x20 m2 :: cellsH b10 [x25, x26, x27, .int .i64 ((peakUL ar rs tp lf rt a u o s).2.2.2.1.1), .int .i64 ((peakUL ar rs tp lf rt a u o s).2.2.2.1.2.1), .int .i64 ((peakUL ar rs tp lf rt a u o s).2.2.2.1.2.2)] 74 :: cellsH b9 [x24] 78 :: cellsH b8 [x21, x22, x23, .int .i64 (a), .int .i64 (u), .int .i64 (o)] 74 :: cellsH b7 [x19, x20] 39 :: cellsH b6 [u7, u8, u9, .int .i64 ((peakUL ar rs tp lf rt a u o s).2.2.2.1.1), .int .i64 ((peakUL ar rs tp lf rt a u o s).2.2.2.1.2.1), .int .i64 ((peakUL ar rs tp lf rt a u o s).2.2.2.1.2.2)] 74 :: cellsH b3 [sv] 71 :: cellsH b2 [tpv, lfv, rtv, .int .i64 (a), .int .i64 (u), .int .i64 (o)] 68 :: cellsH b1 [arv, rsv] 27 :: L)
              refine XL.yes (t := 93) rfl (congrArg Value.bool (decide_eq_false h9)) (XOp.notD (p := ((((peakUL ar rs tp lf rt a u o s).1) = ((peakUL ar rs tp lf rt a u o s).1) ∧ ((peakUL ar rs tp lf rt a u o s).2.1) = ((peakUL ar rs tp lf rt a u o s).2.1)) ∧ ((peakUL ar rs tp lf rt a u o s).2.2.1) = ((peakUL ar rs tp lf rt a u o s).2.2.1)) ∧ (((peakUL ar rs tp lf rt a u o s).2.2.2.1.1) = ((peakUL ar rs tp lf rt a u o s).2.2.2.1.1) ∧ ((peakUL ar rs tp lf rt a u o s).2.2.2.1.2.1) = ((peakUL ar rs tp lf rt a u o s).2.2.2.1.2.1) ∧ ((peakUL ar rs tp lf rt a u o s).2.2.2.1.2.2) = ((peakUL ar rs tp lf rt a u o s).2.2.2.1.2.2))) rfl ?_)
              refine XL.cons (XOp.pickF (.bool (decide (¬(((((peakUL ar rs tp lf rt a u o s).1) = ((peakUL ar rs tp lf rt a u o s).1) ∧ ((peakUL ar rs tp lf rt a u o s).2.1) = ((peakUL ar rs tp lf rt a u o s).2.1)) ∧ ((peakUL ar rs tp lf rt a u o s).2.2.1) = ((peakUL ar rs tp lf rt a u o s).2.2.1)) ∧ (((peakUL ar rs tp lf rt a u o s).2.2.2.1.1) = ((peakUL ar rs tp lf rt a u o s).2.2.2.1.1) ∧ ((peakUL ar rs tp lf rt a u o s).2.2.2.1.2.1) = ((peakUL ar rs tp lf rt a u o s).2.2.2.1.2.1) ∧ ((peakUL ar rs tp lf rt a u o s).2.2.2.1.2.2) = ((peakUL ar rs tp lf rt a u o s).2.2.2.1.2.2)))))) (congrArg Value.bool (decide_eq_false h9)) rfl ?_)
              refine XL.cons (XOp.move (.bool (decide (¬(((((peakUL ar rs tp lf rt a u o s).1) = ((peakUL ar rs tp lf rt a u o s).1) ∧ ((peakUL ar rs tp lf rt a u o s).2.1) = ((peakUL ar rs tp lf rt a u o s).2.1)) ∧ ((peakUL ar rs tp lf rt a u o s).2.2.1) = ((peakUL ar rs tp lf rt a u o s).2.2.1)) ∧ (((peakUL ar rs tp lf rt a u o s).2.2.2.1.1) = ((peakUL ar rs tp lf rt a u o s).2.2.2.1.1) ∧ ((peakUL ar rs tp lf rt a u o s).2.2.2.1.2.1) = ((peakUL ar rs tp lf rt a u o s).2.2.2.1.2.1) ∧ ((peakUL ar rs tp lf rt a u o s).2.2.2.1.2.2) = ((peakUL ar rs tp lf rt a u o s).2.2.2.1.2.2)))))) rfl ?_)
              refine XL.yes (t := 99) rfl (congrArg Value.bool (decide_eq_false h4)) (XOp.move (.bool ((peakUL ar rs tp lf rt a u o s).2.2.2.2)) rfl ?_)
              refine XL.yes (t := 99) rfl (congrArg Value.bool (decide_eq_false h4)) (XOp.move (.bool ((peakUL ar rs tp lf rt a u o s).2.2.2.2)) rfl ?_)
              refine XL.yes (t := 99) rfl (congrArg Value.bool (decide_eq_false h4)) (XOp.neB (a := (peakUL ar rs tp lf rt a u o s).2.2.2.2) (b := (peakUL ar rs tp lf rt a u o s).2.2.2.2) Tryz.runUnderlying4 rfl rfl ?_)
              refine XL.cons (XOp.pickF (.bool (decide (((peakUL ar rs tp lf rt a u o s).2.2.2.2) ≠ ((peakUL ar rs tp lf rt a u o s).2.2.2.2)))) (congrArg Value.bool (decide_eq_false h4)) rfl ?_)
              refine XL.nil ?_
              refine X.condF (congrArg Value.bool (decide_eq_false h5)) ?_
              refine X.skip ?_
              refine X.seq ?_
              refine X.region ?_
              refine XL.cons (XOp.assign (.int .i64 (1)) rfl ?_)
              refine XL.nil ?_
              refine X.seq ?_
              refine X.region ?_
              refine XL.cons (XOp.loadN [x25, x26, x27, .int .i64 ((peakUL ar rs tp lf rt a u o s).2.2.2.1.1), .int .i64 ((peakUL ar rs tp lf rt a u o s).2.2.2.1.2.1), .int .i64 ((peakUL ar rs tp lf rt a u o s).2.2.2.1.2.2)] Tryz.isAgg74 Tryz.sizeOf74 rfl rfl (Rd.ownN [_, _, _, _, _, _, _, _, _] rfl rfl) ?_)
              refine XL.cons (XOp.move (.int .i64 (1)) rfl ?_)
              refine XL.weaken (Sub.front (A := [_, _])) ?_
              show XL _ _ _ _ _ _ _ (intsH 2 x27 ((peakUL ar rs tp lf rt a u o s).2.2.1) :: intsH 2 x25 ((peakUL ar rs tp lf rt a u o s).1) :: intsH 2 x26 ((peakUL ar rs tp lf rt a u o s).2.1) :: rowsD 2 22 x24 m6 :: intsH 2 x21 m3 :: intsH 2 x22 m4 :: intsH 2 x23 m5 :: intsH 2 x19 m1 :: pairsD 2 161 x20 m2 :: cellsH b10 [x25, x26, x27, .int .i64 ((peakUL ar rs tp lf rt a u o s).2.2.2.1.1), .int .i64 ((peakUL ar rs tp lf rt a u o s).2.2.2.1.2.1), .int .i64 ((peakUL ar rs tp lf rt a u o s).2.2.2.1.2.2)] 74 :: cellsH b9 [x24] 78 :: cellsH b8 [x21, x22, x23, .int .i64 (a), .int .i64 (u), .int .i64 (o)] 74 :: cellsH b7 [x19, x20] 39 :: cellsH b6 [u7, u8, u9, .int .i64 ((peakUL ar rs tp lf rt a u o s).2.2.2.1.1), .int .i64 ((peakUL ar rs tp lf rt a u o s).2.2.2.1.2.1), .int .i64 ((peakUL ar rs tp lf rt a u o s).2.2.2.1.2.2)] 74 :: cellsH b3 [sv] 71 :: cellsH b2 [tpv, lfv, rtv, .int .i64 (a), .int .i64 (u), .int .i64 (o)] 68 :: cellsH b1 [arv, rsv] 27 :: L)
              refine XL.weaken (Sub.front (A := [_, _])) ?_
              show XL _ _ _ _ _ _ _ (intsH 2 x26 ((peakUL ar rs tp lf rt a u o s).2.1) :: intsH 2 x27 ((peakUL ar rs tp lf rt a u o s).2.2.1) :: intsH 2 x25 ((peakUL ar rs tp lf rt a u o s).1) :: rowsD 2 22 x24 m6 :: intsH 2 x21 m3 :: intsH 2 x22 m4 :: intsH 2 x23 m5 :: intsH 2 x19 m1 :: pairsD 2 161 x20 m2 :: cellsH b10 [x25, x26, x27, .int .i64 ((peakUL ar rs tp lf rt a u o s).2.2.2.1.1), .int .i64 ((peakUL ar rs tp lf rt a u o s).2.2.2.1.2.1), .int .i64 ((peakUL ar rs tp lf rt a u o s).2.2.2.1.2.2)] 74 :: cellsH b9 [x24] 78 :: cellsH b8 [x21, x22, x23, .int .i64 (a), .int .i64 (u), .int .i64 (o)] 74 :: cellsH b7 [x19, x20] 39 :: cellsH b6 [u7, u8, u9, .int .i64 ((peakUL ar rs tp lf rt a u o s).2.2.2.1.1), .int .i64 ((peakUL ar rs tp lf rt a u o s).2.2.2.1.2.1), .int .i64 ((peakUL ar rs tp lf rt a u o s).2.2.2.1.2.2)] 74 :: cellsH b3 [sv] 71 :: cellsH b2 [tpv, lfv, rtv, .int .i64 (a), .int .i64 (u), .int .i64 (o)] 68 :: cellsH b1 [arv, rsv] 27 :: L)
              refine XL.weaken (Sub.front (A := [_, _])) ?_
              show XL _ _ _ _ _ _ _ (intsH 2 x25 ((peakUL ar rs tp lf rt a u o s).1) :: intsH 2 x26 ((peakUL ar rs tp lf rt a u o s).2.1) :: intsH 2 x27 ((peakUL ar rs tp lf rt a u o s).2.2.1) :: rowsD 2 22 x24 m6 :: intsH 2 x21 m3 :: intsH 2 x22 m4 :: intsH 2 x23 m5 :: intsH 2 x19 m1 :: pairsD 2 161 x20 m2 :: cellsH b10 [x25, x26, x27, .int .i64 ((peakUL ar rs tp lf rt a u o s).2.2.2.1.1), .int .i64 ((peakUL ar rs tp lf rt a u o s).2.2.2.1.2.1), .int .i64 ((peakUL ar rs tp lf rt a u o s).2.2.2.1.2.2)] 74 :: cellsH b9 [x24] 78 :: cellsH b8 [x21, x22, x23, .int .i64 (a), .int .i64 (u), .int .i64 (o)] 74 :: cellsH b7 [x19, x20] 39 :: cellsH b6 [u7, u8, u9, .int .i64 ((peakUL ar rs tp lf rt a u o s).2.2.2.1.1), .int .i64 ((peakUL ar rs tp lf rt a u o s).2.2.2.1.2.1), .int .i64 ((peakUL ar rs tp lf rt a u o s).2.2.2.1.2.2)] 74 :: cellsH b3 [sv] 71 :: cellsH b2 [tpv, lfv, rtv, .int .i64 (a), .int .i64 (u), .int .i64 (o)] 68 :: cellsH b1 [arv, rsv] 27 :: L)
              refine XL.cons (XOp.call (args := [.agg #[x25, x26, x27, .int .i64 ((peakUL ar rs tp lf rt a u o s).2.2.2.1.1), .int .i64 ((peakUL ar rs tp lf rt a u o s).2.2.2.1.2.1), .int .i64 ((peakUL ar rs tp lf rt a u o s).2.2.2.1.2.2)], .int .i64 (1)]) Tryz.call37 rfl (markPeak_spec (by (try simp only [List.length_append]); omega)) ?_)
              rintro _ _ _ _ ⟨m7, m8, m9, hm4, rfl, rfl, rfl⟩
              have hml4 := congrArg List.length hm4
              rw [iota_len] at hml4
              try simp only [List.length_append] at hml4
              refine XL.cons (XOp.assign (.int .i64 (1 + (((((peakUL ar rs tp lf rt a u o s).1)) ++ (((peakUL ar rs tp lf rt a u o s).2.1)) ++ (((peakUL ar rs tp lf rt a u o s).2.2.1))).length : Int))) rfl ?_)
              refine XL.nil ?_
              refine X.seq ?_
              refine X.region ?_
              refine XL.cons (XOp.assign (.int .i64 (1)) rfl ?_)
              refine XL.nil ?_
              refine X.seq ?_
              refine X.region ?_
              refine XL.cons (XOp.loadN [x25, x26, x27, .int .i64 ((peakUL ar rs tp lf rt a u o s).2.2.2.1.1), .int .i64 ((peakUL ar rs tp lf rt a u o s).2.2.2.1.2.1), .int .i64 ((peakUL ar rs tp lf rt a u o s).2.2.2.1.2.2)] Tryz.isAgg74 Tryz.sizeOf74 rfl rfl (Rd.ownN [_, _, _, _, _, _, _, _, _] rfl rfl) ?_)
              refine XL.cons (XOp.move (.int .i64 (1)) rfl ?_)
              refine XL.cons (XOp.lend [] _ _ rfl (fun F41 le41 hz19 => ?_))
              refine id (XOp.lend [] _ _ rfl (fun F42 le42 hz20 => ?_))
              refine id (XOp.lend [] _ _ rfl (fun F43 le43 hz21 => ?_))
              have hf19 : IntsF _ x25 m7 := (intsH.fz (xs := m7) hz19).mono (FLe.trans le42 le43)
              have hf20 : IntsF _ x26 m8 := (intsH.fz (xs := m8) hz20).mono le43
              have hf21 : IntsF _ x27 m9 := intsH.fz (xs := m9) hz21
              refine id (XOp.call (args := [.agg #[x25, x26, x27, .int .i64 ((peakUL ar rs tp lf rt a u o s).2.2.2.1.1), .int .i64 ((peakUL ar rs tp lf rt a u o s).2.2.2.1.2.1), .int .i64 ((peakUL ar rs tp lf rt a u o s).2.2.2.1.2.2)], .int .i64 (1)]) Tryz.call39 rfl (heldPeak_spec (z := 1) hf19 hf20 hf21 (hzb := (by first | assumption | rfl | omega | (left; simp; done) | (right; simp; done)))) ?_)
              rintro _ _ _ _ ⟨rfl, rfl, rfl⟩
              show XL _ _ _ _ _ _ _ (intsH 2 x25 m7 :: intsH 2 x26 m8 :: intsH 2 x27 m9 :: rowsD 2 22 x24 m6 :: intsH 2 x21 m3 :: intsH 2 x22 m4 :: intsH 2 x23 m5 :: intsH 2 x19 m1 :: pairsD 2 161 x20 m2 :: cellsH b10 [x25, x26, x27, .int .i64 ((peakUL ar rs tp lf rt a u o s).2.2.2.1.1), .int .i64 ((peakUL ar rs tp lf rt a u o s).2.2.2.1.2.1), .int .i64 ((peakUL ar rs tp lf rt a u o s).2.2.2.1.2.2)] 74 :: cellsH b9 [x24] 78 :: cellsH b8 [x21, x22, x23, .int .i64 (a), .int .i64 (u), .int .i64 (o)] 74 :: cellsH b7 [x19, x20] 39 :: cellsH b6 [u7, u8, u9, .int .i64 ((peakUL ar rs tp lf rt a u o s).2.2.2.1.1), .int .i64 ((peakUL ar rs tp lf rt a u o s).2.2.2.1.2.1), .int .i64 ((peakUL ar rs tp lf rt a u o s).2.2.2.1.2.2)] 74 :: cellsH b3 [sv] 71 :: cellsH b2 [tpv, lfv, rtv, .int .i64 (a), .int .i64 (u), .int .i64 (o)] 68 :: cellsH b1 [arv, rsv] 27 :: L)
              refine XL.cons (XOp.assign (.int .i64 (heldF ((m7 ++ m8) ++ m9) 1)) rfl ?_)
              refine XL.nil ?_
              refine X.seq ?_
              refine X.seq ?_
              refine X.region ?_
              refine XL.cons (XOp.move (.int .i64 (heldF ((m7 ++ m8) ++ m9) 1)) rfl ?_)
              refine XL.cons (XOp.lss (a := heldF ((m7 ++ m8) ++ m9) 1) (b := 0) rfl rfl ?_)
              refine XL.nil ?_
              refine X.condD (p := (heldF ((m7 ++ m8) ++ m9) 1 : Int) < 0) rfl (fun h10 => ?_) (fun h10 => ?_)
              ·rw [hm4, heldF_iota] at h10
               exact absurd h10 (by omega)
              ·have hh2 := (fun (l : List Int) (k k2 : Int) (n : Nat) (h : l = iota k n) (hk : k2 = k) => show heldF l k2 = k + n from (by subst hk; rw [h, heldF_iota])) _ _ (1) _ hm4 (by first | rfl | omega)
               have hh2l := hh2
               try simp only [List.length_append] at hh2l
               refine X.skip ?_
               refine X.seq ?_
               refine X.seq ?_
               refine X.region ?_
               refine XL.cons (XOp.move (.int .i64 (heldF ((m7 ++ m8) ++ m9) 1)) rfl ?_)
               refine XL.cons (XOp.move (.int .i64 (1 + (((((peakUL ar rs tp lf rt a u o s).1)) ++ (((peakUL ar rs tp lf rt a u o s).2.1)) ++ (((peakUL ar rs tp lf rt a u o s).2.2.1))).length : Int))) rfl ?_)
               refine XL.cons (XOp.neq (a := heldF ((m7 ++ m8) ++ m9) 1) (b := 1 + (((((peakUL ar rs tp lf rt a u o s).1)) ++ (((peakUL ar rs tp lf rt a u o s).2.1)) ++ (((peakUL ar rs tp lf rt a u o s).2.2.1))).length : Int)) rfl rfl ?_)
               refine XL.nil ?_
               refine X.condD (p := (heldF ((m7 ++ m8) ++ m9) 1 : Int) ≠ 1 + (((((peakUL ar rs tp lf rt a u o s).1)) ++ (((peakUL ar rs tp lf rt a u o s).2.1)) ++ (((peakUL ar rs tp lf rt a u o s).2.2.1))).length : Int)) rfl (fun h11 => ?_) (fun h11 => ?_)
               ·exact absurd (by rw [hm4, heldF_iota]) h11
               ·refine X.skip ?_
                refine X.seq ?_
                refine X.drawG [intsH 2 x25 m7, intsH 2 x26 m8, intsH 2 x27 m9, rowsD 2 22 x24 m6, intsH 2 x21 m3, intsH 2 x22 m4, intsH 2 x23 m5, intsH 2 x19 m1, pairsD 2 161 x20 m2, cellsH b10 [x25, x26, x27, .int .i64 ((peakUL ar rs tp lf rt a u o s).2.2.2.1.1), .int .i64 ((peakUL ar rs tp lf rt a u o s).2.2.2.1.2.1), .int .i64 ((peakUL ar rs tp lf rt a u o s).2.2.2.1.2.2)] 74, cellsH b9 [x24] 78, cellsH b8 [x21, x22, x23, .int .i64 (a), .int .i64 (u), .int .i64 (o)] 74, cellsH b7 [x19, x20] 39, cellsH b6 [u7, u8, u9, .int .i64 ((peakUL ar rs tp lf rt a u o s).2.2.2.1.1), .int .i64 ((peakUL ar rs tp lf rt a u o s).2.2.2.1.2.1), .int .i64 ((peakUL ar rs tp lf rt a u o s).2.2.2.1.2.2)] 74, cellsH b3 [sv] 71, cellsH b2 [tpv, lfv, rtv, .int .i64 (a), .int .i64 (u), .int .i64 (o)] 68, cellsH b1 [arv, rsv] 27] L 12 [[], [], [], [], [], [], [], [6], [6], [], [], [6, 10]] [[], [0], [], [2], [], [4], [1, 3, 5], [6], [6, 7], [6, 7], [], [6, 8, 10]] [[], [], [], [], [], [], [], [], [], [], [], [10]] (phiG [fun FF us v => v = (.agg #[arv, rsv] : Value), fun FF us v => (.agg #[((aggAt v 0)), ((aggAt v 1))] : Value) = v ∧ (IntsF FF ((aggAt v 0)) ar) ∧ (PairsF FF ((aggAt v 1)) rs), fun FF us v => v = (.agg #[tpv, lfv, rtv, .int .i64 (a), .int .i64 (u), .int .i64 (o)] : Value), fun FF us v => (.agg #[((aggAt v 0)), ((aggAt v 1)), ((aggAt v 2)), .int .i64 (a), .int .i64 (u), .int .i64 (o)] : Value) = v ∧ (IntsF FF ((aggAt v 0)) tp) ∧ (IntsF FF ((aggAt v 1)) lf) ∧ (IntsF FF ((aggAt v 2)) rt), fun FF us v => v = (.agg #[sv] : Value), fun FF us v => (.agg #[((aggAt v 0))] : Value) = v ∧ (RowsF FF ((aggAt v 0)) s), fun FF us v => (.tuple #[.agg #[((aggAt (tupAt v 0) 0)), ((aggAt (tupAt v 0) 1)), ((aggAt (tupAt v 0) 2)), .int .i64 ((peakUL ar rs tp lf rt a u o s).2.2.2.1.1), .int .i64 ((peakUL ar rs tp lf rt a u o s).2.2.2.1.2.1), .int .i64 ((peakUL ar rs tp lf rt a u o s).2.2.2.1.2.2)], .bool ((peakUL ar rs tp lf rt a u o s).2.2.2.2)] : Value) = v ∧ (IntsF FF ((aggAt (tupAt v 0) 0)) (peakUL ar rs tp lf rt a u o s).1) ∧ (IntsF FF ((aggAt (tupAt v 0) 1)) (peakUL ar rs tp lf rt a u o s).2.1) ∧ (IntsF FF ((aggAt (tupAt v 0) 2)) (peakUL ar rs tp lf rt a u o s).2.2.1), fun FF us v => v = (.tuple #[.agg #[((aggAt (tupAt (us.getD 0 undef) 0) 0)), ((aggAt (tupAt (us.getD 0 undef) 0) 1)), ((aggAt (tupAt (us.getD 0 undef) 0) 2)), .int .i64 ((peakUL ar rs tp lf rt a u o s).2.2.2.1.1), .int .i64 ((peakUL ar rs tp lf rt a u o s).2.2.2.1.2.1), .int .i64 ((peakUL ar rs tp lf rt a u o s).2.2.2.1.2.2)], .bool ((peakUL ar rs tp lf rt a u o s).2.2.2.2)] : Value), fun FF us v => v = (.agg #[((aggAt (tupAt (us.getD 0 undef) 0) 0)), ((aggAt (tupAt (us.getD 0 undef) 0) 1)), ((aggAt (tupAt (us.getD 0 undef) 0) 2)), .int .i64 ((peakUL ar rs tp lf rt a u o s).2.2.2.1.1), .int .i64 ((peakUL ar rs tp lf rt a u o s).2.2.2.1.2.1), .int .i64 ((peakUL ar rs tp lf rt a u o s).2.2.2.1.2.2)] : Value), fun FF us v => v = (.bool ((peakUL ar rs tp lf rt a u o s).2.2.2.2) : Value), fun FF us v => v = ptr (blk v) 0, fun FF us v => True]) (ownL [fun us v => [], fun us v => [], fun us v => [], fun us v => [], fun us v => [], fun us v => [], fun us v => [], fun us v => [], fun us v => [], fun us v => [], fun us v => [cellsH (blk v) [(.slice none 0 0), (.slice none 0 0), (.slice none 0 0), .int .i64 (0), .int .i64 (0), .int .i64 (0)] 74], fun us v => [cellsH (blk (us.getD 1 undef)) [((aggAt (tupAt (us.getD 0 undef) 0) 0)), ((aggAt (tupAt (us.getD 0 undef) 0) 1)), ((aggAt (tupAt (us.getD 0 undef) 0) 2)), .int .i64 ((peakUL ar rs tp lf rt a u o s).2.2.2.1.1), .int .i64 ((peakUL ar rs tp lf rt a u o s).2.2.2.1.2.1), .int .i64 ((peakUL ar rs tp lf rt a u o s).2.2.2.1.2.2)] 74]]) mixed rfl rfl (by kernel_rfl) (by kernel_rfl) (MonoG.get (MonoG.cons (fun le h => h) (MonoG.cons (fun le h => ⟨h.1, h.2.1.mono le, h.2.2.mono le⟩) (MonoG.cons (fun le h => h) (MonoG.cons (fun le h => ⟨h.1, h.2.1.mono le, h.2.2.1.mono le, h.2.2.2.mono le⟩) (MonoG.cons (fun le h => h) (MonoG.cons (fun le h => ⟨h.1, h.2.mono le⟩) (MonoG.cons (fun le h => ⟨h.1, h.2.1.mono le, h.2.2.1.mono le, h.2.2.2.mono le⟩) (MonoG.cons (fun le h => h) (MonoG.cons (fun le h => h) (MonoG.cons (fun le h => h) (MonoG.cons (fun le h => h) (MonoG.cons (fun le h => h) MonoG.nil))))))))))))) ?_ ?_
                ·refine stepsG.cons (fun vals Fs R leFs hpZ => ?_) ?_
                 ·replace har := har.mono leFs
                  replace hrs := hrs.mono leFs
                  replace htp := htp.mono leFs
                  replace hlf := hlf.mono leFs
                  replace hrt := hrt.mono leFs
                  replace hs := hs.mono leFs
                  replace f1_1hr1 := f1_1hr1.mono leFs
                  replace f1_1hr2 := f1_1hr2.mono leFs
                  replace f3_1hr1 := f3_1hr1.mono leFs
                  replace f3_1hr2 := f3_1hr2.mono leFs
                  replace f3_1hr3 := f3_1hr3.mono leFs
                  replace f5_1hr := f5_1hr.mono leFs
                  replace f6_1hr1 := f6_1hr1.mono leFs
                  replace f6_1hr2 := f6_1hr2.mono leFs
                  replace f6_1hr3 := f6_1hr3.mono leFs
                  replace f2_2hr1 := f2_2hr1.mono leFs
                  replace f2_2hr2 := f2_2hr2.mono leFs
                  replace f2_3hr1 := f2_3hr1.mono leFs
                  replace f2_3hr2 := f2_3hr2.mono leFs
                  replace f2_3hr3 := f2_3hr3.mono leFs
                  replace f2_4hr := f2_4hr.mono leFs
                  refine XG.op (XOp.loadN [arv, rsv] Tryz.isAgg27 Tryz.sizeOf27 rfl rfl (Rd.ownN [_, _, _, _, _, _, _, _, _, _, _, _, _, _, _, _] rfl rfl) ?_)
                  exact ⟨rfl, rfl⟩
                 refine stepsG.cons (fun vals Fs R leFs hpZ => ?_) ?_
                 ·have e0 : vals 0 = (.agg #[arv, rsv] : Value) := hpZ 0 (by decide)
                  replace har := har.mono leFs
                  replace hrs := hrs.mono leFs
                  replace htp := htp.mono leFs
                  replace hlf := hlf.mono leFs
                  replace hrt := hrt.mono leFs
                  replace hs := hs.mono leFs
                  replace f1_1hr1 := f1_1hr1.mono leFs
                  replace f1_1hr2 := f1_1hr2.mono leFs
                  replace f3_1hr1 := f3_1hr1.mono leFs
                  replace f3_1hr2 := f3_1hr2.mono leFs
                  replace f3_1hr3 := f3_1hr3.mono leFs
                  replace f5_1hr := f5_1hr.mono leFs
                  replace f6_1hr1 := f6_1hr1.mono leFs
                  replace f6_1hr2 := f6_1hr2.mono leFs
                  replace f6_1hr3 := f6_1hr3.mono leFs
                  replace f2_2hr1 := f2_2hr1.mono leFs
                  replace f2_2hr2 := f2_2hr2.mono leFs
                  replace f2_3hr1 := f2_3hr1.mono leFs
                  replace f2_3hr2 := f2_3hr2.mono leFs
                  replace f2_3hr3 := f2_3hr3.mono leFs
                  replace f2_4hr := f2_4hr.mono leFs
                  rw [(envs_of_sat (l := [(0, (.agg #[arv, rsv] : Value))]) ⟨e0, trivial⟩).symm]
                  refine XG.op (XOp.call (args := [.agg #[arv, rsv]]) Tryz.call11 rfl (toSystem_spec har hrs (hla := (by first | assumption | rfl | omega | (left; simp; done) | (right; simp; done))) (hrl := (by first | assumption | rfl | omega | (left; simp; done) | (right; simp; done))) (hrb := (by first | assumption | rfl | omega | (left; simp; done) | (right; simp; done)))) ?_)
                  rintro _ F48 _ le48 ⟨x49, x50, rfl, hr69, hr70, hr71, rfl⟩
                  replace har := har.mono le48
                  replace hrs := hrs.mono le48
                  replace htp := htp.mono le48
                  replace hlf := hlf.mono le48
                  replace hrt := hrt.mono le48
                  replace hs := hs.mono le48
                  replace f1_1hr1 := f1_1hr1.mono le48
                  replace f1_1hr2 := f1_1hr2.mono le48
                  replace f3_1hr1 := f3_1hr1.mono le48
                  replace f3_1hr2 := f3_1hr2.mono le48
                  replace f3_1hr3 := f3_1hr3.mono le48
                  replace f5_1hr := f5_1hr.mono le48
                  replace f6_1hr1 := f6_1hr1.mono le48
                  replace f6_1hr2 := f6_1hr2.mono le48
                  replace f6_1hr3 := f6_1hr3.mono le48
                  replace f2_2hr1 := f2_2hr1.mono le48
                  replace f2_2hr2 := f2_2hr2.mono le48
                  replace f2_3hr1 := f2_3hr1.mono le48
                  replace f2_3hr2 := f2_3hr2.mono le48
                  replace f2_3hr3 := f2_3hr3.mono le48
                  replace f2_4hr := f2_4hr.mono le48
                  exact ⟨⟨rfl, hr69, hr70⟩, rfl⟩
                 refine stepsG.cons (fun vals Fs R leFs hpZ => ?_) ?_
                 ·replace har := har.mono leFs
                  replace hrs := hrs.mono leFs
                  replace htp := htp.mono leFs
                  replace hlf := hlf.mono leFs
                  replace hrt := hrt.mono leFs
                  replace hs := hs.mono leFs
                  replace f1_1hr1 := f1_1hr1.mono leFs
                  replace f1_1hr2 := f1_1hr2.mono leFs
                  replace f3_1hr1 := f3_1hr1.mono leFs
                  replace f3_1hr2 := f3_1hr2.mono leFs
                  replace f3_1hr3 := f3_1hr3.mono leFs
                  replace f5_1hr := f5_1hr.mono leFs
                  replace f6_1hr1 := f6_1hr1.mono leFs
                  replace f6_1hr2 := f6_1hr2.mono leFs
                  replace f6_1hr3 := f6_1hr3.mono leFs
                  replace f2_2hr1 := f2_2hr1.mono leFs
                  replace f2_2hr2 := f2_2hr2.mono leFs
                  replace f2_3hr1 := f2_3hr1.mono leFs
                  replace f2_3hr2 := f2_3hr2.mono leFs
                  replace f2_3hr3 := f2_3hr3.mono leFs
                  replace f2_4hr := f2_4hr.mono leFs
                  refine XG.op (XOp.loadN [tpv, lfv, rtv, .int .i64 (a), .int .i64 (u), .int .i64 (o)] Tryz.isAgg68 Tryz.sizeOf68 rfl rfl (Rd.ownN [_, _, _, _, _, _, _, _, _, _, _, _, _, _, _] rfl rfl) ?_)
                  exact ⟨rfl, rfl⟩
                 refine stepsG.cons (fun vals Fs R leFs hpZ => ?_) ?_
                 ·have e2 : vals 2 = (.agg #[tpv, lfv, rtv, .int .i64 (a), .int .i64 (u), .int .i64 (o)] : Value) := hpZ 2 (by decide)
                  replace har := har.mono leFs
                  replace hrs := hrs.mono leFs
                  replace htp := htp.mono leFs
                  replace hlf := hlf.mono leFs
                  replace hrt := hrt.mono leFs
                  replace hs := hs.mono leFs
                  replace f1_1hr1 := f1_1hr1.mono leFs
                  replace f1_1hr2 := f1_1hr2.mono leFs
                  replace f3_1hr1 := f3_1hr1.mono leFs
                  replace f3_1hr2 := f3_1hr2.mono leFs
                  replace f3_1hr3 := f3_1hr3.mono leFs
                  replace f5_1hr := f5_1hr.mono leFs
                  replace f6_1hr1 := f6_1hr1.mono leFs
                  replace f6_1hr2 := f6_1hr2.mono leFs
                  replace f6_1hr3 := f6_1hr3.mono leFs
                  replace f2_2hr1 := f2_2hr1.mono leFs
                  replace f2_2hr2 := f2_2hr2.mono leFs
                  replace f2_3hr1 := f2_3hr1.mono leFs
                  replace f2_3hr2 := f2_3hr2.mono leFs
                  replace f2_3hr3 := f2_3hr3.mono leFs
                  replace f2_4hr := f2_4hr.mono leFs
                  rw [(envs_of_sat (l := [(2, (.agg #[tpv, lfv, rtv, .int .i64 (a), .int .i64 (u), .int .i64 (o)] : Value))]) ⟨e2, trivial⟩).symm]
                  refine XG.op (XOp.call (args := [.agg #[tpv, lfv, rtv, .int .i64 (a), .int .i64 (u), .int .i64 (o)]]) Tryz.call31 rfl (toPeak_spec htp hlf hrt (htl := (by first | assumption | rfl | omega | (left; simp; done) | (right; simp; done))) (hll := (by first | assumption | rfl | omega | (left; simp; done) | (right; simp; done))) (hrl := (by first | assumption | rfl | omega | (left; simp; done) | (right; simp; done)))) ?_)
                  rintro _ F49 _ le49 ⟨x51, x52, x53, rfl, hr72, hr73, hr74, hr75, rfl⟩
                  replace har := har.mono le49
                  replace hrs := hrs.mono le49
                  replace htp := htp.mono le49
                  replace hlf := hlf.mono le49
                  replace hrt := hrt.mono le49
                  replace hs := hs.mono le49
                  replace f1_1hr1 := f1_1hr1.mono le49
                  replace f1_1hr2 := f1_1hr2.mono le49
                  replace f3_1hr1 := f3_1hr1.mono le49
                  replace f3_1hr2 := f3_1hr2.mono le49
                  replace f3_1hr3 := f3_1hr3.mono le49
                  replace f5_1hr := f5_1hr.mono le49
                  replace f6_1hr1 := f6_1hr1.mono le49
                  replace f6_1hr2 := f6_1hr2.mono le49
                  replace f6_1hr3 := f6_1hr3.mono le49
                  replace f2_2hr1 := f2_2hr1.mono le49
                  replace f2_2hr2 := f2_2hr2.mono le49
                  replace f2_3hr1 := f2_3hr1.mono le49
                  replace f2_3hr2 := f2_3hr2.mono le49
                  replace f2_3hr3 := f2_3hr3.mono le49
                  replace f2_4hr := f2_4hr.mono le49
                  exact ⟨⟨rfl, hr72, hr73, hr74⟩, rfl⟩
                 refine stepsG.cons (fun vals Fs R leFs hpZ => ?_) ?_
                 ·replace har := har.mono leFs
                  replace hrs := hrs.mono leFs
                  replace htp := htp.mono leFs
                  replace hlf := hlf.mono leFs
                  replace hrt := hrt.mono leFs
                  replace hs := hs.mono leFs
                  replace f1_1hr1 := f1_1hr1.mono leFs
                  replace f1_1hr2 := f1_1hr2.mono leFs
                  replace f3_1hr1 := f3_1hr1.mono leFs
                  replace f3_1hr2 := f3_1hr2.mono leFs
                  replace f3_1hr3 := f3_1hr3.mono leFs
                  replace f5_1hr := f5_1hr.mono leFs
                  replace f6_1hr1 := f6_1hr1.mono leFs
                  replace f6_1hr2 := f6_1hr2.mono leFs
                  replace f6_1hr3 := f6_1hr3.mono leFs
                  replace f2_2hr1 := f2_2hr1.mono leFs
                  replace f2_2hr2 := f2_2hr2.mono leFs
                  replace f2_3hr1 := f2_3hr1.mono leFs
                  replace f2_3hr2 := f2_3hr2.mono leFs
                  replace f2_3hr3 := f2_3hr3.mono leFs
                  replace f2_4hr := f2_4hr.mono leFs
                  refine XG.op (XOp.loadN [sv] Tryz.isAgg71 Tryz.sizeOf71 rfl rfl (Rd.ownN [_, _, _, _, _, _, _, _, _, _, _, _, _, _] rfl rfl) ?_)
                  exact ⟨rfl, rfl⟩
                 refine stepsG.cons (fun vals Fs R leFs hpZ => ?_) ?_
                 ·have e4 : vals 4 = (.agg #[sv] : Value) := hpZ 4 (by decide)
                  replace har := har.mono leFs
                  replace hrs := hrs.mono leFs
                  replace htp := htp.mono leFs
                  replace hlf := hlf.mono leFs
                  replace hrt := hrt.mono leFs
                  replace hs := hs.mono leFs
                  replace f1_1hr1 := f1_1hr1.mono leFs
                  replace f1_1hr2 := f1_1hr2.mono leFs
                  replace f3_1hr1 := f3_1hr1.mono leFs
                  replace f3_1hr2 := f3_1hr2.mono leFs
                  replace f3_1hr3 := f3_1hr3.mono leFs
                  replace f5_1hr := f5_1hr.mono leFs
                  replace f6_1hr1 := f6_1hr1.mono leFs
                  replace f6_1hr2 := f6_1hr2.mono leFs
                  replace f6_1hr3 := f6_1hr3.mono leFs
                  replace f2_2hr1 := f2_2hr1.mono leFs
                  replace f2_2hr2 := f2_2hr2.mono leFs
                  replace f2_3hr1 := f2_3hr1.mono leFs
                  replace f2_3hr2 := f2_3hr2.mono leFs
                  replace f2_3hr3 := f2_3hr3.mono leFs
                  replace f2_4hr := f2_4hr.mono leFs
                  rw [(envs_of_sat (l := [(4, (.agg #[sv] : Value))]) ⟨e4, trivial⟩).symm]
                  refine XG.op (XOp.call (args := [.agg #[sv]]) Tryz.call32 rfl (toSubst_spec hs (hsl := (by first | assumption | rfl | omega | (left; simp; done) | (right; simp; done))) (hsb := (by first | assumption | rfl | omega | (left; simp; done) | (right; simp; done)))) ?_)
                  rintro _ F50 _ le50 ⟨x54, rfl, hr76, hr77, rfl⟩
                  replace har := har.mono le50
                  replace hrs := hrs.mono le50
                  replace htp := htp.mono le50
                  replace hlf := hlf.mono le50
                  replace hrt := hrt.mono le50
                  replace hs := hs.mono le50
                  replace f1_1hr1 := f1_1hr1.mono le50
                  replace f1_1hr2 := f1_1hr2.mono le50
                  replace f3_1hr1 := f3_1hr1.mono le50
                  replace f3_1hr2 := f3_1hr2.mono le50
                  replace f3_1hr3 := f3_1hr3.mono le50
                  replace f5_1hr := f5_1hr.mono le50
                  replace f6_1hr1 := f6_1hr1.mono le50
                  replace f6_1hr2 := f6_1hr2.mono le50
                  replace f6_1hr3 := f6_1hr3.mono le50
                  replace f2_2hr1 := f2_2hr1.mono le50
                  replace f2_2hr2 := f2_2hr2.mono le50
                  replace f2_3hr1 := f2_3hr1.mono le50
                  replace f2_3hr2 := f2_3hr2.mono le50
                  replace f2_3hr3 := f2_3hr3.mono le50
                  replace f2_4hr := f2_4hr.mono le50
                  exact ⟨⟨rfl, hr76⟩, rfl⟩
                 refine stepsG.cons (fun vals Fs R leFs hpZ => ?_) ?_
                 ·obtain ⟨e1, f1_5hr1, f1_5hr2⟩ := hpZ 1 (by decide)
                  obtain ⟨e3, f3_5hr1, f3_5hr2, f3_5hr3⟩ := hpZ 3 (by decide)
                  obtain ⟨e5, f5_5hr⟩ := hpZ 5 (by decide)
                  replace har := har.mono leFs
                  replace hrs := hrs.mono leFs
                  replace htp := htp.mono leFs
                  replace hlf := hlf.mono leFs
                  replace hrt := hrt.mono leFs
                  replace hs := hs.mono leFs
                  replace f1_1hr1 := f1_1hr1.mono leFs
                  replace f1_1hr2 := f1_1hr2.mono leFs
                  replace f3_1hr1 := f3_1hr1.mono leFs
                  replace f3_1hr2 := f3_1hr2.mono leFs
                  replace f3_1hr3 := f3_1hr3.mono leFs
                  replace f5_1hr := f5_1hr.mono leFs
                  replace f6_1hr1 := f6_1hr1.mono leFs
                  replace f6_1hr2 := f6_1hr2.mono leFs
                  replace f6_1hr3 := f6_1hr3.mono leFs
                  replace f2_2hr1 := f2_2hr1.mono leFs
                  replace f2_2hr2 := f2_2hr2.mono leFs
                  replace f2_3hr1 := f2_3hr1.mono leFs
                  replace f2_3hr2 := f2_3hr2.mono leFs
                  replace f2_3hr3 := f2_3hr3.mono leFs
                  replace f2_4hr := f2_4hr.mono leFs
                  rw [(envs_of_sat (l := [(1, (.agg #[((aggAt (vals 1) 0)), ((aggAt (vals 1) 1))] : Value)), (3, (.agg #[((aggAt (vals 3) 0)), ((aggAt (vals 3) 1)), ((aggAt (vals 3) 2)), .int .i64 (a), .int .i64 (u), .int .i64 (o)] : Value)), (5, (.agg #[((aggAt (vals 5) 0))] : Value))]) ⟨(e1).symm, (e3).symm, (e5).symm, trivial⟩).symm]
                  refine XG.op (XOp.call (args := [.agg #[((aggAt (vals 1) 0)), ((aggAt (vals 1) 1))], .agg #[((aggAt (vals 3) 0)), ((aggAt (vals 3) 1)), ((aggAt (vals 3) 2)), .int .i64 (a), .int .i64 (u), .int .i64 (o)], .agg #[((aggAt (vals 5) 0))]]) Tryz.call33 rfl (PeakUnder_spec f1_5hr1 f1_5hr2 f3_5hr1 f3_5hr2 f3_5hr3 f5_5hr (hll0 := (by first | assumption | rfl | omega | (left; simp; done) | (right; simp; done))) (hlr0 := (by first | assumption | rfl | omega | (left; simp; done) | (right; simp; done)))) ?_)
                  rintro _ F51 _ le51 ⟨x55, x56, x57, rfl, hr78, hr79, hr80, hr81, rfl⟩
                  replace har := har.mono le51
                  replace hrs := hrs.mono le51
                  replace htp := htp.mono le51
                  replace hlf := hlf.mono le51
                  replace hrt := hrt.mono le51
                  replace hs := hs.mono le51
                  replace f1_1hr1 := f1_1hr1.mono le51
                  replace f1_1hr2 := f1_1hr2.mono le51
                  replace f3_1hr1 := f3_1hr1.mono le51
                  replace f3_1hr2 := f3_1hr2.mono le51
                  replace f3_1hr3 := f3_1hr3.mono le51
                  replace f5_1hr := f5_1hr.mono le51
                  replace f6_1hr1 := f6_1hr1.mono le51
                  replace f6_1hr2 := f6_1hr2.mono le51
                  replace f6_1hr3 := f6_1hr3.mono le51
                  replace f2_2hr1 := f2_2hr1.mono le51
                  replace f2_2hr2 := f2_2hr2.mono le51
                  replace f2_3hr1 := f2_3hr1.mono le51
                  replace f2_3hr2 := f2_3hr2.mono le51
                  replace f2_3hr3 := f2_3hr3.mono le51
                  replace f2_4hr := f2_4hr.mono le51
                  replace f1_5hr1 := f1_5hr1.mono le51
                  replace f1_5hr2 := f1_5hr2.mono le51
                  replace f3_5hr1 := f3_5hr1.mono le51
                  replace f3_5hr2 := f3_5hr2.mono le51
                  replace f3_5hr3 := f3_5hr3.mono le51
                  replace f5_5hr := f5_5hr.mono le51
                  exact ⟨⟨rfl, hr78, hr79, hr80⟩, rfl⟩
                 refine stepsG.cons (fun vals Fs R leFs hpZ => ?_) ?_
                 ·obtain ⟨e6, f6_5hr1, f6_5hr2, f6_5hr3⟩ := hpZ 6 (by decide)
                  rw [(envs_of_sat (l := [(6, (.tuple #[.agg #[((aggAt (tupAt (vals 6) 0) 0)), ((aggAt (tupAt (vals 6) 0) 1)), ((aggAt (tupAt (vals 6) 0) 2)), .int .i64 ((peakUL ar rs tp lf rt a u o s).2.2.2.1.1), .int .i64 ((peakUL ar rs tp lf rt a u o s).2.2.2.1.2.1), .int .i64 ((peakUL ar rs tp lf rt a u o s).2.2.2.1.2.2)], .bool ((peakUL ar rs tp lf rt a u o s).2.2.2.2)] : Value))]) ⟨(e6).symm, trivial⟩).symm]
                  refine XG.op (XOp.move (.tuple #[.agg #[((aggAt (tupAt (vals 6) 0) 0)), ((aggAt (tupAt (vals 6) 0) 1)), ((aggAt (tupAt (vals 6) 0) 2)), .int .i64 ((peakUL ar rs tp lf rt a u o s).2.2.2.1.1), .int .i64 ((peakUL ar rs tp lf rt a u o s).2.2.2.1.2.1), .int .i64 ((peakUL ar rs tp lf rt a u o s).2.2.2.1.2.2)], .bool ((peakUL ar rs tp lf rt a u o s).2.2.2.2)]) rfl ?_)
                  exact ⟨rfl, rfl⟩
                 refine stepsG.cons (fun vals Fs R leFs hpZ => ?_) ?_
                 ·obtain ⟨e6, f6_5hr1, f6_5hr2, f6_5hr3⟩ := hpZ 6 (by decide)
                  have e7 : vals 7 = (.tuple #[.agg #[((aggAt (tupAt (vals 6) 0) 0)), ((aggAt (tupAt (vals 6) 0) 1)), ((aggAt (tupAt (vals 6) 0) 2)), .int .i64 ((peakUL ar rs tp lf rt a u o s).2.2.2.1.1), .int .i64 ((peakUL ar rs tp lf rt a u o s).2.2.2.1.2.1), .int .i64 ((peakUL ar rs tp lf rt a u o s).2.2.2.1.2.2)], .bool ((peakUL ar rs tp lf rt a u o s).2.2.2.2)] : Value) := hpZ 7 (by decide)
                  rw [(envs_of_sat (l := [(6, (.tuple #[.agg #[((aggAt (tupAt (vals 6) 0) 0)), ((aggAt (tupAt (vals 6) 0) 1)), ((aggAt (tupAt (vals 6) 0) 2)), .int .i64 ((peakUL ar rs tp lf rt a u o s).2.2.2.1.1), .int .i64 ((peakUL ar rs tp lf rt a u o s).2.2.2.1.2.1), .int .i64 ((peakUL ar rs tp lf rt a u o s).2.2.2.1.2.2)], .bool ((peakUL ar rs tp lf rt a u o s).2.2.2.2)] : Value)), (7, (.tuple #[.agg #[((aggAt (tupAt (vals 6) 0) 0)), ((aggAt (tupAt (vals 6) 0) 1)), ((aggAt (tupAt (vals 6) 0) 2)), .int .i64 ((peakUL ar rs tp lf rt a u o s).2.2.2.1.1), .int .i64 ((peakUL ar rs tp lf rt a u o s).2.2.2.1.2.1), .int .i64 ((peakUL ar rs tp lf rt a u o s).2.2.2.1.2.2)], .bool ((peakUL ar rs tp lf rt a u o s).2.2.2.2)] : Value))]) ⟨(e6).symm, e7, trivial⟩).symm]
                  refine XG.op (XOp.extract (.agg #[((aggAt (tupAt (vals 6) 0) 0)), ((aggAt (tupAt (vals 6) 0) 1)), ((aggAt (tupAt (vals 6) 0) 2)), .int .i64 ((peakUL ar rs tp lf rt a u o s).2.2.2.1.1), .int .i64 ((peakUL ar rs tp lf rt a u o s).2.2.2.1.2.1), .int .i64 ((peakUL ar rs tp lf rt a u o s).2.2.2.1.2.2)]) rfl rfl ?_)
                  exact ⟨rfl, rfl⟩
                 refine stepsG.cons (fun vals Fs R leFs hpZ => ?_) ?_
                 ·obtain ⟨e6, f6_5hr1, f6_5hr2, f6_5hr3⟩ := hpZ 6 (by decide)
                  have e7 : vals 7 = (.tuple #[.agg #[((aggAt (tupAt (vals 6) 0) 0)), ((aggAt (tupAt (vals 6) 0) 1)), ((aggAt (tupAt (vals 6) 0) 2)), .int .i64 ((peakUL ar rs tp lf rt a u o s).2.2.2.1.1), .int .i64 ((peakUL ar rs tp lf rt a u o s).2.2.2.1.2.1), .int .i64 ((peakUL ar rs tp lf rt a u o s).2.2.2.1.2.2)], .bool ((peakUL ar rs tp lf rt a u o s).2.2.2.2)] : Value) := hpZ 7 (by decide)
                  rw [(envs_of_sat (l := [(6, (.tuple #[.agg #[((aggAt (tupAt (vals 6) 0) 0)), ((aggAt (tupAt (vals 6) 0) 1)), ((aggAt (tupAt (vals 6) 0) 2)), .int .i64 ((peakUL ar rs tp lf rt a u o s).2.2.2.1.1), .int .i64 ((peakUL ar rs tp lf rt a u o s).2.2.2.1.2.1), .int .i64 ((peakUL ar rs tp lf rt a u o s).2.2.2.1.2.2)], .bool ((peakUL ar rs tp lf rt a u o s).2.2.2.2)] : Value)), (7, (.tuple #[.agg #[((aggAt (tupAt (vals 6) 0) 0)), ((aggAt (tupAt (vals 6) 0) 1)), ((aggAt (tupAt (vals 6) 0) 2)), .int .i64 ((peakUL ar rs tp lf rt a u o s).2.2.2.1.1), .int .i64 ((peakUL ar rs tp lf rt a u o s).2.2.2.1.2.1), .int .i64 ((peakUL ar rs tp lf rt a u o s).2.2.2.1.2.2)], .bool ((peakUL ar rs tp lf rt a u o s).2.2.2.2)] : Value))]) ⟨(e6).symm, e7, trivial⟩).symm]
                  refine XG.op (XOp.extract (.bool ((peakUL ar rs tp lf rt a u o s).2.2.2.2)) rfl rfl ?_)
                  exact ⟨rfl, rfl⟩
                 refine stepsG.cons (fun vals Fs R leFs hpZ => ?_) ?_
                 ·replace har := har.mono leFs
                  replace hrs := hrs.mono leFs
                  replace htp := htp.mono leFs
                  replace hlf := hlf.mono leFs
                  replace hrt := hrt.mono leFs
                  replace hs := hs.mono leFs
                  replace f1_1hr1 := f1_1hr1.mono leFs
                  replace f1_1hr2 := f1_1hr2.mono leFs
                  replace f3_1hr1 := f3_1hr1.mono leFs
                  replace f3_1hr2 := f3_1hr2.mono leFs
                  replace f3_1hr3 := f3_1hr3.mono leFs
                  replace f5_1hr := f5_1hr.mono leFs
                  replace f6_1hr1 := f6_1hr1.mono leFs
                  replace f6_1hr2 := f6_1hr2.mono leFs
                  replace f6_1hr3 := f6_1hr3.mono leFs
                  replace f2_2hr1 := f2_2hr1.mono leFs
                  replace f2_2hr2 := f2_2hr2.mono leFs
                  replace f2_3hr1 := f2_3hr1.mono leFs
                  replace f2_3hr2 := f2_3hr2.mono leFs
                  replace f2_3hr3 := f2_3hr3.mono leFs
                  replace f2_4hr := f2_4hr.mono leFs
                  refine XG.op (XOp.alloc [(.slice none 0 0), (.slice none 0 0), (.slice none 0 0), .int .i64 (0), .int .i64 (0), .int .i64 (0)] Tryz.zeroValue74 rfl ?_)
                  intro b12
                  exact ⟨rfl, rfl⟩
                 refine stepsG.cons (fun vals Fs R leFs hpZ => ?_) ?_
                 ·obtain ⟨e6, f6_5hr1, f6_5hr2, f6_5hr3⟩ := hpZ 6 (by decide)
                  have e8 : vals 8 = (.agg #[((aggAt (tupAt (vals 6) 0) 0)), ((aggAt (tupAt (vals 6) 0) 1)), ((aggAt (tupAt (vals 6) 0) 2)), .int .i64 ((peakUL ar rs tp lf rt a u o s).2.2.2.1.1), .int .i64 ((peakUL ar rs tp lf rt a u o s).2.2.2.1.2.1), .int .i64 ((peakUL ar rs tp lf rt a u o s).2.2.2.1.2.2)] : Value) := hpZ 8 (by decide)
                  have e10 : vals 10 = ptr (blk (vals 10)) 0 := hpZ 10 (by decide)
                  replace har := har.mono leFs
                  replace hrs := hrs.mono leFs
                  replace htp := htp.mono leFs
                  replace hlf := hlf.mono leFs
                  replace hrt := hrt.mono leFs
                  replace hs := hs.mono leFs
                  replace f1_1hr1 := f1_1hr1.mono leFs
                  replace f1_1hr2 := f1_1hr2.mono leFs
                  replace f3_1hr1 := f3_1hr1.mono leFs
                  replace f3_1hr2 := f3_1hr2.mono leFs
                  replace f3_1hr3 := f3_1hr3.mono leFs
                  replace f5_1hr := f5_1hr.mono leFs
                  replace f6_1hr1 := f6_1hr1.mono leFs
                  replace f6_1hr2 := f6_1hr2.mono leFs
                  replace f6_1hr3 := f6_1hr3.mono leFs
                  replace f2_2hr1 := f2_2hr1.mono leFs
                  replace f2_2hr2 := f2_2hr2.mono leFs
                  replace f2_3hr1 := f2_3hr1.mono leFs
                  replace f2_3hr2 := f2_3hr2.mono leFs
                  replace f2_3hr3 := f2_3hr3.mono leFs
                  replace f2_4hr := f2_4hr.mono leFs
                  rw [(envs_of_sat (l := [(6, (.tuple #[.agg #[((aggAt (tupAt (vals 6) 0) 0)), ((aggAt (tupAt (vals 6) 0) 1)), ((aggAt (tupAt (vals 6) 0) 2)), .int .i64 ((peakUL ar rs tp lf rt a u o s).2.2.2.1.1), .int .i64 ((peakUL ar rs tp lf rt a u o s).2.2.2.1.2.1), .int .i64 ((peakUL ar rs tp lf rt a u o s).2.2.2.1.2.2)], .bool ((peakUL ar rs tp lf rt a u o s).2.2.2.2)] : Value)), (8, (.agg #[((aggAt (tupAt (vals 6) 0) 0)), ((aggAt (tupAt (vals 6) 0) 1)), ((aggAt (tupAt (vals 6) 0) 2)), .int .i64 ((peakUL ar rs tp lf rt a u o s).2.2.2.1.1), .int .i64 ((peakUL ar rs tp lf rt a u o s).2.2.2.1.2.1), .int .i64 ((peakUL ar rs tp lf rt a u o s).2.2.2.1.2.2)] : Value)), (10, ptr (blk (vals 10)) 0)]) ⟨(e6).symm, e8, e10, trivial⟩).symm]
                  show XG _ _ _ _ _ (cellsH (blk (vals 10)) [(.slice none 0 0), (.slice none 0 0), (.slice none 0 0), .int .i64 (0), .int .i64 (0), .int .i64 (0)] 74 :: ([intsH 2 x25 m7, intsH 2 x26 m8, intsH 2 x27 m9, rowsD 2 22 x24 m6, intsH 2 x21 m3, intsH 2 x22 m4, intsH 2 x23 m5, intsH 2 x19 m1, pairsD 2 161 x20 m2, cellsH b10 [x25, x26, x27, .int .i64 ((peakUL ar rs tp lf rt a u o s).2.2.2.1.1), .int .i64 ((peakUL ar rs tp lf rt a u o s).2.2.2.1.2.1), .int .i64 ((peakUL ar rs tp lf rt a u o s).2.2.2.1.2.2)] 74, cellsH b9 [x24] 78, cellsH b8 [x21, x22, x23, .int .i64 (a), .int .i64 (u), .int .i64 (o)] 74, cellsH b7 [x19, x20] 39, cellsH b6 [u7, u8, u9, .int .i64 ((peakUL ar rs tp lf rt a u o s).2.2.2.1.1), .int .i64 ((peakUL ar rs tp lf rt a u o s).2.2.2.1.2.1), .int .i64 ((peakUL ar rs tp lf rt a u o s).2.2.2.1.2.2)] 74, cellsH b3 [sv] 71, cellsH b2 [tpv, lfv, rtv, .int .i64 (a), .int .i64 (u), .int .i64 (o)] 68, cellsH b1 [arv, rsv] 27] ++ R)) _
                  refine XG.op (XOp.storeN (vs := [((aggAt (tupAt (vals 6) 0) 0)), ((aggAt (tupAt (vals 6) 0) 1)), ((aggAt (tupAt (vals 6) 0) 2)), .int .i64 ((peakUL ar rs tp lf rt a u o s).2.2.2.1.1), .int .i64 ((peakUL ar rs tp lf rt a u o s).2.2.2.1.2.1), .int .i64 ((peakUL ar rs tp lf rt a u o s).2.2.2.1.2.2)]) [] _ [((aggAt (tupAt (vals 6) 0) 0)), ((aggAt (tupAt (vals 6) 0) 1)), ((aggAt (tupAt (vals 6) 0) 2)), .int .i64 ((peakUL ar rs tp lf rt a u o s).2.2.2.1.1), .int .i64 ((peakUL ar rs tp lf rt a u o s).2.2.2.1.2.1), .int .i64 ((peakUL ar rs tp lf rt a u o s).2.2.2.1.2.2)] Tryz.sizeOf74 rfl rfl rfl (ones_cons (one_sl (IntsF.isSl f6_5hr1)) (ones_cons (one_sl (IntsF.isSl f6_5hr2)) (ones_cons (one_sl (IntsF.isSl f6_5hr3)) (ones_cons rfl (ones_cons rfl (ones_cons rfl ones_nil)))))) rfl rfl rfl ?_)
                  exact ⟨trivial, rfl⟩
                 exact stepsG.nil
                ·intro vals F52 le52 hphi
                 have e0 : vals 0 = (.agg #[arv, rsv] : Value) := hphi 0 (by decide)
                 obtain ⟨e1, f1_5hr1, f1_5hr2⟩ := hphi 1 (by decide)
                 have e2 : vals 2 = (.agg #[tpv, lfv, rtv, .int .i64 (a), .int .i64 (u), .int .i64 (o)] : Value) := hphi 2 (by decide)
                 obtain ⟨e3, f3_5hr1, f3_5hr2, f3_5hr3⟩ := hphi 3 (by decide)
                 have e4 : vals 4 = (.agg #[sv] : Value) := hphi 4 (by decide)
                 obtain ⟨e5, f5_5hr⟩ := hphi 5 (by decide)
                 obtain ⟨e6, f6_5hr1, f6_5hr2, f6_5hr3⟩ := hphi 6 (by decide)
                 have e7 : vals 7 = (.tuple #[.agg #[((aggAt (tupAt (vals 6) 0) 0)), ((aggAt (tupAt (vals 6) 0) 1)), ((aggAt (tupAt (vals 6) 0) 2)), .int .i64 ((peakUL ar rs tp lf rt a u o s).2.2.2.1.1), .int .i64 ((peakUL ar rs tp lf rt a u o s).2.2.2.1.2.1), .int .i64 ((peakUL ar rs tp lf rt a u o s).2.2.2.1.2.2)], .bool ((peakUL ar rs tp lf rt a u o s).2.2.2.2)] : Value) := hphi 7 (by decide)
                 have e8 : vals 8 = (.agg #[((aggAt (tupAt (vals 6) 0) 0)), ((aggAt (tupAt (vals 6) 0) 1)), ((aggAt (tupAt (vals 6) 0) 2)), .int .i64 ((peakUL ar rs tp lf rt a u o s).2.2.2.1.1), .int .i64 ((peakUL ar rs tp lf rt a u o s).2.2.2.1.2.1), .int .i64 ((peakUL ar rs tp lf rt a u o s).2.2.2.1.2.2)] : Value) := hphi 8 (by decide)
                 have e9 : vals 9 = (.bool ((peakUL ar rs tp lf rt a u o s).2.2.2.2) : Value) := hphi 9 (by decide)
                 have e10 : vals 10 = ptr (blk (vals 10)) 0 := hphi 10 (by decide)
                 generalize hu17 : ((aggAt (vals 1) 0)) = u16 at e0 e1 f1_5hr1 f1_5hr2 e2 e3 f3_5hr1 f3_5hr2 f3_5hr3 e4 e5 f5_5hr e6 f6_5hr1 f6_5hr2 f6_5hr3 e7 e8 e9 e10
                 generalize hu18 : ((aggAt (vals 1) 1)) = u17 at e0 e1 f1_5hr1 f1_5hr2 e2 e3 f3_5hr1 f3_5hr2 f3_5hr3 e4 e5 f5_5hr e6 f6_5hr1 f6_5hr2 f6_5hr3 e7 e8 e9 e10
                 generalize hu19 : ((aggAt (vals 3) 0)) = u18 at e0 e1 f1_5hr1 f1_5hr2 e2 e3 f3_5hr1 f3_5hr2 f3_5hr3 e4 e5 f5_5hr e6 f6_5hr1 f6_5hr2 f6_5hr3 e7 e8 e9 e10
                 generalize hu20 : ((aggAt (vals 3) 1)) = u19 at e0 e1 f1_5hr1 f1_5hr2 e2 e3 f3_5hr1 f3_5hr2 f3_5hr3 e4 e5 f5_5hr e6 f6_5hr1 f6_5hr2 f6_5hr3 e7 e8 e9 e10
                 generalize hu21 : ((aggAt (vals 3) 2)) = u20 at e0 e1 f1_5hr1 f1_5hr2 e2 e3 f3_5hr1 f3_5hr2 f3_5hr3 e4 e5 f5_5hr e6 f6_5hr1 f6_5hr2 f6_5hr3 e7 e8 e9 e10
                 generalize hu22 : ((aggAt (vals 5) 0)) = u21 at e0 e1 f1_5hr1 f1_5hr2 e2 e3 f3_5hr1 f3_5hr2 f3_5hr3 e4 e5 f5_5hr e6 f6_5hr1 f6_5hr2 f6_5hr3 e7 e8 e9 e10
                 generalize hu23 : ((aggAt (tupAt (vals 6) 0) 0)) = u22 at e0 e1 f1_5hr1 f1_5hr2 e2 e3 f3_5hr1 f3_5hr2 f3_5hr3 e4 e5 f5_5hr e6 f6_5hr1 f6_5hr2 f6_5hr3 e7 e8 e9 e10
                 generalize hu24 : ((aggAt (tupAt (vals 6) 0) 1)) = u23 at e0 e1 f1_5hr1 f1_5hr2 e2 e3 f3_5hr1 f3_5hr2 f3_5hr3 e4 e5 f5_5hr e6 f6_5hr1 f6_5hr2 f6_5hr3 e7 e8 e9 e10
                 generalize hu25 : ((aggAt (tupAt (vals 6) 0) 2)) = u24 at e0 e1 f1_5hr1 f1_5hr2 e2 e3 f3_5hr1 f3_5hr2 f3_5hr3 e4 e5 f5_5hr e6 f6_5hr1 f6_5hr2 f6_5hr3 e7 e8 e9 e10
                 generalize hu26 : blk (vals 10) = b13 at e0 e1 f1_5hr1 f1_5hr2 e2 e3 f3_5hr1 f3_5hr2 f3_5hr3 e4 e5 f5_5hr e6 f6_5hr1 f6_5hr2 f6_5hr3 e7 e8 e9 e10
                 rw [(envs_of_sat (l := [(0, (.agg #[arv, rsv] : Value)), (1, (.agg #[u16, u17] : Value)), (2, (.agg #[tpv, lfv, rtv, .int .i64 (a), .int .i64 (u), .int .i64 (o)] : Value)), (3, (.agg #[u18, u19, u20, .int .i64 (a), .int .i64 (u), .int .i64 (o)] : Value)), (4, (.agg #[sv] : Value)), (5, (.agg #[u21] : Value)), (6, (.tuple #[.agg #[u22, u23, u24, .int .i64 ((peakUL ar rs tp lf rt a u o s).2.2.2.1.1), .int .i64 ((peakUL ar rs tp lf rt a u o s).2.2.2.1.2.1), .int .i64 ((peakUL ar rs tp lf rt a u o s).2.2.2.1.2.2)], .bool ((peakUL ar rs tp lf rt a u o s).2.2.2.2)] : Value)), (7, (.tuple #[.agg #[u22, u23, u24, .int .i64 ((peakUL ar rs tp lf rt a u o s).2.2.2.1.1), .int .i64 ((peakUL ar rs tp lf rt a u o s).2.2.2.1.2.1), .int .i64 ((peakUL ar rs tp lf rt a u o s).2.2.2.1.2.2)], .bool ((peakUL ar rs tp lf rt a u o s).2.2.2.2)] : Value)), (8, (.agg #[u22, u23, u24, .int .i64 ((peakUL ar rs tp lf rt a u o s).2.2.2.1.1), .int .i64 ((peakUL ar rs tp lf rt a u o s).2.2.2.1.2.1), .int .i64 ((peakUL ar rs tp lf rt a u o s).2.2.2.1.2.2)] : Value)), (9, (.bool ((peakUL ar rs tp lf rt a u o s).2.2.2.2) : Value)), (10, ptr b13 0)]) ⟨e0, (e1).symm, e2, (e3).symm, e4, (e5).symm, (e6).symm, e7, e8, e9, e10, trivial⟩).symm]
                 replace har := har.mono le52
                 replace hrs := hrs.mono le52
                 replace htp := htp.mono le52
                 replace hlf := hlf.mono le52
                 replace hrt := hrt.mono le52
                 replace hs := hs.mono le52
                 replace f1_1hr1 := f1_1hr1.mono le52
                 replace f1_1hr2 := f1_1hr2.mono le52
                 replace f3_1hr1 := f3_1hr1.mono le52
                 replace f3_1hr2 := f3_1hr2.mono le52
                 replace f3_1hr3 := f3_1hr3.mono le52
                 replace f5_1hr := f5_1hr.mono le52
                 replace f6_1hr1 := f6_1hr1.mono le52
                 replace f6_1hr2 := f6_1hr2.mono le52
                 replace f6_1hr3 := f6_1hr3.mono le52
                 replace f2_2hr1 := f2_2hr1.mono le52
                 replace f2_2hr2 := f2_2hr2.mono le52
                 replace f2_3hr1 := f2_3hr1.mono le52
                 replace f2_3hr2 := f2_3hr2.mono le52
                 replace f2_3hr3 := f2_3hr3.mono le52
                 replace f2_4hr := f2_4hr.mono le52
                 show XL _ _ _ _ _ _ _ (cellsH b13 [u22, u23, u24, .int .i64 ((peakUL ar rs tp lf rt a u o s).2.2.2.1.1), .int .i64 ((peakUL ar rs tp lf rt a u o s).2.2.2.1.2.1), .int .i64 ((peakUL ar rs tp lf rt a u o s).2.2.2.1.2.2)] 74 :: intsH 2 x25 m7 :: intsH 2 x26 m8 :: intsH 2 x27 m9 :: rowsD 2 22 x24 m6 :: intsH 2 x21 m3 :: intsH 2 x22 m4 :: intsH 2 x23 m5 :: intsH 2 x19 m1 :: pairsD 2 161 x20 m2 :: cellsH b10 [x25, x26, x27, .int .i64 ((peakUL ar rs tp lf rt a u o s).2.2.2.1.1), .int .i64 ((peakUL ar rs tp lf rt a u o s).2.2.2.1.2.1), .int .i64 ((peakUL ar rs tp lf rt a u o s).2.2.2.1.2.2)] 74 :: cellsH b9 [x24] 78 :: cellsH b8 [x21, x22, x23, .int .i64 (a), .int .i64 (u), .int .i64 (o)] 74 :: cellsH b7 [x19, x20] 39 :: cellsH b6 [u7, u8, u9, .int .i64 ((peakUL ar rs tp lf rt a u o s).2.2.2.1.1), .int .i64 ((peakUL ar rs tp lf rt a u o s).2.2.2.1.2.1), .int .i64 ((peakUL ar rs tp lf rt a u o s).2.2.2.1.2.2)] 74 :: cellsH b3 [sv] 71 :: cellsH b2 [tpv, lfv, rtv, .int .i64 (a), .int .i64 (u), .int .i64 (o)] 68 :: cellsH b1 [arv, rsv] 27 :: L)
                 refine XL.cons (XOp.assign (.bool ((peakUL ar rs tp lf rt a u o s).2.2.2.2)) rfl ?_)
                 refine XL.nil ?_
                 refine X.seq ?_
                 refine X.seq ?_
                 refine X.region ?_
                 refine XL.cons (XOp.loadN [u22, u23, u24, .int .i64 ((peakUL ar rs tp lf rt a u o s).2.2.2.1.1), .int .i64 ((peakUL ar rs tp lf rt a u o s).2.2.2.1.2.1), .int .i64 ((peakUL ar rs tp lf rt a u o s).2.2.2.1.2.2)] Tryz.isAgg74 Tryz.sizeOf74 rfl rfl (Rd.ownN [] rfl rfl) ?_)
                 refine XL.cons (XOp.loadN [u7, u8, u9, .int .i64 ((peakUL ar rs tp lf rt a u o s).2.2.2.1.1), .int .i64 ((peakUL ar rs tp lf rt a u o s).2.2.2.1.2.1), .int .i64 ((peakUL ar rs tp lf rt a u o s).2.2.2.1.2.2)] Tryz.isAgg74 Tryz.sizeOf74 rfl rfl (Rd.ownN [_, _, _, _, _, _, _, _, _, _, _, _, _, _] rfl rfl) ?_)
                 refine XL.cons (XOp.call (args := [.agg #[u22, u23, u24, .int .i64 ((peakUL ar rs tp lf rt a u o s).2.2.2.1.1), .int .i64 ((peakUL ar rs tp lf rt a u o s).2.2.2.1.2.1), .int .i64 ((peakUL ar rs tp lf rt a u o s).2.2.2.1.2.2)], .agg #[u7, u8, u9, .int .i64 ((peakUL ar rs tp lf rt a u o s).2.2.2.1.1), .int .i64 ((peakUL ar rs tp lf rt a u o s).2.2.2.1.2.1), .int .i64 ((peakUL ar rs tp lf rt a u o s).2.2.2.1.2.2)]]) Tryz.call34 rfl (eqPeak_spec f6_5hr1 f6_5hr2 f6_5hr3 f6_1hr1 f6_1hr2 f6_1hr3 (htl := (by first | assumption | rfl | omega | (left; simp; done) | (right; simp; done))) (hll := (by first | assumption | rfl | omega | (left; simp; done) | (right; simp; done))) (hrl := (by first | assumption | rfl | omega | (left; simp; done) | (right; simp; done)))) ?_)
                 rintro _ _ _ _ ⟨rfl, rfl, rfl⟩
                 refine XL.cons (XOp.notD (p := ((((peakUL ar rs tp lf rt a u o s).1) = ((peakUL ar rs tp lf rt a u o s).1) ∧ ((peakUL ar rs tp lf rt a u o s).2.1) = ((peakUL ar rs tp lf rt a u o s).2.1)) ∧ ((peakUL ar rs tp lf rt a u o s).2.2.1) = ((peakUL ar rs tp lf rt a u o s).2.2.1)) ∧ (((peakUL ar rs tp lf rt a u o s).2.2.2.1.1) = ((peakUL ar rs tp lf rt a u o s).2.2.2.1.1) ∧ ((peakUL ar rs tp lf rt a u o s).2.2.2.1.2.1) = ((peakUL ar rs tp lf rt a u o s).2.2.2.1.2.1) ∧ ((peakUL ar rs tp lf rt a u o s).2.2.2.1.2.2) = ((peakUL ar rs tp lf rt a u o s).2.2.2.1.2.2))) rfl ?_)
                 refine XL.cons (XOp.move (.bool (decide (¬(((((peakUL ar rs tp lf rt a u o s).1) = ((peakUL ar rs tp lf rt a u o s).1) ∧ ((peakUL ar rs tp lf rt a u o s).2.1) = ((peakUL ar rs tp lf rt a u o s).2.1)) ∧ ((peakUL ar rs tp lf rt a u o s).2.2.1) = ((peakUL ar rs tp lf rt a u o s).2.2.1)) ∧ (((peakUL ar rs tp lf rt a u o s).2.2.2.1.1) = ((peakUL ar rs tp lf rt a u o s).2.2.2.1.1) ∧ ((peakUL ar rs tp lf rt a u o s).2.2.2.1.2.1) = ((peakUL ar rs tp lf rt a u o s).2.2.2.1.2.1) ∧ ((peakUL ar rs tp lf rt a u o s).2.2.2.1.2.2) = ((peakUL ar rs tp lf rt a u o s).2.2.2.1.2.2)))))) rfl ?_)
                 refine XL.yes (t := 129) rfl (congrArg Value.bool (decide_eq_false h4)) (XOp.move (.bool ((peakUL ar rs tp lf rt a u o s).2.2.2.2)) rfl ?_)
                 refine XL.yes (t := 129) rfl (congrArg Value.bool (decide_eq_false h4)) (XOp.move (.bool ((peakUL ar rs tp lf rt a u o s).2.2.2.2)) rfl ?_)
                 refine XL.yes (t := 129) rfl (congrArg Value.bool (decide_eq_false h4)) (XOp.neB (a := (peakUL ar rs tp lf rt a u o s).2.2.2.2) (b := (peakUL ar rs tp lf rt a u o s).2.2.2.2) Tryz.runUnderlying4 rfl rfl ?_)
                 refine XL.cons (XOp.pickF (.bool (decide (((peakUL ar rs tp lf rt a u o s).2.2.2.2) ≠ ((peakUL ar rs tp lf rt a u o s).2.2.2.2)))) (congrArg Value.bool (decide_eq_false h4)) rfl ?_)
                 refine XL.nil ?_
                 refine X.condF (congrArg Value.bool (decide_eq_false h5)) ?_
                 refine X.skip ?_
                 refine X.seq ?_
                 refine X.region ?_
                 refine XL.cons (XOp.assign (.int .i64 (1)) rfl ?_)
                 refine XL.nil ?_
                 refine X.seq ?_
                 refine X.region ?_
                 refine XL.cons (XOp.loadN [x25, x26, x27, .int .i64 ((peakUL ar rs tp lf rt a u o s).2.2.2.1.1), .int .i64 ((peakUL ar rs tp lf rt a u o s).2.2.2.1.2.1), .int .i64 ((peakUL ar rs tp lf rt a u o s).2.2.2.1.2.2)] Tryz.isAgg74 Tryz.sizeOf74 rfl rfl (Rd.ownN [_, _, _, _, _, _, _, _, _, _] rfl rfl) ?_)
                 refine XL.cons (XOp.move (.int .i64 (1)) rfl ?_)
                 refine XL.cons (XOp.lend [_] _ _ rfl (fun F53 le53 hz22 => ?_))
                 refine id (XOp.lend [_] _ _ rfl (fun F54 le54 hz23 => ?_))
                 refine id (XOp.lend [_] _ _ rfl (fun F55 le55 hz24 => ?_))
                 have hf22 : IntsF _ x25 m7 := (intsH.fz (xs := m7) hz22).mono (FLe.trans le54 le55)
                 have hf23 : IntsF _ x26 m8 := (intsH.fz (xs := m8) hz23).mono le55
                 have hf24 : IntsF _ x27 m9 := intsH.fz (xs := m9) hz24
                 refine id (XOp.call (args := [.agg #[x25, x26, x27, .int .i64 ((peakUL ar rs tp lf rt a u o s).2.2.2.1.1), .int .i64 ((peakUL ar rs tp lf rt a u o s).2.2.2.1.2.1), .int .i64 ((peakUL ar rs tp lf rt a u o s).2.2.2.1.2.2)], .int .i64 (1)]) Tryz.call39 rfl (heldPeak_spec (z := 1) hf22 hf23 hf24 (hzb := (by first | assumption | rfl | omega | (left; simp; done) | (right; simp; done)))) ?_)
                 rintro _ _ _ _ ⟨rfl, rfl, rfl⟩
                 show XL _ _ _ _ _ _ _ (intsH 2 x25 m7 :: intsH 2 x26 m8 :: intsH 2 x27 m9 :: cellsH b13 [u22, u23, u24, .int .i64 ((peakUL ar rs tp lf rt a u o s).2.2.2.1.1), .int .i64 ((peakUL ar rs tp lf rt a u o s).2.2.2.1.2.1), .int .i64 ((peakUL ar rs tp lf rt a u o s).2.2.2.1.2.2)] 74 :: rowsD 2 22 x24 m6 :: intsH 2 x21 m3 :: intsH 2 x22 m4 :: intsH 2 x23 m5 :: intsH 2 x19 m1 :: pairsD 2 161 x20 m2 :: cellsH b10 [x25, x26, x27, .int .i64 ((peakUL ar rs tp lf rt a u o s).2.2.2.1.1), .int .i64 ((peakUL ar rs tp lf rt a u o s).2.2.2.1.2.1), .int .i64 ((peakUL ar rs tp lf rt a u o s).2.2.2.1.2.2)] 74 :: cellsH b9 [x24] 78 :: cellsH b8 [x21, x22, x23, .int .i64 (a), .int .i64 (u), .int .i64 (o)] 74 :: cellsH b7 [x19, x20] 39 :: cellsH b6 [u7, u8, u9, .int .i64 ((peakUL ar rs tp lf rt a u o s).2.2.2.1.1), .int .i64 ((peakUL ar rs tp lf rt a u o s).2.2.2.1.2.1), .int .i64 ((peakUL ar rs tp lf rt a u o s).2.2.2.1.2.2)] 74 :: cellsH b3 [sv] 71 :: cellsH b2 [tpv, lfv, rtv, .int .i64 (a), .int .i64 (u), .int .i64 (o)] 68 :: cellsH b1 [arv, rsv] 27 :: L)
                 refine XL.cons (XOp.assign (.int .i64 (heldF ((m7 ++ m8) ++ m9) 1)) rfl ?_)
                 refine XL.nil ?_
                 refine X.seq ?_
                 refine X.seq ?_
                 refine X.region ?_
                 refine XL.cons (XOp.move (.int .i64 (heldF ((m7 ++ m8) ++ m9) 1)) rfl ?_)
                 refine XL.cons (XOp.lss (a := heldF ((m7 ++ m8) ++ m9) 1) (b := 0) rfl rfl ?_)
                 refine XL.nil ?_
                 refine X.condF (congrArg Value.bool (decide_eq_false h10)) ?_
                 refine X.skip ?_
                 refine X.seq ?_
                 refine X.seq ?_
                 refine X.region ?_
                 refine XL.cons (XOp.move (.int .i64 (heldF ((m7 ++ m8) ++ m9) 1)) rfl ?_)
                 refine XL.cons (XOp.move (.int .i64 (1 + (((((peakUL ar rs tp lf rt a u o s).1)) ++ (((peakUL ar rs tp lf rt a u o s).2.1)) ++ (((peakUL ar rs tp lf rt a u o s).2.2.1))).length : Int))) rfl ?_)
                 refine XL.cons (XOp.neq (a := heldF ((m7 ++ m8) ++ m9) 1) (b := 1 + (((((peakUL ar rs tp lf rt a u o s).1)) ++ (((peakUL ar rs tp lf rt a u o s).2.1)) ++ (((peakUL ar rs tp lf rt a u o s).2.2.1))).length : Int)) rfl rfl ?_)
                 refine XL.nil ?_
                 refine X.condF (congrArg Value.bool (decide_eq_false h11)) ?_
                 refine X.skip ?_
                 refine X.seq ?_
                 refine X.region ?_
                 refine XL.cons (XOp.assign (.bool (true)) rfl ?_)
                 refine XL.nil ?_
                 refine X.ret (retEnd (L' := L) [.bool (true)] (.bool (true)) (.tmp rfl .nil) rfl (FLe.refl _) (FLe.trans (FLe.trans (FLe.trans (FLe.trans le9 le25) le30) le36) le52) (Sub.drop (Sub.drop (Sub.drop (Sub.drop (Sub.drop (Sub.drop (Sub.drop (Sub.drop (Sub.drop (Sub.drop (Sub.drop (Sub.drop (Sub.drop (Sub.drop (Sub.drop (Sub.drop (Sub.drop (Sub.drop (Sub.refl _))))))))))))))))))) ?_)
                 exact ⟨rfl, rfl, rfl⟩
end Go.Proofs.YtnloeeaidknblaaGreat
