/-
  Walks: words that are equal; the statement EqualBy.
-/
import Derived.Test.YtbooflphoaaoeaaGreatQfFt
import Derived.Test.YtbooflphoaaoeaaGreatP12
import Derived.Test.YtbooflphoaaoeaaGreatX14
set_option linter.unusedSimpArgs false
set_option linter.unusedVariables false
namespace Go.Proofs.YtbooflphoaaoeaaGreat
open Go X M

/- impl.normalOf -/
theorem normalOf_spec {F : FH} {L : List HP} {arv : Value} {ar : List Int} (har : IntsF F arv ar) {rsv : Value} {rs : List (List Int × List Int)} (hrs : PairsF F rsv rs) {tv : Value} {t : List Int} (ht : IntsF F tv t) {n : Nat} (hsys : sysOk ar rs = true) (ho : termOk ar t = true) (hn : n ≤ 60) :
    Does Tryz.prog 82 [.agg #[arv, rsv], tv, .int .i64 (((n : Nat) : Int))] F (L) (fun v F' L' => ∃ (a : Value), (.tuple #[a, .bool ((walkGo ar rs 1 n t).2)] : Value) = v ∧ (IntsF F' a (endL t (walkGo ar rs 1 n t).1)) ∧ L = L') := by
  refine Does.of_X Tryz.func82 rfl rfl rfl ?_
  have hwl := walkGo_len (ar := ar) (rs := rs) (st := 1) n t
  refine X.seq ?_
  refine X.region ?_
  refine XL.cons (XOp.box [arv, rsv] rfl rfl ?_)
  intro b1
  refine XL.cons (XOp.assign ((.slice none 0 0)) rfl ?_)
  refine XL.cons (XOp.assign (.bool (false)) rfl ?_)
  refine XL.nil ?_
  refine X.seq ?_
  refine X.region ?_
  refine XL.cons (XOp.loadN [arv, rsv] Tryz.isAgg37 Tryz.sizeOf37 rfl rfl (Rd.ownN [] rfl rfl) ?_)
  refine XL.cons (XOp.move (tv) rfl ?_)
  refine XL.cons (XOp.move (.int .i64 (((n : Nat) : Int))) rfl ?_)
  refine XL.cons (XOp.call (args := [.agg #[arv, rsv], tv, .int .i64 (1), .int .i64 ((n : Nat) : Int)]) Tryz.call56 rfl (walkBy_spec (st := 1) (n := n) har hrs ht (hsys := (by first | assumption | rfl | omega | (left; simp; done) | (right; simp; done))) (ho := (by first | assumption | rfl | omega | (left; simp; done) | (right; simp; done))) (hst := (by first | assumption | rfl | omega | (left; simp; done) | (right; simp; done))) (hn := (by first | assumption | rfl | omega | (left; simp; done) | (right; simp; done)))) ?_)
  rintro _ F1 _ le1 ⟨x1, x2, rfl, hr1, hr2, hr3, rfl⟩
  replace har := har.mono le1
  replace hrs := hrs.mono le1
  replace ht := ht.mono le1
  refine XL.cons (XOp.move (.tuple #[.agg #[x1, x2], .bool ((walkGo ar rs 1 n t).2)]) rfl ?_)
  refine XL.cons (XOp.extract (.agg #[x1, x2]) rfl rfl ?_)
  refine XL.cons (XOp.extract (.bool ((walkGo ar rs 1 n t).2)) rfl rfl ?_)
  refine XL.cons (XOp.alloc [(.slice none 0 0), (.slice none 0 0)] Tryz.zeroValue66 rfl ?_)
  intro b2
  refine XL.cons (XOp.storeN (vs := [x1, x2]) [] _ [x1, x2] Tryz.sizeOf66 rfl rfl rfl (ones_cons (one_sl (IntsF.isSl hr1)) (ones_cons (one_sl (StepsF.isSl hr2)) ones_nil)) rfl rfl rfl ?_)
  refine XL.cons (XOp.assign (.bool ((walkGo ar rs 1 n t).2)) rfl ?_)
  refine XL.nil ?_
  refine X.seq ?_
  refine X.region ?_
  refine XL.cons (XOp.loadN [x1, x2] Tryz.isAgg66 Tryz.sizeOf66 rfl rfl (Rd.ownN [] rfl rfl) ?_)
  refine XL.cons (XOp.call (args := [.agg #[x1, x2]]) Tryz.call134 rfl (walkEnd_spec hr1 hr2 (hlss := (by first | assumption | rfl | omega | (left; simp; done) | (right; simp; done)))) ?_)
  rintro _ _ _ _ ⟨rfl, x3, rfl, hr4, rfl⟩
  refine XL.cons (XOp.move (.bool ((walkGo ar rs 1 n t).2)) rfl ?_)
  refine XL.cons (XOp.assign (x3) rfl ?_)
  refine XL.cons (XOp.assign (.bool ((walkGo ar rs 1 n t).2)) rfl ?_)
  refine XL.nil ?_
  refine X.ret (retEnd (L' := L) [x3, .bool ((walkGo ar rs 1 n t).2)] (.tuple #[x3, .bool ((walkGo ar rs 1 n t).2)]) (.tmp rfl (.tmp rfl .nil)) rfl le1 (FLe.refl _) (Sub.drop (Sub.drop (Sub.refl _))) ?_)
  exact ⟨_, rfl, hr4, rfl⟩

/- impl.equalBy$1 -/
theorem equalBy1_spec {F : FH} {L : List HP} {tv : Value} {t : List Int} (ht : IntsF F tv t) {arv : Value} {ar : List Int} (har : IntsF F arv ar) {rsv : Value} {rs : List (List Int × List Int)} (hrs : PairsF F rsv rs) {b : Nat} (hzb : FzC F b [arv, rsv]) {n : Nat} {c : Nat} (hzc : FzC F c [.int .i64 (((n : Nat) : Int))]) (hsys : sysOk ar rs = true) (ho : termOk ar t = true) (hn : n ≤ 60) :
    Does Tryz.prog 129 [tv, ptr b 0, ptr c 0] F (L) (fun v F' L' => ∃ (a : Value), (.tuple #[a, .bool ((walkGo ar rs 1 n t).2)] : Value) = v ∧ (IntsF F' a (endL t (walkGo ar rs 1 n t).1)) ∧ L = L') := by
  refine Does.of_X Tryz.func129 rfl rfl rfl ?_
  refine X.seq ?_
  refine X.region ?_
  refine XL.cons (XOp.assign ((.slice none 0 0)) rfl ?_)
  refine XL.cons (XOp.assign (.bool (false)) rfl ?_)
  refine XL.nil ?_
  refine X.seq ?_
  refine X.region ?_
  refine XL.cons (XOp.loadN [arv, rsv] Tryz.isAgg37 Tryz.sizeOf37 rfl rfl (FzC.rd hzb rfl) ?_)
  refine XL.cons (XOp.move (tv) rfl ?_)
  refine XL.cons (XOp.load1 (v := .int .i64 (((n : Nat) : Int))) Tryz.isAgg3 rfl (FzC.rd1 hzc rfl) ?_)
  refine XL.cons (XOp.call (args := [.agg #[arv, rsv], tv, .int .i64 ((n : Nat) : Int)]) Tryz.call82 rfl (normalOf_spec (n := n) har hrs ht (hsys := (by first | assumption | rfl | omega | (left; simp; done) | (right; simp; done))) (ho := (by first | assumption | rfl | omega | (left; simp; done) | (right; simp; done))) (hn := (by first | assumption | rfl | omega | (left; simp; done) | (right; simp; done)))) ?_)
  rintro _ F1 _ le1 ⟨x1, rfl, hr1, rfl⟩
  replace ht := ht.mono le1
  replace har := har.mono le1
  replace hrs := hrs.mono le1
  replace hzb := hzb.mono le1
  replace hzc := hzc.mono le1
  refine XL.cons (XOp.extract (x1) rfl rfl ?_)
  refine XL.cons (XOp.extract (.bool ((walkGo ar rs 1 n t).2)) rfl rfl ?_)
  refine XL.cons (XOp.assign (x1) rfl ?_)
  refine XL.cons (XOp.assign (.bool ((walkGo ar rs 1 n t).2)) rfl ?_)
  refine XL.nil ?_
  refine X.ret (retEnd (L' := L) [x1, .bool ((walkGo ar rs 1 n t).2)] (.tuple #[x1, .bool ((walkGo ar rs 1 n t).2)]) (.tmp rfl (.tmp rfl .nil)) rfl le1 (FLe.refl _) (Sub.refl _) ?_)
  exact ⟨_, rfl, hr1, rfl⟩

/- impl.both[[]int64] -/
theorem both_spec {F : FH} {L : List HP} {xv : Value} {x : List Int} (hx : IntsF F xv x) {yv : Value} {y : List Int} (hy : IntsF F yv y) {arv : Value} {ar : List Int} (har : IntsF F arv ar) {rsv : Value} {rs : List (List Int × List Int)} (hrs : PairsF F rsv rs) {b : Nat} (hzb : FzC F b [arv, rsv]) {n : Nat} {c : Nat} (hzc : FzC F c [.int .i64 (((n : Nat) : Int))]) (hsys : sysOk ar rs = true) (hox : termOk ar x = true) (hoy : termOk ar y = true) (hn : n ≤ 60) :
    Does Tryz.prog 128 [xv, yv, .func (.func 129) #[] #[ptr b 0, ptr c 0]] F (L) (fun v F' L' => ∃ (a : Value), ∃ (d : Value), (.tuple #[a, d, .bool (((walkGo ar rs 1 n x).2 && (walkGo ar rs 1 n y).2))] : Value) = v ∧ (IntsF F' a (endL x (walkGo ar rs 1 n x).1)) ∧ (IntsF F' d (endL y (walkGo ar rs 1 n y).1)) ∧ L = L') := by
  refine Does.of_X Tryz.func128 rfl rfl rfl ?_
  refine X.seq ?_
  refine X.region ?_
  refine XL.cons (XOp.assign ((.slice none 0 0)) rfl ?_)
  refine XL.cons (XOp.assign ((.slice none 0 0)) rfl ?_)
  refine XL.cons (XOp.assign (.bool (false)) rfl ?_)
  refine XL.nil ?_
  refine X.seq ?_
  refine X.region ?_
  refine XL.cons (XOp.move (.func (.func 129) #[] #[ptr b 0, ptr c 0]) rfl ?_)
  refine XL.cons (XOp.move (xv) rfl ?_)
  refine XL.cons (XOp.callV (first := []) (captured := [ptr b 0, ptr c 0]) (args := [xv, ptr b 0, ptr c 0]) Tryz.call129 rfl rfl (equalBy1_spec hx har hrs hzb hzc (hsys := (by first | assumption | rfl | omega | (left; simp; done) | (right; simp; done))) (ho := (by first | assumption | rfl | omega | (left; simp; done) | (right; simp; done))) (hn := (by first | assumption | rfl | omega | (left; simp; done) | (right; simp; done)))) ?_)
  rintro _ F1 _ le1 ⟨x1, rfl, hr1, rfl⟩
  replace hx := hx.mono le1
  replace hy := hy.mono le1
  replace har := har.mono le1
  replace hrs := hrs.mono le1
  replace hzb := hzb.mono le1
  replace hzc := hzc.mono le1
  refine XL.cons (XOp.move (.tuple #[x1, .bool ((walkGo ar rs 1 n x).2)]) rfl ?_)
  refine XL.cons (XOp.extract (x1) rfl rfl ?_)
  refine XL.cons (XOp.extract (.bool ((walkGo ar rs 1 n x).2)) rfl rfl ?_)
  refine XL.cons (XOp.assign (x1) rfl ?_)
  refine XL.cons (XOp.assign (.bool ((walkGo ar rs 1 n x).2)) rfl ?_)
  refine XL.nil ?_
  refine X.seq ?_
  refine X.region ?_
  refine XL.cons (XOp.move (.func (.func 129) #[] #[ptr b 0, ptr c 0]) rfl ?_)
  refine XL.cons (XOp.move (yv) rfl ?_)
  refine XL.cons (XOp.callV (first := []) (captured := [ptr b 0, ptr c 0]) (args := [yv, ptr b 0, ptr c 0]) Tryz.call129 rfl rfl (equalBy1_spec hy har hrs hzb hzc (hsys := (by first | assumption | rfl | omega | (left; simp; done) | (right; simp; done))) (ho := (by first | assumption | rfl | omega | (left; simp; done) | (right; simp; done))) (hn := (by first | assumption | rfl | omega | (left; simp; done) | (right; simp; done)))) ?_)
  rintro _ F2 _ le2 ⟨x2, rfl, hr2, rfl⟩
  replace hx := hx.mono le2
  replace hy := hy.mono le2
  replace har := har.mono le2
  replace hrs := hrs.mono le2
  replace hzb := hzb.mono le2
  replace hzc := hzc.mono le2
  replace hr1 := hr1.mono le2
  refine XL.cons (XOp.move (.tuple #[x2, .bool ((walkGo ar rs 1 n y).2)]) rfl ?_)
  refine XL.cons (XOp.extract (x2) rfl rfl ?_)
  refine XL.cons (XOp.extract (.bool ((walkGo ar rs 1 n y).2)) rfl rfl ?_)
  refine XL.cons (XOp.assign (x2) rfl ?_)
  refine XL.cons (XOp.assign (.bool ((walkGo ar rs 1 n y).2)) rfl ?_)
  refine XL.nil ?_
  refine X.seq ?_
  refine X.region ?_
  refine XL.cons (XOp.move (x1) rfl ?_)
  refine XL.cons (XOp.move (x2) rfl ?_)
  refine XL.cons (XOp.move (.bool ((walkGo ar rs 1 n x).2)) rfl ?_)
  refine XL.cons (XOp.move (.bool ((walkGo ar rs 1 n x).2)) rfl ?_)
  by_cases h1 : ((walkGo ar rs 1 n x).2) = true
  · refine XL.yes (t := 28) rfl (congrArg Value.bool h1) (XOp.move (.bool ((walkGo ar rs 1 n y).2)) rfl ?_)
    refine XL.cons (XOp.pickT (.bool ((walkGo ar rs 1 n y).2)) (congrArg Value.bool h1) rfl ?_)
    refine XL.cons (XOp.assign (x1) rfl ?_)
    refine XL.cons (XOp.assign (x2) rfl ?_)
    refine XL.cons (XOp.assign (.bool ((walkGo ar rs 1 n y).2)) rfl ?_)
    refine XL.nil ?_
    refine X.ret (retEnd (L' := L) [x1, x2, .bool ((walkGo ar rs 1 n y).2)] (.tuple #[x1, x2, .bool ((walkGo ar rs 1 n y).2)]) (.tmp rfl (.tmp rfl (.tmp rfl .nil))) rfl (FLe.trans le1 le2) (FLe.refl _) (Sub.refl _) ?_)
    exact ⟨_, _, by first | rfl | (rw [‹(walkGo ar rs 1 n x).2 = _›]; rfl), hr1, hr2, rfl⟩
  · rw [Bool.not_eq_true] at h1
    refine XL.no (t := 28) rfl (congrArg Value.bool h1) ?_
    refine XL.cons (XOp.pickF (.bool (false)) (congrArg Value.bool h1) rfl ?_)
    refine XL.cons (XOp.assign (x1) rfl ?_)
    refine XL.cons (XOp.assign (x2) rfl ?_)
    refine XL.cons (XOp.assign (.bool (false)) rfl ?_)
    refine XL.nil ?_
    refine X.ret (retEnd (L' := L) [x1, x2, .bool (false)] (.tuple #[x1, x2, .bool (false)]) (.tmp rfl (.tmp rfl (.tmp rfl .nil))) rfl (FLe.trans le1 le2) (FLe.refl _) (Sub.refl _) ?_)
    exact ⟨_, _, by first | rfl | (rw [‹(walkGo ar rs 1 n x).2 = _›]; rfl), hr1, hr2, rfl⟩

/- impl.equalBy -/
theorem equalBy_spec {F : FH} {L : List HP} {arv : Value} {ar : List Int} (har : IntsF F arv ar) {rsv : Value} {rs : List (List Int × List Int)} (hrs : PairsF F rsv rs) {av : Value} {a : List Int} (ha : IntsF F av a) {bv : Value} {b : List Int} (hb : IntsF F bv b) {n : Nat} (hsys : sysOk ar rs = true) (hoa : termOk ar a = true) (hob : termOk ar b = true) (hn : n ≤ 60) :
    Does Tryz.prog 75 [.agg #[arv, rsv], av, bv, .int .i64 (((n : Nat) : Int))] F (L) (fun v F' L' => (.int .i64 (eqN ar rs a b n) : Value) = v ∧ F = F' ∧ L = L') := by
  refine Does.of_X Tryz.func75 rfl rfl rfl ?_
  have hwa := walkGo_ok (ar := ar) (rs := rs) (st := 1) n a (right_iff.2 ⟨hsys, hoa⟩)
  have hwb := walkGo_ok (ar := ar) (rs := rs) (st := 1) n b (right_iff.2 ⟨hsys, hob⟩)
  have hla := termOk_len (right_iff.1 hwa.2.1).2
  have hlb := termOk_len (right_iff.1 hwb.2.1).2
  refine X.seq ?_
  refine X.region ?_
  refine XL.cons (XOp.box [arv, rsv] rfl rfl ?_)
  intro b1
  refine XL.cons (XOp.box [.int .i64 (((n : Nat) : Int))] rfl rfl ?_)
  intro b2
  refine XL.cons (XOp.assign (.int .i64 (0)) rfl ?_)
  refine XL.nil ?_
  refine X.seq ?_
  refine X.region ?_
  refine XL.cons (XOp.move (av) rfl ?_)
  refine XL.cons (XOp.move (bv) rfl ?_)
  refine XL.cons (XOp.makeFuncL [] [ptr b1 0, ptr b2 0] rfl rfl ?_)
  refine XL.freeze [_] _ _ rfl (fun F1 le1 hz1 => ?_)
  replace har := har.mono le1
  replace hrs := hrs.mono le1
  replace ha := ha.mono le1
  replace hb := hb.mono le1
  have hf1 : FzC F1 b1 [arv, rsv] := Fz.cells hz1
  refine XL.freeze [] _ _ rfl (fun F2 le2 hz2 => ?_)
  replace har := har.mono le2
  replace hrs := hrs.mono le2
  replace ha := ha.mono le2
  replace hb := hb.mono le2
  replace hf1 := hf1.mono le2
  have hf2 : FzC F2 b2 [.int .i64 (((n : Nat) : Int))] := Fz.cells hz2
  refine XL.cons (XOp.call (args := [av, bv, .func (.func 129) #[] #[ptr b1 0, ptr b2 0]]) Tryz.call128 rfl (both_spec ha hb har hrs hf1 hf2 (hsys := (by first | assumption | rfl | omega | (left; simp; done) | (right; simp; done))) (hox := (by first | assumption | rfl | omega | (left; simp; done) | (right; simp; done))) (hoy := (by first | assumption | rfl | omega | (left; simp; done) | (right; simp; done))) (hn := (by first | assumption | rfl | omega | (left; simp; done) | (right; simp; done)))) ?_)
  rintro _ F3 _ le3 ⟨x1, x2, rfl, hr1, hr2, rfl⟩
  replace har := har.mono le3
  replace hrs := hrs.mono le3
  replace ha := ha.mono le3
  replace hb := hb.mono le3
  replace hf1 := hf1.mono le3
  replace hf2 := hf2.mono le3
  refine XL.cons (XOp.move (.tuple #[x1, x2, .bool (((walkGo ar rs 1 n a).2 && (walkGo ar rs 1 n b).2))]) rfl ?_)
  refine XL.cons (XOp.extract (x1) rfl rfl ?_)
  refine XL.cons (XOp.extract (x2) rfl rfl ?_)
  refine XL.cons (XOp.extract (.bool (((walkGo ar rs 1 n a).2 && (walkGo ar rs 1 n b).2))) rfl rfl ?_)
  refine XL.cons (XOp.assign (x1) rfl ?_)
  refine XL.cons (XOp.assign (x2) rfl ?_)
  refine XL.cons (XOp.assign (.bool (((walkGo ar rs 1 n a).2 && (walkGo ar rs 1 n b).2))) rfl ?_)
  refine XL.nil ?_
  refine X.seq ?_
  refine X.block ?_
  refine X.seq ?_
  refine X.region ?_
  refine XL.cons (XOp.move (.bool (((walkGo ar rs 1 n a).2 && (walkGo ar rs 1 n b).2))) rfl ?_)
  refine XL.cons (XOp.notB (b := ((walkGo ar rs 1 n a).2 && (walkGo ar rs 1 n b).2)) rfl ?_)
  refine XL.cons (XOp.assign (.bool (!(((walkGo ar rs 1 n a).2 && (walkGo ar rs 1 n b).2)))) rfl ?_)
  refine XL.nil ?_
  refine X.cond (t := !(((walkGo ar rs 1 n a).2 && (walkGo ar rs 1 n b).2))) rfl (fun h1 => ?_) (fun h1 => ?_)
  · refine X.seq ?_
    refine X.region ?_
    refine XL.cons (XOp.assign (.int .i64 (-1)) rfl ?_)
    refine XL.nil ?_
    refine X.ret (blockQ_ret (thenQ_ret (retEnd (L' := L) [.int .i64 (-1)] (.int .i64 (-1)) (.tmp rfl .nil) rfl (FLe.refl _) (FLe.trans (FLe.trans le1 le2) le3) (Sub.refl _) ?_)))
    exact ⟨(congrArg (Value.int .i64) (by rw [eqN, if_neg (fun h => by simp_all)])), rfl, rfl⟩
  · refine X.seq ?_
    refine X.region ?_
    refine XL.cons (XOp.move (x1) rfl ?_)
    refine XL.cons (XOp.move (x2) rfl ?_)
    refine XL.cons (XOp.call (args := [x1, x2]) Tryz.call85 rfl (Equal_spec hr1 hr2 (hbd := (by first | assumption | rfl | omega | (left; simp; done) | (right; simp; done)))) ?_)
    rintro _ _ _ _ ⟨rfl, rfl, rfl⟩
    refine XL.cons (XOp.assign (.bool (decide ((endL a (walkGo ar rs 1 n a).1) = (endL b (walkGo ar rs 1 n b).1)))) rfl ?_)
    refine XL.nil ?_
    refine X.condD (p := (endL a (walkGo ar rs 1 n a).1) = (endL b (walkGo ar rs 1 n b).1)) rfl (fun h2 => ?_) (fun h2 => ?_)
    · refine X.seq ?_
      refine X.region ?_
      refine XL.cons (XOp.assign (.int .i64 (1)) rfl ?_)
      refine XL.nil ?_
      refine X.ret (blockQ_ret (thenQ_ret (retEnd (L' := L) [.int .i64 (1)] (.int .i64 (1)) (.tmp rfl .nil) rfl (FLe.refl _) (FLe.trans (FLe.trans le1 le2) le3) (Sub.refl _) ?_)))
      exact ⟨(congrArg (Value.int .i64) (by rw [eqN, if_pos (by simp_all), if_pos (by assumption)])), rfl, rfl⟩
    · refine X.skip ?_
      refine X.seq ?_
      refine X.region ?_
      refine XL.cons (XOp.assign (.int .i64 (0)) rfl ?_)
      refine XL.nil ?_
      refine X.ret (retEnd (L' := L) [.int .i64 (0)] (.int .i64 (0)) (.tmp rfl .nil) rfl (FLe.refl _) (FLe.trans (FLe.trans le1 le2) le3) (Sub.refl _) ?_)
      exact ⟨(congrArg (Value.int .i64) (by rw [eqN, if_pos (by simp_all), if_neg (by assumption)])), rfl, rfl⟩
end Go.Proofs.YtbooflphoaaoeaaGreat
