/-
  Walks: rewrite sequences, of the program and of the reference.
-/
import Derived.Test.YtbooflphoaaoeaaGreatQlFs
set_option linter.unusedSimpArgs false
set_option linter.unusedVariables false
namespace Go.Proofs.YtbooflphoaaoeaaGreat
open Go X M

/- (impl.Walk).end -/
theorem walkEnd_spec {F : FH} {L : List HP} {fv : Value} {f : List Int} (hf : IntsF F fv f) {ssv : Value} {ss : List StepT} (hss : StepsF F ssv ss) (hlss : ss.length ≤ 4000000) :
    Does Tryz.prog 134 [.agg #[fv, ssv]] F (L) (fun v F' L' => F = F' ∧ ∃ (a : Value), (a : Value) = v ∧ (IntsF F' a (endL f ss)) ∧ L = L') := by
  refine Does.of_X Tryz.func134 rfl rfl rfl ?_
  refine X.seq ?_
  refine X.region ?_
  refine XL.cons (XOp.box [fv, ssv] rfl rfl ?_)
  intro b1
  refine XL.cons (XOp.assign ((.slice none 0 0)) rfl ?_)
  refine XL.nil ?_
  refine X.seq ?_
  refine X.seq ?_
  refine X.region ?_
  refine XL.cons (XOp.fieldP (b := b1) (1) Tryz.runUnderlying66 rfl Tryz.sizeOf64 (by decide) rfl rfl ?_)
  refine XL.cons (XOp.load1 (v := ssv) Tryz.isAgg64 rfl (Rd.own [] rfl rfl) ?_)
  refine XL.cons (XOp.lenS (v := ssv) (n := (ss).length) Tryz.runUnderlying64 rfl hss.slv ?_)
  refine XL.cons (XOp.assign (.int .i64 ((((ss).length : Nat) : Int))) rfl ?_)
  refine XL.nil ?_
  refine X.seq ?_
  refine X.region ?_
  refine XL.cons (XOp.move (.int .i64 ((((ss).length : Nat) : Int))) rfl ?_)
  refine XL.cons (XOp.gtr (a := (((ss).length : Nat) : Int)) (b := 0) rfl rfl ?_)
  refine XL.nil ?_
  refine X.condD (p := ((((ss).length : Nat) : Int) : Int) > 0) rfl (fun h1 => ?_) (fun h1 => ?_)
  · refine X.seq ?_
    refine X.region ?_
    refine XL.cons (XOp.fieldP (b := b1) (1) Tryz.runUnderlying66 rfl Tryz.sizeOf64 (by decide) rfl rfl ?_)
    refine XL.cons (XOp.load1 (v := ssv) Tryz.isAgg64 rfl (Rd.own [] rfl rfl) ?_)
    refine XL.cons (XOp.move (.int .i64 ((((ss).length : Nat) : Int))) rfl ?_)
    refine XL.cons (XOp.subR (a := (((ss).length : Nat) : Int)) (b := 1) (((((ss).length) - 1 : Nat) : Int)) rfl rfl (by omega) (by omega) ?_)
    refine XL.cons (XOp.indexS (v := ssv) (i := ((((ss).length) - 1 : Nat) : Int)) (n := (ss).length) (((ss).length) - 1) Tryz.runUnderlying64 Tryz.sizeOf133 rfl rfl rfl hss.slv (by omega) rfl ?_)
    refine XL.cons (XOp.fieldE (v := ssv) ((((ss).length) - 1) * 3 + 2) Tryz.runUnderlying133 rfl Tryz.sizeOf22 (by decide) rfl rfl ?_)
    obtain ⟨a1, ha1, hr1, hr2, hr3⟩ := hss.rd (i := ((ss).length) - 1) (by omega)
    refine XL.cons (XOp.load1 (v := a1) Tryz.isAgg22 rfl (hr3 _) ?_)
    refine XL.cons (XOp.assign (a1) rfl ?_)
    refine XL.nil ?_
    refine X.ret (thenQ_ret (retEnd (L' := L) [a1] (a1) (.tmp rfl .nil) rfl (FLe.refl _) (FLe.refl _) (Sub.drop (Sub.refl _)) ?_))
    exact ⟨rfl, _, rfl, by rw [endL, if_neg (by omega)]; exact ha1, rfl⟩
  · refine X.skip ?_
    refine X.seq ?_
    refine X.region ?_
    refine XL.cons (XOp.fieldP (b := b1) (0) Tryz.runUnderlying66 rfl Tryz.sizeOf22 (by decide) rfl rfl ?_)
    refine XL.cons (XOp.load1 (v := fv) Tryz.isAgg22 rfl (Rd.own [] rfl rfl) ?_)
    refine XL.cons (XOp.assign (fv) rfl ?_)
    refine XL.nil ?_
    refine X.ret (retEnd (L' := L) [fv] (fv) (.tmp rfl .nil) rfl (FLe.refl _) (FLe.refl _) (Sub.drop (Sub.refl _)) ?_)
    exact ⟨rfl, _, rfl, by rw [endL, if_pos (by omega)]; exact hf, rfl⟩

/- spec.l7End -/
theorem l7End_spec {F : FH} {L : List HP} {fv : Value} {f : List Int} (hf : IntsF F fv f) {ssv : Value} {ss : List StepT} (hss : StepsF F ssv ss) (hlf : f.length ≤ 4000000) (hlss : ss.length ≤ 4000000) (hsb : ∀ i, i < ss.length → (ss.getD i (0, 0, [])).2.2.length ≤ 4000000) :
    Does Tryz.prog 130 [.agg #[fv, ssv]] F (L) (fun v F' L' => F = F' ∧ IsSl v ∧ intsH 2 v (endL f ss) :: L = L') := by
  refine Does.of_X Tryz.func130 rfl rfl rfl ?_
  have hsb1 := hsb (ss.length - 1)
  refine X.seq ?_
  refine X.region ?_
  refine XL.cons (XOp.box [fv, ssv] rfl rfl ?_)
  intro b1
  refine XL.cons (XOp.assign ((.slice none 0 0)) rfl ?_)
  refine XL.nil ?_
  refine X.seq ?_
  refine X.seq ?_
  refine X.region ?_
  refine XL.cons (XOp.fieldP (b := b1) (1) Tryz.runUnderlying66 rfl Tryz.sizeOf64 (by decide) rfl rfl ?_)
  refine XL.cons (XOp.load1 (v := ssv) Tryz.isAgg64 rfl (Rd.own [] rfl rfl) ?_)
  refine XL.cons (XOp.lenS (v := ssv) (n := (ss).length) Tryz.runUnderlying64 rfl hss.slv ?_)
  refine XL.cons (XOp.eql (a := (((ss).length : Nat) : Int)) (b := 0) rfl rfl ?_)
  refine XL.nil ?_
  refine X.condD (p := ((((ss).length : Nat) : Int) : Int) = 0) rfl (fun h1 => ?_) (fun h1 => ?_)
  · refine X.seq ?_
    refine X.region ?_
    refine XL.cons (XOp.fieldP (b := b1) (0) Tryz.runUnderlying66 rfl Tryz.sizeOf22 (by decide) rfl rfl ?_)
    refine XL.cons (XOp.load1 (v := fv) Tryz.isAgg22 rfl (Rd.own [] rfl rfl) ?_)
    refine XL.cons (XOp.call (args := [fv]) Tryz.call106 rfl (l1Copy_spec hf (hlt := (by first | assumption | rfl | omega | (left; simp; done) | (right; simp; done)))) ?_)
    rintro v1 _ _ _ ⟨rfl, hs1, rfl⟩
    refine XL.cons (XOp.assign (v1) rfl ?_)
    refine XL.nil ?_
    refine X.ret (thenQ_ret (retEnd (L' := intsH 2 v1 ((f)) :: L) [v1] (v1) (.tmp rfl .nil) rfl (FLe.refl _) (FLe.refl _) (Sub.cons (Sub.drop (Sub.refl _))) ?_))
    refine ⟨rfl, hs1, ?_⟩
    have hxs : (endL f ss : List Int) = (f) := by rw [endL, if_pos (by omega)]
    exact congrArg (fun z => intsH 2 _ z :: L) hxs
  · refine X.skip ?_
    refine X.seq ?_
    refine X.region ?_
    refine XL.cons (XOp.fieldP (b := b1) (1) Tryz.runUnderlying66 rfl Tryz.sizeOf64 (by decide) rfl rfl ?_)
    refine XL.cons (XOp.load1 (v := ssv) Tryz.isAgg64 rfl (Rd.own [] rfl rfl) ?_)
    refine XL.cons (XOp.fieldP (b := b1) (1) Tryz.runUnderlying66 rfl Tryz.sizeOf64 (by decide) rfl rfl ?_)
    refine XL.cons (XOp.load1 (v := ssv) Tryz.isAgg64 rfl (Rd.own [] rfl rfl) ?_)
    refine XL.cons (XOp.lenS (v := ssv) (n := (ss).length) Tryz.runUnderlying64 rfl hss.slv ?_)
    refine XL.cons (XOp.subR (a := (((ss).length : Nat) : Int)) (b := 1) (((((ss).length) - 1 : Nat) : Int)) rfl rfl (by omega) (by omega) ?_)
    refine XL.cons (XOp.indexS (v := ssv) (i := ((((ss).length) - 1 : Nat) : Int)) (n := (ss).length) (((ss).length) - 1) Tryz.runUnderlying64 Tryz.sizeOf133 rfl rfl rfl hss.slv (by omega) rfl ?_)
    refine XL.cons (XOp.fieldE (v := ssv) ((((ss).length) - 1) * 3 + 2) Tryz.runUnderlying133 rfl Tryz.sizeOf22 (by decide) rfl rfl ?_)
    obtain ⟨a1, ha1, hr1, hr2, hr3⟩ := hss.rd (i := ((ss).length) - 1) (by omega)
    refine XL.cons (XOp.load1 (v := a1) Tryz.isAgg22 rfl (hr3 _) ?_)
    refine XL.cons (XOp.call (args := [a1]) Tryz.call106 rfl (l1Copy_spec ha1 (hlt := (by first | assumption | rfl | omega | (left; simp; done) | (right; simp; done)))) ?_)
    rintro v2 _ _ _ ⟨rfl, hs2, rfl⟩
    refine XL.cons (XOp.assign (v2) rfl ?_)
    refine XL.nil ?_
    refine X.ret (retEnd (L' := intsH 2 v2 ((((ss.getD (((ss).length) - 1) (0, 0, [])).2.2))) :: L) [v2] (v2) (.tmp rfl .nil) rfl (FLe.refl _) (FLe.refl _) (Sub.cons (Sub.drop (Sub.refl _))) ?_)
    refine ⟨rfl, hs2, ?_⟩
    have hxs : (endL f ss : List Int) = (((ss.getD (((ss).length) - 1) (0, 0, [])).2.2)) := by rw [endL, if_neg (by omega)]
    exact congrArg (fun z => intsH 2 _ z :: L) hxs

/- spec.NormalBy -/
theorem sNormalBy_spec {F : FH} {L : List HP} {arv : Value} {ar : List Int} (har : IntsF F arv ar) {rsv : Value} {rs : List (List Int × List Int)} (hrs : PairsF F rsv rs) {tv : Value} {t : List Int} (ht : IntsF F tv t) {st : Int} {n : Int} (hla : ar.length ≤ 4000000) (hlr : rs.length ≤ 4000000) (hrb : ∀ i, i < rs.length → (rs.getD i ([], [])).1.length ≤ 4000000 ∧ (rs.getD i ([], [])).2.length ≤ 4000000) (hlt : t.length ≤ 4000000) :
    Does Tryz.prog 79 [.agg #[arv, rsv], tv, .int .i64 (st), .int .i64 (n)] F (L) (fun v F' L' => ∃ (a : Value), (.tuple #[a, .bool ((normB ar rs t st n).2)] : Value) = v ∧ (IntsF F' a (normB ar rs t st n).1) ∧ L = L') := by
  refine Does.of_X Tryz.func79 rfl rfl rfl ?_
  refine X.seq ?_
  refine X.region ?_
  refine XL.cons (XOp.box [arv, rsv] rfl rfl ?_)
  intro b1
  refine XL.cons (XOp.assign ((.slice none 0 0)) rfl ?_)
  refine XL.cons (XOp.assign (.bool (false)) rfl ?_)
  refine XL.nil ?_
  refine X.seq ?_
  refine X.region ?_
  refine XL.cons (XOp.loadN [arv, rsv] Tryz.isAgg37 Tryz.sizeOf37 rfl rfl (Rd.ownN [] rfl rfl) ?_)
  refine XL.cons (XOp.move (tv) rfl ?_)
  refine XL.cons (XOp.move (.int .i64 (st)) rfl ?_)
  refine XL.cons (XOp.move (.int .i64 (n)) rfl ?_)
  refine XL.cons (XOp.call (args := [.agg #[arv, rsv], tv, .int .i64 (st), .int .i64 (n)]) Tryz.call50 rfl (sWalkBy_spec (st := st) (n := n) har hrs ht (hla := (by first | assumption | rfl | omega | (left; simp; done) | (right; simp; done))) (hlr := (by first | assumption | rfl | omega | (left; simp; done) | (right; simp; done))) (hrb := (by first | assumption | rfl | omega | (left; simp; done) | (right; simp; done))) (hlt := (by first | assumption | rfl | omega | (left; simp; done) | (right; simp; done)))) ?_)
  rintro _ F1 _ le1 ⟨x1, x2, rfl, hr1, hr2, rfl⟩
  replace har := har.mono le1
  replace hrs := hrs.mono le1
  replace ht := ht.mono le1
  refine XL.cons (XOp.move (.tuple #[.agg #[x1, x2], .bool ((walkB ar rs t st n).2.2)]) rfl ?_)
  refine XL.cons (XOp.extract (.agg #[x1, x2]) rfl rfl ?_)
  refine XL.cons (XOp.extract (.bool ((walkB ar rs t st n).2.2)) rfl rfl ?_)
  refine XL.cons (XOp.alloc [(.slice none 0 0), (.slice none 0 0)] Tryz.zeroValue66 rfl ?_)
  intro b2
  refine XL.cons (XOp.storeN (vs := [x1, x2]) [] _ [x1, x2] Tryz.sizeOf66 rfl rfl rfl (ones_cons (one_sl (IntsF.isSl hr1)) (ones_cons (one_sl (StepsF.isSl hr2)) ones_nil)) rfl rfl rfl ?_)
  refine XL.cons (XOp.assign (.bool ((walkB ar rs t st n).2.2)) rfl ?_)
  refine XL.nil ?_
  refine X.seq ?_
  refine X.seq ?_
  refine X.region ?_
  refine XL.cons (XOp.move (.bool ((walkB ar rs t st n).2.2)) rfl ?_)
  refine XL.cons (XOp.notB (b := (walkB ar rs t st n).2.2) rfl ?_)
  refine XL.nil ?_
  refine X.cond (t := !((walkB ar rs t st n).2.2)) rfl (fun h1 => ?_) (fun h1 => ?_)
  · have hw2 : (walkB ar rs t st n).2.2 = false := by simpa using h1
    refine X.seq ?_
    refine X.region ?_
    refine XL.cons (XOp.buildSlice (s := 1) [] [.int .i64 (0)] [] Tryz.runUnderlying22 Tryz.sizeOf2 Tryz.zeroValue2 rfl (by decide) rfl CellsAre.nil rfl ?_)
    intro v1 hv1
    refine XL.cons (XOp.assign (v1) rfl ?_)
    refine XL.cons (XOp.assign (.bool (false)) rfl ?_)
    refine XL.nil ?_
    show X _ _ _ _ _ _ (intsH 2 v1 ([] : List Int) :: cellsH b2 [x1, x2] 66 :: cellsH b1 [arv, rsv] 37 :: L)
    refine X.freezeF [] _ _ rfl (fun F2 le2 hz1 => ?_)
    replace har := har.mono le2
    replace hrs := hrs.mono le2
    replace ht := ht.mono le2
    replace hr1 := hr1.mono le2
    replace hr2 := hr2.mono le2
    have hf1 : IntsF F2 v1 ([]) := intsH.fz (xs := []) hz1.fz
    refine X.ret (thenQ_ret (retEnd (L' := L) [v1, .bool (false)] (.tuple #[v1, .bool (false)]) (.tmp rfl (.tmp rfl .nil)) rfl (FLe.trans le1 le2) (FLe.refl _) (Sub.drop (Sub.drop (Sub.refl _))) ?_))
    have e : normB ar rs t st n = ([], false) := by rw [normB, if_neg (by rw [hw2]; simp)]
    exact ⟨_, by rw [e], by rw [e]; exact hf1, rfl⟩
  · have hw2 : (walkB ar rs t st n).2.2 = true := by simpa using h1
    obtain ⟨hw3, hw4, hw5, hw6⟩ := walkB_ok hw2
    have hel : 1 ≤ (endL (walkB ar rs t st n).1 (walkB ar rs t st n).2.1).length ∧ (endL (walkB ar rs t st n).1 (walkB ar rs t st n).2.1).length ≤ 60 := by rw [hw4]; exact termOk_len hw6
    have hwl := walkB_len (ar := ar) (rs := rs) (t := t) (st := st) (n := n)
    refine X.skip ?_
    refine X.seq ?_
    refine X.region ?_
    refine XL.cons (XOp.loadN [x1, x2] Tryz.isAgg66 Tryz.sizeOf66 rfl rfl (Rd.ownN [] rfl rfl) ?_)
    refine XL.cons (XOp.frzF <| XOp.call (args := [.agg #[x1, x2]]) Tryz.call130 rfl (l7End_spec hr1 hr2 (hlf := (by rw [hw4]; exact hlt)) (hlss := (by first | assumption | rfl | omega | (left; simp; done) | (right; simp; done))) (hsb := (fun i hi => by have := termOk_len (walkOk_to hw5 hi); omega))) ?_)
    rintro v2 _ _ _ ⟨rfl, hs1, rfl⟩
    refine ⟨_, _, rfl, fun F3 le3 hz2 => ?_⟩
    replace har := har.mono le3
    replace hrs := hrs.mono le3
    replace ht := ht.mono le3
    replace hr1 := hr1.mono le3
    replace hr2 := hr2.mono le3
    have hf2 : IntsF F3 v2 ((endL ((walkB ar rs t st n).1) ((walkB ar rs t st n).2.1))) := intsH.fz (xs := (endL ((walkB ar rs t st n).1) ((walkB ar rs t st n).2.1))) hz2.fz
    refine XL.cons (XOp.assign (v2) rfl ?_)
    refine XL.cons (XOp.assign (.bool (true)) rfl ?_)
    refine XL.nil ?_
    refine X.ret (retEnd (L' := L) [v2, .bool (true)] (.tuple #[v2, .bool (true)]) (.tmp rfl (.tmp rfl .nil)) rfl (FLe.trans le1 le3) (FLe.refl _) (Sub.drop (Sub.drop (Sub.refl _))) ?_)
    have e : normB ar rs t st n = (endL (walkB ar rs t st n).1 (walkB ar rs t st n).2.1, true) := by rw [normB, if_pos hw2]
    exact ⟨_, by rw [e], by rw [e]; exact hf2, rfl⟩
end Go.Proofs.YtbooflphoaaoeaaGreat
