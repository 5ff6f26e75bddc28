/-
  Walks: a sequence inside a term; the statement WalkInside.
-/
import Derived.Test.YtacbenjncjcglaaQbFt
import Derived.Test.YtacbenjncjcglaaP10
set_option linter.unusedSimpArgs false
set_option linter.unusedVariables false
namespace Go.Proofs.Ytacbenjncjcglaa
open Go X M

/- impl.walkInside -/
theorem walkInside_spec {F : FH} {L : List HP} {arv : Value} {ar : List Int} (har : IntsF F arv ar) {fv : Value} {f : List Int} (hf : IntsF F fv f) {xsv : Value} {xs : List StepT} (hxs : StepsF F xsv xs) {tv : Value} {t : List Int} (ht : IntsF F tv t) {p : Nat} (ho : termOk ar t = true) (hp : p < t.length) (hwx : ∃ rs, walkOkL ar rs f xs = true) :
    Does Try.prog 117 [.agg #[arv], .agg #[fv, xsv], tv, .int .i64 (((p : Nat) : Int))] F (L) (fun v F' L' => ∃ (a : Value), ∃ (b : Value), (.tuple #[.agg #[a, b], .bool ((insR ar f xs t p).2.2)] : Value) = v ∧ (IntsF F' a (insR ar f xs t p).1) ∧ (StepsF F' b (insR ar f xs t p).2.1) ∧ (Fresh F F' (star [intsH 2 a (insR ar f xs t p).1, stepsD 2 74 b (insR ar f xs t p).2.1])) ∧ L = L') := by
  refine Does.of_X Try.func117 rfl rfl rfl ?_
  obtain ⟨rs, hwk⟩ := hwx
  have htl := termOk_len ho
  have hfl := termOk_len (right_iff.1 (walkOkL_iff.1 hwk).1).2
  have hxl := (walkOkL_iff.1 hwk).2.1
  refine X.seq ?_
  refine X.region ?_
  refine XL.cons (XOp.box [arv] rfl rfl ?_)
  intro b1
  refine XL.cons (XOp.box [fv, xsv] rfl rfl ?_)
  intro b2
  refine XL.cons (XOp.alloc [(.slice none 0 0), (.slice none 0 0)] Try.zeroValue63 rfl ?_)
  intro b3
  refine XL.cons (XOp.assign (.bool (false)) rfl ?_)
  refine XL.nil ?_
  refine X.seq ?_
  refine X.region ?_
  refine XL.cons (XOp.loadN [arv] Try.isAgg26 Try.sizeOf26 rfl rfl (Rd.ownN [_, _] rfl rfl) ?_)
  refine XL.cons (XOp.move (tv) rfl ?_)
  refine XL.cons (XOp.move (.int .i64 (((p : Nat) : Int))) rfl ?_)
  refine XL.cons (XOp.fieldP (b := b2) (0) Try.runUnderlying63 rfl Try.sizeOf24 (by decide) rfl rfl ?_)
  refine XL.cons (XOp.load1 (v := fv) Try.isAgg24 rfl (Rd.own [_] rfl rfl) ?_)
  refine XL.cons (XOp.call (args := [.agg #[arv], tv, .int .i64 ((p : Nat) : Int), fv]) Try.call166 rfl (put_spec (p := p) har ht hf (ho := (by first | assumption | rfl | omega | (left; simp; done) | (right; simp; done))) (hp := (by first | assumption | rfl | omega | (left; simp; done) | (right; simp; done))) (hul := (by first | assumption | rfl | omega | (left; simp; done) | (right; simp; done)))) ?_)
  rintro _ F1 _ le1 ⟨x1, rfl, hr1, hr2, hr3, rfl⟩
  replace har := har.mono le1
  replace hf := hf.mono le1
  replace hxs := hxs.mono le1
  replace ht := ht.mono le1
  refine XL.cons (XOp.move (.tuple #[x1, .bool ((putL ar t p f).isSome)]) rfl ?_)
  refine XL.cons (XOp.extract (x1) rfl rfl ?_)
  refine XL.cons (XOp.extract (.bool ((putL ar t p f).isSome)) rfl rfl ?_)
  refine XL.cons (XOp.assign (x1) rfl ?_)
  refine XL.cons (XOp.assign (.bool ((putL ar t p f).isSome)) rfl ?_)
  refine XL.nil ?_
  refine X.seq ?_
  refine X.seq ?_
  refine X.region ?_
  refine XL.cons (XOp.move (.bool ((putL ar t p f).isSome)) rfl ?_)
  refine XL.cons (XOp.notB (b := (putL ar t p f).isSome) rfl ?_)
  refine XL.nil ?_
  refine X.cond (t := !((putL ar t p f).isSome)) rfl (fun h1 => ?_) (fun h1 => ?_)
  · have hpf1 : (putL ar t p f).isSome = false := by simpa using h1
    refine X.seq ?_
    refine X.region ?_
    refine XL.cons (XOp.build [(.slice none 0 0), (.slice none 0 0)] [(.slice none 0 0), (.slice none 0 0)] [(0, 1), (1, 1)] [] Try.runUnderlying63 Try.zeroValue63 rfl (.cons rfl Try.sizeOf24 (.cons rfl Try.sizeOf61 PlacesAre.nil)) rfl CellsAre.nil ?_)
    refine XL.cons (XOp.storeN (vs := [(.slice none 0 0), (.slice none 0 0)]) [] _ [(.slice none 0 0), (.slice none 0 0)] Try.sizeOf63 rfl rfl rfl (ones_cons rfl (ones_cons rfl ones_nil)) rfl rfl rfl ?_)
    refine XL.cons (XOp.assign (.bool (false)) rfl ?_)
    refine XL.nil ?_
    refine X.ret (thenQ_ret (retEnd (L' := L) [.agg #[(.slice none 0 0), (.slice none 0 0)], .bool (false)] (.tuple #[.agg #[(.slice none 0 0), (.slice none 0 0)], .bool (false)]) (.cell rfl (loadNV [(.slice none 0 0), (.slice none 0 0)] Try.isAgg63 Try.sizeOf63 rfl (Rd.ownN [] rfl rfl)) (.tmp rfl .nil)) rfl le1 (FLe.refl _) (Sub.drop (Sub.drop (Sub.drop (Sub.refl _)))) ?_))
    have e := insR_from (ss := xs) hpf1
    exact ⟨_, _, by rw [e], by rw [e]; exact IntsF.nilV, by rw [e]; exact SlOf.nilV, by rw [e]; exact Fresh.empty nilWalk, rfl⟩
  · have hpf1 : (putL ar t p f).isSome = true := by simpa using h1
    refine X.skip ?_
    refine X.seq ?_
    refine X.region ?_
    refine XL.cons (XOp.move (x1) rfl ?_)
    refine XL.cons (XOp.build [x1, (.slice none 0 0)] [(.slice none 0 0), (.slice none 0 0)] [(0, 1), (1, 1)] [(0, [x1])] Try.runUnderlying63 Try.zeroValue63 rfl (.cons rfl Try.sizeOf24 (.cons rfl Try.sizeOf61 PlacesAre.nil)) rfl (.cons (cells_one (IntsF.isSl hr1)) CellsAre.nil) ?_)
    refine XL.cons (XOp.alloc [(.slice none 0 0), (.slice none 0 0)] Try.zeroValue63 rfl ?_)
    intro b4
    refine XL.cons (XOp.storeN (vs := [x1, (.slice none 0 0)]) [] _ [x1, (.slice none 0 0)] Try.sizeOf63 rfl rfl rfl (ones_cons (one_sl (IntsF.isSl hr1)) (ones_cons rfl ones_nil)) rfl rfl rfl ?_)
    refine XL.nil ?_
    refine X.seq ?_
    refine X.seq ?_
    refine X.region ?_
    refine XL.cons (XOp.fieldP (b := b2) (1) Try.runUnderlying63 rfl Try.sizeOf61 (by decide) rfl rfl ?_)
    refine XL.cons (XOp.load1 (v := xsv) Try.isAgg61 rfl (Rd.own [_, _] rfl rfl) ?_)
    refine XL.cons (XOp.lenS (v := xsv) (n := (xs).length) Try.runUnderlying61 rfl hxs.slv ?_)
    refine XL.cons (XOp.move (.int .i64 (0)) rfl ?_)
    refine XL.nil ?_
    refine X.block ?_
    refine X.loop (α := Nat × Value × List StepT × List Value × List HP × Nat × FH) (fun xQ => [(2, tv), (3, .int .i64 (((p : Nat) : Int))), (4, ptr b1 0), (8, ptr b3 0), (12, ptr b4 0), (32, xsv), (33, .int .i64 ((((xs).length : Nat) : Int))), (34, .int .i64 (((xQ.1 : Nat) : Int)))]) (fun xQ => slH 74 3 xQ.2.1 xQ.2.2.2.2.2.1 xQ.2.2.2.1 :: cellsH b4 [x1, xQ.2.1] 63 :: cellsH b3 [(.slice none 0 0), (.slice none 0 0)] 63 :: cellsH b2 [fv, xsv] 63 :: cellsH b1 [arv] 26 :: L) (fun xQ F' => xQ.2.2.2.2.2.2 = F' ∧ F1 ≤ xQ.2.2.2.2.2.2 ∧ (xQ.1 ≤ xs.length) ∧ (IsSl xQ.2.1) ∧ (StepsC xQ.2.2.2.2.2.2 xQ.2.2.2.1 xQ.2.2.1) ∧ (xQ.2.2.2.2.2.1 = xQ.2.2.1.length) ∧ (DeepL 3 (StepO 2) xQ.2.2.2.1 xQ.2.2.1 xQ.2.2.2.2.1) ∧ (Fresh F1 xQ.2.2.2.2.2.2 (star xQ.2.2.2.2.1)) ∧ (insGo ar t p xs = (insGo ar t p (xs.drop xQ.1)).map (fun r => xQ.2.2.1 ++ r)) ∧ (xQ.2.2.2.2.2.1 = xQ.1)) (fun xQ => xs.length - xQ.1) (0, (.slice none 0 0), [], [], [], 0, F1) ⟨rfl, rfl, rfl, rfl, rfl, rfl, rfl, rfl, trivial⟩ (Sub.trans (Sub.addNil 74 3 _ _) (Sub.cons (Sub.cons (Sub.cons (Sub.cons (Sub.cons (Sub.refl _))))))) ⟨rfl, FLe.refl _, (by (try dsimp only) <;> omega), (⟨_, _, _, rfl⟩), (CO.nil), (rfl), (DeepL.nil), (Fresh.nilL), (insGo_start), (rfl)⟩ ?_
    rintro ⟨k, sv, ss, cs, Ls, m, G1⟩ rE _ _ ⟨rfl, leG, hk, hsv, hC, hm, hD, hZ, hgo, hmk⟩
    show X _ _ _ _ (envs [(2, tv), (3, .int .i64 (((p : Nat) : Int))), (4, ptr b1 0), (8, ptr b3 0), (12, ptr b4 0), (32, xsv), (33, .int .i64 ((((xs).length : Nat) : Int))), (34, .int .i64 (((k : Nat) : Int)))] rE) _ (slH 74 3 sv m cs :: cellsH b4 [x1, sv] 63 :: cellsH b3 [(.slice none 0 0), (.slice none 0 0)] 63 :: cellsH b2 [fv, xsv] 63 :: cellsH b1 [arv] 26 :: L)
    replace leG : F1 ≤ G1 := leG
    dsimp only at hk hsv hC hm hD hZ hgo hmk
    have hak := fun (h : k < xs.length) => walkOk_at hwk h
    have htk := fun (h : k < xs.length) => termOk_len (walkOk_to hwk h)
    have leG1 := leG
    replace har := har.mono leG1
    replace hf := hf.mono leG1
    replace hxs := hxs.mono leG1
    replace ht := ht.mono leG1
    replace hr1 := hr1.mono leG1
    refine X.seq ?_
    refine X.region ?_
    refine XL.cons (XOp.lss (a := ((k : Nat) : Int)) (b := (((xs).length : Nat) : Int)) rfl rfl ?_)
    refine XL.nil ?_
    refine X.seq ?_
    refine X.condD (p := (((k : Nat) : Int) : Int) < (((xs).length : Nat) : Int)) rfl (fun h2 => ?_) (fun h2 => ?_)
    · refine X.skip ?_
      refine X.seq ?_
      refine X.block ?_
      refine X.seq ?_
      refine X.region ?_
      refine XL.cons (XOp.indexS (v := xsv) (i := ((k : Nat) : Int)) (n := (xs).length) k Try.runUnderlying61 Try.sizeOf74 rfl rfl rfl hxs.slv (by omega) rfl ?_)
      obtain ⟨a1, ha1, hr4, hr5, hr6⟩ := hxs.rd (i := k) (by omega)
      refine XL.cons (XOp.loadN [.int .i64 ((xs.getD k (0, 0, [])).1), .int .i64 ((xs.getD k (0, 0, [])).2.1), a1] Try.isAgg74 Try.sizeOf74 rfl rfl (Rd.three (hr4 _) (hr5 _) (hr6 _)) ?_)
      refine XL.cons (XOp.alloc [.int .i64 (0), .int .i64 (0), (.slice none 0 0)] Try.zeroValue74 rfl ?_)
      intro b5
      refine XL.cons (XOp.storeN (vs := [.int .i64 ((xs.getD k (0, 0, [])).1), .int .i64 ((xs.getD k (0, 0, [])).2.1), a1]) [] _ [.int .i64 ((xs.getD k (0, 0, [])).1), .int .i64 ((xs.getD k (0, 0, [])).2.1), a1] Try.sizeOf74 rfl rfl rfl (ones_cons rfl (ones_cons rfl (ones_cons (one_sl (IntsF.isSl ha1)) ones_nil))) rfl rfl rfl ?_)
      refine XL.nil ?_
      refine X.seq ?_
      refine X.region ?_
      refine XL.cons (XOp.loadN [arv] Try.isAgg26 Try.sizeOf26 rfl rfl (Rd.ownN [_, _, _, _, _] rfl rfl) ?_)
      refine XL.cons (XOp.move (tv) rfl ?_)
      refine XL.cons (XOp.move (.int .i64 (((p : Nat) : Int))) rfl ?_)
      refine XL.cons (XOp.fieldP (b := b5) (2) Try.runUnderlying74 rfl Try.sizeOf24 (by decide) rfl rfl ?_)
      refine XL.cons (XOp.load1 (v := a1) Try.isAgg24 rfl (Rd.own [] rfl rfl) ?_)
      refine XL.cons (XOp.call (args := [.agg #[arv], tv, .int .i64 ((p : Nat) : Int), a1]) Try.call166 rfl (put_spec (p := p) har ht ha1 (ho := (by first | assumption | rfl | omega | (left; simp; done) | (right; simp; done))) (hp := (by first | assumption | rfl | omega | (left; simp; done) | (right; simp; done))) (hul := (⟨(htk (by omega)).1, by have := (htk (by omega)).2; omega⟩))) ?_)
      rintro _ F2 _ le2 ⟨x2, rfl, hr7, hr8, hr9, rfl⟩
      replace har := har.mono le2
      replace hf := hf.mono le2
      replace hxs := hxs.mono le2
      replace ht := ht.mono le2
      replace hr1 := hr1.mono le2
      replace hC := hC.mono le2
      replace ha1 := ha1.mono le2
      replace hr4 := Rd.monoA hr4 le2
      replace hr5 := Rd.monoA hr5 le2
      replace hr6 := Rd.monoA hr6 le2
      refine XL.cons (XOp.move (.tuple #[x2, .bool ((putL ar t p ((xs.getD k (0, 0, [])).2.2)).isSome)]) rfl ?_)
      refine XL.cons (XOp.extract (x2) rfl rfl ?_)
      refine XL.cons (XOp.extract (.bool ((putL ar t p ((xs.getD k (0, 0, [])).2.2)).isSome)) rfl rfl ?_)
      refine XL.cons (XOp.assign (x2) rfl ?_)
      refine XL.cons (XOp.assign (.bool ((putL ar t p ((xs.getD k (0, 0, [])).2.2)).isSome)) rfl ?_)
      refine XL.nil ?_
      refine X.seq ?_
      refine X.seq ?_
      refine X.region ?_
      refine XL.cons (XOp.move (.bool ((putL ar t p ((xs.getD k (0, 0, [])).2.2)).isSome)) rfl ?_)
      refine XL.cons (XOp.notB (b := (putL ar t p ((xs.getD k (0, 0, [])).2.2)).isSome) rfl ?_)
      refine XL.nil ?_
      refine X.cond (t := !((putL ar t p ((xs.getD k (0, 0, [])).2.2)).isSome)) rfl (fun h3 => ?_) (fun h3 => ?_)
      · have hpu1 : (putL ar t p (xs.getD k (0, 0, [])).2.2).isSome = false := by simpa using h3
        refine X.seq ?_
        refine X.region ?_
        refine XL.cons (XOp.build [(.slice none 0 0), (.slice none 0 0)] [(.slice none 0 0), (.slice none 0 0)] [(0, 1), (1, 1)] [] Try.runUnderlying63 Try.zeroValue63 rfl (.cons rfl Try.sizeOf24 (.cons rfl Try.sizeOf61 PlacesAre.nil)) rfl CellsAre.nil ?_)
        refine XL.cons (XOp.storeN (vs := [(.slice none 0 0), (.slice none 0 0)]) [_, _, _] _ [(.slice none 0 0), (.slice none 0 0)] Try.sizeOf63 rfl rfl rfl (ones_cons rfl (ones_cons rfl ones_nil)) rfl rfl rfl ?_)
        refine XL.cons (XOp.assign (.bool (false)) rfl ?_)
        refine XL.nil ?_
        refine X.ret (thenQ_ret (blockQ_ret (thenQ_ret (thenQ_ret (blockQ_ret (thenQ_ret (retEnd (L' := L) [.agg #[(.slice none 0 0), (.slice none 0 0)], .bool (false)] (.tuple #[.agg #[(.slice none 0 0), (.slice none 0 0)], .bool (false)]) (.cell rfl (loadNV [(.slice none 0 0), (.slice none 0 0)] Try.isAgg63 Try.sizeOf63 rfl (Rd.ownN [_, _, _] rfl rfl)) (.tmp rfl .nil)) rfl (FLe.trans (FLe.trans le1 leG1) le2) (FLe.refl _) (Sub.drop (Sub.drop (Sub.drop (Sub.drop (Sub.drop (Sub.drop (Sub.refl _))))))) ?_)))))))
        have e := insR_steps (f := f) (insGo_fail (by omega) hgo hpu1)
        exact ⟨_, _, by rw [e], by rw [e]; exact IntsF.nilV, by rw [e]; exact SlOf.nilV, by rw [e]; exact Fresh.empty nilWalk, rfl⟩
      · have hpu1 : (putL ar t p (xs.getD k (0, 0, [])).2.2).isSome = true := by simpa using h3
        refine X.skip ?_
        refine X.region ?_
        refine XL.cons (XOp.fieldP (b := b4) (1) Try.runUnderlying63 rfl Try.sizeOf61 (by decide) rfl rfl ?_)
        refine XL.cons (XOp.load1 (v := sv) Try.isAgg61 rfl (Rd.own [_, _] rfl rfl) ?_)
        refine XL.cons (XOp.fieldP (b := b5) (0) Try.runUnderlying74 rfl Try.sizeOf2 (by decide) rfl rfl ?_)
        refine XL.cons (XOp.load1 (v := .int .i64 ((xs.getD k (0, 0, [])).1)) Try.isAgg2 rfl (Rd.own [] rfl rfl) ?_)
        refine XL.cons (XOp.move (.int .i64 (((p : Nat) : Int))) rfl ?_)
        refine XL.cons (XOp.addR (a := (xs.getD k (0, 0, [])).1) (b := ((p : Nat) : Int)) (((xs.getD k (0, 0, [])).1) + (((p : Nat) : Int))) rfl rfl (by omega) (by omega) ?_)
        refine XL.cons (XOp.fieldP (b := b5) (1) Try.runUnderlying74 rfl Try.sizeOf2 (by decide) rfl rfl ?_)
        refine XL.cons (XOp.load1 (v := .int .i64 ((xs.getD k (0, 0, [])).2.1)) Try.isAgg2 rfl (Rd.own [] rfl rfl) ?_)
        refine XL.cons (XOp.move (x2) rfl ?_)
        refine XL.cons (XOp.build [.int .i64 (((xs.getD k (0, 0, [])).1) + (((p : Nat) : Int))), .int .i64 ((xs.getD k (0, 0, [])).2.1), x2] [.int .i64 (0), .int .i64 (0), (.slice none 0 0)] [(0, 1), (1, 1), (2, 1)] [(0, [.int .i64 (((xs.getD k (0, 0, [])).1) + (((p : Nat) : Int)))]), (1, [.int .i64 ((xs.getD k (0, 0, [])).2.1)]), (2, [x2])] Try.runUnderlying74 Try.zeroValue74 rfl (.cons rfl Try.sizeOf2 (.cons rfl Try.sizeOf2 (.cons rfl Try.sizeOf24 PlacesAre.nil))) rfl (.cons rfl (.cons rfl (.cons (cells_one (IntsF.isSl hr7)) CellsAre.nil))) ?_)
        refine XL.cons (XOp.buildSlice (s := 3) [.int .i64 (((xs.getD k (0, 0, [])).1) + (((p : Nat) : Int))), .int .i64 ((xs.getD k (0, 0, [])).2.1), x2] [.int .i64 (0), .int .i64 (0), (.slice none 0 0)] [(0, [.int .i64 (((xs.getD k (0, 0, [])).1) + (((p : Nat) : Int))), .int .i64 ((xs.getD k (0, 0, [])).2.1), x2])] Try.runUnderlying61 Try.sizeOf74 Try.zeroValue74 rfl (by decide) rfl (.cons rfl CellsAre.nil) rfl ?_)
        intro v1 hv1
        refine XL.cons (XOp.append (m := 1) (bytes := 40) (cs := cs) [_, _] _ [.int .i64 (((xs.getD k (0, 0, [])).1) + (((p : Nat) : Int))), .int .i64 ((xs.getD k (0, 0, [])).2.1), x2] Try.runUnderlying61 Try.typeInfo74 rfl rfl rfl rfl rfl rfl rfl (SlV.own [] rfl) rfl (Rd.lit [] rfl) (ones_cons rfl (ones_cons rfl (ones_cons (one_sl (IntsF.isSl hr7)) ones_nil))) (by (try simp only [List.length_append, List.length_nil, List.length_cons, List.length_singleton]); omega) (by (try simp only [List.length_append, List.length_nil, List.length_cons, List.length_singleton]); omega) ?_)
        intro v2 hs1 hn1 hm1
        have hc1 := StepsC.snoc hC (i := ((xs.getD k (0, 0, [])).1) + (((p : Nat) : Int))) (j := (xs.getD k (0, 0, [])).2.1) hr7
        refine XL.cons (XOp.fieldP (b := b4) (1) Try.runUnderlying63 rfl Try.sizeOf61 (by decide) rfl rfl ?_)
        refine XL.cons (XOp.store1 (v := v2) [_, _, _] _ [x1, v2] Try.sizeOf61 rfl rfl (one_sl hs1) rfl rfl rfl ?_)
        refine XL.nil ?_
        refine X.region ?_
        refine XL.cons (XOp.addR (a := ((k : Nat) : Int)) (b := 1) (((k + 1 : Nat) : Int)) rfl rfl (by omega) (by omega) ?_)
        refine XL.cons (XOp.move (.int .i64 (((k + 1 : Nat) : Int))) rfl ?_)
        refine XL.nil ?_
        exact ⟨(k + 1, v2, ss ++ [(((xs.getD k (0, 0, [])).1) + (((p : Nat) : Int)), (xs.getD k (0, 0, [])).2.1, (putL ar t p ((xs.getD k (0, 0, [])).2.2)).getD [])], cs ++ [.int .i64 (((xs.getD k (0, 0, [])).1) + (((p : Nat) : Int))), .int .i64 ((xs.getD k (0, 0, [])).2.1), x2], Ls ++ [intsH 2 x2 ((putL ar t p ((xs.getD k (0, 0, [])).2.2)).getD [])], (m) + 1, F2), _, (FLe.trans leG1 le2), (FLe.refl _), ⟨rfl, rfl, rfl, rfl, rfl, rfl, rfl, rfl, trivial⟩, (Sub.drop (Sub.drop (Sub.cons (Sub.cons (Sub.cons (Sub.cons (Sub.cons (Sub.refl _)))))))), ⟨rfl, (FLe.trans leG1 le2), (by (try dsimp only) <;> omega), (hs1), (hc1), (by (try dsimp only); rw [List.length_append]; simp only [List.length_singleton]; omega), (DeepL.snoc hD rfl ⟨_, rfl, rfl⟩), ((Fresh.app hZ leG1 (Fresh.one hr9) le2)), (by (try dsimp only); exact insGo_next (by omega) hgo hpu1), (by (try dsimp only) <;> omega)⟩, (by omega)⟩
    · refine X.exit (thenQ_exit (thenQ_exit (blockQ_exit ?_)))
      refine X.seq ?_
      refine X.region ?_
      refine XL.cons (XOp.loadN [x1, sv] Try.isAgg63 Try.sizeOf63 rfl rfl (Rd.ownN [_] rfl rfl) ?_)
      refine XL.cons (XOp.storeN (vs := [x1, sv]) [_, _] _ [x1, sv] Try.sizeOf63 rfl rfl rfl (ones_cons (one_sl (IntsF.isSl hr1)) (ones_cons (one_sl hsv) ones_nil)) rfl rfl rfl ?_)
      refine XL.cons (XOp.assign (.bool (true)) rfl ?_)
      refine XL.nil ?_
      refine X.freezeF [] _ _ rfl (fun F3 le3 hz1 => ?_)
      replace har := har.mono le3
      replace hf := hf.mono le3
      replace hxs := hxs.mono le3
      replace ht := ht.mono le3
      replace hr1 := hr1.mono le3
      replace hC := hC.mono le3
      have hf1 : StepsF F3 sv ss := CO.fz hC (by first | rfl | simp | omega) hz1.fz
      refine X.ret (retEnd (L' := L) [.agg #[x1, sv], .bool (true)] (.tuple #[.agg #[x1, sv], .bool (true)]) (.cell rfl (loadNV [x1, sv] Try.isAgg63 Try.sizeOf63 rfl (Rd.ownN [_] rfl rfl)) (.tmp rfl .nil)) rfl (FLe.trans (FLe.trans le1 leG1) le3) (FLe.refl _) (Sub.drop (Sub.drop (Sub.drop (Sub.drop (Sub.refl _))))) ?_)
      have e := insR_yes hpf1 (insGo_end (by omega) hgo)
      exact ⟨_, _, by rw [e], by rw [e]; exact hr1, by rw [e]; exact hf1, by rw [e]; exact (Fresh.app (Fresh.one hr3) le1 (Fresh.one (Fresh.deep hD hZ leG1 hz1 (by omega) le3)) (FLe.trans leG1 le3)), rfl⟩

/- impl.WalkInside -/
theorem WalkInside_spec {F : FH} {L : List HP} {arv : Value} {ar : List Int} (har : IntsF F arv ar) {rsv : Value} {rs : List (List Int × List Int)} (hrs : PairsF F rsv rs) {fv : Value} {f : List Int} (hf : IntsF F fv f) {xsv : Value} {xs : List StepT} (hxs : StepsF F xsv xs) {tv : Value} {t : List Int} (ht : IntsF F tv t) {p : Int} (hlf : f.length ≤ 4000000) (hsb : ∀ i, i < xs.length → (xs.getD i (0, 0, [])).2.2.length ≤ 4000000) :
    Does Try.prog 57 [.agg #[arv, rsv], .agg #[fv, xsv], tv, .int .i64 (p)] F (L) (fun v F' L' => ∃ (a : Value), ∃ (b : Value), (.tuple #[.agg #[a, b], .bool ((insB ar rs f xs t p).2.2)] : Value) = v ∧ (IntsF F' a (insB ar rs f xs t p).1) ∧ (StepsF F' b (insB ar rs f xs t p).2.1) ∧ (Fresh F F' (star [intsH 2 a (insB ar rs f xs t p).1, stepsD 2 74 b (insB ar rs f xs t p).2.1])) ∧ L = L') := by
  refine Does.of_X Try.func57 rfl rfl rfl ?_
  refine X.seq ?_
  refine X.region ?_
  refine XL.cons (XOp.box [arv, rsv] rfl rfl ?_)
  intro b1
  refine XL.cons (XOp.box [fv, xsv] rfl rfl ?_)
  intro b2
  refine XL.cons (XOp.alloc [(.slice none 0 0), (.slice none 0 0)] Try.zeroValue63 rfl ?_)
  intro b3
  refine XL.cons (XOp.assign (.bool (false)) rfl ?_)
  refine XL.nil ?_
  refine X.seq ?_
  refine X.seq ?_
  refine X.region ?_
  refine XL.cons (XOp.loadN [arv, rsv] Try.isAgg29 Try.sizeOf29 rfl rfl (Rd.ownN [_, _] rfl rfl) ?_)
  refine XL.cons (XOp.loadN [fv, xsv] Try.isAgg63 Try.sizeOf63 rfl rfl (Rd.ownN [_] rfl rfl) ?_)
  refine XL.cons (XOp.call (args := [.agg #[arv, rsv], .agg #[fv, xsv]]) Try.call64 rfl (WalkOk_spec har hrs hf hxs (hlf := (by first | assumption | rfl | omega | (left; simp; done) | (right; simp; done))) (hsb := (by first | assumption | rfl | omega | (left; simp; done) | (right; simp; done)))) ?_)
  rintro _ _ _ _ ⟨rfl, rfl, rfl⟩
  refine XL.cons (XOp.notB (b := walkOkL ar rs f xs) rfl ?_)
  refine XL.cons (XOp.move (.bool (!(walkOkL ar rs f xs))) rfl ?_)
  by_cases h1 : (!(walkOkL ar rs f xs)) = true
  · refine XL.no (t := 14) rfl (congrArg Value.bool h1) ?_
    refine XL.no (t := 14) rfl (congrArg Value.bool h1) ?_
    refine XL.no (t := 14) rfl (congrArg Value.bool h1) ?_
    refine XL.no (t := 14) rfl (congrArg Value.bool h1) ?_
    refine XL.no (t := 14) rfl (congrArg Value.bool h1) ?_
    refine XL.no (t := 14) rfl (congrArg Value.bool h1) ?_
    refine XL.cons (XOp.pickT (.bool (true)) (congrArg Value.bool h1) rfl ?_)
    refine XL.nil ?_
    refine X.condT rfl ?_
    refine X.seq ?_
    refine X.region ?_
    refine XL.cons (XOp.build [(.slice none 0 0), (.slice none 0 0)] [(.slice none 0 0), (.slice none 0 0)] [(0, 1), (1, 1)] [] Try.runUnderlying63 Try.zeroValue63 rfl (.cons rfl Try.sizeOf24 (.cons rfl Try.sizeOf61 PlacesAre.nil)) rfl CellsAre.nil ?_)
    refine XL.cons (XOp.storeN (vs := [(.slice none 0 0), (.slice none 0 0)]) [] _ [(.slice none 0 0), (.slice none 0 0)] Try.sizeOf63 rfl rfl rfl (ones_cons rfl (ones_cons rfl ones_nil)) rfl rfl rfl ?_)
    refine XL.cons (XOp.assign (.bool (false)) rfl ?_)
    refine XL.nil ?_
    refine X.ret (thenQ_ret (retEnd (L' := L) [.agg #[(.slice none 0 0), (.slice none 0 0)], .bool (false)] (.tuple #[.agg #[(.slice none 0 0), (.slice none 0 0)], .bool (false)]) (.cell rfl (loadNV [(.slice none 0 0), (.slice none 0 0)] Try.isAgg63 Try.sizeOf63 rfl (Rd.ownN [] rfl rfl)) (.tmp rfl .nil)) rfl (FLe.refl _) (FLe.refl _) (Sub.drop (Sub.drop (Sub.drop (Sub.refl _)))) ?_))
    have e : insB ar rs f xs t p = ([], [], false) := insB_no (by simp_all)
    exact ⟨_, _, by rw [e], by rw [e]; exact IntsF.nilV, by rw [e]; exact SlOf.nilV, by rw [e]; exact Fresh.empty nilWalk, rfl⟩
  · rw [Bool.not_eq_true] at h1
    have hwk : walkOkL ar rs f xs = true := by simpa using h1
    have hwl := (walkOkL_iff.1 hwk).2.1
    refine XL.yes (t := 14) rfl (congrArg Value.bool h1) (XOp.fieldP (b := b1) (0) Try.runUnderlying29 rfl Try.sizeOf26 (by decide) rfl rfl ?_)
    refine XL.yes (t := 14) rfl (congrArg Value.bool h1) (XOp.loadN [arv] Try.isAgg26 Try.sizeOf26 rfl rfl (Rd.ownN [_, _] rfl rfl) ?_)
    refine XL.yes (t := 14) rfl (congrArg Value.bool h1) (XOp.move (tv) rfl ?_)
    refine XL.yes (t := 14) rfl (congrArg Value.bool h1) (XOp.move (.int .i64 (p)) rfl ?_)
    refine XL.yes (t := 14) rfl (congrArg Value.bool h1) (XOp.call (args := [.agg #[arv], tv, .int .i64 (p)]) Try.call81 rfl (posOk_spec (n := p) har ht) ?_)
    rintro _ _ _ _ ⟨rfl, rfl, rfl⟩
    refine XL.yes (t := 14) rfl (congrArg Value.bool h1) (XOp.notB (b := posOk ar t p) rfl ?_)
    refine XL.cons (XOp.pickF (.bool (!(posOk ar t p))) (congrArg Value.bool h1) rfl ?_)
    refine XL.nil ?_
    refine X.cond (t := !(posOk ar t p)) rfl (fun h2 => ?_) (fun h2 => ?_)
    · refine X.seq ?_
      refine X.region ?_
      refine XL.cons (XOp.build [(.slice none 0 0), (.slice none 0 0)] [(.slice none 0 0), (.slice none 0 0)] [(0, 1), (1, 1)] [] Try.runUnderlying63 Try.zeroValue63 rfl (.cons rfl Try.sizeOf24 (.cons rfl Try.sizeOf61 PlacesAre.nil)) rfl CellsAre.nil ?_)
      refine XL.cons (XOp.storeN (vs := [(.slice none 0 0), (.slice none 0 0)]) [] _ [(.slice none 0 0), (.slice none 0 0)] Try.sizeOf63 rfl rfl rfl (ones_cons rfl (ones_cons rfl ones_nil)) rfl rfl rfl ?_)
      refine XL.cons (XOp.assign (.bool (false)) rfl ?_)
      refine XL.nil ?_
      refine X.ret (thenQ_ret (retEnd (L' := L) [.agg #[(.slice none 0 0), (.slice none 0 0)], .bool (false)] (.tuple #[.agg #[(.slice none 0 0), (.slice none 0 0)], .bool (false)]) (.cell rfl (loadNV [(.slice none 0 0), (.slice none 0 0)] Try.isAgg63 Try.sizeOf63 rfl (Rd.ownN [] rfl rfl)) (.tmp rfl .nil)) rfl (FLe.refl _) (FLe.refl _) (Sub.drop (Sub.drop (Sub.drop (Sub.refl _)))) ?_))
      have e : insB ar rs f xs t p = ([], [], false) := insB_no (by simp_all)
      exact ⟨_, _, by rw [e], by rw [e]; exact IntsF.nilV, by rw [e]; exact SlOf.nilV, by rw [e]; exact Fresh.empty nilWalk, rfl⟩
    · have hpo : posOk ar t p = true := by simpa using h2
      have hpo2 := hpo
      simp only [posOk, Bool.and_eq_true, decide_eq_true_eq] at hpo2
      obtain ⟨ho, hp1⟩ := hpo2
      refine X.skip ?_
      refine X.seq ?_
      refine X.region ?_
      refine XL.cons (XOp.fieldP (b := b1) (0) Try.runUnderlying29 rfl Try.sizeOf26 (by decide) rfl rfl ?_)
      refine XL.cons (XOp.loadN [arv] Try.isAgg26 Try.sizeOf26 rfl rfl (Rd.ownN [_, _] rfl rfl) ?_)
      refine XL.cons (XOp.loadN [fv, xsv] Try.isAgg63 Try.sizeOf63 rfl rfl (Rd.ownN [_] rfl rfl) ?_)
      refine XL.cons (XOp.move (tv) rfl ?_)
      refine XL.cons (XOp.move (.int .i64 (p)) rfl ?_)
      refine XL.cons (XOp.call (args := [.agg #[arv], .agg #[fv, xsv], tv, .int .i64 (((p).toNat : Nat) : Int)]) Try.call117 (by rw [show (((p).toNat : Nat) : Int) = p from by omega]; rfl) (walkInside_spec (p := (p).toNat) har hf hxs ht (ho := (by first | assumption | rfl | omega | (left; simp; done) | (right; simp; done))) (hp := (by first | assumption | rfl | omega | (left; simp; done) | (right; simp; done))) (hwx := (⟨_, hwk⟩))) ?_)
      rintro _ F1 _ le1 ⟨x1, x2, rfl, hr1, hr2, hr3, rfl⟩
      replace har := har.mono le1
      replace hrs := hrs.mono le1
      replace hf := hf.mono le1
      replace hxs := hxs.mono le1
      replace ht := ht.mono le1
      refine XL.cons (XOp.extract (.agg #[x1, x2]) rfl rfl ?_)
      refine XL.cons (XOp.extract (.bool ((insR ar f xs t ((p).toNat)).2.2)) rfl rfl ?_)
      refine XL.cons (XOp.storeN (vs := [x1, x2]) [] _ [x1, x2] Try.sizeOf63 rfl rfl rfl (ones_cons (one_sl (IntsF.isSl hr1)) (ones_cons (one_sl (StepsF.isSl hr2)) ones_nil)) rfl rfl rfl ?_)
      refine XL.cons (XOp.assign (.bool ((insR ar f xs t ((p).toNat)).2.2)) rfl ?_)
      refine XL.nil ?_
      refine X.ret (retEnd (L' := L) [.agg #[x1, x2], .bool ((insR ar f xs t ((p).toNat)).2.2)] (.tuple #[.agg #[x1, x2], .bool ((insR ar f xs t ((p).toNat)).2.2)]) (.cell rfl (loadNV [x1, x2] Try.isAgg63 Try.sizeOf63 rfl (Rd.ownN [] rfl rfl)) (.tmp rfl .nil)) rfl le1 (FLe.refl _) (Sub.drop (Sub.drop (Sub.drop (Sub.refl _)))) ?_)
      have e := insB_R (t := t) (p := p) hwk hpo
      exact ⟨_, _, by rw [e], by rw [e]; exact hr1, by rw [e]; exact hr2, by rw [e]; exact hr3, rfl⟩

/- spec.WalkInside -/
theorem sWalkInside_spec {F : FH} {L : List HP} {arv : Value} {ar : List Int} (har : IntsF F arv ar) {rsv : Value} {rs : List (List Int × List Int)} (hrs : PairsF F rsv rs) {fv : Value} {f : List Int} (hf : IntsF F fv f) {xsv : Value} {xs : List StepT} (hxs : StepsF F xsv xs) {tv : Value} {t : List Int} (ht : IntsF F tv t) {p : Int} (hla : ar.length ≤ 4000000) (hlr : rs.length ≤ 4000000) (hrb : ∀ i, i < rs.length → (rs.getD i ([], [])).1.length ≤ 4000000 ∧ (rs.getD i ([], [])).2.length ≤ 4000000) (hlf : f.length ≤ 4000000) (hlss : xs.length ≤ 4000000) (hsb : ∀ i, i < xs.length → (xs.getD i (0, 0, [])).2.2.length ≤ 4000000) (hlt : t.length ≤ 4000000) :
    Does Try.prog 56 [.agg #[arv, rsv], .agg #[fv, xsv], tv, .int .i64 (p)] F (L) (fun v F' L' => ∃ (a : Value), ∃ (b : Value), (.tuple #[.agg #[a, b], .bool ((insB ar rs f xs t p).2.2)] : Value) = v ∧ (IntsF F' a (insB ar rs f xs t p).1) ∧ (StepsF F' b (insB ar rs f xs t p).2.1) ∧ L = L') := by
  refine Does.of_X Try.func56 rfl rfl rfl ?_
  refine X.seq ?_
  refine X.region ?_
  refine XL.cons (XOp.box [arv, rsv] rfl rfl ?_)
  intro b1
  refine XL.cons (XOp.box [fv, xsv] rfl rfl ?_)
  intro b2
  refine XL.cons (XOp.alloc [(.slice none 0 0), (.slice none 0 0)] Try.zeroValue63 rfl ?_)
  intro b3
  refine XL.cons (XOp.assign (.bool (false)) rfl ?_)
  refine XL.nil ?_
  refine X.seq ?_
  refine X.seq ?_
  refine X.region ?_
  refine XL.cons (XOp.loadN [arv, rsv] Try.isAgg29 Try.sizeOf29 rfl rfl (Rd.ownN [_, _] rfl rfl) ?_)
  refine XL.cons (XOp.move (tv) rfl ?_)
  refine XL.cons (XOp.call (args := [.agg #[arv, rsv], tv]) Try.call78 rfl (l7Right_spec har hrs ht (hla := (by first | assumption | rfl | omega | (left; simp; done) | (right; simp; done))) (hlr := (by first | assumption | rfl | omega | (left; simp; done) | (right; simp; done))) (hrb := (by first | assumption | rfl | omega | (left; simp; done) | (right; simp; done))) (hlt := (by first | assumption | rfl | omega | (left; simp; done) | (right; simp; done)))) ?_)
  rintro _ _ _ _ ⟨rfl, rfl, rfl⟩
  refine XL.cons (XOp.notB (b := rightB ar rs t) rfl ?_)
  refine XL.cons (XOp.move (.bool (!(rightB ar rs t))) rfl ?_)
  by_cases h1 : (!(rightB ar rs t)) = true
  · refine XL.no (t := 20) rfl (congrArg Value.bool h1) ?_
    refine XL.no (t := 20) rfl (congrArg Value.bool h1) ?_
    refine XL.no (t := 20) rfl (congrArg Value.bool h1) ?_
    refine XL.no (t := 20) rfl (congrArg Value.bool h1) ?_
    refine XL.cons (XOp.pickT (.bool (true)) (congrArg Value.bool h1) rfl ?_)
    refine XL.cons (XOp.move (.bool (true)) rfl ?_)
    refine XL.no (t := 26) rfl rfl ?_
    refine XL.no (t := 26) rfl rfl ?_
    refine XL.no (t := 26) rfl rfl ?_
    refine XL.no (t := 26) rfl rfl ?_
    refine XL.cons (XOp.pickT (.bool (true)) rfl rfl ?_)
    refine XL.nil ?_
    refine X.condT rfl ?_
    refine X.seq ?_
    refine X.region ?_
    refine XL.cons (XOp.build [(.slice none 0 0), (.slice none 0 0)] [(.slice none 0 0), (.slice none 0 0)] [(0, 1), (1, 1)] [] Try.runUnderlying63 Try.zeroValue63 rfl (.cons rfl Try.sizeOf24 (.cons rfl Try.sizeOf61 PlacesAre.nil)) rfl CellsAre.nil ?_)
    refine XL.cons (XOp.storeN (vs := [(.slice none 0 0), (.slice none 0 0)]) [] _ [(.slice none 0 0), (.slice none 0 0)] Try.sizeOf63 rfl rfl rfl (ones_cons rfl (ones_cons rfl ones_nil)) rfl rfl rfl ?_)
    refine XL.cons (XOp.assign (.bool (false)) rfl ?_)
    refine XL.nil ?_
    refine X.ret (thenQ_ret (retEnd (L' := L) [.agg #[(.slice none 0 0), (.slice none 0 0)], .bool (false)] (.tuple #[.agg #[(.slice none 0 0), (.slice none 0 0)], .bool (false)]) (.cell rfl (loadNV [(.slice none 0 0), (.slice none 0 0)] Try.isAgg63 Try.sizeOf63 rfl (Rd.ownN [] rfl rfl)) (.tmp rfl .nil)) rfl (FLe.refl _) (FLe.refl _) (Sub.drop (Sub.drop (Sub.drop (Sub.refl _)))) ?_))
    have e : insB ar rs f xs t p = ([], [], false) := insB_no (by intro hh; obtain ⟨ha, hb⟩ := hh; have hri : rightB ar rs t = true := right_iff.2 ⟨(right_iff.1 (walkOkL_iff.1 ha).1).1, by simp only [posOk, Bool.and_eq_true] at hb; exact hb.1⟩; simp only [posOk, Bool.and_eq_true, decide_eq_true_eq] at hb; simp_all <;> omega)
    exact ⟨_, _, by rw [e], by rw [e]; exact IntsF.nilV, by rw [e]; exact SlOf.nilV, rfl⟩
  · rw [Bool.not_eq_true] at h1
    refine XL.yes (t := 20) rfl (congrArg Value.bool h1) (XOp.loadN [arv, rsv] Try.isAgg29 Try.sizeOf29 rfl rfl (Rd.ownN [_, _] rfl rfl) ?_)
    refine XL.yes (t := 20) rfl (congrArg Value.bool h1) (XOp.loadN [fv, xsv] Try.isAgg63 Try.sizeOf63 rfl rfl (Rd.ownN [_] rfl rfl) ?_)
    refine XL.yes (t := 20) rfl (congrArg Value.bool h1) (XOp.call (args := [.agg #[arv, rsv], .agg #[fv, xsv]]) Try.call65 rfl (sWalkOk_spec har hrs hf hxs (hla := (by first | assumption | rfl | omega | (left; simp; done) | (right; simp; done))) (hlr := (by first | assumption | rfl | omega | (left; simp; done) | (right; simp; done))) (hrb := (by first | assumption | rfl | omega | (left; simp; done) | (right; simp; done))) (hlf := (by first | assumption | rfl | omega | (left; simp; done) | (right; simp; done))) (hlss := (by first | assumption | rfl | omega | (left; simp; done) | (right; simp; done))) (hsb := (by first | assumption | rfl | omega | (left; simp; done) | (right; simp; done)))) ?_)
    rintro _ _ _ _ ⟨rfl, rfl, rfl⟩
    refine XL.yes (t := 20) rfl (congrArg Value.bool h1) (XOp.notB (b := walkOkL ar rs f xs) rfl ?_)
    refine XL.cons (XOp.pickF (.bool (!(walkOkL ar rs f xs))) (congrArg Value.bool h1) rfl ?_)
    refine XL.cons (XOp.move (.bool (!(walkOkL ar rs f xs))) rfl ?_)
    by_cases h2 : (!(walkOkL ar rs f xs)) = true
    · refine XL.no (t := 26) rfl (congrArg Value.bool h2) ?_
      refine XL.no (t := 26) rfl (congrArg Value.bool h2) ?_
      refine XL.no (t := 26) rfl (congrArg Value.bool h2) ?_
      refine XL.no (t := 26) rfl (congrArg Value.bool h2) ?_
      refine XL.cons (XOp.pickT (.bool (true)) (congrArg Value.bool h2) rfl ?_)
      refine XL.nil ?_
      refine X.condT rfl ?_
      refine X.seq ?_
      refine X.region ?_
      refine XL.cons (XOp.build [(.slice none 0 0), (.slice none 0 0)] [(.slice none 0 0), (.slice none 0 0)] [(0, 1), (1, 1)] [] Try.runUnderlying63 Try.zeroValue63 rfl (.cons rfl Try.sizeOf24 (.cons rfl Try.sizeOf61 PlacesAre.nil)) rfl CellsAre.nil ?_)
      refine XL.cons (XOp.storeN (vs := [(.slice none 0 0), (.slice none 0 0)]) [] _ [(.slice none 0 0), (.slice none 0 0)] Try.sizeOf63 rfl rfl rfl (ones_cons rfl (ones_cons rfl ones_nil)) rfl rfl rfl ?_)
      refine XL.cons (XOp.assign (.bool (false)) rfl ?_)
      refine XL.nil ?_
      refine X.ret (thenQ_ret (retEnd (L' := L) [.agg #[(.slice none 0 0), (.slice none 0 0)], .bool (false)] (.tuple #[.agg #[(.slice none 0 0), (.slice none 0 0)], .bool (false)]) (.cell rfl (loadNV [(.slice none 0 0), (.slice none 0 0)] Try.isAgg63 Try.sizeOf63 rfl (Rd.ownN [] rfl rfl)) (.tmp rfl .nil)) rfl (FLe.refl _) (FLe.refl _) (Sub.drop (Sub.drop (Sub.drop (Sub.refl _)))) ?_))
      have e : insB ar rs f xs t p = ([], [], false) := insB_no (by intro hh; obtain ⟨ha, hb⟩ := hh; have hri : rightB ar rs t = true := right_iff.2 ⟨(right_iff.1 (walkOkL_iff.1 ha).1).1, by simp only [posOk, Bool.and_eq_true] at hb; exact hb.1⟩; simp only [posOk, Bool.and_eq_true, decide_eq_true_eq] at hb; simp_all <;> omega)
      exact ⟨_, _, by rw [e], by rw [e]; exact IntsF.nilV, by rw [e]; exact SlOf.nilV, rfl⟩
    · rw [Bool.not_eq_true] at h2
      refine XL.yes (t := 26) rfl (congrArg Value.bool h2) (XOp.move (tv) rfl ?_)
      refine XL.yes (t := 26) rfl (congrArg Value.bool h2) (XOp.move (.int .i64 (p)) rfl ?_)
      refine XL.yes (t := 26) rfl (congrArg Value.bool h2) (XOp.call (args := [tv, .int .i64 (p)]) Try.call115 rfl (l1There_spec (n := p) ht (hbd := (by first | assumption | rfl | omega | (left; simp; done) | (right; simp; done)))) ?_)
      rintro _ _ _ _ ⟨rfl, rfl, rfl⟩
      refine XL.yes (t := 26) rfl (congrArg Value.bool h2) (XOp.notD (p := 0 ≤ p ∧ p < (t.length : Int)) rfl ?_)
      refine XL.cons (XOp.pickF (.bool (decide (¬(0 ≤ p ∧ p < (t.length : Int))))) (congrArg Value.bool h2) rfl ?_)
      refine XL.nil ?_
      refine X.condD (p := ¬(0 ≤ p ∧ p < (t.length : Int))) rfl (fun h3 => ?_) (fun h3 => ?_)
      · refine X.seq ?_
        refine X.region ?_
        refine XL.cons (XOp.build [(.slice none 0 0), (.slice none 0 0)] [(.slice none 0 0), (.slice none 0 0)] [(0, 1), (1, 1)] [] Try.runUnderlying63 Try.zeroValue63 rfl (.cons rfl Try.sizeOf24 (.cons rfl Try.sizeOf61 PlacesAre.nil)) rfl CellsAre.nil ?_)
        refine XL.cons (XOp.storeN (vs := [(.slice none 0 0), (.slice none 0 0)]) [] _ [(.slice none 0 0), (.slice none 0 0)] Try.sizeOf63 rfl rfl rfl (ones_cons rfl (ones_cons rfl ones_nil)) rfl rfl rfl ?_)
        refine XL.cons (XOp.assign (.bool (false)) rfl ?_)
        refine XL.nil ?_
        refine X.ret (thenQ_ret (retEnd (L' := L) [.agg #[(.slice none 0 0), (.slice none 0 0)], .bool (false)] (.tuple #[.agg #[(.slice none 0 0), (.slice none 0 0)], .bool (false)]) (.cell rfl (loadNV [(.slice none 0 0), (.slice none 0 0)] Try.isAgg63 Try.sizeOf63 rfl (Rd.ownN [] rfl rfl)) (.tmp rfl .nil)) rfl (FLe.refl _) (FLe.refl _) (Sub.drop (Sub.drop (Sub.drop (Sub.refl _)))) ?_))
        have e : insB ar rs f xs t p = ([], [], false) := insB_no (by intro hh; obtain ⟨ha, hb⟩ := hh; have hri : rightB ar rs t = true := right_iff.2 ⟨(right_iff.1 (walkOkL_iff.1 ha).1).1, by simp only [posOk, Bool.and_eq_true] at hb; exact hb.1⟩; simp only [posOk, Bool.and_eq_true, decide_eq_true_eq] at hb; simp_all <;> omega)
        exact ⟨_, _, by rw [e], by rw [e]; exact IntsF.nilV, by rw [e]; exact SlOf.nilV, rfl⟩
      · refine X.skip ?_
        refine X.seq ?_
        refine X.region ?_
        have hri : rightB ar rs t = true := by simp_all
        have hwk : walkOkL ar rs f xs = true := by simp_all
        have hpz : 0 ≤ p ∧ p < (t.length : Int) := by simp_all
        have ho := (right_iff.1 hri).2
        have hpo : posOk ar t p = true := by rw [posOk, ho, decide_eq_true hpz]; rfl
        have hfl := termOk_len (right_iff.1 (walkOkL_iff.1 hwk).1).2
        have hxl := (walkOkL_iff.1 hwk).2.1
        refine XL.cons (XOp.fieldP (b := b1) (0) Try.runUnderlying29 rfl Try.sizeOf26 (by decide) rfl rfl ?_)
        refine XL.cons (XOp.loadN [arv] Try.isAgg26 Try.sizeOf26 rfl rfl (Rd.ownN [_, _] rfl rfl) ?_)
        refine XL.cons (XOp.move (tv) rfl ?_)
        refine XL.cons (XOp.move (.int .i64 (p)) rfl ?_)
        refine XL.cons (XOp.fieldP (b := b2) (0) Try.runUnderlying63 rfl Try.sizeOf24 (by decide) rfl rfl ?_)
        refine XL.cons (XOp.load1 (v := fv) Try.isAgg24 rfl (Rd.own [_] rfl rfl) ?_)
        refine XL.cons (XOp.call (args := [.agg #[arv], tv, .int .i64 (((p).toNat : Nat) : Int), fv]) Try.call116 (by rw [show (((p).toNat : Nat) : Int) = p from by omega]; rfl) (l3Put_spec (p := (p).toNat) har ht hf (ho := (by first | assumption | rfl | omega | (left; simp; done) | (right; simp; done))) (hp := (by first | assumption | rfl | omega | (left; simp; done) | (right; simp; done))) (hul := (by first | omega | (have := (htk (by omega)).2; omega)))) ?_)
        rintro _ F1 _ le1 ⟨x1, rfl, hr1, rfl⟩
        replace har := har.mono le1
        replace hrs := hrs.mono le1
        replace hf := hf.mono le1
        replace hxs := hxs.mono le1
        replace ht := ht.mono le1
        refine XL.cons (XOp.move (.tuple #[x1, .bool ((putL ar t ((p).toNat) f).isSome)]) rfl ?_)
        refine XL.cons (XOp.extract (x1) rfl rfl ?_)
        refine XL.cons (XOp.extract (.bool ((putL ar t ((p).toNat) f).isSome)) rfl rfl ?_)
        refine XL.cons (XOp.assign (x1) rfl ?_)
        refine XL.cons (XOp.assign (.bool ((putL ar t ((p).toNat) f).isSome)) rfl ?_)
        refine XL.nil ?_
        refine X.seq ?_
        refine X.seq ?_
        refine X.region ?_
        refine XL.cons (XOp.move (.bool ((putL ar t ((p).toNat) f).isSome)) rfl ?_)
        refine XL.cons (XOp.notB (b := (putL ar t ((p).toNat) f).isSome) rfl ?_)
        refine XL.nil ?_
        refine X.cond (t := !((putL ar t ((p).toNat) f).isSome)) rfl (fun h4 => ?_) (fun h4 => ?_)
        · have hpf1 : (putL ar t p.toNat f).isSome = false := by simpa using h4
          refine X.seq ?_
          refine X.region ?_
          refine XL.cons (XOp.build [(.slice none 0 0), (.slice none 0 0)] [(.slice none 0 0), (.slice none 0 0)] [(0, 1), (1, 1)] [] Try.runUnderlying63 Try.zeroValue63 rfl (.cons rfl Try.sizeOf24 (.cons rfl Try.sizeOf61 PlacesAre.nil)) rfl CellsAre.nil ?_)
          refine XL.cons (XOp.storeN (vs := [(.slice none 0 0), (.slice none 0 0)]) [] _ [(.slice none 0 0), (.slice none 0 0)] Try.sizeOf63 rfl rfl rfl (ones_cons rfl (ones_cons rfl ones_nil)) rfl rfl rfl ?_)
          refine XL.cons (XOp.assign (.bool (false)) rfl ?_)
          refine XL.nil ?_
          refine X.ret (thenQ_ret (retEnd (L' := L) [.agg #[(.slice none 0 0), (.slice none 0 0)], .bool (false)] (.tuple #[.agg #[(.slice none 0 0), (.slice none 0 0)], .bool (false)]) (.cell rfl (loadNV [(.slice none 0 0), (.slice none 0 0)] Try.isAgg63 Try.sizeOf63 rfl (Rd.ownN [] rfl rfl)) (.tmp rfl .nil)) rfl le1 (FLe.refl _) (Sub.drop (Sub.drop (Sub.drop (Sub.refl _)))) ?_))
          have e : insB ar rs f xs t p = ([], [], false) := insB_from hpf1
          exact ⟨_, _, by rw [e], by rw [e]; exact IntsF.nilV, by rw [e]; exact SlOf.nilV, rfl⟩
        · have hpf1 : (putL ar t p.toNat f).isSome = true := by simpa using h4
          refine X.skip ?_
          refine X.seq ?_
          refine X.region ?_
          refine XL.cons (XOp.move (x1) rfl ?_)
          refine XL.cons (XOp.build [x1, (.slice none 0 0)] [(.slice none 0 0), (.slice none 0 0)] [(0, 1), (1, 1)] [(0, [x1])] Try.runUnderlying63 Try.zeroValue63 rfl (.cons rfl Try.sizeOf24 (.cons rfl Try.sizeOf61 PlacesAre.nil)) rfl (.cons (cells_one (IntsF.isSl hr1)) CellsAre.nil) ?_)
          refine XL.cons (XOp.alloc [(.slice none 0 0), (.slice none 0 0)] Try.zeroValue63 rfl ?_)
          intro b4
          refine XL.cons (XOp.storeN (vs := [x1, (.slice none 0 0)]) [] _ [x1, (.slice none 0 0)] Try.sizeOf63 rfl rfl rfl (ones_cons (one_sl (IntsF.isSl hr1)) (ones_cons rfl ones_nil)) rfl rfl rfl ?_)
          refine XL.nil ?_
          refine X.seq ?_
          refine X.seq ?_
          refine X.region ?_
          refine XL.cons (XOp.assign (.int .i64 (0)) rfl ?_)
          refine XL.nil ?_
          refine X.block ?_
          refine X.loop (α := Nat × Value × List StepT × List Value × Nat × FH) (fun xQ => [(2, tv), (3, .int .i64 (p)), (4, ptr b1 0), (5, ptr b2 0), (8, ptr b3 0), (12, ptr b4 0), (13, .int .i64 (((xQ.1 : Nat) : Int)))]) (fun xQ => slH 74 3 xQ.2.1 xQ.2.2.2.2.1 xQ.2.2.2.1 :: cellsH b4 [x1, xQ.2.1] 63 :: cellsH b3 [(.slice none 0 0), (.slice none 0 0)] 63 :: cellsH b2 [fv, xsv] 63 :: cellsH b1 [arv, rsv] 29 :: L) (fun xQ F' => xQ.2.2.2.2.2 = F' ∧ F1 ≤ xQ.2.2.2.2.2 ∧ (xQ.1 ≤ xs.length) ∧ (IsSl xQ.2.1) ∧ (StepsC xQ.2.2.2.2.2 xQ.2.2.2.1 xQ.2.2.1) ∧ (xQ.2.2.2.2.1 = xQ.2.2.1.length) ∧ (insGo ar t p.toNat xs = (insGo ar t p.toNat (xs.drop xQ.1)).map (fun r => xQ.2.2.1 ++ r)) ∧ (xQ.2.2.2.2.1 = xQ.1)) (fun xQ => xs.length - xQ.1) (0, (.slice none 0 0), [], [], 0, F1) ⟨rfl, rfl, rfl, rfl, rfl, rfl, rfl, trivial⟩ (Sub.trans (Sub.addNil 74 3 _ _) (Sub.cons (Sub.cons (Sub.cons (Sub.cons (Sub.cons (Sub.refl _))))))) ⟨rfl, FLe.refl _, (by (try dsimp only) <;> omega), (⟨_, _, _, rfl⟩), (CO.nil), (rfl), (insGo_start), (rfl)⟩ ?_
          rintro ⟨k, sv, ss, cs, m, G1⟩ rE _ _ ⟨rfl, leG, hk, hsv, hC, hm, hgo, hmk⟩
          show X _ _ _ _ (envs [(2, tv), (3, .int .i64 (p)), (4, ptr b1 0), (5, ptr b2 0), (8, ptr b3 0), (12, ptr b4 0), (13, .int .i64 (((k : Nat) : Int)))] rE) _ (slH 74 3 sv m cs :: cellsH b4 [x1, sv] 63 :: cellsH b3 [(.slice none 0 0), (.slice none 0 0)] 63 :: cellsH b2 [fv, xsv] 63 :: cellsH b1 [arv, rsv] 29 :: L)
          replace leG : F1 ≤ G1 := leG
          dsimp only at hk hsv hC hm hgo hmk
          have hak := fun (h : k < xs.length) => walkOk_at hwk h
          have htk := fun (h : k < xs.length) => termOk_len (walkOk_to hwk h)
          have leG1 := leG
          replace har := har.mono leG1
          replace hrs := hrs.mono leG1
          replace hf := hf.mono leG1
          replace hxs := hxs.mono leG1
          replace ht := ht.mono leG1
          replace hr1 := hr1.mono leG1
          refine X.seq ?_
          refine X.seq ?_
          refine X.region ?_
          refine XL.cons (XOp.move (.int .i64 (((k : Nat) : Int))) rfl ?_)
          refine XL.cons (XOp.fieldP (b := b2) (1) Try.runUnderlying63 rfl Try.sizeOf61 (by decide) rfl rfl ?_)
          refine XL.cons (XOp.load1 (v := xsv) Try.isAgg61 rfl (Rd.own [_, _, _] rfl rfl) ?_)
          refine XL.cons (XOp.lenS (v := xsv) (n := (xs).length) Try.runUnderlying61 rfl hxs.slv ?_)
          refine XL.cons (XOp.lss (a := ((k : Nat) : Int)) (b := (((xs).length : Nat) : Int)) rfl rfl ?_)
          refine XL.nil ?_
          refine X.condD (p := (((k : Nat) : Int) : Int) < (((xs).length : Nat) : Int)) rfl (fun h5 => ?_) (fun h5 => ?_)
          · refine X.skip ?_
            refine X.seq ?_
            refine X.block ?_
            refine X.seq ?_
            obtain ⟨a1, ha1, hr2, hr3, hr4⟩ := hxs.rd (i := k) (by omega)
            refine X.drawG [slH 74 3 sv m cs, cellsH b4 [x1, sv] 63, cellsH b3 [(.slice none 0 0), (.slice none 0 0)] 63, cellsH b2 [fv, xsv] 63, cellsH b1 [arv, rsv] 29] L 15 [[], [], [], [], [], [], [], [], [], [], [], [10], [10], [], [10]] [[], [0], [], [], [], [4], [], [5, 6], [7], [8], [1, 2, 3, 9], [10], [10, 11], [10, 11], [10, 12]] [[], [], [], [], [], [], [], [], [], [], [], [], [], [], []] (phiG [fun FF us v => v = ptr b1 0, fun FF us v => v = (.agg #[arv] : Value), fun FF us v => v = tv, fun FF us v => v = (.int .i64 (p) : Value), fun FF us v => v = ptr b2 1, fun FF us v => v = xsv, fun FF us v => v = (.int .i64 (((k : Nat) : Int)) : Value), fun FF us v => v = (.pointer (some (elemA xsv (k * 3))) : Value), fun FF us v => v = (.pointer (some (elemA xsv (k * 3 + 2))) : Value), fun FF us v => v = a1, fun FF us v => (.tuple #[((tupAt v 0)), .bool ((putL ar t ((p).toNat) ((xs.getD k (0, 0, [])).2.2)).isSome)] : Value) = v ∧ (IntsF FF ((tupAt v 0)) ((putL ar t ((p).toNat) ((xs.getD k (0, 0, [])).2.2)).getD [])), fun FF us v => v = (.tuple #[((tupAt (us.getD 0 undef) 0)), .bool ((putL ar t ((p).toNat) ((xs.getD k (0, 0, [])).2.2)).isSome)] : Value), fun FF us v => v = ((tupAt (us.getD 0 undef) 0)), fun FF us v => v = (.bool ((putL ar t ((p).toNat) ((xs.getD k (0, 0, [])).2.2)).isSome) : Value), fun FF us v => v = ((tupAt (us.getD 0 undef) 0))]) (ownL [fun us v => [], fun us v => [], fun us v => [], fun us v => [], fun us v => [], fun us v => [], fun us v => [], fun us v => [], fun us v => [], fun us v => [], fun us v => [], fun us v => [], fun us v => [], fun us v => [], fun us v => []]) mixed rfl rfl (by kernel_rfl) (by kernel_rfl) (MonoG.get (MonoG.cons (fun le h => h) (MonoG.cons (fun le h => h) (MonoG.cons (fun le h => h) (MonoG.cons (fun le h => h) (MonoG.cons (fun le h => h) (MonoG.cons (fun le h => h) (MonoG.cons (fun le h => h) (MonoG.cons (fun le h => h) (MonoG.cons (fun le h => h) (MonoG.cons (fun le h => h) (MonoG.cons (fun le h => ⟨h.1, h.2.mono le⟩) (MonoG.cons (fun le h => h) (MonoG.cons (fun le h => h) (MonoG.cons (fun le h => h) (MonoG.cons (fun le h => h) MonoG.nil)))))))))))))))) ?_ ?_
            · refine stepsG.cons (fun vals Fs R leFs hpZ => ?_) ?_
              · refine XG.op (XOp.fieldP (b := b1) (0) Try.runUnderlying29 rfl Try.sizeOf26 (by decide) rfl rfl ?_)
                exact ⟨rfl, rfl⟩
              refine stepsG.cons (fun vals Fs R leFs hpZ => ?_) ?_
              · have e0 : vals 0 = ptr b1 0 := hpZ 0 (by decide)
                replace har := har.mono leFs
                replace hrs := hrs.mono leFs
                replace hf := hf.mono leFs
                replace hxs := hxs.mono leFs
                replace ht := ht.mono leFs
                replace hr1 := hr1.mono leFs
                replace hC := hC.mono leFs
                replace ha1 := ha1.mono leFs
                replace hr2 := Rd.monoA hr2 leFs
                replace hr3 := Rd.monoA hr3 leFs
                replace hr4 := Rd.monoA hr4 leFs
                rw [(envs_of_sat (l := [(0, ptr b1 0)]) ⟨e0, trivial⟩).symm]
                refine XG.op (XOp.loadN [arv] Try.isAgg26 Try.sizeOf26 rfl rfl (Rd.ownN [_, _, _, _] rfl rfl) ?_)
                exact ⟨rfl, rfl⟩
              refine stepsG.cons (fun vals Fs R leFs hpZ => ?_) ?_
              · refine XG.op (XOp.move (tv) rfl ?_)
                exact ⟨rfl, rfl⟩
              refine stepsG.cons (fun vals Fs R leFs hpZ => ?_) ?_
              · refine XG.op (XOp.move (.int .i64 (p)) rfl ?_)
                exact ⟨rfl, rfl⟩
              refine stepsG.cons (fun vals Fs R leFs hpZ => ?_) ?_
              · refine XG.op (XOp.fieldP (b := b2) (1) Try.runUnderlying63 rfl Try.sizeOf61 (by decide) rfl rfl ?_)
                exact ⟨rfl, rfl⟩
              refine stepsG.cons (fun vals Fs R leFs hpZ => ?_) ?_
              · have e4 : vals 4 = ptr b2 1 := hpZ 4 (by decide)
                replace har := har.mono leFs
                replace hrs := hrs.mono leFs
                replace hf := hf.mono leFs
                replace hxs := hxs.mono leFs
                replace ht := ht.mono leFs
                replace hr1 := hr1.mono leFs
                replace hC := hC.mono leFs
                replace ha1 := ha1.mono leFs
                replace hr2 := Rd.monoA hr2 leFs
                replace hr3 := Rd.monoA hr3 leFs
                replace hr4 := Rd.monoA hr4 leFs
                rw [(envs_of_sat (l := [(4, ptr b2 1)]) ⟨e4, trivial⟩).symm]
                refine XG.op (XOp.load1 (v := xsv) Try.isAgg61 rfl (Rd.own [_, _, _] rfl rfl) ?_)
                exact ⟨rfl, rfl⟩
              refine stepsG.cons (fun vals Fs R leFs hpZ => ?_) ?_
              · refine XG.op (XOp.move (.int .i64 (((k : Nat) : Int))) rfl ?_)
                exact ⟨rfl, rfl⟩
              refine stepsG.cons (fun vals Fs R leFs hpZ => ?_) ?_
              · have e5 : vals 5 = xsv := hpZ 5 (by decide)
                have e6 : vals 6 = (.int .i64 (((k : Nat) : Int)) : Value) := hpZ 6 (by decide)
                replace har := har.mono leFs
                replace hrs := hrs.mono leFs
                replace hf := hf.mono leFs
                replace hxs := hxs.mono leFs
                replace ht := ht.mono leFs
                replace hr1 := hr1.mono leFs
                replace hC := hC.mono leFs
                replace ha1 := ha1.mono leFs
                replace hr2 := Rd.monoA hr2 leFs
                replace hr3 := Rd.monoA hr3 leFs
                replace hr4 := Rd.monoA hr4 leFs
                rw [(envs_of_sat (l := [(5, xsv), (6, (.int .i64 (((k : Nat) : Int)) : Value))]) ⟨e5, e6, trivial⟩).symm]
                refine XG.op (XOp.indexS (v := xsv) (i := ((k : Nat) : Int)) (n := (xs).length) k Try.runUnderlying61 Try.sizeOf74 rfl rfl rfl hxs.slv (by omega) rfl ?_)
                exact ⟨rfl, rfl⟩
              refine stepsG.cons (fun vals Fs R leFs hpZ => ?_) ?_
              · have e7 : vals 7 = (.pointer (some (elemA xsv (k * 3))) : Value) := hpZ 7 (by decide)
                rw [(envs_of_sat (l := [(7, (.pointer (some (elemA xsv (k * 3))) : Value))]) ⟨e7, trivial⟩).symm]
                refine XG.op (XOp.fieldE (v := xsv) (k * 3 + 2) Try.runUnderlying74 rfl Try.sizeOf24 (by decide) rfl rfl ?_)
                exact ⟨rfl, rfl⟩
              refine stepsG.cons (fun vals Fs R leFs hpZ => ?_) ?_
              · have e8 : vals 8 = (.pointer (some (elemA xsv (k * 3 + 2))) : Value) := hpZ 8 (by decide)
                replace har := har.mono leFs
                replace hrs := hrs.mono leFs
                replace hf := hf.mono leFs
                replace hxs := hxs.mono leFs
                replace ht := ht.mono leFs
                replace hr1 := hr1.mono leFs
                replace hC := hC.mono leFs
                replace ha1 := ha1.mono leFs
                replace hr2 := Rd.monoA hr2 leFs
                replace hr3 := Rd.monoA hr3 leFs
                replace hr4 := Rd.monoA hr4 leFs
                rw [(envs_of_sat (l := [(8, (.pointer (some (elemA xsv (k * 3 + 2))) : Value))]) ⟨e8, trivial⟩).symm]
                refine XG.op (XOp.load1 (v := a1) Try.isAgg24 rfl (hr4 _) ?_)
                exact ⟨rfl, rfl⟩
              refine stepsG.cons (fun vals Fs R leFs hpZ => ?_) ?_
              · have e1 : vals 1 = (.agg #[arv] : Value) := hpZ 1 (by decide)
                have e2 : vals 2 = tv := hpZ 2 (by decide)
                have e3 : vals 3 = (.int .i64 (p) : Value) := hpZ 3 (by decide)
                have e9 : vals 9 = a1 := hpZ 9 (by decide)
                replace har := har.mono leFs
                replace hrs := hrs.mono leFs
                replace hf := hf.mono leFs
                replace hxs := hxs.mono leFs
                replace ht := ht.mono leFs
                replace hr1 := hr1.mono leFs
                replace hC := hC.mono leFs
                replace ha1 := ha1.mono leFs
                replace hr2 := Rd.monoA hr2 leFs
                replace hr3 := Rd.monoA hr3 leFs
                replace hr4 := Rd.monoA hr4 leFs
                rw [(envs_of_sat (l := [(1, (.agg #[arv] : Value)), (2, tv), (3, (.int .i64 (p) : Value)), (9, a1)]) ⟨e1, e2, e3, e9, trivial⟩).symm]
                refine XG.op (XOp.call (args := [.agg #[arv], tv, .int .i64 (((p).toNat : Nat) : Int), a1]) Try.call116 (by rw [show (((p).toNat : Nat) : Int) = p from by omega]; rfl) (l3Put_spec (p := (p).toNat) har ht ha1 (ho := (by first | assumption | rfl | omega | (left; simp; done) | (right; simp; done))) (hp := (by first | assumption | rfl | omega | (left; simp; done) | (right; simp; done))) (hul := (by first | omega | (have := (htk (by omega)).2; omega)))) ?_)
                rintro _ F3 _ le3 ⟨x3, rfl, hr6, rfl⟩
                replace har := har.mono le3
                replace hrs := hrs.mono le3
                replace hf := hf.mono le3
                replace hxs := hxs.mono le3
                replace ht := ht.mono le3
                replace hr1 := hr1.mono le3
                replace hC := hC.mono le3
                replace ha1 := ha1.mono le3
                replace hr2 := Rd.monoA hr2 le3
                replace hr3 := Rd.monoA hr3 le3
                replace hr4 := Rd.monoA hr4 le3
                exact ⟨⟨rfl, hr6⟩, rfl⟩
              refine stepsG.cons (fun vals Fs R leFs hpZ => ?_) ?_
              · obtain ⟨e10, f10_1hr⟩ := hpZ 10 (by decide)
                rw [(envs_of_sat (l := [(10, (.tuple #[((tupAt (vals 10) 0)), .bool ((putL ar t ((p).toNat) ((xs.getD k (0, 0, [])).2.2)).isSome)] : Value))]) ⟨(e10).symm, trivial⟩).symm]
                refine XG.op (XOp.move (.tuple #[((tupAt (vals 10) 0)), .bool ((putL ar t ((p).toNat) ((xs.getD k (0, 0, [])).2.2)).isSome)]) rfl ?_)
                exact ⟨rfl, rfl⟩
              refine stepsG.cons (fun vals Fs R leFs hpZ => ?_) ?_
              · obtain ⟨e10, f10_1hr⟩ := hpZ 10 (by decide)
                have e11 : vals 11 = (.tuple #[((tupAt (vals 10) 0)), .bool ((putL ar t ((p).toNat) ((xs.getD k (0, 0, [])).2.2)).isSome)] : Value) := hpZ 11 (by decide)
                rw [(envs_of_sat (l := [(10, (.tuple #[((tupAt (vals 10) 0)), .bool ((putL ar t ((p).toNat) ((xs.getD k (0, 0, [])).2.2)).isSome)] : Value)), (11, (.tuple #[((tupAt (vals 10) 0)), .bool ((putL ar t ((p).toNat) ((xs.getD k (0, 0, [])).2.2)).isSome)] : Value))]) ⟨(e10).symm, e11, trivial⟩).symm]
                refine XG.op (XOp.extract (((tupAt (vals 10) 0))) rfl rfl ?_)
                exact ⟨rfl, rfl⟩
              refine stepsG.cons (fun vals Fs R leFs hpZ => ?_) ?_
              · obtain ⟨e10, f10_1hr⟩ := hpZ 10 (by decide)
                have e11 : vals 11 = (.tuple #[((tupAt (vals 10) 0)), .bool ((putL ar t ((p).toNat) ((xs.getD k (0, 0, [])).2.2)).isSome)] : Value) := hpZ 11 (by decide)
                rw [(envs_of_sat (l := [(10, (.tuple #[((tupAt (vals 10) 0)), .bool ((putL ar t ((p).toNat) ((xs.getD k (0, 0, [])).2.2)).isSome)] : Value)), (11, (.tuple #[((tupAt (vals 10) 0)), .bool ((putL ar t ((p).toNat) ((xs.getD k (0, 0, [])).2.2)).isSome)] : Value))]) ⟨(e10).symm, e11, trivial⟩).symm]
                refine XG.op (XOp.extract (.bool ((putL ar t ((p).toNat) ((xs.getD k (0, 0, [])).2.2)).isSome)) rfl rfl ?_)
                exact ⟨rfl, rfl⟩
              refine stepsG.cons (fun vals Fs R leFs hpZ => ?_) ?_
              · obtain ⟨e10, f10_1hr⟩ := hpZ 10 (by decide)
                have e12 : vals 12 = ((tupAt (vals 10) 0)) := hpZ 12 (by decide)
                rw [(envs_of_sat (l := [(10, (.tuple #[((tupAt (vals 10) 0)), .bool ((putL ar t ((p).toNat) ((xs.getD k (0, 0, [])).2.2)).isSome)] : Value)), (12, ((tupAt (vals 10) 0)))]) ⟨(e10).symm, e12, trivial⟩).symm]
                refine XG.op (XOp.assign (((tupAt (vals 10) 0))) rfl ?_)
                exact ⟨rfl, rfl⟩
              exact stepsG.nil
            · intro vals F4 le4 hphi
              have e0 : vals 0 = ptr b1 0 := hphi 0 (by decide)
              have e1 : vals 1 = (.agg #[arv] : Value) := hphi 1 (by decide)
              have e2 : vals 2 = tv := hphi 2 (by decide)
              have e3 : vals 3 = (.int .i64 (p) : Value) := hphi 3 (by decide)
              have e4 : vals 4 = ptr b2 1 := hphi 4 (by decide)
              have e5 : vals 5 = xsv := hphi 5 (by decide)
              have e6 : vals 6 = (.int .i64 (((k : Nat) : Int)) : Value) := hphi 6 (by decide)
              have e7 : vals 7 = (.pointer (some (elemA xsv (k * 3))) : Value) := hphi 7 (by decide)
              have e8 : vals 8 = (.pointer (some (elemA xsv (k * 3 + 2))) : Value) := hphi 8 (by decide)
              have e9 : vals 9 = a1 := hphi 9 (by decide)
              obtain ⟨e10, f10_1hr⟩ := hphi 10 (by decide)
              have e11 : vals 11 = (.tuple #[((tupAt (vals 10) 0)), .bool ((putL ar t ((p).toNat) ((xs.getD k (0, 0, [])).2.2)).isSome)] : Value) := hphi 11 (by decide)
              have e12 : vals 12 = ((tupAt (vals 10) 0)) := hphi 12 (by decide)
              have e13 : vals 13 = (.bool ((putL ar t ((p).toNat) ((xs.getD k (0, 0, [])).2.2)).isSome) : Value) := hphi 13 (by decide)
              have e14 : vals 14 = ((tupAt (vals 10) 0)) := hphi 14 (by decide)
              generalize hu1 : ((tupAt (vals 10) 0)) = u1 at e0 e1 e2 e3 e4 e5 e6 e7 e8 e9 e10 f10_1hr e11 e12 e13 e14
              rw [(envs_of_sat (l := [(0, ptr b1 0), (1, (.agg #[arv] : Value)), (2, tv), (3, (.int .i64 (p) : Value)), (4, ptr b2 1), (5, xsv), (6, (.int .i64 (((k : Nat) : Int)) : Value)), (7, (.pointer (some (elemA xsv (k * 3))) : Value)), (8, (.pointer (some (elemA xsv (k * 3 + 2))) : Value)), (9, a1), (10, (.tuple #[u1, .bool ((putL ar t ((p).toNat) ((xs.getD k (0, 0, [])).2.2)).isSome)] : Value)), (11, (.tuple #[u1, .bool ((putL ar t ((p).toNat) ((xs.getD k (0, 0, [])).2.2)).isSome)] : Value)), (12, u1), (13, (.bool ((putL ar t ((p).toNat) ((xs.getD k (0, 0, [])).2.2)).isSome) : Value)), (14, u1)]) ⟨e0, e1, e2, e3, e4, e5, e6, e7, e8, e9, (e10).symm, e11, e12, e13, e14, trivial⟩).symm]
              replace har := har.mono le4
              replace hrs := hrs.mono le4
              replace hf := hf.mono le4
              replace hxs := hxs.mono le4
              replace ht := ht.mono le4
              replace hr1 := hr1.mono le4
              replace hC := hC.mono le4
              replace ha1 := ha1.mono le4
              replace hr2 := Rd.monoA hr2 le4
              replace hr3 := Rd.monoA hr3 le4
              replace hr4 := Rd.monoA hr4 le4
              show XL _ _ _ _ _ _ _ (slH 74 3 sv m cs :: cellsH b4 [x1, sv] 63 :: cellsH b3 [(.slice none 0 0), (.slice none 0 0)] 63 :: cellsH b2 [fv, xsv] 63 :: cellsH b1 [arv, rsv] 29 :: L)
              refine XL.cons (XOp.assign (.bool ((putL ar t ((p).toNat) ((xs.getD k (0, 0, [])).2.2)).isSome)) rfl ?_)
              refine XL.nil ?_
              refine X.seq ?_
              refine X.seq ?_
              refine X.region ?_
              refine XL.cons (XOp.move (.bool ((putL ar t ((p).toNat) ((xs.getD k (0, 0, [])).2.2)).isSome)) rfl ?_)
              refine XL.cons (XOp.notB (b := (putL ar t ((p).toNat) ((xs.getD k (0, 0, [])).2.2)).isSome) rfl ?_)
              refine XL.nil ?_
              refine X.cond (t := !((putL ar t ((p).toNat) ((xs.getD k (0, 0, [])).2.2)).isSome)) rfl (fun h6 => ?_) (fun h6 => ?_)
              · have hpu1 : (putL ar t p.toNat (xs.getD k (0, 0, [])).2.2).isSome = false := by simpa using h6
                refine X.seq ?_
                refine X.region ?_
                refine XL.cons (XOp.build [(.slice none 0 0), (.slice none 0 0)] [(.slice none 0 0), (.slice none 0 0)] [(0, 1), (1, 1)] [] Try.runUnderlying63 Try.zeroValue63 rfl (.cons rfl Try.sizeOf24 (.cons rfl Try.sizeOf61 PlacesAre.nil)) rfl CellsAre.nil ?_)
                refine XL.cons (XOp.storeN (vs := [(.slice none 0 0), (.slice none 0 0)]) [_, _] _ [(.slice none 0 0), (.slice none 0 0)] Try.sizeOf63 rfl rfl rfl (ones_cons rfl (ones_cons rfl ones_nil)) rfl rfl rfl ?_)
                refine XL.cons (XOp.assign (.bool (false)) rfl ?_)
                refine XL.nil ?_
                refine X.ret (thenQ_ret (blockQ_ret (thenQ_ret (thenQ_ret (blockQ_ret (thenQ_ret (retEnd (L' := L) [.agg #[(.slice none 0 0), (.slice none 0 0)], .bool (false)] (.tuple #[.agg #[(.slice none 0 0), (.slice none 0 0)], .bool (false)]) (.cell rfl (loadNV [(.slice none 0 0), (.slice none 0 0)] Try.isAgg63 Try.sizeOf63 rfl (Rd.ownN [_, _] rfl rfl)) (.tmp rfl .nil)) rfl (FLe.trans (FLe.trans le1 leG1) le4) (FLe.refl _) (Sub.drop (Sub.drop (Sub.drop (Sub.drop (Sub.drop (Sub.refl _)))))) ?_)))))))
                have e : insB ar rs f xs t p = ([], [], false) := insB_steps (insGo_fail (by omega) hgo hpu1)
                exact ⟨_, _, by rw [e], by rw [e]; exact IntsF.nilV, by rw [e]; exact SlOf.nilV, rfl⟩
              · have hpu1 : (putL ar t p.toNat (xs.getD k (0, 0, [])).2.2).isSome = true := by simpa using h6
                refine X.skip ?_
                refine X.draw [slH 74 3 sv m cs, cellsH b4 [x1, sv] 63, cellsH b3 [(.slice none 0 0), (.slice none 0 0)] 63, cellsH b2 [fv, xsv] 63, cellsH b1 [arv, rsv] 29] L 19 [[], [], [], [], [], [], [], [], [], [], [], [], [], [], [], [], [], [], []] [[], [0], [], [], [3], [], [4, 5], [6], [7], [2, 8], [], [10], [], [11, 12], [13], [14], [], [9, 15, 16], [17]] (phiL [fun us v => v = ptr b4 1, fun us v => v = sv, fun us v => v = (.int .i64 (p) : Value), fun us v => v = ptr b2 1, fun us v => v = xsv, fun us v => v = (.int .i64 (((k : Nat) : Int)) : Value), fun us v => v = (.pointer (some (elemA xsv (k * 3))) : Value), fun us v => v = (.pointer (some (elemA xsv (k * 3))) : Value), fun us v => v = (.int .i64 ((xs.getD k (0, 0, [])).1) : Value), fun us v => v = (.int .i64 (p + ((xs.getD k (0, 0, [])).1)) : Value), fun us v => v = ptr b2 1, fun us v => v = xsv, fun us v => v = (.int .i64 (((k : Nat) : Int)) : Value), fun us v => v = (.pointer (some (elemA xsv (k * 3))) : Value), fun us v => v = (.pointer (some (elemA xsv (k * 3 + 1))) : Value), fun us v => v = (.int .i64 ((xs.getD k (0, 0, [])).2.1) : Value), fun us v => v = u1, fun us v => v = (.agg #[.int .i64 (p + ((xs.getD k (0, 0, [])).1)), .int .i64 ((xs.getD k (0, 0, [])).2.1), u1] : Value), fun us v => ∃ b, v = .slice (some ⟨b, 0, none⟩) 1 1]) (ownL [fun us v => [], fun us v => [], fun us v => [], fun us v => [], fun us v => [], fun us v => [], fun us v => [], fun us v => [], fun us v => [], fun us v => [], fun us v => [], fun us v => [], fun us v => [], fun us v => [], fun us v => [], fun us v => [], fun us v => [], fun us v => [], fun us v => [slH 74 3 v 1 [.int .i64 (p + ((xs.getD k (0, 0, [])).1)), .int .i64 ((xs.getD k (0, 0, [])).2.1), u1]]]) mixed rfl rfl (by kernel_rfl) ?_ ?_
                · refine stepsP.cons (fun vals R hpZ => ?_) ?_
                  · refine XG.op (XOp.fieldP (b := b4) (1) Try.runUnderlying63 rfl Try.sizeOf61 (by decide) rfl rfl ?_)
                    exact ⟨rfl, rfl, rfl⟩
                  refine stepsP.cons (fun vals R hpZ => ?_) ?_
                  · rw [(envs_of_sat (l := [(0, ptr b4 1)]) ⟨hpZ 0 (by decide), trivial⟩).symm]
                    refine XG.op (XOp.load1 (v := sv) Try.isAgg61 rfl (Rd.own [_] rfl rfl) ?_)
                    exact ⟨rfl, rfl, rfl⟩
                  refine stepsP.cons (fun vals R hpZ => ?_) ?_
                  · refine XG.op (XOp.move (.int .i64 (p)) rfl ?_)
                    exact ⟨rfl, rfl, rfl⟩
                  refine stepsP.cons (fun vals R hpZ => ?_) ?_
                  · refine XG.op (XOp.fieldP (b := b2) (1) Try.runUnderlying63 rfl Try.sizeOf61 (by decide) rfl rfl ?_)
                    exact ⟨rfl, rfl, rfl⟩
                  refine stepsP.cons (fun vals R hpZ => ?_) ?_
                  · rw [(envs_of_sat (l := [(3, ptr b2 1)]) ⟨hpZ 3 (by decide), trivial⟩).symm]
                    refine XG.op (XOp.load1 (v := xsv) Try.isAgg61 rfl (Rd.own [_, _, _] rfl rfl) ?_)
                    exact ⟨rfl, rfl, rfl⟩
                  refine stepsP.cons (fun vals R hpZ => ?_) ?_
                  · refine XG.op (XOp.move (.int .i64 (((k : Nat) : Int))) rfl ?_)
                    exact ⟨rfl, rfl, rfl⟩
                  refine stepsP.cons (fun vals R hpZ => ?_) ?_
                  · rw [(envs_of_sat (l := [(4, xsv), (5, (.int .i64 (((k : Nat) : Int)) : Value))]) ⟨hpZ 4 (by decide), hpZ 5 (by decide), trivial⟩).symm]
                    refine XG.op (XOp.indexS (v := xsv) (i := ((k : Nat) : Int)) (n := (xs).length) k Try.runUnderlying61 Try.sizeOf74 rfl rfl rfl hxs.slv (by omega) rfl ?_)
                    exact ⟨rfl, rfl, rfl⟩
                  refine stepsP.cons (fun vals R hpZ => ?_) ?_
                  · rw [(envs_of_sat (l := [(6, (.pointer (some (elemA xsv (k * 3))) : Value))]) ⟨hpZ 6 (by decide), trivial⟩).symm]
                    refine XG.op (XOp.fieldE (v := xsv) (k * 3) Try.runUnderlying74 rfl Try.sizeOf2 (by decide) rfl rfl ?_)
                    exact ⟨rfl, rfl, rfl⟩
                  refine stepsP.cons (fun vals R hpZ => ?_) ?_
                  · rw [(envs_of_sat (l := [(7, (.pointer (some (elemA xsv (k * 3))) : Value))]) ⟨hpZ 7 (by decide), trivial⟩).symm]
                    refine XG.op (XOp.load1 (v := .int .i64 ((xs.getD k (0, 0, [])).1)) Try.isAgg2 rfl (hr2 _) ?_)
                    exact ⟨rfl, rfl, rfl⟩
                  refine stepsP.cons (fun vals R hpZ => ?_) ?_
                  · rw [(envs_of_sat (l := [(2, (.int .i64 (p) : Value)), (8, (.int .i64 ((xs.getD k (0, 0, [])).1) : Value))]) ⟨hpZ 2 (by decide), hpZ 8 (by decide), trivial⟩).symm]
                    refine XG.op (XOp.addR (a := p) (b := (xs.getD k (0, 0, [])).1) (p + ((xs.getD k (0, 0, [])).1)) rfl rfl (by omega) (by omega) ?_)
                    exact ⟨rfl, rfl, rfl⟩
                  refine stepsP.cons (fun vals R hpZ => ?_) ?_
                  · refine XG.op (XOp.fieldP (b := b2) (1) Try.runUnderlying63 rfl Try.sizeOf61 (by decide) rfl rfl ?_)
                    exact ⟨rfl, rfl, rfl⟩
                  refine stepsP.cons (fun vals R hpZ => ?_) ?_
                  · rw [(envs_of_sat (l := [(10, ptr b2 1)]) ⟨hpZ 10 (by decide), trivial⟩).symm]
                    refine XG.op (XOp.load1 (v := xsv) Try.isAgg61 rfl (Rd.own [_, _, _] rfl rfl) ?_)
                    exact ⟨rfl, rfl, rfl⟩
                  refine stepsP.cons (fun vals R hpZ => ?_) ?_
                  · refine XG.op (XOp.move (.int .i64 (((k : Nat) : Int))) rfl ?_)
                    exact ⟨rfl, rfl, rfl⟩
                  refine stepsP.cons (fun vals R hpZ => ?_) ?_
                  · rw [(envs_of_sat (l := [(11, xsv), (12, (.int .i64 (((k : Nat) : Int)) : Value))]) ⟨hpZ 11 (by decide), hpZ 12 (by decide), trivial⟩).symm]
                    refine XG.op (XOp.indexS (v := xsv) (i := ((k : Nat) : Int)) (n := (xs).length) k Try.runUnderlying61 Try.sizeOf74 rfl rfl rfl hxs.slv (by omega) rfl ?_)
                    exact ⟨rfl, rfl, rfl⟩
                  refine stepsP.cons (fun vals R hpZ => ?_) ?_
                  · rw [(envs_of_sat (l := [(13, (.pointer (some (elemA xsv (k * 3))) : Value))]) ⟨hpZ 13 (by decide), trivial⟩).symm]
                    refine XG.op (XOp.fieldE (v := xsv) (k * 3 + 1) Try.runUnderlying74 rfl Try.sizeOf2 (by decide) rfl rfl ?_)
                    exact ⟨rfl, rfl, rfl⟩
                  refine stepsP.cons (fun vals R hpZ => ?_) ?_
                  · rw [(envs_of_sat (l := [(14, (.pointer (some (elemA xsv (k * 3 + 1))) : Value))]) ⟨hpZ 14 (by decide), trivial⟩).symm]
                    refine XG.op (XOp.load1 (v := .int .i64 ((xs.getD k (0, 0, [])).2.1)) Try.isAgg2 rfl (hr3 _) ?_)
                    exact ⟨rfl, rfl, rfl⟩
                  refine stepsP.cons (fun vals R hpZ => ?_) ?_
                  · refine XG.op (XOp.move (u1) rfl ?_)
                    exact ⟨rfl, rfl, rfl⟩
                  refine stepsP.cons (fun vals R hpZ => ?_) ?_
                  · rw [(envs_of_sat (l := [(9, (.int .i64 (p + ((xs.getD k (0, 0, [])).1)) : Value)), (15, (.int .i64 ((xs.getD k (0, 0, [])).2.1) : Value)), (16, u1)]) ⟨hpZ 9 (by decide), hpZ 15 (by decide), hpZ 16 (by decide), trivial⟩).symm]
                    refine XG.op (XOp.build [.int .i64 (p + ((xs.getD k (0, 0, [])).1)), .int .i64 ((xs.getD k (0, 0, [])).2.1), u1] [.int .i64 (0), .int .i64 (0), (.slice none 0 0)] [(0, 1), (1, 1), (2, 1)] [(0, [.int .i64 (p + ((xs.getD k (0, 0, [])).1))]), (1, [.int .i64 ((xs.getD k (0, 0, [])).2.1)]), (2, [u1])] Try.runUnderlying74 Try.zeroValue74 rfl (.cons rfl Try.sizeOf2 (.cons rfl Try.sizeOf2 (.cons rfl Try.sizeOf24 PlacesAre.nil))) rfl (.cons rfl (.cons rfl (.cons (cells_one (IntsF.isSl f10_1hr)) CellsAre.nil))) ?_)
                    exact ⟨rfl, rfl, rfl⟩
                  refine stepsP.cons (fun vals R hpZ => ?_) ?_
                  · rw [(envs_of_sat (l := [(17, (.agg #[.int .i64 (p + ((xs.getD k (0, 0, [])).1)), .int .i64 ((xs.getD k (0, 0, [])).2.1), u1] : Value))]) ⟨hpZ 17 (by decide), trivial⟩).symm]
                    refine XG.op (XOp.buildSlice (s := 3) [.int .i64 (p + ((xs.getD k (0, 0, [])).1)), .int .i64 ((xs.getD k (0, 0, [])).2.1), u1] [.int .i64 (0), .int .i64 (0), (.slice none 0 0)] [(0, [.int .i64 (p + ((xs.getD k (0, 0, [])).1)), .int .i64 ((xs.getD k (0, 0, [])).2.1), u1])] Try.runUnderlying61 Try.sizeOf74 Try.zeroValue74 rfl (by decide) rfl (.cons rfl CellsAre.nil) rfl ?_)
                    intro v2 hv2
                    exact ⟨rfl, hv2, rfl⟩
                  exact stepsP.nil
                · intro vals hphi
                  have e0 : vals 0 = ptr b4 1 := hphi 0 (by decide)
                  have e1 : vals 1 = sv := hphi 1 (by decide)
                  have e2 : vals 2 = (.int .i64 (p) : Value) := hphi 2 (by decide)
                  have e3 : vals 3 = ptr b2 1 := hphi 3 (by decide)
                  have e4 : vals 4 = xsv := hphi 4 (by decide)
                  have e5 : vals 5 = (.int .i64 (((k : Nat) : Int)) : Value) := hphi 5 (by decide)
                  have e6 : vals 6 = (.pointer (some (elemA xsv (k * 3))) : Value) := hphi 6 (by decide)
                  have e7 : vals 7 = (.pointer (some (elemA xsv (k * 3))) : Value) := hphi 7 (by decide)
                  have e8 : vals 8 = (.int .i64 ((xs.getD k (0, 0, [])).1) : Value) := hphi 8 (by decide)
                  have e9 : vals 9 = (.int .i64 (p + ((xs.getD k (0, 0, [])).1)) : Value) := hphi 9 (by decide)
                  have e10 : vals 10 = ptr b2 1 := hphi 10 (by decide)
                  have e11 : vals 11 = xsv := hphi 11 (by decide)
                  have e12 : vals 12 = (.int .i64 (((k : Nat) : Int)) : Value) := hphi 12 (by decide)
                  have e13 : vals 13 = (.pointer (some (elemA xsv (k * 3))) : Value) := hphi 13 (by decide)
                  have e14 : vals 14 = (.pointer (some (elemA xsv (k * 3 + 1))) : Value) := hphi 14 (by decide)
                  have e15 : vals 15 = (.int .i64 ((xs.getD k (0, 0, [])).2.1) : Value) := hphi 15 (by decide)
                  have e16 : vals 16 = u1 := hphi 16 (by decide)
                  have e17 : vals 17 = (.agg #[.int .i64 (p + ((xs.getD k (0, 0, [])).1)), .int .i64 ((xs.getD k (0, 0, [])).2.1), u1] : Value) := hphi 17 (by decide)
                  have f18 : ∃ b, (vals 18) = .slice (some ⟨b, 0, none⟩) 1 1 := hphi 18 (by decide)
                  generalize hu18 : vals 18 = u2 at f18
                  rw [(envs_of_sat (l := [(0, ptr b4 1), (1, sv), (2, (.int .i64 (p) : Value)), (3, ptr b2 1), (4, xsv), (5, (.int .i64 (((k : Nat) : Int)) : Value)), (6, (.pointer (some (elemA xsv (k * 3))) : Value)), (7, (.pointer (some (elemA xsv (k * 3))) : Value)), (8, (.int .i64 ((xs.getD k (0, 0, [])).1) : Value)), (9, (.int .i64 (p + ((xs.getD k (0, 0, [])).1)) : Value)), (10, ptr b2 1), (11, xsv), (12, (.int .i64 (((k : Nat) : Int)) : Value)), (13, (.pointer (some (elemA xsv (k * 3))) : Value)), (14, (.pointer (some (elemA xsv (k * 3 + 1))) : Value)), (15, (.int .i64 ((xs.getD k (0, 0, [])).2.1) : Value)), (16, u1), (17, (.agg #[.int .i64 (p + ((xs.getD k (0, 0, [])).1)), .int .i64 ((xs.getD k (0, 0, [])).2.1), u1] : Value)), (18, u2)]) ⟨e0, e1, e2, e3, e4, e5, e6, e7, e8, e9, e10, e11, e12, e13, e14, e15, e16, e17, hu18, trivial⟩).symm]
                  show XL _ _ _ _ _ _ _ (slH 74 3 u2 1 [.int .i64 (p + ((xs.getD k (0, 0, [])).1)), .int .i64 ((xs.getD k (0, 0, [])).2.1), u1] :: slH 74 3 sv m cs :: cellsH b4 [x1, sv] 63 :: cellsH b3 [(.slice none 0 0), (.slice none 0 0)] 63 :: cellsH b2 [fv, xsv] 63 :: cellsH b1 [arv, rsv] 29 :: L)
                  refine XL.cons (XOp.append (m := 1) (bytes := 40) (cs := cs) [_] _ [.int .i64 (p + ((xs.getD k (0, 0, [])).1)), .int .i64 ((xs.getD k (0, 0, [])).2.1), u1] Try.runUnderlying61 Try.typeInfo74 rfl rfl rfl rfl rfl rfl rfl (SlV.own [] rfl) rfl (Rd.lit [] rfl) (ones_cons rfl (ones_cons rfl (ones_cons (one_sl (IntsF.isSl f10_1hr)) ones_nil))) (by (try simp only [List.length_append, List.length_nil, List.length_cons, List.length_singleton]); omega) (by (try simp only [List.length_append, List.length_nil, List.length_cons, List.length_singleton]); omega) ?_)
                  intro v3 hs1 hn1 hm1
                  have hc1 := StepsC.snoc hC (i := p + ((xs.getD k (0, 0, [])).1)) (j := (xs.getD k (0, 0, [])).2.1) f10_1hr
                  refine XL.cons (XOp.fieldP (b := b4) (1) Try.runUnderlying63 rfl Try.sizeOf61 (by decide) rfl rfl ?_)
                  refine XL.cons (XOp.store1 (v := v3) [_, _] _ [x1, v3] Try.sizeOf61 rfl rfl (one_sl hs1) rfl rfl rfl ?_)
                  refine XL.nil ?_
                  refine X.region ?_
                  refine XL.cons (XOp.move (.int .i64 (((k : Nat) : Int))) rfl ?_)
                  refine XL.cons (XOp.addR (a := ((k : Nat) : Int)) (b := 1) (((k + 1 : Nat) : Int)) rfl rfl (by omega) (by omega) ?_)
                  refine XL.cons (XOp.assign (.int .i64 (((k + 1 : Nat) : Int))) rfl ?_)
                  refine XL.nil ?_
                  exact ⟨(k + 1, v3, ss ++ [(p + ((xs.getD k (0, 0, [])).1), (xs.getD k (0, 0, [])).2.1, (putL ar t ((p).toNat) ((xs.getD k (0, 0, [])).2.2)).getD [])], cs ++ [.int .i64 (p + ((xs.getD k (0, 0, [])).1)), .int .i64 ((xs.getD k (0, 0, [])).2.1), u1], (m) + 1, F4), _, (FLe.trans leG1 le4), (FLe.refl _), ⟨rfl, rfl, rfl, rfl, rfl, rfl, rfl, trivial⟩, (Sub.drop (Sub.cons (Sub.cons (Sub.cons (Sub.cons (Sub.cons (Sub.refl _))))))), ⟨rfl, (FLe.trans leG1 le4), (by (try dsimp only) <;> omega), (hs1), (hc1), (by (try dsimp only); rw [List.length_append]; simp only [List.length_singleton]; omega), (by (try dsimp only); rw [Int.add_comm p, show p = ((p.toNat : Nat) : Int) from by omega]; exact insGo_next (by omega) hgo hpu1), (by (try dsimp only) <;> omega)⟩, (by omega)⟩
          · refine X.exit (thenQ_exit (thenQ_exit (blockQ_exit ?_)))
            refine X.seq ?_
            refine X.region ?_
            refine XL.cons (XOp.loadN [x1, sv] Try.isAgg63 Try.sizeOf63 rfl rfl (Rd.ownN [_] rfl rfl) ?_)
            refine XL.cons (XOp.storeN (vs := [x1, sv]) [_, _] _ [x1, sv] Try.sizeOf63 rfl rfl rfl (ones_cons (one_sl (IntsF.isSl hr1)) (ones_cons (one_sl hsv) ones_nil)) rfl rfl rfl ?_)
            refine XL.cons (XOp.assign (.bool (true)) rfl ?_)
            refine XL.nil ?_
            refine X.freezeF [] _ _ rfl (fun F5 le5 hz1 => ?_)
            replace har := har.mono le5
            replace hrs := hrs.mono le5
            replace hf := hf.mono le5
            replace hxs := hxs.mono le5
            replace ht := ht.mono le5
            replace hr1 := hr1.mono le5
            replace hC := hC.mono le5
            have hf1 : StepsF F5 sv ss := CO.fz hC (by first | rfl | simp | omega) hz1.fz
            refine X.ret (retEnd (L' := L) [.agg #[x1, sv], .bool (true)] (.tuple #[.agg #[x1, sv], .bool (true)]) (.cell rfl (loadNV [x1, sv] Try.isAgg63 Try.sizeOf63 rfl (Rd.ownN [_] rfl rfl)) (.tmp rfl .nil)) rfl (FLe.trans (FLe.trans le1 leG1) le5) (FLe.refl _) (Sub.drop (Sub.drop (Sub.drop (Sub.drop (Sub.refl _))))) ?_)
            have e := insB_yes hwk hpo hpf1 (insGo_end (by omega) hgo)
            exact ⟨_, _, by rw [e], by rw [e]; exact hr1, by rw [e]; exact hf1, rfl⟩

/- laws.FnExactWalkInside -/
set_option maxRecDepth 20000 in
theorem FnExactWalkInside_does {F : FH} {L : List HP} {arv : Value} {ar : List Int} (har : IntsF F arv ar) {rsv : Value} {rs : List (List Int × List Int)} (hrs : PairsF F rsv rs) {fv : Value} {f : List Int} (hf : IntsF F fv f) {xsv : Value} {xs : List StepT} (hxs : StepsF F xsv xs) {tv : Value} {t : List Int} (ht : IntsF F tv t) {p : Int} (hlar : ar.length ≤ 9223372036854775807) (hlrs : rs.length ≤ 9223372036854775807) (hbrs : ∀ i, i < rs.length → (rs.getD i ([], [])).1.length ≤ 9223372036854775807 ∧ (rs.getD i ([], [])).2.length ≤ 9223372036854775807) (hlf : f.length ≤ 9223372036854775807) (hlxs : xs.length ≤ 9223372036854775807) (hbxs : ∀ i, i < xs.length → (xs.getD i (0, 0, [])).2.2.length ≤ 9223372036854775807) (hlt : t.length ≤ 9223372036854775807) :
    Does Try.prog 9 [.agg #[arv, rsv], .agg #[fv, xsv], tv, .int .i64 (p)] F (L) (fun v F' L' => (.bool (true) : Value) = v ∧ F = F' ∧ L = L') := by
  refine Does.of_X Try.func9 rfl rfl rfl ?_
  have hnc := insB_bounds (ar := ar) (rs := rs) (f := f) (ss := xs) (t := t) (p := p)
  have hnd := hnc.2.1
  have hne := hnc.2.2
  refine X.seq ?_
  refine X.region ?_
  refine XL.cons (XOp.box [arv, rsv] rfl rfl ?_)
  intro b1
  refine XL.cons (XOp.box [fv, xsv] rfl rfl ?_)
  intro b2
  refine XL.cons (XOp.assign (.bool (false)) rfl ?_)
  refine XL.nil ?_
  refine X.seq ?_
  refine X.seq ?_
  refine X.region ?_
  refine XL.cons (XOp.move (tv) rfl ?_)
  refine XL.cons (XOp.lenS (v := tv) (n := (t).length) Try.runUnderlying24 rfl ht.slv ?_)
  refine XL.cons (XOp.gtr (a := (((t).length : Nat) : Int)) (b := 1048576) rfl rfl ?_)
  refine XL.nil ?_
  refine X.condD (p := ((((t).length : Nat) : Int) : Int) > 1048576) rfl (fun h1 => ?_) (fun h1 => ?_)
  · refine X.seq ?_
    refine X.region ?_
    refine XL.cons (XOp.assign (.bool (true)) rfl ?_)
    refine XL.nil ?_
    refine X.ret (thenQ_ret (retEnd (L' := L) [.bool (true)] (.bool (true)) (.tmp rfl .nil) rfl (FLe.refl _) (FLe.refl _) (Sub.drop (Sub.drop (Sub.refl _))) ?_))
    exact ⟨rfl, rfl, rfl⟩
  · refine X.skip ?_
    refine X.seq ?_
    refine X.region ?_
    refine XL.cons (XOp.assign (.int .i64 (1048576)) rfl ?_)
    refine XL.nil ?_
    refine X.seq ?_
    refine X.region ?_
    refine XL.cons (XOp.loadN [arv, rsv] Try.isAgg41 Try.sizeOf41 rfl rfl (Rd.ownN [_] rfl rfl) ?_)
    refine XL.cons (XOp.move (.int .i64 (1048576)) rfl ?_)
    refine XL.cons (XOp.call (args := [.agg #[arv, rsv], .int .i64 (1048576)]) Try.call25 rfl (szSystem_spec (z := 1048576) har hrs (hz := (by first | assumption | rfl | omega | (left; simp; done) | (right; simp; done))) (hal := (by first | assumption | rfl | omega | (left; simp; done) | (right; simp; done))) (hrl := (by first | assumption | rfl | omega | (left; simp; done) | (right; simp; done))) (hrb := (by first | assumption | rfl | omega | (left; simp; done) | (right; simp; done)))) ?_)
    rintro _ _ _ _ ⟨rfl, rfl, rfl⟩
    refine XL.cons (XOp.assign (.int .i64 (dec 1048576 (ar.length + szR rs))) rfl ?_)
    refine XL.nil ?_
    refine X.seq ?_
    refine X.seq ?_
    refine X.region ?_
    refine XL.cons (XOp.move (.int .i64 (dec 1048576 (ar.length + szR rs))) rfl ?_)
    refine XL.cons (XOp.lss (a := dec 1048576 (ar.length + szR rs)) (b := 0) rfl rfl ?_)
    refine XL.nil ?_
    refine X.condD (p := (dec 1048576 (ar.length + szR rs) : Int) < 0) rfl (fun h2 => ?_) (fun h2 => ?_)
    · refine X.seq ?_
      refine X.region ?_
      refine XL.cons (XOp.assign (.bool (true)) rfl ?_)
      refine XL.nil ?_
      refine X.ret (thenQ_ret (retEnd (L' := L) [.bool (true)] (.bool (true)) (.tmp rfl .nil) rfl (FLe.refl _) (FLe.refl _) (Sub.drop (Sub.drop (Sub.refl _))) ?_))
      exact ⟨rfl, rfl, rfl⟩
    · have hd1 := dec_le2 h2 (by omega)
      have hzrs := szR_le (rs := rs)
      have hirs := hzrs.2
      have hcrs : ∀ i, i < rs.length → (rs.getD i ([], [])).1.length ≤ 4000000 ∧ (rs.getD i ([], [])).2.length ≤ 4000000 := fun i hi => by have := hirs i hi; omega
      have hfrs := flatPair_len rs
      refine X.skip ?_
      refine X.seq ?_
      refine X.region ?_
      refine XL.cons (XOp.loadN [fv, xsv] Try.isAgg58 Try.sizeOf58 rfl rfl (Rd.ownN [] rfl rfl) ?_)
      refine XL.cons (XOp.move (.int .i64 (dec 1048576 (ar.length + szR rs))) rfl ?_)
      refine XL.cons (XOp.call (args := [.agg #[fv, xsv], .int .i64 (dec 1048576 (ar.length + szR rs))]) Try.call39 rfl (szWalk_spec (z := dec 1048576 (ar.length + szR rs)) hf hxs (hz := (by first | assumption | rfl | omega | (left; simp; done) | (right; simp; done))) (hal := (by first | assumption | rfl | omega | (left; simp; done) | (right; simp; done))) (hrl := (by first | assumption | rfl | omega | (left; simp; done) | (right; simp; done))) (hrb := (by first | assumption | rfl | omega | (left; simp; done) | (right; simp; done)))) ?_)
      rintro _ _ _ _ ⟨rfl, rfl, rfl⟩
      refine XL.cons (XOp.assign (.int .i64 (dec (dec 1048576 (ar.length + szR rs)) (f.length + szG lenS xs))) rfl ?_)
      refine XL.nil ?_
      refine X.seq ?_
      refine X.seq ?_
      refine X.region ?_
      refine XL.cons (XOp.move (.int .i64 (dec (dec 1048576 (ar.length + szR rs)) (f.length + szG lenS xs))) rfl ?_)
      refine XL.cons (XOp.lss (a := dec (dec 1048576 (ar.length + szR rs)) (f.length + szG lenS xs)) (b := 0) rfl rfl ?_)
      refine XL.nil ?_
      refine X.condD (p := (dec (dec 1048576 (ar.length + szR rs)) (f.length + szG lenS xs) : Int) < 0) rfl (fun h3 => ?_) (fun h3 => ?_)
      · refine X.seq ?_
        refine X.region ?_
        refine XL.cons (XOp.assign (.bool (true)) rfl ?_)
        refine XL.nil ?_
        refine X.ret (thenQ_ret (retEnd (L' := L) [.bool (true)] (.bool (true)) (.tmp rfl .nil) rfl (FLe.refl _) (FLe.refl _) (Sub.drop (Sub.drop (Sub.refl _))) ?_))
        exact ⟨rfl, rfl, rfl⟩
      · have hd2 := dec_le2 h3 (by omega)
        have hzxs := szG_le (f := lenS) (l := xs) ((0 : Int), (0 : Int), ([] : List Int))
        have hixs := hzxs.2
        have hcxs : ∀ i, i < xs.length → (xs.getD i (0, 0, [])).2.2.length ≤ 4000000 := fun i hi => by have h9 := hixs i hi; have h8 : lenS (xs.getD i (0, 0, [])) = (xs.getD i (0, 0, [])).2.2.length := rfl; omega
        have hfxs := flatStep_len xs
        have hsxs : szG lenS xs = xs.length + gTo lenS xs xs.length := rfl
        refine X.skip ?_
        refine X.seq ?_
        refine X.drawG [cellsH b2 [fv, xsv] 58, cellsH b1 [arv, rsv] 41] L 13 [[], [], [], [], [], [], [], [], [7], [7], [], [], [7, 11]] [[], [0], [], [2], [], [4], [], [1, 3, 5, 6], [7], [7, 8], [7, 8], [], [7, 9, 11]] [[], [], [], [], [], [], [], [], [], [], [], [], [11]] (phiG [fun FF us v => v = (.agg #[arv, rsv] : Value), fun FF us v => (.agg #[((aggAt v 0)), ((aggAt v 1))] : Value) = v ∧ (IntsF FF ((aggAt v 0)) ar) ∧ (PairsF FF ((aggAt v 1)) rs), fun FF us v => v = (.agg #[fv, xsv] : Value), fun FF us v => (.agg #[((aggAt v 0)), ((aggAt v 1))] : Value) = v ∧ (IntsF FF ((aggAt v 0)) f) ∧ (StepsF FF ((aggAt v 1)) xs), fun FF us v => v = tv, fun FF us v => ((v) : Value) = v ∧ (IntsF FF (v) (t)), fun FF us v => v = (.int .i64 (p) : Value), fun FF us v => (.tuple #[.agg #[((aggAt (tupAt v 0) 0)), ((aggAt (tupAt v 0) 1))], .bool ((insB ar rs f xs ((t)) p).2.2)] : Value) = v ∧ (IntsF FF ((aggAt (tupAt v 0) 0)) (insB ar rs f xs ((t)) p).1) ∧ (StepsF FF ((aggAt (tupAt v 0) 1)) (insB ar rs f xs ((t)) p).2.1), fun FF us v => v = (.tuple #[.agg #[((aggAt (tupAt (us.getD 0 undef) 0) 0)), ((aggAt (tupAt (us.getD 0 undef) 0) 1))], .bool ((insB ar rs f xs ((t)) p).2.2)] : Value), fun FF us v => v = (.agg #[((aggAt (tupAt (us.getD 0 undef) 0) 0)), ((aggAt (tupAt (us.getD 0 undef) 0) 1))] : Value), fun FF us v => v = (.bool ((insB ar rs f xs ((t)) p).2.2) : Value), fun FF us v => v = ptr (blk v) 0, fun FF us v => True]) (ownL [fun us v => [], fun us v => [], fun us v => [], fun us v => [], fun us v => [], fun us v => [], fun us v => [], fun us v => [], fun us v => [], fun us v => [], fun us v => [], fun us v => [cellsH (blk v) [(.slice none 0 0), (.slice none 0 0)] 63], fun us v => [cellsH (blk (us.getD 1 undef)) [((aggAt (tupAt (us.getD 0 undef) 0) 0)), ((aggAt (tupAt (us.getD 0 undef) 0) 1))] 63]]) mixed rfl rfl (by kernel_rfl) (by kernel_rfl) (MonoG.get (MonoG.cons (fun le h => h) (MonoG.cons (fun le h => ⟨h.1, h.2.1.mono le, h.2.2.mono le⟩) (MonoG.cons (fun le h => h) (MonoG.cons (fun le h => ⟨h.1, h.2.1.mono le, h.2.2.mono le⟩) (MonoG.cons (fun le h => h) (MonoG.cons (fun le h => ⟨h.1, h.2.mono le⟩) (MonoG.cons (fun le h => h) (MonoG.cons (fun le h => ⟨h.1, h.2.1.mono le, h.2.2.mono le⟩) (MonoG.cons (fun le h => h) (MonoG.cons (fun le h => h) (MonoG.cons (fun le h => h) (MonoG.cons (fun le h => h) (MonoG.cons (fun le h => h) MonoG.nil)))))))))))))) ?_ ?_
        · refine stepsG.cons (fun vals Fs R leFs hpZ => ?_) ?_
          · replace har := har.mono leFs
            replace hrs := hrs.mono leFs
            replace hf := hf.mono leFs
            replace hxs := hxs.mono leFs
            replace ht := ht.mono leFs
            refine XG.op (XOp.loadN [arv, rsv] Try.isAgg41 Try.sizeOf41 rfl rfl (Rd.ownN [_] rfl rfl) ?_)
            exact ⟨rfl, rfl⟩
          refine stepsG.cons (fun vals Fs R leFs hpZ => ?_) ?_
          · have e0 : vals 0 = (.agg #[arv, rsv] : Value) := hpZ 0 (by decide)
            replace har := har.mono leFs
            replace hrs := hrs.mono leFs
            replace hf := hf.mono leFs
            replace hxs := hxs.mono leFs
            replace ht := ht.mono leFs
            rw [(envs_of_sat (l := [(0, (.agg #[arv, rsv] : Value))]) ⟨e0, trivial⟩).symm]
            refine XG.op (XOp.call (args := [.agg #[arv, rsv]]) Try.call27 rfl (toSystem_spec har hrs (hla := (by first | assumption | rfl | omega | (left; simp; done) | (right; simp; done))) (hrl := (by first | assumption | rfl | omega | (left; simp; done) | (right; simp; done))) (hrb := (by first | assumption | rfl | omega | (left; simp; done) | (right; simp; done)))) ?_)
            rintro _ F4 _ le4 ⟨x7, x8, rfl, hr9, hr10, hr11, rfl⟩
            replace har := har.mono le4
            replace hrs := hrs.mono le4
            replace hf := hf.mono le4
            replace hxs := hxs.mono le4
            replace ht := ht.mono le4
            exact ⟨⟨rfl, hr9, hr10⟩, rfl⟩
          refine stepsG.cons (fun vals Fs R leFs hpZ => ?_) ?_
          · replace har := har.mono leFs
            replace hrs := hrs.mono leFs
            replace hf := hf.mono leFs
            replace hxs := hxs.mono leFs
            replace ht := ht.mono leFs
            refine XG.op (XOp.loadN [fv, xsv] Try.isAgg58 Try.sizeOf58 rfl rfl (Rd.ownN [] rfl rfl) ?_)
            exact ⟨rfl, rfl⟩
          refine stepsG.cons (fun vals Fs R leFs hpZ => ?_) ?_
          · have e2 : vals 2 = (.agg #[fv, xsv] : Value) := hpZ 2 (by decide)
            replace har := har.mono leFs
            replace hrs := hrs.mono leFs
            replace hf := hf.mono leFs
            replace hxs := hxs.mono leFs
            replace ht := ht.mono leFs
            rw [(envs_of_sat (l := [(2, (.agg #[fv, xsv] : Value))]) ⟨e2, trivial⟩).symm]
            refine XG.op (XOp.call (args := [.agg #[fv, xsv]]) Try.call41 rfl (toWalk_spec hf hxs (hfl := (by first | assumption | rfl | omega | (left; simp; done) | (right; simp; done))) (hsl := (by first | assumption | rfl | omega | (left; simp; done) | (right; simp; done))) (hsb := (by first | assumption | rfl | omega | (left; simp; done) | (right; simp; done)))) ?_)
            rintro _ F5 _ le5 ⟨x9, x10, rfl, hr12, hr13, hr14, rfl⟩
            replace har := har.mono le5
            replace hrs := hrs.mono le5
            replace hf := hf.mono le5
            replace hxs := hxs.mono le5
            replace ht := ht.mono le5
            exact ⟨⟨rfl, hr12, hr13⟩, rfl⟩
          refine stepsG.cons (fun vals Fs R leFs hpZ => ?_) ?_
          · refine XG.op (XOp.move (tv) rfl ?_)
            exact ⟨rfl, rfl⟩
          refine stepsG.cons (fun vals Fs R leFs hpZ => ?_) ?_
          · have e4 : vals 4 = tv := hpZ 4 (by decide)
            replace har := har.mono leFs
            replace hrs := hrs.mono leFs
            replace hf := hf.mono leFs
            replace hxs := hxs.mono leFs
            replace ht := ht.mono leFs
            rw [(envs_of_sat (l := [(4, tv)]) ⟨e4, trivial⟩).symm]
            refine XG.op (XOp.frzF <| XOp.call (args := [tv]) Try.call28 rfl (toInt64S_spec ht (hlx := (by first | assumption | rfl | omega | (left; simp; done) | (right; simp; done)))) ?_)
            rintro v2 _ _ _ ⟨rfl, hs2, rfl⟩
            refine ⟨_, _, rfl, fun F6 le6 hz1 => ?_⟩
            replace har := har.mono le6
            replace hrs := hrs.mono le6
            replace hf := hf.mono le6
            replace hxs := hxs.mono le6
            replace ht := ht.mono le6
            have hf1 : IntsF F6 v2 ((t)) := intsH.fz (xs := (t)) hz1.fz
            exact ⟨⟨rfl, hf1⟩, rfl⟩
          refine stepsG.cons (fun vals Fs R leFs hpZ => ?_) ?_
          · refine XG.op (XOp.move (.int .i64 (p)) rfl ?_)
            exact ⟨rfl, rfl⟩
          refine stepsG.cons (fun vals Fs R leFs hpZ => ?_) ?_
          · obtain ⟨e1, f1_1hr1, f1_1hr2⟩ := hpZ 1 (by decide)
            obtain ⟨e3, f3_1hr1, f3_1hr2⟩ := hpZ 3 (by decide)
            obtain ⟨e5, f5_1ha⟩ := hpZ 5 (by decide)
            have e6 : vals 6 = (.int .i64 (p) : Value) := hpZ 6 (by decide)
            replace har := har.mono leFs
            replace hrs := hrs.mono leFs
            replace hf := hf.mono leFs
            replace hxs := hxs.mono leFs
            replace ht := ht.mono leFs
            rw [(envs_of_sat (l := [(1, (.agg #[((aggAt (vals 1) 0)), ((aggAt (vals 1) 1))] : Value)), (3, (.agg #[((aggAt (vals 3) 0)), ((aggAt (vals 3) 1))] : Value)), (5, ((vals 5))), (6, (.int .i64 (p) : Value))]) ⟨(e1).symm, (e3).symm, (e5).symm, e6, trivial⟩).symm]
            refine XG.op (XOp.call (args := [.agg #[((aggAt (vals 1) 0)), ((aggAt (vals 1) 1))], .agg #[((aggAt (vals 3) 0)), ((aggAt (vals 3) 1))], ((vals 5)), .int .i64 (p)]) Try.call56 rfl (sWalkInside_spec (p := p) f1_1hr1 f1_1hr2 f3_1hr1 f3_1hr2 f5_1ha (hla := (by first | assumption | rfl | omega | (left; simp; done) | (right; simp; done))) (hlr := (by first | assumption | rfl | omega | (left; simp; done) | (right; simp; done))) (hrb := (by first | assumption | rfl | omega | (left; simp; done) | (right; simp; done))) (hlf := (by first | assumption | rfl | omega | (left; simp; done) | (right; simp; done))) (hlss := (by first | assumption | rfl | omega | (left; simp; done) | (right; simp; done))) (hsb := (by first | assumption | rfl | omega | (left; simp; done) | (right; simp; done))) (hlt := (by first | assumption | rfl | omega | (left; simp; done) | (right; simp; done)))) ?_)
            rintro _ F7 _ le7 ⟨x11, x12, rfl, hr15, hr16, rfl⟩
            replace har := har.mono le7
            replace hrs := hrs.mono le7
            replace hf := hf.mono le7
            replace hxs := hxs.mono le7
            replace ht := ht.mono le7
            replace f1_1hr1 := f1_1hr1.mono le7
            replace f1_1hr2 := f1_1hr2.mono le7
            replace f3_1hr1 := f3_1hr1.mono le7
            replace f3_1hr2 := f3_1hr2.mono le7
            replace f5_1ha := f5_1ha.mono le7
            exact ⟨⟨rfl, hr15, hr16⟩, rfl⟩
          refine stepsG.cons (fun vals Fs R leFs hpZ => ?_) ?_
          · obtain ⟨e7, f7_1hr1, f7_1hr2⟩ := hpZ 7 (by decide)
            rw [(envs_of_sat (l := [(7, (.tuple #[.agg #[((aggAt (tupAt (vals 7) 0) 0)), ((aggAt (tupAt (vals 7) 0) 1))], .bool ((insB ar rs f xs ((t)) p).2.2)] : Value))]) ⟨(e7).symm, trivial⟩).symm]
            refine XG.op (XOp.move (.tuple #[.agg #[((aggAt (tupAt (vals 7) 0) 0)), ((aggAt (tupAt (vals 7) 0) 1))], .bool ((insB ar rs f xs ((t)) p).2.2)]) rfl ?_)
            exact ⟨rfl, rfl⟩
          refine stepsG.cons (fun vals Fs R leFs hpZ => ?_) ?_
          · obtain ⟨e7, f7_1hr1, f7_1hr2⟩ := hpZ 7 (by decide)
            have e8 : vals 8 = (.tuple #[.agg #[((aggAt (tupAt (vals 7) 0) 0)), ((aggAt (tupAt (vals 7) 0) 1))], .bool ((insB ar rs f xs ((t)) p).2.2)] : Value) := hpZ 8 (by decide)
            rw [(envs_of_sat (l := [(7, (.tuple #[.agg #[((aggAt (tupAt (vals 7) 0) 0)), ((aggAt (tupAt (vals 7) 0) 1))], .bool ((insB ar rs f xs ((t)) p).2.2)] : Value)), (8, (.tuple #[.agg #[((aggAt (tupAt (vals 7) 0) 0)), ((aggAt (tupAt (vals 7) 0) 1))], .bool ((insB ar rs f xs ((t)) p).2.2)] : Value))]) ⟨(e7).symm, e8, trivial⟩).symm]
            refine XG.op (XOp.extract (.agg #[((aggAt (tupAt (vals 7) 0) 0)), ((aggAt (tupAt (vals 7) 0) 1))]) rfl rfl ?_)
            exact ⟨rfl, rfl⟩
          refine stepsG.cons (fun vals Fs R leFs hpZ => ?_) ?_
          · obtain ⟨e7, f7_1hr1, f7_1hr2⟩ := hpZ 7 (by decide)
            have e8 : vals 8 = (.tuple #[.agg #[((aggAt (tupAt (vals 7) 0) 0)), ((aggAt (tupAt (vals 7) 0) 1))], .bool ((insB ar rs f xs ((t)) p).2.2)] : Value) := hpZ 8 (by decide)
            rw [(envs_of_sat (l := [(7, (.tuple #[.agg #[((aggAt (tupAt (vals 7) 0) 0)), ((aggAt (tupAt (vals 7) 0) 1))], .bool ((insB ar rs f xs ((t)) p).2.2)] : Value)), (8, (.tuple #[.agg #[((aggAt (tupAt (vals 7) 0) 0)), ((aggAt (tupAt (vals 7) 0) 1))], .bool ((insB ar rs f xs ((t)) p).2.2)] : Value))]) ⟨(e7).symm, e8, trivial⟩).symm]
            refine XG.op (XOp.extract (.bool ((insB ar rs f xs ((t)) p).2.2)) rfl rfl ?_)
            exact ⟨rfl, rfl⟩
          refine stepsG.cons (fun vals Fs R leFs hpZ => ?_) ?_
          · replace har := har.mono leFs
            replace hrs := hrs.mono leFs
            replace hf := hf.mono leFs
            replace hxs := hxs.mono leFs
            replace ht := ht.mono leFs
            refine XG.op (XOp.alloc [(.slice none 0 0), (.slice none 0 0)] Try.zeroValue63 rfl ?_)
            intro b4
            exact ⟨rfl, rfl⟩
          refine stepsG.cons (fun vals Fs R leFs hpZ => ?_) ?_
          · obtain ⟨e7, f7_1hr1, f7_1hr2⟩ := hpZ 7 (by decide)
            have e9 : vals 9 = (.agg #[((aggAt (tupAt (vals 7) 0) 0)), ((aggAt (tupAt (vals 7) 0) 1))] : Value) := hpZ 9 (by decide)
            have e11 : vals 11 = ptr (blk (vals 11)) 0 := hpZ 11 (by decide)
            replace har := har.mono leFs
            replace hrs := hrs.mono leFs
            replace hf := hf.mono leFs
            replace hxs := hxs.mono leFs
            replace ht := ht.mono leFs
            rw [(envs_of_sat (l := [(7, (.tuple #[.agg #[((aggAt (tupAt (vals 7) 0) 0)), ((aggAt (tupAt (vals 7) 0) 1))], .bool ((insB ar rs f xs ((t)) p).2.2)] : Value)), (9, (.agg #[((aggAt (tupAt (vals 7) 0) 0)), ((aggAt (tupAt (vals 7) 0) 1))] : Value)), (11, ptr (blk (vals 11)) 0)]) ⟨(e7).symm, e9, e11, trivial⟩).symm]
            show XG _ _ _ _ _ (cellsH (blk (vals 11)) [(.slice none 0 0), (.slice none 0 0)] 63 :: ([cellsH b2 [fv, xsv] 58, cellsH b1 [arv, rsv] 41] ++ R)) _
            refine XG.op (XOp.storeN (vs := [((aggAt (tupAt (vals 7) 0) 0)), ((aggAt (tupAt (vals 7) 0) 1))]) [] _ [((aggAt (tupAt (vals 7) 0) 0)), ((aggAt (tupAt (vals 7) 0) 1))] Try.sizeOf63 rfl rfl rfl (ones_cons (one_sl (IntsF.isSl f7_1hr1)) (ones_cons (one_sl (StepsF.isSl f7_1hr2)) ones_nil)) rfl rfl rfl ?_)
            exact ⟨trivial, rfl⟩
          exact stepsG.nil
        · intro vals F8 le8 hphi
          have e0 : vals 0 = (.agg #[arv, rsv] : Value) := hphi 0 (by decide)
          obtain ⟨e1, f1_1hr1, f1_1hr2⟩ := hphi 1 (by decide)
          have e2 : vals 2 = (.agg #[fv, xsv] : Value) := hphi 2 (by decide)
          obtain ⟨e3, f3_1hr1, f3_1hr2⟩ := hphi 3 (by decide)
          have e4 : vals 4 = tv := hphi 4 (by decide)
          obtain ⟨e5, f5_1ha⟩ := hphi 5 (by decide)
          have e6 : vals 6 = (.int .i64 (p) : Value) := hphi 6 (by decide)
          obtain ⟨e7, f7_1hr1, f7_1hr2⟩ := hphi 7 (by decide)
          have e8 : vals 8 = (.tuple #[.agg #[((aggAt (tupAt (vals 7) 0) 0)), ((aggAt (tupAt (vals 7) 0) 1))], .bool ((insB ar rs f xs ((t)) p).2.2)] : Value) := hphi 8 (by decide)
          have e9 : vals 9 = (.agg #[((aggAt (tupAt (vals 7) 0) 0)), ((aggAt (tupAt (vals 7) 0) 1))] : Value) := hphi 9 (by decide)
          have e10 : vals 10 = (.bool ((insB ar rs f xs ((t)) p).2.2) : Value) := hphi 10 (by decide)
          have e11 : vals 11 = ptr (blk (vals 11)) 0 := hphi 11 (by decide)
          generalize hu1 : ((aggAt (vals 1) 0)) = u1 at e0 e1 f1_1hr1 f1_1hr2 e2 e3 f3_1hr1 f3_1hr2 e4 e5 f5_1ha e6 e7 f7_1hr1 f7_1hr2 e8 e9 e10 e11
          generalize hu2 : ((aggAt (vals 1) 1)) = u2 at e0 e1 f1_1hr1 f1_1hr2 e2 e3 f3_1hr1 f3_1hr2 e4 e5 f5_1ha e6 e7 f7_1hr1 f7_1hr2 e8 e9 e10 e11
          generalize hu3 : ((aggAt (vals 3) 0)) = u3 at e0 e1 f1_1hr1 f1_1hr2 e2 e3 f3_1hr1 f3_1hr2 e4 e5 f5_1ha e6 e7 f7_1hr1 f7_1hr2 e8 e9 e10 e11
          generalize hu4 : ((aggAt (vals 3) 1)) = u4 at e0 e1 f1_1hr1 f1_1hr2 e2 e3 f3_1hr1 f3_1hr2 e4 e5 f5_1ha e6 e7 f7_1hr1 f7_1hr2 e8 e9 e10 e11
          generalize hu5 : ((vals 5)) = u5 at e0 e1 f1_1hr1 f1_1hr2 e2 e3 f3_1hr1 f3_1hr2 e4 e5 f5_1ha e6 e7 f7_1hr1 f7_1hr2 e8 e9 e10 e11
          generalize hu6 : ((aggAt (tupAt (vals 7) 0) 0)) = u6 at e0 e1 f1_1hr1 f1_1hr2 e2 e3 f3_1hr1 f3_1hr2 e4 e5 f5_1ha e6 e7 f7_1hr1 f7_1hr2 e8 e9 e10 e11
          generalize hu7 : ((aggAt (tupAt (vals 7) 0) 1)) = u7 at e0 e1 f1_1hr1 f1_1hr2 e2 e3 f3_1hr1 f3_1hr2 e4 e5 f5_1ha e6 e7 f7_1hr1 f7_1hr2 e8 e9 e10 e11
          generalize hu8 : blk (vals 11) = b5 at e0 e1 f1_1hr1 f1_1hr2 e2 e3 f3_1hr1 f3_1hr2 e4 e5 f5_1ha e6 e7 f7_1hr1 f7_1hr2 e8 e9 e10 e11
          rw [(envs_of_sat (l := [(0, (.agg #[arv, rsv] : Value)), (1, (.agg #[u1, u2] : Value)), (2, (.agg #[fv, xsv] : Value)), (3, (.agg #[u3, u4] : Value)), (4, tv), (5, u5), (6, (.int .i64 (p) : Value)), (7, (.tuple #[.agg #[u6, u7], .bool ((insB ar rs f xs ((t)) p).2.2)] : Value)), (8, (.tuple #[.agg #[u6, u7], .bool ((insB ar rs f xs ((t)) p).2.2)] : Value)), (9, (.agg #[u6, u7] : Value)), (10, (.bool ((insB ar rs f xs ((t)) p).2.2) : Value)), (11, ptr b5 0)]) ⟨e0, (e1).symm, e2, (e3).symm, e4, hu5, e6, (e7).symm, e8, e9, e10, e11, trivial⟩).symm]
          replace har := har.mono le8
          replace hrs := hrs.mono le8
          replace hf := hf.mono le8
          replace hxs := hxs.mono le8
          replace ht := ht.mono le8
          show XL _ _ _ _ _ _ _ (cellsH b5 [u6, u7] 63 :: cellsH b2 [fv, xsv] 58 :: cellsH b1 [arv, rsv] 41 :: L)
          refine XL.cons (XOp.assign (.bool ((insB ar rs f xs ((t)) p).2.2)) rfl ?_)
          refine XL.nil ?_
          refine X.seq ?_
          refine X.region ?_
          refine XL.cons (XOp.loadN [arv, rsv] Try.isAgg41 Try.sizeOf41 rfl rfl (Rd.ownN [_, _] rfl rfl) ?_)
          refine XL.cons (XOp.thawL ?_)
          refine id (XOp.call (args := [.agg #[arv, rsv]]) Try.call27 rfl (toSystem_spec har hrs (hla := (by first | assumption | rfl | omega | (left; simp; done) | (right; simp; done))) (hrl := (by first | assumption | rfl | omega | (left; simp; done) | (right; simp; done))) (hrb := (by first | assumption | rfl | omega | (left; simp; done) | (right; simp; done)))) ?_)
          rintro _ F9 _ le9 ⟨x13, x14, rfl, hr17, hr18, hr19, rfl⟩
          refine ⟨[intsH 2 x13 ar, pairsD 2 156 x14 rs], hr19, ?_⟩
          show XL _ _ _ _ _ _ _ (intsH 2 x13 ar :: pairsD 2 156 x14 rs :: cellsH b5 [u6, u7] 63 :: cellsH b2 [fv, xsv] 58 :: cellsH b1 [arv, rsv] 41 :: L)
          refine XL.cons (XOp.alloc [(.slice none 0 0), (.slice none 0 0)] Try.zeroValue29 rfl ?_)
          intro b6
          refine XL.cons (XOp.storeN (vs := [x13, x14]) [] _ [x13, x14] Try.sizeOf29 rfl rfl rfl (ones_cons (one_sl (IntsF.isSl hr17)) (ones_cons (one_sl (PairsF.isSl hr18)) ones_nil)) rfl rfl rfl ?_)
          refine XL.nil ?_
          refine X.seq ?_
          refine X.region ?_
          refine XL.cons (XOp.loadN [fv, xsv] Try.isAgg58 Try.sizeOf58 rfl rfl (Rd.ownN [_, _, _, _] rfl rfl) ?_)
          refine XL.cons (XOp.thawL ?_)
          refine id (XOp.call (args := [.agg #[fv, xsv]]) Try.call41 rfl (toWalk_spec hf hxs (hfl := (by first | assumption | rfl | omega | (left; simp; done) | (right; simp; done))) (hsl := (by first | assumption | rfl | omega | (left; simp; done) | (right; simp; done))) (hsb := (by first | assumption | rfl | omega | (left; simp; done) | (right; simp; done)))) ?_)
          rintro _ F10 _ le10 ⟨x15, x16, rfl, hr20, hr21, hr22, rfl⟩
          refine ⟨[intsH 2 x15 f, stepsD 2 74 x16 xs], hr22, ?_⟩
          show XL _ _ _ _ _ _ _ (intsH 2 x15 f :: stepsD 2 74 x16 xs :: cellsH b6 [x13, x14] 29 :: intsH 2 x13 ar :: pairsD 2 156 x14 rs :: cellsH b5 [u6, u7] 63 :: cellsH b2 [fv, xsv] 58 :: cellsH b1 [arv, rsv] 41 :: L)
          refine XL.cons (XOp.alloc [(.slice none 0 0), (.slice none 0 0)] Try.zeroValue63 rfl ?_)
          intro b7
          refine XL.cons (XOp.storeN (vs := [x15, x16]) [] _ [x15, x16] Try.sizeOf63 rfl rfl rfl (ones_cons (one_sl (IntsF.isSl hr20)) (ones_cons (one_sl (StepsF.isSl hr21)) ones_nil)) rfl rfl rfl ?_)
          refine XL.nil ?_
          refine X.seq ?_
          refine X.region ?_
          refine XL.cons (XOp.move (tv) rfl ?_)
          refine XL.cons (XOp.call (args := [tv]) Try.call28 rfl (toInt64S_spec ht (hlx := (by first | assumption | rfl | omega | (left; simp; done) | (right; simp; done)))) ?_)
          rintro v3 _ _ _ ⟨rfl, hs3, rfl⟩
          refine XL.cons (XOp.assign (v3) rfl ?_)
          refine XL.nil ?_
          refine X.seq ?_
          refine X.region ?_
          refine XL.cons (XOp.loadN [x13, x14] Try.isAgg29 Try.sizeOf29 rfl rfl (Rd.ownN [_, _, _, _] rfl rfl) ?_)
          refine XL.cons (XOp.loadN [x15, x16] Try.isAgg63 Try.sizeOf63 rfl rfl (Rd.ownN [_] rfl rfl) ?_)
          refine XL.cons (XOp.move (v3) rfl ?_)
          refine XL.cons (XOp.move (.int .i64 (p)) rfl ?_)
          refine XL.cons (XOp.lend [_, _, _, _, _] _ _ rfl (fun F11 le11 hz2 => ?_))
          refine id (XOp.lend [_, _, _, _, _] _ _ rfl (fun F12 le12 hz3 => ?_))
          refine id (XOp.lend [_, _] _ _ rfl (fun F13 le13 hz4 => ?_))
          refine id (XOp.lend [_, _] _ _ rfl (fun F14 le14 hz5 => ?_))
          refine id (XOp.lend [] _ _ rfl (fun F15 le15 hz6 => ?_))
          have hf2 : IntsF _ x13 ar := (intsH.fz (xs := ar) hz2).mono (FLe.trans (FLe.trans (FLe.trans le12 le13) le14) le15)
          have hf3 : PairsF _ x14 rs := (pairsD.fz hz3).mono (FLe.trans (FLe.trans le13 le14) le15)
          have hf4 : IntsF _ x15 f := (intsH.fz (xs := f) hz4).mono (FLe.trans le14 le15)
          have hf5 : StepsF _ x16 xs := (stepsD.fz hz5).mono le15
          have hf6 : IntsF _ v3 ((t)) := intsH.fz (xs := (t)) hz6
          refine id (XOp.thawL ?_)
          refine id (XOp.call (args := [.agg #[x13, x14], .agg #[x15, x16], v3, .int .i64 (p)]) Try.call57 rfl (WalkInside_spec (p := p) hf2 hf3 hf4 hf5 hf6 (hlf := (by first | assumption | rfl | omega | (left; simp; done) | (right; simp; done))) (hsb := (by first | assumption | rfl | omega | (left; simp; done) | (right; simp; done)))) ?_)
          rintro _ F16 _ le16 ⟨x17, x18, rfl, hr23, hr24, hr25, rfl⟩
          refine ⟨[intsH 2 x17 ((insB ar rs f xs ((t)) p).1), stepsD 2 74 x18 ((insB ar rs f xs ((t)) p).2.1)], hr25, ?_⟩
          show XL _ _ _ _ _ _ _ (intsH 2 x13 ar :: pairsD 2 156 x14 rs :: intsH 2 x15 f :: stepsD 2 74 x16 xs :: intsH 2 v3 ((t)) :: intsH 2 x17 ((insB ar rs f xs ((t)) p).1) :: stepsD 2 74 x18 ((insB ar rs f xs ((t)) p).2.1) :: cellsH b7 [x15, x16] 63 :: cellsH b6 [x13, x14] 29 :: cellsH b5 [u6, u7] 63 :: cellsH b2 [fv, xsv] 58 :: cellsH b1 [arv, rsv] 41 :: L)
          refine XL.cons (XOp.move (.tuple #[.agg #[x17, x18], .bool ((insB ar rs f xs ((t)) p).2.2)]) rfl ?_)
          refine XL.cons (XOp.extract (.agg #[x17, x18]) rfl rfl ?_)
          refine XL.cons (XOp.extract (.bool ((insB ar rs f xs ((t)) p).2.2)) rfl rfl ?_)
          refine XL.cons (XOp.alloc [(.slice none 0 0), (.slice none 0 0)] Try.zeroValue63 rfl ?_)
          intro b8
          refine XL.cons (XOp.storeN (vs := [x17, x18]) [] _ [x17, x18] Try.sizeOf63 rfl rfl rfl (ones_cons (one_sl (IntsF.isSl hr23)) (ones_cons (one_sl (StepsF.isSl hr24)) ones_nil)) rfl rfl rfl ?_)
          refine XL.cons (XOp.assign (.bool ((insB ar rs f xs ((t)) p).2.2)) rfl ?_)
          refine XL.nil ?_
          refine X.seq ?_
          refine X.seq ?_
          refine X.region ?_
          refine XL.cons (XOp.loadN [x17, x18] Try.isAgg63 Try.sizeOf63 rfl rfl (Rd.ownN [] rfl rfl) ?_)
          refine XL.cons (XOp.loadN [u6, u7] Try.isAgg63 Try.sizeOf63 rfl rfl (Rd.ownN [_, _, _, _, _, _, _, _, _, _] rfl rfl) ?_)
          refine XL.cons (XOp.lend [_, _, _, _, _, _] _ _ rfl (fun F17 le17 hz7 => ?_))
          refine id (XOp.lend [_, _, _, _, _, _] _ _ rfl (fun F18 le18 hz8 => ?_))
          have hf7 : IntsF _ x17 ((insB ar rs f xs ((t)) p).1) := (intsH.fz (xs := (insB ar rs f xs ((t)) p).1) hz7).mono le18
          have hf8 : StepsF _ x18 ((insB ar rs f xs ((t)) p).2.1) := stepsD.fz hz8
          refine id (XOp.call (args := [.agg #[x17, x18], .agg #[u6, u7]]) Try.call43 rfl (eqWalk_spec hf7 hf8 ((f7_1hr1.mono (FLe.trans le17 le18))) ((f7_1hr2.mono (FLe.trans le17 le18))) (hfl := (by first | assumption | rfl | omega | (left; simp; done) | (right; simp; done))) (hal := (by first | assumption | rfl | omega | (left; simp; done) | (right; simp; done))) (hbd := (by first | assumption | exact fun i hi => by have := hnd i hi; omega))) ?_)
          rintro _ _ _ _ ⟨rfl, rfl, rfl⟩
          show XL _ _ _ _ _ _ _ (intsH 2 x17 ((insB ar rs f xs ((t)) p).1) :: stepsD 2 74 x18 ((insB ar rs f xs ((t)) p).2.1) :: cellsH b8 [x17, x18] 63 :: intsH 2 x13 ar :: pairsD 2 156 x14 rs :: intsH 2 x15 f :: stepsD 2 74 x16 xs :: intsH 2 v3 ((t)) :: cellsH b7 [x15, x16] 63 :: cellsH b6 [x13, x14] 29 :: cellsH b5 [u6, u7] 63 :: cellsH b2 [fv, xsv] 58 :: cellsH b1 [arv, rsv] 41 :: L)
          refine XL.cons (XOp.notD (p := ((insB ar rs f xs ((t)) p).1) = ((insB ar rs f xs ((t)) p).1) ∧ ((insB ar rs f xs ((t)) p).2.1) = ((insB ar rs f xs ((t)) p).2.1)) rfl ?_)
          refine XL.cons (XOp.move (.bool (decide (¬(((insB ar rs f xs ((t)) p).1) = ((insB ar rs f xs ((t)) p).1) ∧ ((insB ar rs f xs ((t)) p).2.1) = ((insB ar rs f xs ((t)) p).2.1))))) rfl ?_)
          by_cases h4 : ¬(((insB ar rs f xs ((t)) p).1) = ((insB ar rs f xs ((t)) p).1) ∧ ((insB ar rs f xs ((t)) p).2.1) = ((insB ar rs f xs ((t)) p).2.1))
          · exact absurd (by first | rfl | exact ⟨rfl, rfl⟩) h4
          · refine XL.yes (t := 64) rfl (congrArg Value.bool (decide_eq_false h4)) (XOp.move (.bool ((insB ar rs f xs ((t)) p).2.2)) rfl ?_)
            refine XL.yes (t := 64) rfl (congrArg Value.bool (decide_eq_false h4)) (XOp.move (.bool ((insB ar rs f xs ((t)) p).2.2)) rfl ?_)
            refine XL.yes (t := 64) rfl (congrArg Value.bool (decide_eq_false h4)) (XOp.neB (a := (insB ar rs f xs ((t)) p).2.2) (b := (insB ar rs f xs ((t)) p).2.2) Try.runUnderlying4 rfl rfl ?_)
            refine XL.cons (XOp.pickF (.bool (decide (((insB ar rs f xs ((t)) p).2.2) ≠ ((insB ar rs f xs ((t)) p).2.2)))) (congrArg Value.bool (decide_eq_false h4)) rfl ?_)
            refine XL.nil ?_
            refine X.condD (p := ((insB ar rs f xs ((t)) p).2.2) ≠ ((insB ar rs f xs ((t)) p).2.2)) rfl (fun h5 => ?_) (fun h5 => ?_)
            · exact absurd rfl h5
            · refine X.skip ?_
              refine X.seq ?_
              refine X.seq ?_
              refine X.drawG [intsH 2 x17 ((insB ar rs f xs ((t)) p).1), stepsD 2 74 x18 ((insB ar rs f xs ((t)) p).2.1), cellsH b8 [x17, x18] 63, intsH 2 x13 ar, pairsD 2 156 x14 rs, intsH 2 x15 f, stepsD 2 74 x16 xs, intsH 2 v3 ((t)), cellsH b7 [x15, x16] 63, cellsH b6 [x13, x14] 29, cellsH b5 [u6, u7] 63, cellsH b2 [fv, xsv] 58, cellsH b1 [arv, rsv] 41] L 3 [[], [], []] [[], [], [1]] [[], [], []] (phiG [fun FF us v => v = (.agg #[x13, x14] : Value), fun FF us v => v = (.agg #[arv, rsv] : Value), fun FF us v => (.agg #[((aggAt v 0)), ((aggAt v 1))] : Value) = v ∧ (IntsF FF ((aggAt v 0)) ar) ∧ (PairsF FF ((aggAt v 1)) rs)]) (ownL [fun us v => [], fun us v => [], fun us v => []]) mixed rfl rfl (by kernel_rfl) (by kernel_rfl) (MonoG.get (MonoG.cons (fun le h => h) (MonoG.cons (fun le h => h) (MonoG.cons (fun le h => ⟨h.1, h.2.1.mono le, h.2.2.mono le⟩) MonoG.nil)))) ?_ ?_
              · refine stepsG.cons (fun vals Fs R leFs hpZ => ?_) ?_
                · replace har := har.mono leFs
                  replace hrs := hrs.mono leFs
                  replace hf := hf.mono leFs
                  replace hxs := hxs.mono leFs
                  replace ht := ht.mono leFs
                  replace f1_1hr1 := f1_1hr1.mono leFs
                  replace f1_1hr2 := f1_1hr2.mono leFs
                  replace f3_1hr1 := f3_1hr1.mono leFs
                  replace f3_1hr2 := f3_1hr2.mono leFs
                  replace f5_1ha := f5_1ha.mono leFs
                  replace f7_1hr1 := f7_1hr1.mono leFs
                  replace f7_1hr2 := f7_1hr2.mono leFs
                  refine XG.op (XOp.loadN [x13, x14] Try.isAgg29 Try.sizeOf29 rfl rfl (Rd.ownN [_, _, _, _, _, _, _, _, _] rfl rfl) ?_)
                  exact ⟨rfl, rfl⟩
                refine stepsG.cons (fun vals Fs R leFs hpZ => ?_) ?_
                · replace har := har.mono leFs
                  replace hrs := hrs.mono leFs
                  replace hf := hf.mono leFs
                  replace hxs := hxs.mono leFs
                  replace ht := ht.mono leFs
                  replace f1_1hr1 := f1_1hr1.mono leFs
                  replace f1_1hr2 := f1_1hr2.mono leFs
                  replace f3_1hr1 := f3_1hr1.mono leFs
                  replace f3_1hr2 := f3_1hr2.mono leFs
                  replace f5_1ha := f5_1ha.mono leFs
                  replace f7_1hr1 := f7_1hr1.mono leFs
                  replace f7_1hr2 := f7_1hr2.mono leFs
                  refine XG.op (XOp.loadN [arv, rsv] Try.isAgg41 Try.sizeOf41 rfl rfl (Rd.ownN [_, _, _, _, _, _, _, _, _, _, _, _] rfl rfl) ?_)
                  exact ⟨rfl, rfl⟩
                refine stepsG.cons (fun vals Fs R leFs hpZ => ?_) ?_
                · have e1 : vals 1 = (.agg #[arv, rsv] : Value) := hpZ 1 (by decide)
                  replace har := har.mono leFs
                  replace hrs := hrs.mono leFs
                  replace hf := hf.mono leFs
                  replace hxs := hxs.mono leFs
                  replace ht := ht.mono leFs
                  replace f1_1hr1 := f1_1hr1.mono leFs
                  replace f1_1hr2 := f1_1hr2.mono leFs
                  replace f3_1hr1 := f3_1hr1.mono leFs
                  replace f3_1hr2 := f3_1hr2.mono leFs
                  replace f5_1ha := f5_1ha.mono leFs
                  replace f7_1hr1 := f7_1hr1.mono leFs
                  replace f7_1hr2 := f7_1hr2.mono leFs
                  rw [(envs_of_sat (l := [(1, (.agg #[arv, rsv] : Value))]) ⟨e1, trivial⟩).symm]
                  refine XG.op (XOp.call (args := [.agg #[arv, rsv]]) Try.call27 rfl (toSystem_spec har hrs (hla := (by first | assumption | rfl | omega | (left; simp; done) | (right; simp; done))) (hrl := (by first | assumption | rfl | omega | (left; simp; done) | (right; simp; done))) (hrb := (by first | assumption | rfl | omega | (left; simp; done) | (right; simp; done)))) ?_)
                  rintro _ F20 _ le20 ⟨x21, x22, rfl, hr29, hr30, hr31, rfl⟩
                  replace har := har.mono le20
                  replace hrs := hrs.mono le20
                  replace hf := hf.mono le20
                  replace hxs := hxs.mono le20
                  replace ht := ht.mono le20
                  replace f1_1hr1 := f1_1hr1.mono le20
                  replace f1_1hr2 := f1_1hr2.mono le20
                  replace f3_1hr1 := f3_1hr1.mono le20
                  replace f3_1hr2 := f3_1hr2.mono le20
                  replace f5_1ha := f5_1ha.mono le20
                  replace f7_1hr1 := f7_1hr1.mono le20
                  replace f7_1hr2 := f7_1hr2.mono le20
                  exact ⟨⟨rfl, hr29, hr30⟩, rfl⟩
                exact stepsG.nil
              · intro vals F21 le21 hphi
                have e0 : vals 0 = (.agg #[x13, x14] : Value) := hphi 0 (by decide)
                have e1 : vals 1 = (.agg #[arv, rsv] : Value) := hphi 1 (by decide)
                obtain ⟨e2, f2_2hr1, f2_2hr2⟩ := hphi 2 (by decide)
                generalize hu9 : ((aggAt (vals 2) 0)) = u8 at e0 e1 e2 f2_2hr1 f2_2hr2
                generalize hu10 : ((aggAt (vals 2) 1)) = u9 at e0 e1 e2 f2_2hr1 f2_2hr2
                rw [(envs_of_sat (l := [(0, (.agg #[x13, x14] : Value)), (1, (.agg #[arv, rsv] : Value)), (2, (.agg #[u8, u9] : Value))]) ⟨e0, e1, (e2).symm, trivial⟩).symm]
                replace har := har.mono le21
                replace hrs := hrs.mono le21
                replace hf := hf.mono le21
                replace hxs := hxs.mono le21
                replace ht := ht.mono le21
                replace f1_1hr1 := f1_1hr1.mono le21
                replace f1_1hr2 := f1_1hr2.mono le21
                replace f3_1hr1 := f3_1hr1.mono le21
                replace f3_1hr2 := f3_1hr2.mono le21
                replace f5_1ha := f5_1ha.mono le21
                replace f7_1hr1 := f7_1hr1.mono le21
                replace f7_1hr2 := f7_1hr2.mono le21
                show XL _ _ _ _ _ _ _ (intsH 2 x17 ((insB ar rs f xs ((t)) p).1) :: stepsD 2 74 x18 ((insB ar rs f xs ((t)) p).2.1) :: cellsH b8 [x17, x18] 63 :: intsH 2 x13 ar :: pairsD 2 156 x14 rs :: intsH 2 x15 f :: stepsD 2 74 x16 xs :: intsH 2 v3 ((t)) :: cellsH b7 [x15, x16] 63 :: cellsH b6 [x13, x14] 29 :: cellsH b5 [u6, u7] 63 :: cellsH b2 [fv, xsv] 58 :: cellsH b1 [arv, rsv] 41 :: L)
                refine XL.cons (XOp.lend [_, _, _] _ _ rfl (fun F22 le22 hz9 => ?_))
                refine id (XOp.lend [_, _, _] _ _ rfl (fun F23 le23 hz10 => ?_))
                have hf9 : IntsF _ x13 ar := (intsH.fz (xs := ar) hz9).mono le23
                have hf10 : PairsF _ x14 rs := pairsD.fz hz10
                refine id (XOp.call (args := [.agg #[x13, x14], .agg #[u8, u9]]) Try.call30 rfl (eqSystem_spec hf9 hf10 ((f2_2hr1.mono (FLe.trans le22 le23))) ((f2_2hr2.mono (FLe.trans le22 le23))) (hcl := (by first | assumption | rfl | omega | (left; simp; done) | (right; simp; done))) (hal := (by first | assumption | rfl | omega | (left; simp; done) | (right; simp; done))) (hbd := (by first | assumption | rfl | omega | (left; simp; done) | (right; simp; done)))) ?_)
                rintro _ _ _ _ ⟨rfl, rfl, rfl⟩
                show XL _ _ _ _ _ _ _ (intsH 2 x13 ar :: pairsD 2 156 x14 rs :: intsH 2 x17 ((insB ar rs f xs ((t)) p).1) :: stepsD 2 74 x18 ((insB ar rs f xs ((t)) p).2.1) :: cellsH b8 [x17, x18] 63 :: intsH 2 x15 f :: stepsD 2 74 x16 xs :: intsH 2 v3 ((t)) :: cellsH b7 [x15, x16] 63 :: cellsH b6 [x13, x14] 29 :: cellsH b5 [u6, u7] 63 :: cellsH b2 [fv, xsv] 58 :: cellsH b1 [arv, rsv] 41 :: L)
                refine XL.cons (XOp.notD (p := ar = ar ∧ rs = rs) rfl ?_)
                refine XL.nil ?_
                refine X.condD (p := ¬(ar = ar ∧ rs = rs)) rfl (fun h6 => ?_) (fun h6 => ?_)
                · exact absurd (by first | rfl | exact ⟨rfl, rfl⟩) h6
                · refine X.skip ?_
                  refine X.seq ?_
                  refine X.seq ?_
                  refine X.drawG [intsH 2 x13 ar, pairsD 2 156 x14 rs, intsH 2 x17 ((insB ar rs f xs ((t)) p).1), stepsD 2 74 x18 ((insB ar rs f xs ((t)) p).2.1), cellsH b8 [x17, x18] 63, intsH 2 x15 f, stepsD 2 74 x16 xs, intsH 2 v3 ((t)), cellsH b7 [x15, x16] 63, cellsH b6 [x13, x14] 29, cellsH b5 [u6, u7] 63, cellsH b2 [fv, xsv] 58, cellsH b1 [arv, rsv] 41] L 3 [[], [], []] [[], [], [1]] [[], [], []] (phiG [fun FF us v => v = (.agg #[x15, x16] : Value), fun FF us v => v = (.agg #[fv, xsv] : Value), fun FF us v => (.agg #[((aggAt v 0)), ((aggAt v 1))] : Value) = v ∧ (IntsF FF ((aggAt v 0)) f) ∧ (StepsF FF ((aggAt v 1)) xs)]) (ownL [fun us v => [], fun us v => [], fun us v => []]) mixed rfl rfl (by kernel_rfl) (by kernel_rfl) (MonoG.get (MonoG.cons (fun le h => h) (MonoG.cons (fun le h => h) (MonoG.cons (fun le h => ⟨h.1, h.2.1.mono le, h.2.2.mono le⟩) MonoG.nil)))) ?_ ?_
                  · refine stepsG.cons (fun vals Fs R leFs hpZ => ?_) ?_
                    · replace har := har.mono leFs
                      replace hrs := hrs.mono leFs
                      replace hf := hf.mono leFs
                      replace hxs := hxs.mono leFs
                      replace ht := ht.mono leFs
                      replace f1_1hr1 := f1_1hr1.mono leFs
                      replace f1_1hr2 := f1_1hr2.mono leFs
                      replace f3_1hr1 := f3_1hr1.mono leFs
                      replace f3_1hr2 := f3_1hr2.mono leFs
                      replace f5_1ha := f5_1ha.mono leFs
                      replace f7_1hr1 := f7_1hr1.mono leFs
                      replace f7_1hr2 := f7_1hr2.mono leFs
                      replace f2_2hr1 := f2_2hr1.mono leFs
                      replace f2_2hr2 := f2_2hr2.mono leFs
                      refine XG.op (XOp.loadN [x15, x16] Try.isAgg63 Try.sizeOf63 rfl rfl (Rd.ownN [_, _, _, _, _, _, _, _] rfl rfl) ?_)
                      exact ⟨rfl, rfl⟩
                    refine stepsG.cons (fun vals Fs R leFs hpZ => ?_) ?_
                    · replace har := har.mono leFs
                      replace hrs := hrs.mono leFs
                      replace hf := hf.mono leFs
                      replace hxs := hxs.mono leFs
                      replace ht := ht.mono leFs
                      replace f1_1hr1 := f1_1hr1.mono leFs
                      replace f1_1hr2 := f1_1hr2.mono leFs
                      replace f3_1hr1 := f3_1hr1.mono leFs
                      replace f3_1hr2 := f3_1hr2.mono leFs
                      replace f5_1ha := f5_1ha.mono leFs
                      replace f7_1hr1 := f7_1hr1.mono leFs
                      replace f7_1hr2 := f7_1hr2.mono leFs
                      replace f2_2hr1 := f2_2hr1.mono leFs
                      replace f2_2hr2 := f2_2hr2.mono leFs
                      refine XG.op (XOp.loadN [fv, xsv] Try.isAgg58 Try.sizeOf58 rfl rfl (Rd.ownN [_, _, _, _, _, _, _, _, _, _, _] rfl rfl) ?_)
                      exact ⟨rfl, rfl⟩
                    refine stepsG.cons (fun vals Fs R leFs hpZ => ?_) ?_
                    · have e1 : vals 1 = (.agg #[fv, xsv] : Value) := hpZ 1 (by decide)
                      replace har := har.mono leFs
                      replace hrs := hrs.mono leFs
                      replace hf := hf.mono leFs
                      replace hxs := hxs.mono leFs
                      replace ht := ht.mono leFs
                      replace f1_1hr1 := f1_1hr1.mono leFs
                      replace f1_1hr2 := f1_1hr2.mono leFs
                      replace f3_1hr1 := f3_1hr1.mono leFs
                      replace f3_1hr2 := f3_1hr2.mono leFs
                      replace f5_1ha := f5_1ha.mono leFs
                      replace f7_1hr1 := f7_1hr1.mono leFs
                      replace f7_1hr2 := f7_1hr2.mono leFs
                      replace f2_2hr1 := f2_2hr1.mono leFs
                      replace f2_2hr2 := f2_2hr2.mono leFs
                      rw [(envs_of_sat (l := [(1, (.agg #[fv, xsv] : Value))]) ⟨e1, trivial⟩).symm]
                      refine XG.op (XOp.call (args := [.agg #[fv, xsv]]) Try.call41 rfl (toWalk_spec hf hxs (hfl := (by first | assumption | rfl | omega | (left; simp; done) | (right; simp; done))) (hsl := (by first | assumption | rfl | omega | (left; simp; done) | (right; simp; done))) (hsb := (by first | assumption | rfl | omega | (left; simp; done) | (right; simp; done)))) ?_)
                      rintro _ F25 _ le25 ⟨x25, x26, rfl, hr35, hr36, hr37, rfl⟩
                      replace har := har.mono le25
                      replace hrs := hrs.mono le25
                      replace hf := hf.mono le25
                      replace hxs := hxs.mono le25
                      replace ht := ht.mono le25
                      replace f1_1hr1 := f1_1hr1.mono le25
                      replace f1_1hr2 := f1_1hr2.mono le25
                      replace f3_1hr1 := f3_1hr1.mono le25
                      replace f3_1hr2 := f3_1hr2.mono le25
                      replace f5_1ha := f5_1ha.mono le25
                      replace f7_1hr1 := f7_1hr1.mono le25
                      replace f7_1hr2 := f7_1hr2.mono le25
                      replace f2_2hr1 := f2_2hr1.mono le25
                      replace f2_2hr2 := f2_2hr2.mono le25
                      exact ⟨⟨rfl, hr35, hr36⟩, rfl⟩
                    exact stepsG.nil
                  · intro vals F26 le26 hphi
                    have e0 : vals 0 = (.agg #[x15, x16] : Value) := hphi 0 (by decide)
                    have e1 : vals 1 = (.agg #[fv, xsv] : Value) := hphi 1 (by decide)
                    obtain ⟨e2, f2_3hr1, f2_3hr2⟩ := hphi 2 (by decide)
                    generalize hu11 : ((aggAt (vals 2) 0)) = u10 at e0 e1 e2 f2_3hr1 f2_3hr2
                    generalize hu12 : ((aggAt (vals 2) 1)) = u11 at e0 e1 e2 f2_3hr1 f2_3hr2
                    rw [(envs_of_sat (l := [(0, (.agg #[x15, x16] : Value)), (1, (.agg #[fv, xsv] : Value)), (2, (.agg #[u10, u11] : Value))]) ⟨e0, e1, (e2).symm, trivial⟩).symm]
                    replace har := har.mono le26
                    replace hrs := hrs.mono le26
                    replace hf := hf.mono le26
                    replace hxs := hxs.mono le26
                    replace ht := ht.mono le26
                    replace f1_1hr1 := f1_1hr1.mono le26
                    replace f1_1hr2 := f1_1hr2.mono le26
                    replace f3_1hr1 := f3_1hr1.mono le26
                    replace f3_1hr2 := f3_1hr2.mono le26
                    replace f5_1ha := f5_1ha.mono le26
                    replace f7_1hr1 := f7_1hr1.mono le26
                    replace f7_1hr2 := f7_1hr2.mono le26
                    replace f2_2hr1 := f2_2hr1.mono le26
                    replace f2_2hr2 := f2_2hr2.mono le26
                    show XL _ _ _ _ _ _ _ (intsH 2 x13 ar :: pairsD 2 156 x14 rs :: intsH 2 x17 ((insB ar rs f xs ((t)) p).1) :: stepsD 2 74 x18 ((insB ar rs f xs ((t)) p).2.1) :: cellsH b8 [x17, x18] 63 :: intsH 2 x15 f :: stepsD 2 74 x16 xs :: intsH 2 v3 ((t)) :: cellsH b7 [x15, x16] 63 :: cellsH b6 [x13, x14] 29 :: cellsH b5 [u6, u7] 63 :: cellsH b2 [fv, xsv] 58 :: cellsH b1 [arv, rsv] 41 :: L)
                    refine XL.cons (XOp.lend [_, _, _, _, _] _ _ rfl (fun F27 le27 hz11 => ?_))
                    refine id (XOp.lend [_, _, _, _, _] _ _ rfl (fun F28 le28 hz12 => ?_))
                    have hf11 : IntsF _ x15 f := (intsH.fz (xs := f) hz11).mono le28
                    have hf12 : StepsF _ x16 xs := stepsD.fz hz12
                    refine id (XOp.call (args := [.agg #[x15, x16], .agg #[u10, u11]]) Try.call43 rfl (eqWalk_spec hf11 hf12 ((f2_3hr1.mono (FLe.trans le27 le28))) ((f2_3hr2.mono (FLe.trans le27 le28))) (hfl := (by first | assumption | rfl | omega | (left; simp; done) | (right; simp; done))) (hal := (by first | assumption | rfl | omega | (left; simp; done) | (right; simp; done))) (hbd := (by first | assumption | exact fun i hi => by have := hnd i hi; omega))) ?_)
                    rintro _ _ _ _ ⟨rfl, rfl, rfl⟩
                    show XL _ _ _ _ _ _ _ (intsH 2 x15 f :: stepsD 2 74 x16 xs :: intsH 2 x13 ar :: pairsD 2 156 x14 rs :: intsH 2 x17 ((insB ar rs f xs ((t)) p).1) :: stepsD 2 74 x18 ((insB ar rs f xs ((t)) p).2.1) :: cellsH b8 [x17, x18] 63 :: intsH 2 v3 ((t)) :: cellsH b7 [x15, x16] 63 :: cellsH b6 [x13, x14] 29 :: cellsH b5 [u6, u7] 63 :: cellsH b2 [fv, xsv] 58 :: cellsH b1 [arv, rsv] 41 :: L)
                    refine XL.cons (XOp.notD (p := f = f ∧ xs = xs) rfl ?_)
                    refine XL.nil ?_
                    refine X.condD (p := ¬(f = f ∧ xs = xs)) rfl (fun h7 => ?_) (fun h7 => ?_)
                    · exact absurd (by first | rfl | exact ⟨rfl, rfl⟩) h7
                    · refine X.skip ?_
                      refine X.seq ?_
                      refine X.seq ?_
                      refine X.region ?_
                      refine XL.cons (XOp.move (v3) rfl ?_)
                      refine XL.cons (XOp.move (tv) rfl ?_)
                      refine XL.cons (XOp.call (args := [tv]) Try.call28 rfl (toInt64S_spec ht (hlx := (by first | assumption | rfl | omega | (left; simp; done) | (right; simp; done)))) ?_)
                      rintro v4 _ _ _ ⟨rfl, hs4, rfl⟩
                      refine XL.cons (XOp.lend [_, _, _, _, _, _, _, _] _ _ rfl (fun F29 le29 hz13 => ?_))
                      refine id (XOp.lend [] _ _ rfl (fun F30 le30 hz14 => ?_))
                      have hf13 : IntsF _ v3 ((t)) := (intsH.fz (xs := (t)) hz13).mono le30
                      have hf14 : IntsF _ v4 ((t)) := intsH.fz (xs := (t)) hz14
                      refine id (XOp.call (args := [v3, v4]) Try.call31 rfl (eqInt64S_spec hf13 hf14 (hbd := (by first | assumption | rfl | omega | (left; simp; done) | (right; simp; done)))) ?_)
                      rintro _ _ _ _ ⟨rfl, rfl, rfl⟩
                      show XL _ _ _ _ _ _ _ (intsH 2 v3 ((t)) :: intsH 2 v4 ((t)) :: intsH 2 x15 f :: stepsD 2 74 x16 xs :: intsH 2 x13 ar :: pairsD 2 156 x14 rs :: intsH 2 x17 ((insB ar rs f xs ((t)) p).1) :: stepsD 2 74 x18 ((insB ar rs f xs ((t)) p).2.1) :: cellsH b8 [x17, x18] 63 :: cellsH b7 [x15, x16] 63 :: cellsH b6 [x13, x14] 29 :: cellsH b5 [u6, u7] 63 :: cellsH b2 [fv, xsv] 58 :: cellsH b1 [arv, rsv] 41 :: L)
                      refine XL.cons (XOp.notD (p := ((t)) = ((t))) rfl ?_)
                      refine XL.nil ?_
                      refine X.condD (p := ¬(((t)) = ((t)))) rfl (fun h8 => ?_) (fun h8 => ?_)
                      · exact absurd (by first | rfl | exact ⟨rfl, rfl⟩) h8
                      · refine X.skip ?_
                        refine X.seq ?_
                        refine X.region ?_
                        refine XL.cons (XOp.assign (.int .i64 (1)) rfl ?_)
                        refine XL.nil ?_
                        refine X.seq ?_
                        refine X.region ?_
                        refine XL.cons (XOp.loadN [x13, x14] Try.isAgg29 Try.sizeOf29 rfl rfl (Rd.ownN [_, _, _, _, _, _, _, _, _, _] rfl rfl) ?_)
                        refine XL.cons (XOp.move (.int .i64 (1)) rfl ?_)
                        refine XL.weaken (Sub.front (A := [_, _, _, _, _])) ?_
                        show XL _ _ _ _ _ _ _ (pairsD 2 156 x14 rs :: intsH 2 v3 ((t)) :: intsH 2 v4 ((t)) :: intsH 2 x15 f :: stepsD 2 74 x16 xs :: intsH 2 x13 ar :: intsH 2 x17 ((insB ar rs f xs ((t)) p).1) :: stepsD 2 74 x18 ((insB ar rs f xs ((t)) p).2.1) :: cellsH b8 [x17, x18] 63 :: cellsH b7 [x15, x16] 63 :: cellsH b6 [x13, x14] 29 :: cellsH b5 [u6, u7] 63 :: cellsH b2 [fv, xsv] 58 :: cellsH b1 [arv, rsv] 41 :: L)
                        refine XL.weaken (Sub.front (A := [_, _, _, _, _])) ?_
                        show XL _ _ _ _ _ _ _ (intsH 2 x13 ar :: pairsD 2 156 x14 rs :: intsH 2 v3 ((t)) :: intsH 2 v4 ((t)) :: intsH 2 x15 f :: stepsD 2 74 x16 xs :: intsH 2 x17 ((insB ar rs f xs ((t)) p).1) :: stepsD 2 74 x18 ((insB ar rs f xs ((t)) p).2.1) :: cellsH b8 [x17, x18] 63 :: cellsH b7 [x15, x16] 63 :: cellsH b6 [x13, x14] 29 :: cellsH b5 [u6, u7] 63 :: cellsH b2 [fv, xsv] 58 :: cellsH b1 [arv, rsv] 41 :: L)
                        refine XL.cons (XOp.call (args := [.agg #[x13, x14], .int .i64 (1)]) Try.call35 rfl (markSystem_spec (by (try simp only [List.length_append]); omega) (by omega)) ?_)
                        rintro _ _ _ _ ⟨m1, m2, hm1, hk1, rfl, rfl, rfl⟩
                        have hml1 := congrArg List.length hm1
                        rw [iota_len] at hml1
                        try simp only [List.length_append] at hml1
                        refine XL.cons (XOp.assign (.int .i64 (1 + (((ar) ++ (rs.flatMap flatPair)).length : Int))) rfl ?_)
                        refine XL.nil ?_
                        refine X.seq ?_
                        refine X.region ?_
                        refine XL.cons (XOp.loadN [x15, x16] Try.isAgg63 Try.sizeOf63 rfl rfl (Rd.ownN [_, _, _, _, _, _, _, _, _] rfl rfl) ?_)
                        refine XL.cons (XOp.move (.int .i64 (1 + (((ar) ++ (rs.flatMap flatPair)).length : Int))) rfl ?_)
                        refine XL.weaken (Sub.front (A := [_, _, _, _, _])) ?_
                        show XL _ _ _ _ _ _ _ (stepsD 2 74 x16 xs :: intsH 2 x13 m1 :: pairsD 2 156 x14 m2 :: intsH 2 v3 ((t)) :: intsH 2 v4 ((t)) :: intsH 2 x15 f :: intsH 2 x17 ((insB ar rs f xs ((t)) p).1) :: stepsD 2 74 x18 ((insB ar rs f xs ((t)) p).2.1) :: cellsH b8 [x17, x18] 63 :: cellsH b7 [x15, x16] 63 :: cellsH b6 [x13, x14] 29 :: cellsH b5 [u6, u7] 63 :: cellsH b2 [fv, xsv] 58 :: cellsH b1 [arv, rsv] 41 :: L)
                        refine XL.weaken (Sub.front (A := [_, _, _, _, _])) ?_
                        show XL _ _ _ _ _ _ _ (intsH 2 x15 f :: stepsD 2 74 x16 xs :: intsH 2 x13 m1 :: pairsD 2 156 x14 m2 :: intsH 2 v3 ((t)) :: intsH 2 v4 ((t)) :: intsH 2 x17 ((insB ar rs f xs ((t)) p).1) :: stepsD 2 74 x18 ((insB ar rs f xs ((t)) p).2.1) :: cellsH b8 [x17, x18] 63 :: cellsH b7 [x15, x16] 63 :: cellsH b6 [x13, x14] 29 :: cellsH b5 [u6, u7] 63 :: cellsH b2 [fv, xsv] 58 :: cellsH b1 [arv, rsv] 41 :: L)
                        refine XL.cons (XOp.call (args := [.agg #[x15, x16], .int .i64 (1 + (((ar) ++ (rs.flatMap flatPair)).length : Int))]) Try.call44 rfl (markWalk_spec (by (try simp only [List.length_append]); omega) (by omega)) ?_)
                        rintro _ _ _ _ ⟨m3, m4, hm2, hk2, rfl, rfl, rfl⟩
                        have hml2 := congrArg List.length hm2
                        rw [iota_len] at hml2
                        try simp only [List.length_append] at hml2
                        refine XL.cons (XOp.assign (.int .i64 ((1 + (((ar) ++ (rs.flatMap flatPair)).length : Int)) + (((f) ++ (xs.flatMap flatStep)).length : Int))) rfl ?_)
                        refine XL.nil ?_
                        refine X.seq ?_
                        refine X.region ?_
                        refine XL.cons (XOp.move (v3) rfl ?_)
                        refine XL.cons (XOp.move (.int .i64 ((1 + (((ar) ++ (rs.flatMap flatPair)).length : Int)) + (((f) ++ (xs.flatMap flatStep)).length : Int))) rfl ?_)
                        refine XL.weaken (Sub.front (A := [_, _, _, _])) ?_
                        show XL _ _ _ _ _ _ _ (intsH 2 v3 ((t)) :: intsH 2 x15 m3 :: stepsD 2 74 x16 m4 :: intsH 2 x13 m1 :: pairsD 2 156 x14 m2 :: intsH 2 v4 ((t)) :: intsH 2 x17 ((insB ar rs f xs ((t)) p).1) :: stepsD 2 74 x18 ((insB ar rs f xs ((t)) p).2.1) :: cellsH b8 [x17, x18] 63 :: cellsH b7 [x15, x16] 63 :: cellsH b6 [x13, x14] 29 :: cellsH b5 [u6, u7] 63 :: cellsH b2 [fv, xsv] 58 :: cellsH b1 [arv, rsv] 41 :: L)
                        refine XL.cons (XOp.call (args := [v3, .int .i64 ((1 + (((ar) ++ (rs.flatMap flatPair)).length : Int)) + (((f) ++ (xs.flatMap flatStep)).length : Int))]) Try.call36 rfl (markInt64S_spec (by (try simp only [List.length_append]); omega)) ?_)
                        rintro _ _ _ _ ⟨m5, hm3, rfl, rfl, rfl⟩
                        have hml3 := congrArg List.length hm3
                        rw [iota_len] at hml3
                        try simp only [List.length_append] at hml3
                        refine XL.cons (XOp.assign (.int .i64 (((1 + (((ar) ++ (rs.flatMap flatPair)).length : Int)) + (((f) ++ (xs.flatMap flatStep)).length : Int)) + (((((t)))).length : Int))) rfl ?_)
                        refine XL.nil ?_
                        refine X.seq ?_
                        refine X.seq ?_
                        refine X.region ?_
                        refine XL.cons (XOp.move (.int .i64 (((1 + (((ar) ++ (rs.flatMap flatPair)).length : Int)) + (((f) ++ (xs.flatMap flatStep)).length : Int)) + (((((t)))).length : Int))) rfl ?_)
                        refine XL.cons (XOp.lss (a := ((1 + (((ar) ++ (rs.flatMap flatPair)).length : Int)) + (((f) ++ (xs.flatMap flatStep)).length : Int)) + (((((t)))).length : Int)) (b := 0) rfl rfl ?_)
                        refine XL.cons (XOp.move (.bool (decide ((((1 + (((ar) ++ (rs.flatMap flatPair)).length : Int)) + (((f) ++ (xs.flatMap flatStep)).length : Int)) + (((((t)))).length : Int) : Int) < 0))) rfl ?_)
                        by_cases h9 : (((1 + (((ar) ++ (rs.flatMap flatPair)).length : Int)) + (((f) ++ (xs.flatMap flatStep)).length : Int)) + (((((t)))).length : Int) : Int) < 0
                        · exact absurd h9 (by omega)
                        · refine XL.yes (t := 95) rfl (congrArg Value.bool (decide_eq_false h9)) (XOp.loadN [x17, x18] Try.isAgg63 Try.sizeOf63 rfl rfl (Rd.ownN [_, _, _, _, _, _, _, _] rfl rfl) ?_)
                          refine XL.yes (t := 95) rfl (congrArg Value.bool (decide_eq_false h9)) (XOp.loadN [u6, u7] Try.isAgg63 Try.sizeOf63 rfl rfl (Rd.ownN [_, _, _, _, _, _, _, _, _, _, _] rfl rfl) ?_)
                          refine XL.yes (t := 95) rfl (congrArg Value.bool (decide_eq_false h9)) (XOp.lend [_, _, _, _, _, _] _ _ rfl (fun F31 le31 hz15 => ?_))
                          refine id (XOp.lend [_, _, _, _, _, _] _ _ rfl (fun F32 le32 hz16 => ?_))
                          have hf15 : IntsF _ x17 ((insB ar rs f xs ((t)) p).1) := (intsH.fz (xs := (insB ar rs f xs ((t)) p).1) hz15).mono le32
                          have hf16 : StepsF _ x18 ((insB ar rs f xs ((t)) p).2.1) := stepsD.fz hz16
                          refine id (XOp.call (args := [.agg #[x17, x18], .agg #[u6, u7]]) Try.call43 rfl (eqWalk_spec hf15 hf16 ((f7_1hr1.mono (FLe.trans le31 le32))) ((f7_1hr2.mono (FLe.trans le31 le32))) (hfl := (by first | assumption | rfl | omega | (left; simp; done) | (right; simp; done))) (hal := (by first | assumption | rfl | omega | (left; simp; done) | (right; simp; done))) (hbd := (by first | assumption | exact fun i hi => by have := hnd i hi; omega))) ?_)
                          rintro _ _ _ _ ⟨rfl, rfl, rfl⟩
                          show XL _ _ _ _ _ _ _ (intsH 2 x17 ((insB ar rs f xs ((t)) p).1) :: stepsD 2 74 x18 ((insB ar rs f xs ((t)) p).2.1) :: intsH 2 v3 m5 :: intsH 2 x15 m3 :: stepsD 2 74 x16 m4 :: intsH 2 x13 m1 :: pairsD 2 156 x14 m2 :: intsH 2 v4 ((t)) :: cellsH b8 [x17, x18] 63 :: cellsH b7 [x15, x16] 63 :: cellsH b6 [x13, x14] 29 :: cellsH b5 [u6, u7] 63 :: cellsH b2 [fv, xsv] 58 :: cellsH b1 [arv, rsv] 41 :: L)
                          refine XL.yes (t := 95) rfl (congrArg Value.bool (decide_eq_false h9)) (XOp.notD (p := ((insB ar rs f xs ((t)) p).1) = ((insB ar rs f xs ((t)) p).1) ∧ ((insB ar rs f xs ((t)) p).2.1) = ((insB ar rs f xs ((t)) p).2.1)) rfl ?_)
                          refine XL.cons (XOp.pickF (.bool (decide (¬(((insB ar rs f xs ((t)) p).1) = ((insB ar rs f xs ((t)) p).1) ∧ ((insB ar rs f xs ((t)) p).2.1) = ((insB ar rs f xs ((t)) p).2.1))))) (congrArg Value.bool (decide_eq_false h9)) rfl ?_)
                          refine XL.cons (XOp.move (.bool (decide (¬(((insB ar rs f xs ((t)) p).1) = ((insB ar rs f xs ((t)) p).1) ∧ ((insB ar rs f xs ((t)) p).2.1) = ((insB ar rs f xs ((t)) p).2.1))))) rfl ?_)
                          refine XL.yes (t := 101) rfl (congrArg Value.bool (decide_eq_false h4)) (XOp.move (.bool ((insB ar rs f xs ((t)) p).2.2)) rfl ?_)
                          refine XL.yes (t := 101) rfl (congrArg Value.bool (decide_eq_false h4)) (XOp.move (.bool ((insB ar rs f xs ((t)) p).2.2)) rfl ?_)
                          refine XL.yes (t := 101) rfl (congrArg Value.bool (decide_eq_false h4)) (XOp.neB (a := (insB ar rs f xs ((t)) p).2.2) (b := (insB ar rs f xs ((t)) p).2.2) Try.runUnderlying4 rfl rfl ?_)
                          refine XL.cons (XOp.pickF (.bool (decide (((insB ar rs f xs ((t)) p).2.2) ≠ ((insB ar rs f xs ((t)) p).2.2)))) (congrArg Value.bool (decide_eq_false h4)) rfl ?_)
                          refine XL.nil ?_
                          refine X.condF (congrArg Value.bool (decide_eq_false h5)) ?_
                          refine X.skip ?_
                          refine X.seq ?_
                          refine X.region ?_
                          refine XL.cons (XOp.assign (.int .i64 (1)) rfl ?_)
                          refine XL.nil ?_
                          refine X.seq ?_
                          refine X.region ?_
                          refine XL.cons (XOp.loadN [x17, x18] Try.isAgg63 Try.sizeOf63 rfl rfl (Rd.ownN [_, _, _, _, _, _, _, _] rfl rfl) ?_)
                          refine XL.cons (XOp.move (.int .i64 (1)) rfl ?_)
                          refine XL.weaken (Sub.front (A := [_])) ?_
                          show XL _ _ _ _ _ _ _ (stepsD 2 74 x18 ((insB ar rs f xs ((t)) p).2.1) :: intsH 2 x17 ((insB ar rs f xs ((t)) p).1) :: intsH 2 v3 m5 :: intsH 2 x15 m3 :: stepsD 2 74 x16 m4 :: intsH 2 x13 m1 :: pairsD 2 156 x14 m2 :: intsH 2 v4 ((t)) :: cellsH b8 [x17, x18] 63 :: cellsH b7 [x15, x16] 63 :: cellsH b6 [x13, x14] 29 :: cellsH b5 [u6, u7] 63 :: cellsH b2 [fv, xsv] 58 :: cellsH b1 [arv, rsv] 41 :: L)
                          refine XL.weaken (Sub.front (A := [_])) ?_
                          show XL _ _ _ _ _ _ _ (intsH 2 x17 ((insB ar rs f xs ((t)) p).1) :: stepsD 2 74 x18 ((insB ar rs f xs ((t)) p).2.1) :: intsH 2 v3 m5 :: intsH 2 x15 m3 :: stepsD 2 74 x16 m4 :: intsH 2 x13 m1 :: pairsD 2 156 x14 m2 :: intsH 2 v4 ((t)) :: cellsH b8 [x17, x18] 63 :: cellsH b7 [x15, x16] 63 :: cellsH b6 [x13, x14] 29 :: cellsH b5 [u6, u7] 63 :: cellsH b2 [fv, xsv] 58 :: cellsH b1 [arv, rsv] 41 :: L)
                          refine XL.cons (XOp.call (args := [.agg #[x17, x18], .int .i64 (1)]) Try.call44 rfl (markWalk_spec (by (try simp only [List.length_append]); omega) (by omega)) ?_)
                          rintro _ _ _ _ ⟨m6, m7, hm4, hk3, rfl, rfl, rfl⟩
                          have hml4 := congrArg List.length hm4
                          rw [iota_len] at hml4
                          try simp only [List.length_append] at hml4
                          refine XL.cons (XOp.assign (.int .i64 (1 + (((((insB ar rs f xs ((t)) p).1)) ++ (((insB ar rs f xs ((t)) p).2.1).flatMap flatStep)).length : Int))) rfl ?_)
                          refine XL.nil ?_
                          refine X.seq ?_
                          refine X.region ?_
                          refine XL.cons (XOp.assign (.int .i64 (1)) rfl ?_)
                          refine XL.nil ?_
                          refine X.seq ?_
                          refine X.region ?_
                          refine XL.cons (XOp.loadN [x17, x18] Try.isAgg63 Try.sizeOf63 rfl rfl (Rd.ownN [_, _, _, _, _, _, _, _] rfl rfl) ?_)
                          refine XL.cons (XOp.move (.int .i64 (1)) rfl ?_)
                          refine XL.cons (XOp.lend [] _ _ rfl (fun F33 le33 hz17 => ?_))
                          refine id (XOp.lend [] _ _ rfl (fun F34 le34 hz18 => ?_))
                          have hf17 : IntsF _ x17 m6 := (intsH.fz (xs := m6) hz17).mono le34
                          have hf18 : StepsF _ x18 m7 := stepsD.fz hz18
                          refine id (XOp.call (args := [.agg #[x17, x18], .int .i64 (1)]) Try.call58 rfl (heldWalk_spec (z := 1) hf17 hf18 (hzb := (by first | assumption | rfl | omega | (left; simp; done) | (right; simp; done))) (hxl := (by first | assumption | rfl | omega | (left; simp; done) | (right; simp; done)))) ?_)
                          rintro _ _ _ _ ⟨rfl, rfl, rfl⟩
                          show XL _ _ _ _ _ _ _ (intsH 2 x17 m6 :: stepsD 2 74 x18 m7 :: intsH 2 v3 m5 :: intsH 2 x15 m3 :: stepsD 2 74 x16 m4 :: intsH 2 x13 m1 :: pairsD 2 156 x14 m2 :: intsH 2 v4 ((t)) :: cellsH b8 [x17, x18] 63 :: cellsH b7 [x15, x16] 63 :: cellsH b6 [x13, x14] 29 :: cellsH b5 [u6, u7] 63 :: cellsH b2 [fv, xsv] 58 :: cellsH b1 [arv, rsv] 41 :: L)
                          refine XL.cons (XOp.assign (.int .i64 (heldF (m6 ++ m7.flatMap flatStep) 1)) rfl ?_)
                          refine XL.nil ?_
                          refine X.seq ?_
                          refine X.seq ?_
                          refine X.region ?_
                          refine XL.cons (XOp.move (.int .i64 (heldF (m6 ++ m7.flatMap flatStep) 1)) rfl ?_)
                          refine XL.cons (XOp.lss (a := heldF (m6 ++ m7.flatMap flatStep) 1) (b := 0) rfl rfl ?_)
                          refine XL.nil ?_
                          refine X.condD (p := (heldF (m6 ++ m7.flatMap flatStep) 1 : Int) < 0) rfl (fun h10 => ?_) (fun h10 => ?_)
                          · rw [hm4, heldF_iota] at h10
                            exact absurd h10 (by omega)
                          · refine X.skip ?_
                            refine X.seq ?_
                            refine X.seq ?_
                            refine X.region ?_
                            refine XL.cons (XOp.move (.int .i64 (heldF (m6 ++ m7.flatMap flatStep) 1)) rfl ?_)
                            refine XL.cons (XOp.move (.int .i64 (1 + (((((insB ar rs f xs ((t)) p).1)) ++ (((insB ar rs f xs ((t)) p).2.1).flatMap flatStep)).length : Int))) rfl ?_)
                            refine XL.cons (XOp.neq (a := heldF (m6 ++ m7.flatMap flatStep) 1) (b := 1 + (((((insB ar rs f xs ((t)) p).1)) ++ (((insB ar rs f xs ((t)) p).2.1).flatMap flatStep)).length : Int)) rfl rfl ?_)
                            refine XL.nil ?_
                            refine X.condD (p := (heldF (m6 ++ m7.flatMap flatStep) 1 : Int) ≠ 1 + (((((insB ar rs f xs ((t)) p).1)) ++ (((insB ar rs f xs ((t)) p).2.1).flatMap flatStep)).length : Int)) rfl (fun h11 => ?_) (fun h11 => ?_)
                            · exact absurd (by rw [hm4, heldF_iota]) h11
                            · refine X.skip ?_
                              refine X.seq ?_
                              refine X.drawG [intsH 2 x17 m6, stepsD 2 74 x18 m7, intsH 2 v3 m5, intsH 2 x15 m3, stepsD 2 74 x16 m4, intsH 2 x13 m1, pairsD 2 156 x14 m2, intsH 2 v4 ((t)), cellsH b8 [x17, x18] 63, cellsH b7 [x15, x16] 63, cellsH b6 [x13, x14] 29, cellsH b5 [u6, u7] 63, cellsH b2 [fv, xsv] 58, cellsH b1 [arv, rsv] 41] L 13 [[], [], [], [], [], [], [], [], [7], [7], [], [], [7, 11]] [[], [0], [], [2], [], [4], [], [1, 3, 5, 6], [7], [7, 8], [7, 8], [], [7, 9, 11]] [[], [], [], [], [], [], [], [], [], [], [], [], [11]] (phiG [fun FF us v => v = (.agg #[arv, rsv] : Value), fun FF us v => (.agg #[((aggAt v 0)), ((aggAt v 1))] : Value) = v ∧ (IntsF FF ((aggAt v 0)) ar) ∧ (PairsF FF ((aggAt v 1)) rs), fun FF us v => v = (.agg #[fv, xsv] : Value), fun FF us v => (.agg #[((aggAt v 0)), ((aggAt v 1))] : Value) = v ∧ (IntsF FF ((aggAt v 0)) f) ∧ (StepsF FF ((aggAt v 1)) xs), fun FF us v => v = tv, fun FF us v => ((v) : Value) = v ∧ (IntsF FF (v) (t)), fun FF us v => v = (.int .i64 (p) : Value), fun FF us v => (.tuple #[.agg #[((aggAt (tupAt v 0) 0)), ((aggAt (tupAt v 0) 1))], .bool ((insB ar rs f xs ((t)) p).2.2)] : Value) = v ∧ (IntsF FF ((aggAt (tupAt v 0) 0)) (insB ar rs f xs ((t)) p).1) ∧ (StepsF FF ((aggAt (tupAt v 0) 1)) (insB ar rs f xs ((t)) p).2.1), fun FF us v => v = (.tuple #[.agg #[((aggAt (tupAt (us.getD 0 undef) 0) 0)), ((aggAt (tupAt (us.getD 0 undef) 0) 1))], .bool ((insB ar rs f xs ((t)) p).2.2)] : Value), fun FF us v => v = (.agg #[((aggAt (tupAt (us.getD 0 undef) 0) 0)), ((aggAt (tupAt (us.getD 0 undef) 0) 1))] : Value), fun FF us v => v = (.bool ((insB ar rs f xs ((t)) p).2.2) : Value), fun FF us v => v = ptr (blk v) 0, fun FF us v => True]) (ownL [fun us v => [], fun us v => [], fun us v => [], fun us v => [], fun us v => [], fun us v => [], fun us v => [], fun us v => [], fun us v => [], fun us v => [], fun us v => [], fun us v => [cellsH (blk v) [(.slice none 0 0), (.slice none 0 0)] 63], fun us v => [cellsH (blk (us.getD 1 undef)) [((aggAt (tupAt (us.getD 0 undef) 0) 0)), ((aggAt (tupAt (us.getD 0 undef) 0) 1))] 63]]) mixed rfl rfl (by kernel_rfl) (by kernel_rfl) (MonoG.get (MonoG.cons (fun le h => h) (MonoG.cons (fun le h => ⟨h.1, h.2.1.mono le, h.2.2.mono le⟩) (MonoG.cons (fun le h => h) (MonoG.cons (fun le h => ⟨h.1, h.2.1.mono le, h.2.2.mono le⟩) (MonoG.cons (fun le h => h) (MonoG.cons (fun le h => ⟨h.1, h.2.mono le⟩) (MonoG.cons (fun le h => h) (MonoG.cons (fun le h => ⟨h.1, h.2.1.mono le, h.2.2.mono le⟩) (MonoG.cons (fun le h => h) (MonoG.cons (fun le h => h) (MonoG.cons (fun le h => h) (MonoG.cons (fun le h => h) (MonoG.cons (fun le h => h) MonoG.nil)))))))))))))) ?_ ?_
                              · refine stepsG.cons (fun vals Fs R leFs hpZ => ?_) ?_
                                · replace har := har.mono leFs
                                  replace hrs := hrs.mono leFs
                                  replace hf := hf.mono leFs
                                  replace hxs := hxs.mono leFs
                                  replace ht := ht.mono leFs
                                  replace f1_1hr1 := f1_1hr1.mono leFs
                                  replace f1_1hr2 := f1_1hr2.mono leFs
                                  replace f3_1hr1 := f3_1hr1.mono leFs
                                  replace f3_1hr2 := f3_1hr2.mono leFs
                                  replace f5_1ha := f5_1ha.mono leFs
                                  replace f7_1hr1 := f7_1hr1.mono leFs
                                  replace f7_1hr2 := f7_1hr2.mono leFs
                                  replace f2_2hr1 := f2_2hr1.mono leFs
                                  replace f2_2hr2 := f2_2hr2.mono leFs
                                  replace f2_3hr1 := f2_3hr1.mono leFs
                                  replace f2_3hr2 := f2_3hr2.mono leFs
                                  refine XG.op (XOp.loadN [arv, rsv] Try.isAgg41 Try.sizeOf41 rfl rfl (Rd.ownN [_, _, _, _, _, _, _, _, _, _, _, _, _] rfl rfl) ?_)
                                  exact ⟨rfl, rfl⟩
                                refine stepsG.cons (fun vals Fs R leFs hpZ => ?_) ?_
                                · have e0 : vals 0 = (.agg #[arv, rsv] : Value) := hpZ 0 (by decide)
                                  replace har := har.mono leFs
                                  replace hrs := hrs.mono leFs
                                  replace hf := hf.mono leFs
                                  replace hxs := hxs.mono leFs
                                  replace ht := ht.mono leFs
                                  replace f1_1hr1 := f1_1hr1.mono leFs
                                  replace f1_1hr2 := f1_1hr2.mono leFs
                                  replace f3_1hr1 := f3_1hr1.mono leFs
                                  replace f3_1hr2 := f3_1hr2.mono leFs
                                  replace f5_1ha := f5_1ha.mono leFs
                                  replace f7_1hr1 := f7_1hr1.mono leFs
                                  replace f7_1hr2 := f7_1hr2.mono leFs
                                  replace f2_2hr1 := f2_2hr1.mono leFs
                                  replace f2_2hr2 := f2_2hr2.mono leFs
                                  replace f2_3hr1 := f2_3hr1.mono leFs
                                  replace f2_3hr2 := f2_3hr2.mono leFs
                                  rw [(envs_of_sat (l := [(0, (.agg #[arv, rsv] : Value))]) ⟨e0, trivial⟩).symm]
                                  refine XG.op (XOp.call (args := [.agg #[arv, rsv]]) Try.call27 rfl (toSystem_spec har hrs (hla := (by first | assumption | rfl | omega | (left; simp; done) | (right; simp; done))) (hrl := (by first | assumption | rfl | omega | (left; simp; done) | (right; simp; done))) (hrb := (by first | assumption | rfl | omega | (left; simp; done) | (right; simp; done)))) ?_)
                                  rintro _ F38 _ le38 ⟨x33, x34, rfl, hr47, hr48, hr49, rfl⟩
                                  replace har := har.mono le38
                                  replace hrs := hrs.mono le38
                                  replace hf := hf.mono le38
                                  replace hxs := hxs.mono le38
                                  replace ht := ht.mono le38
                                  replace f1_1hr1 := f1_1hr1.mono le38
                                  replace f1_1hr2 := f1_1hr2.mono le38
                                  replace f3_1hr1 := f3_1hr1.mono le38
                                  replace f3_1hr2 := f3_1hr2.mono le38
                                  replace f5_1ha := f5_1ha.mono le38
                                  replace f7_1hr1 := f7_1hr1.mono le38
                                  replace f7_1hr2 := f7_1hr2.mono le38
                                  replace f2_2hr1 := f2_2hr1.mono le38
                                  replace f2_2hr2 := f2_2hr2.mono le38
                                  replace f2_3hr1 := f2_3hr1.mono le38
                                  replace f2_3hr2 := f2_3hr2.mono le38
                                  exact ⟨⟨rfl, hr47, hr48⟩, rfl⟩
                                refine stepsG.cons (fun vals Fs R leFs hpZ => ?_) ?_
                                · replace har := har.mono leFs
                                  replace hrs := hrs.mono leFs
                                  replace hf := hf.mono leFs
                                  replace hxs := hxs.mono leFs
                                  replace ht := ht.mono leFs
                                  replace f1_1hr1 := f1_1hr1.mono leFs
                                  replace f1_1hr2 := f1_1hr2.mono leFs
                                  replace f3_1hr1 := f3_1hr1.mono leFs
                                  replace f3_1hr2 := f3_1hr2.mono leFs
                                  replace f5_1ha := f5_1ha.mono leFs
                                  replace f7_1hr1 := f7_1hr1.mono leFs
                                  replace f7_1hr2 := f7_1hr2.mono leFs
                                  replace f2_2hr1 := f2_2hr1.mono leFs
                                  replace f2_2hr2 := f2_2hr2.mono leFs
                                  replace f2_3hr1 := f2_3hr1.mono leFs
                                  replace f2_3hr2 := f2_3hr2.mono leFs
                                  refine XG.op (XOp.loadN [fv, xsv] Try.isAgg58 Try.sizeOf58 rfl rfl (Rd.ownN [_, _, _, _, _, _, _, _, _, _, _, _] rfl rfl) ?_)
                                  exact ⟨rfl, rfl⟩
                                refine stepsG.cons (fun vals Fs R leFs hpZ => ?_) ?_
                                · have e2 : vals 2 = (.agg #[fv, xsv] : Value) := hpZ 2 (by decide)
                                  replace har := har.mono leFs
                                  replace hrs := hrs.mono leFs
                                  replace hf := hf.mono leFs
                                  replace hxs := hxs.mono leFs
                                  replace ht := ht.mono leFs
                                  replace f1_1hr1 := f1_1hr1.mono leFs
                                  replace f1_1hr2 := f1_1hr2.mono leFs
                                  replace f3_1hr1 := f3_1hr1.mono leFs
                                  replace f3_1hr2 := f3_1hr2.mono leFs
                                  replace f5_1ha := f5_1ha.mono leFs
                                  replace f7_1hr1 := f7_1hr1.mono leFs
                                  replace f7_1hr2 := f7_1hr2.mono leFs
                                  replace f2_2hr1 := f2_2hr1.mono leFs
                                  replace f2_2hr2 := f2_2hr2.mono leFs
                                  replace f2_3hr1 := f2_3hr1.mono leFs
                                  replace f2_3hr2 := f2_3hr2.mono leFs
                                  rw [(envs_of_sat (l := [(2, (.agg #[fv, xsv] : Value))]) ⟨e2, trivial⟩).symm]
                                  refine XG.op (XOp.call (args := [.agg #[fv, xsv]]) Try.call41 rfl (toWalk_spec hf hxs (hfl := (by first | assumption | rfl | omega | (left; simp; done) | (right; simp; done))) (hsl := (by first | assumption | rfl | omega | (left; simp; done) | (right; simp; done))) (hsb := (by first | assumption | rfl | omega | (left; simp; done) | (right; simp; done)))) ?_)
                                  rintro _ F39 _ le39 ⟨x35, x36, rfl, hr50, hr51, hr52, rfl⟩
                                  replace har := har.mono le39
                                  replace hrs := hrs.mono le39
                                  replace hf := hf.mono le39
                                  replace hxs := hxs.mono le39
                                  replace ht := ht.mono le39
                                  replace f1_1hr1 := f1_1hr1.mono le39
                                  replace f1_1hr2 := f1_1hr2.mono le39
                                  replace f3_1hr1 := f3_1hr1.mono le39
                                  replace f3_1hr2 := f3_1hr2.mono le39
                                  replace f5_1ha := f5_1ha.mono le39
                                  replace f7_1hr1 := f7_1hr1.mono le39
                                  replace f7_1hr2 := f7_1hr2.mono le39
                                  replace f2_2hr1 := f2_2hr1.mono le39
                                  replace f2_2hr2 := f2_2hr2.mono le39
                                  replace f2_3hr1 := f2_3hr1.mono le39
                                  replace f2_3hr2 := f2_3hr2.mono le39
                                  exact ⟨⟨rfl, hr50, hr51⟩, rfl⟩
                                refine stepsG.cons (fun vals Fs R leFs hpZ => ?_) ?_
                                · refine XG.op (XOp.move (tv) rfl ?_)
                                  exact ⟨rfl, rfl⟩
                                refine stepsG.cons (fun vals Fs R leFs hpZ => ?_) ?_
                                · have e4 : vals 4 = tv := hpZ 4 (by decide)
                                  replace har := har.mono leFs
                                  replace hrs := hrs.mono leFs
                                  replace hf := hf.mono leFs
                                  replace hxs := hxs.mono leFs
                                  replace ht := ht.mono leFs
                                  replace f1_1hr1 := f1_1hr1.mono leFs
                                  replace f1_1hr2 := f1_1hr2.mono leFs
                                  replace f3_1hr1 := f3_1hr1.mono leFs
                                  replace f3_1hr2 := f3_1hr2.mono leFs
                                  replace f5_1ha := f5_1ha.mono leFs
                                  replace f7_1hr1 := f7_1hr1.mono leFs
                                  replace f7_1hr2 := f7_1hr2.mono leFs
                                  replace f2_2hr1 := f2_2hr1.mono leFs
                                  replace f2_2hr2 := f2_2hr2.mono leFs
                                  replace f2_3hr1 := f2_3hr1.mono leFs
                                  replace f2_3hr2 := f2_3hr2.mono leFs
                                  rw [(envs_of_sat (l := [(4, tv)]) ⟨e4, trivial⟩).symm]
                                  refine XG.op (XOp.frzF <| XOp.call (args := [tv]) Try.call28 rfl (toInt64S_spec ht (hlx := (by first | assumption | rfl | omega | (left; simp; done) | (right; simp; done)))) ?_)
                                  rintro v6 _ _ _ ⟨rfl, hs6, rfl⟩
                                  refine ⟨_, _, rfl, fun F40 le40 hz19 => ?_⟩
                                  replace har := har.mono le40
                                  replace hrs := hrs.mono le40
                                  replace hf := hf.mono le40
                                  replace hxs := hxs.mono le40
                                  replace ht := ht.mono le40
                                  replace f1_1hr1 := f1_1hr1.mono le40
                                  replace f1_1hr2 := f1_1hr2.mono le40
                                  replace f3_1hr1 := f3_1hr1.mono le40
                                  replace f3_1hr2 := f3_1hr2.mono le40
                                  replace f5_1ha := f5_1ha.mono le40
                                  replace f7_1hr1 := f7_1hr1.mono le40
                                  replace f7_1hr2 := f7_1hr2.mono le40
                                  replace f2_2hr1 := f2_2hr1.mono le40
                                  replace f2_2hr2 := f2_2hr2.mono le40
                                  replace f2_3hr1 := f2_3hr1.mono le40
                                  replace f2_3hr2 := f2_3hr2.mono le40
                                  have hf19 : IntsF F40 v6 ((t)) := intsH.fz (xs := (t)) hz19.fz
                                  exact ⟨⟨rfl, hf19⟩, rfl⟩
                                refine stepsG.cons (fun vals Fs R leFs hpZ => ?_) ?_
                                · refine XG.op (XOp.move (.int .i64 (p)) rfl ?_)
                                  exact ⟨rfl, rfl⟩
                                refine stepsG.cons (fun vals Fs R leFs hpZ => ?_) ?_
                                · obtain ⟨e1, f1_4hr1, f1_4hr2⟩ := hpZ 1 (by decide)
                                  obtain ⟨e3, f3_4hr1, f3_4hr2⟩ := hpZ 3 (by decide)
                                  obtain ⟨e5, f5_4ha⟩ := hpZ 5 (by decide)
                                  have e6 : vals 6 = (.int .i64 (p) : Value) := hpZ 6 (by decide)
                                  replace har := har.mono leFs
                                  replace hrs := hrs.mono leFs
                                  replace hf := hf.mono leFs
                                  replace hxs := hxs.mono leFs
                                  replace ht := ht.mono leFs
                                  replace f1_1hr1 := f1_1hr1.mono leFs
                                  replace f1_1hr2 := f1_1hr2.mono leFs
                                  replace f3_1hr1 := f3_1hr1.mono leFs
                                  replace f3_1hr2 := f3_1hr2.mono leFs
                                  replace f5_1ha := f5_1ha.mono leFs
                                  replace f7_1hr1 := f7_1hr1.mono leFs
                                  replace f7_1hr2 := f7_1hr2.mono leFs
                                  replace f2_2hr1 := f2_2hr1.mono leFs
                                  replace f2_2hr2 := f2_2hr2.mono leFs
                                  replace f2_3hr1 := f2_3hr1.mono leFs
                                  replace f2_3hr2 := f2_3hr2.mono leFs
                                  rw [(envs_of_sat (l := [(1, (.agg #[((aggAt (vals 1) 0)), ((aggAt (vals 1) 1))] : Value)), (3, (.agg #[((aggAt (vals 3) 0)), ((aggAt (vals 3) 1))] : Value)), (5, ((vals 5))), (6, (.int .i64 (p) : Value))]) ⟨(e1).symm, (e3).symm, (e5).symm, e6, trivial⟩).symm]
                                  refine XG.op (XOp.call (args := [.agg #[((aggAt (vals 1) 0)), ((aggAt (vals 1) 1))], .agg #[((aggAt (vals 3) 0)), ((aggAt (vals 3) 1))], ((vals 5)), .int .i64 (p)]) Try.call57 rfl (WalkInside_spec (p := p) f1_4hr1 f1_4hr2 f3_4hr1 f3_4hr2 f5_4ha (hlf := (by first | assumption | rfl | omega | (left; simp; done) | (right; simp; done))) (hsb := (by first | assumption | rfl | omega | (left; simp; done) | (right; simp; done)))) ?_)
                                  rintro _ F41 _ le41 ⟨x37, x38, rfl, hr53, hr54, hr55, rfl⟩
                                  replace har := har.mono le41
                                  replace hrs := hrs.mono le41
                                  replace hf := hf.mono le41
                                  replace hxs := hxs.mono le41
                                  replace ht := ht.mono le41
                                  replace f1_1hr1 := f1_1hr1.mono le41
                                  replace f1_1hr2 := f1_1hr2.mono le41
                                  replace f3_1hr1 := f3_1hr1.mono le41
                                  replace f3_1hr2 := f3_1hr2.mono le41
                                  replace f5_1ha := f5_1ha.mono le41
                                  replace f7_1hr1 := f7_1hr1.mono le41
                                  replace f7_1hr2 := f7_1hr2.mono le41
                                  replace f2_2hr1 := f2_2hr1.mono le41
                                  replace f2_2hr2 := f2_2hr2.mono le41
                                  replace f2_3hr1 := f2_3hr1.mono le41
                                  replace f2_3hr2 := f2_3hr2.mono le41
                                  replace f1_4hr1 := f1_4hr1.mono le41
                                  replace f1_4hr2 := f1_4hr2.mono le41
                                  replace f3_4hr1 := f3_4hr1.mono le41
                                  replace f3_4hr2 := f3_4hr2.mono le41
                                  replace f5_4ha := f5_4ha.mono le41
                                  exact ⟨⟨rfl, hr53, hr54⟩, rfl⟩
                                refine stepsG.cons (fun vals Fs R leFs hpZ => ?_) ?_
                                · obtain ⟨e7, f7_4hr1, f7_4hr2⟩ := hpZ 7 (by decide)
                                  rw [(envs_of_sat (l := [(7, (.tuple #[.agg #[((aggAt (tupAt (vals 7) 0) 0)), ((aggAt (tupAt (vals 7) 0) 1))], .bool ((insB ar rs f xs ((t)) p).2.2)] : Value))]) ⟨(e7).symm, trivial⟩).symm]
                                  refine XG.op (XOp.move (.tuple #[.agg #[((aggAt (tupAt (vals 7) 0) 0)), ((aggAt (tupAt (vals 7) 0) 1))], .bool ((insB ar rs f xs ((t)) p).2.2)]) rfl ?_)
                                  exact ⟨rfl, rfl⟩
                                refine stepsG.cons (fun vals Fs R leFs hpZ => ?_) ?_
                                · obtain ⟨e7, f7_4hr1, f7_4hr2⟩ := hpZ 7 (by decide)
                                  have e8 : vals 8 = (.tuple #[.agg #[((aggAt (tupAt (vals 7) 0) 0)), ((aggAt (tupAt (vals 7) 0) 1))], .bool ((insB ar rs f xs ((t)) p).2.2)] : Value) := hpZ 8 (by decide)
                                  rw [(envs_of_sat (l := [(7, (.tuple #[.agg #[((aggAt (tupAt (vals 7) 0) 0)), ((aggAt (tupAt (vals 7) 0) 1))], .bool ((insB ar rs f xs ((t)) p).2.2)] : Value)), (8, (.tuple #[.agg #[((aggAt (tupAt (vals 7) 0) 0)), ((aggAt (tupAt (vals 7) 0) 1))], .bool ((insB ar rs f xs ((t)) p).2.2)] : Value))]) ⟨(e7).symm, e8, trivial⟩).symm]
                                  refine XG.op (XOp.extract (.agg #[((aggAt (tupAt (vals 7) 0) 0)), ((aggAt (tupAt (vals 7) 0) 1))]) rfl rfl ?_)
                                  exact ⟨rfl, rfl⟩
                                refine stepsG.cons (fun vals Fs R leFs hpZ => ?_) ?_
                                · obtain ⟨e7, f7_4hr1, f7_4hr2⟩ := hpZ 7 (by decide)
                                  have e8 : vals 8 = (.tuple #[.agg #[((aggAt (tupAt (vals 7) 0) 0)), ((aggAt (tupAt (vals 7) 0) 1))], .bool ((insB ar rs f xs ((t)) p).2.2)] : Value) := hpZ 8 (by decide)
                                  rw [(envs_of_sat (l := [(7, (.tuple #[.agg #[((aggAt (tupAt (vals 7) 0) 0)), ((aggAt (tupAt (vals 7) 0) 1))], .bool ((insB ar rs f xs ((t)) p).2.2)] : Value)), (8, (.tuple #[.agg #[((aggAt (tupAt (vals 7) 0) 0)), ((aggAt (tupAt (vals 7) 0) 1))], .bool ((insB ar rs f xs ((t)) p).2.2)] : Value))]) ⟨(e7).symm, e8, trivial⟩).symm]
                                  refine XG.op (XOp.extract (.bool ((insB ar rs f xs ((t)) p).2.2)) rfl rfl ?_)
                                  exact ⟨rfl, rfl⟩
                                refine stepsG.cons (fun vals Fs R leFs hpZ => ?_) ?_
                                · replace har := har.mono leFs
                                  replace hrs := hrs.mono leFs
                                  replace hf := hf.mono leFs
                                  replace hxs := hxs.mono leFs
                                  replace ht := ht.mono leFs
                                  replace f1_1hr1 := f1_1hr1.mono leFs
                                  replace f1_1hr2 := f1_1hr2.mono leFs
                                  replace f3_1hr1 := f3_1hr1.mono leFs
                                  replace f3_1hr2 := f3_1hr2.mono leFs
                                  replace f5_1ha := f5_1ha.mono leFs
                                  replace f7_1hr1 := f7_1hr1.mono leFs
                                  replace f7_1hr2 := f7_1hr2.mono leFs
                                  replace f2_2hr1 := f2_2hr1.mono leFs
                                  replace f2_2hr2 := f2_2hr2.mono leFs
                                  replace f2_3hr1 := f2_3hr1.mono leFs
                                  replace f2_3hr2 := f2_3hr2.mono leFs
                                  refine XG.op (XOp.alloc [(.slice none 0 0), (.slice none 0 0)] Try.zeroValue63 rfl ?_)
                                  intro b10
                                  exact ⟨rfl, rfl⟩
                                refine stepsG.cons (fun vals Fs R leFs hpZ => ?_) ?_
                                · obtain ⟨e7, f7_4hr1, f7_4hr2⟩ := hpZ 7 (by decide)
                                  have e9 : vals 9 = (.agg #[((aggAt (tupAt (vals 7) 0) 0)), ((aggAt (tupAt (vals 7) 0) 1))] : Value) := hpZ 9 (by decide)
                                  have e11 : vals 11 = ptr (blk (vals 11)) 0 := hpZ 11 (by decide)
                                  replace har := har.mono leFs
                                  replace hrs := hrs.mono leFs
                                  replace hf := hf.mono leFs
                                  replace hxs := hxs.mono leFs
                                  replace ht := ht.mono leFs
                                  replace f1_1hr1 := f1_1hr1.mono leFs
                                  replace f1_1hr2 := f1_1hr2.mono leFs
                                  replace f3_1hr1 := f3_1hr1.mono leFs
                                  replace f3_1hr2 := f3_1hr2.mono leFs
                                  replace f5_1ha := f5_1ha.mono leFs
                                  replace f7_1hr1 := f7_1hr1.mono leFs
                                  replace f7_1hr2 := f7_1hr2.mono leFs
                                  replace f2_2hr1 := f2_2hr1.mono leFs
                                  replace f2_2hr2 := f2_2hr2.mono leFs
                                  replace f2_3hr1 := f2_3hr1.mono leFs
                                  replace f2_3hr2 := f2_3hr2.mono leFs
                                  rw [(envs_of_sat (l := [(7, (.tuple #[.agg #[((aggAt (tupAt (vals 7) 0) 0)), ((aggAt (tupAt (vals 7) 0) 1))], .bool ((insB ar rs f xs ((t)) p).2.2)] : Value)), (9, (.agg #[((aggAt (tupAt (vals 7) 0) 0)), ((aggAt (tupAt (vals 7) 0) 1))] : Value)), (11, ptr (blk (vals 11)) 0)]) ⟨(e7).symm, e9, e11, trivial⟩).symm]
                                  show XG _ _ _ _ _ (cellsH (blk (vals 11)) [(.slice none 0 0), (.slice none 0 0)] 63 :: ([intsH 2 x17 m6, stepsD 2 74 x18 m7, intsH 2 v3 m5, intsH 2 x15 m3, stepsD 2 74 x16 m4, intsH 2 x13 m1, pairsD 2 156 x14 m2, intsH 2 v4 ((t)), cellsH b8 [x17, x18] 63, cellsH b7 [x15, x16] 63, cellsH b6 [x13, x14] 29, cellsH b5 [u6, u7] 63, cellsH b2 [fv, xsv] 58, cellsH b1 [arv, rsv] 41] ++ R)) _
                                  refine XG.op (XOp.storeN (vs := [((aggAt (tupAt (vals 7) 0) 0)), ((aggAt (tupAt (vals 7) 0) 1))]) [] _ [((aggAt (tupAt (vals 7) 0) 0)), ((aggAt (tupAt (vals 7) 0) 1))] Try.sizeOf63 rfl rfl rfl (ones_cons (one_sl (IntsF.isSl f7_4hr1)) (ones_cons (one_sl (StepsF.isSl f7_4hr2)) ones_nil)) rfl rfl rfl ?_)
                                  exact ⟨trivial, rfl⟩
                                exact stepsG.nil
                              · intro vals F42 le42 hphi
                                have e0 : vals 0 = (.agg #[arv, rsv] : Value) := hphi 0 (by decide)
                                obtain ⟨e1, f1_4hr1, f1_4hr2⟩ := hphi 1 (by decide)
                                have e2 : vals 2 = (.agg #[fv, xsv] : Value) := hphi 2 (by decide)
                                obtain ⟨e3, f3_4hr1, f3_4hr2⟩ := hphi 3 (by decide)
                                have e4 : vals 4 = tv := hphi 4 (by decide)
                                obtain ⟨e5, f5_4ha⟩ := hphi 5 (by decide)
                                have e6 : vals 6 = (.int .i64 (p) : Value) := hphi 6 (by decide)
                                obtain ⟨e7, f7_4hr1, f7_4hr2⟩ := hphi 7 (by decide)
                                have e8 : vals 8 = (.tuple #[.agg #[((aggAt (tupAt (vals 7) 0) 0)), ((aggAt (tupAt (vals 7) 0) 1))], .bool ((insB ar rs f xs ((t)) p).2.2)] : Value) := hphi 8 (by decide)
                                have e9 : vals 9 = (.agg #[((aggAt (tupAt (vals 7) 0) 0)), ((aggAt (tupAt (vals 7) 0) 1))] : Value) := hphi 9 (by decide)
                                have e10 : vals 10 = (.bool ((insB ar rs f xs ((t)) p).2.2) : Value) := hphi 10 (by decide)
                                have e11 : vals 11 = ptr (blk (vals 11)) 0 := hphi 11 (by decide)
                                generalize hu13 : ((aggAt (vals 1) 0)) = u12 at e0 e1 f1_4hr1 f1_4hr2 e2 e3 f3_4hr1 f3_4hr2 e4 e5 f5_4ha e6 e7 f7_4hr1 f7_4hr2 e8 e9 e10 e11
                                generalize hu14 : ((aggAt (vals 1) 1)) = u13 at e0 e1 f1_4hr1 f1_4hr2 e2 e3 f3_4hr1 f3_4hr2 e4 e5 f5_4ha e6 e7 f7_4hr1 f7_4hr2 e8 e9 e10 e11
                                generalize hu15 : ((aggAt (vals 3) 0)) = u14 at e0 e1 f1_4hr1 f1_4hr2 e2 e3 f3_4hr1 f3_4hr2 e4 e5 f5_4ha e6 e7 f7_4hr1 f7_4hr2 e8 e9 e10 e11
                                generalize hu16 : ((aggAt (vals 3) 1)) = u15 at e0 e1 f1_4hr1 f1_4hr2 e2 e3 f3_4hr1 f3_4hr2 e4 e5 f5_4ha e6 e7 f7_4hr1 f7_4hr2 e8 e9 e10 e11
                                generalize hu17 : ((vals 5)) = u16 at e0 e1 f1_4hr1 f1_4hr2 e2 e3 f3_4hr1 f3_4hr2 e4 e5 f5_4ha e6 e7 f7_4hr1 f7_4hr2 e8 e9 e10 e11
                                generalize hu18 : ((aggAt (tupAt (vals 7) 0) 0)) = u17 at e0 e1 f1_4hr1 f1_4hr2 e2 e3 f3_4hr1 f3_4hr2 e4 e5 f5_4ha e6 e7 f7_4hr1 f7_4hr2 e8 e9 e10 e11
                                generalize hu19 : ((aggAt (tupAt (vals 7) 0) 1)) = u18 at e0 e1 f1_4hr1 f1_4hr2 e2 e3 f3_4hr1 f3_4hr2 e4 e5 f5_4ha e6 e7 f7_4hr1 f7_4hr2 e8 e9 e10 e11
                                generalize hu20 : blk (vals 11) = b11 at e0 e1 f1_4hr1 f1_4hr2 e2 e3 f3_4hr1 f3_4hr2 e4 e5 f5_4ha e6 e7 f7_4hr1 f7_4hr2 e8 e9 e10 e11
                                rw [(envs_of_sat (l := [(0, (.agg #[arv, rsv] : Value)), (1, (.agg #[u12, u13] : Value)), (2, (.agg #[fv, xsv] : Value)), (3, (.agg #[u14, u15] : Value)), (4, tv), (5, u16), (6, (.int .i64 (p) : Value)), (7, (.tuple #[.agg #[u17, u18], .bool ((insB ar rs f xs ((t)) p).2.2)] : Value)), (8, (.tuple #[.agg #[u17, u18], .bool ((insB ar rs f xs ((t)) p).2.2)] : Value)), (9, (.agg #[u17, u18] : Value)), (10, (.bool ((insB ar rs f xs ((t)) p).2.2) : Value)), (11, ptr b11 0)]) ⟨e0, (e1).symm, e2, (e3).symm, e4, hu17, e6, (e7).symm, e8, e9, e10, e11, trivial⟩).symm]
                                replace har := har.mono le42
                                replace hrs := hrs.mono le42
                                replace hf := hf.mono le42
                                replace hxs := hxs.mono le42
                                replace ht := ht.mono le42
                                replace f1_1hr1 := f1_1hr1.mono le42
                                replace f1_1hr2 := f1_1hr2.mono le42
                                replace f3_1hr1 := f3_1hr1.mono le42
                                replace f3_1hr2 := f3_1hr2.mono le42
                                replace f5_1ha := f5_1ha.mono le42
                                replace f7_1hr1 := f7_1hr1.mono le42
                                replace f7_1hr2 := f7_1hr2.mono le42
                                replace f2_2hr1 := f2_2hr1.mono le42
                                replace f2_2hr2 := f2_2hr2.mono le42
                                replace f2_3hr1 := f2_3hr1.mono le42
                                replace f2_3hr2 := f2_3hr2.mono le42
                                show XL _ _ _ _ _ _ _ (cellsH b11 [u17, u18] 63 :: intsH 2 x17 m6 :: stepsD 2 74 x18 m7 :: intsH 2 v3 m5 :: intsH 2 x15 m3 :: stepsD 2 74 x16 m4 :: intsH 2 x13 m1 :: pairsD 2 156 x14 m2 :: intsH 2 v4 ((t)) :: cellsH b8 [x17, x18] 63 :: cellsH b7 [x15, x16] 63 :: cellsH b6 [x13, x14] 29 :: cellsH b5 [u6, u7] 63 :: cellsH b2 [fv, xsv] 58 :: cellsH b1 [arv, rsv] 41 :: L)
                                refine XL.cons (XOp.assign (.bool ((insB ar rs f xs ((t)) p).2.2)) rfl ?_)
                                refine XL.nil ?_
                                refine X.seq ?_
                                refine X.seq ?_
                                refine X.region ?_
                                refine XL.cons (XOp.loadN [u17, u18] Try.isAgg63 Try.sizeOf63 rfl rfl (Rd.ownN [] rfl rfl) ?_)
                                refine XL.cons (XOp.loadN [u6, u7] Try.isAgg63 Try.sizeOf63 rfl rfl (Rd.ownN [_, _, _, _, _, _, _, _, _, _, _, _] rfl rfl) ?_)
                                refine XL.cons (XOp.call (args := [.agg #[u17, u18], .agg #[u6, u7]]) Try.call43 rfl (eqWalk_spec f7_4hr1 f7_4hr2 f7_1hr1 f7_1hr2 (hfl := (by first | assumption | rfl | omega | (left; simp; done) | (right; simp; done))) (hal := (by first | assumption | rfl | omega | (left; simp; done) | (right; simp; done))) (hbd := (by first | assumption | exact fun i hi => by have := hnd i hi; omega))) ?_)
                                rintro _ _ _ _ ⟨rfl, rfl, rfl⟩
                                refine XL.cons (XOp.notD (p := ((insB ar rs f xs ((t)) p).1) = ((insB ar rs f xs ((t)) p).1) ∧ ((insB ar rs f xs ((t)) p).2.1) = ((insB ar rs f xs ((t)) p).2.1)) rfl ?_)
                                refine XL.cons (XOp.move (.bool (decide (¬(((insB ar rs f xs ((t)) p).1) = ((insB ar rs f xs ((t)) p).1) ∧ ((insB ar rs f xs ((t)) p).2.1) = ((insB ar rs f xs ((t)) p).2.1))))) rfl ?_)
                                refine XL.yes (t := 132) rfl (congrArg Value.bool (decide_eq_false h4)) (XOp.move (.bool ((insB ar rs f xs ((t)) p).2.2)) rfl ?_)
                                refine XL.yes (t := 132) rfl (congrArg Value.bool (decide_eq_false h4)) (XOp.move (.bool ((insB ar rs f xs ((t)) p).2.2)) rfl ?_)
                                refine XL.yes (t := 132) rfl (congrArg Value.bool (decide_eq_false h4)) (XOp.neB (a := (insB ar rs f xs ((t)) p).2.2) (b := (insB ar rs f xs ((t)) p).2.2) Try.runUnderlying4 rfl rfl ?_)
                                refine XL.cons (XOp.pickF (.bool (decide (((insB ar rs f xs ((t)) p).2.2) ≠ ((insB ar rs f xs ((t)) p).2.2)))) (congrArg Value.bool (decide_eq_false h4)) rfl ?_)
                                refine XL.nil ?_
                                refine X.condF (congrArg Value.bool (decide_eq_false h5)) ?_
                                refine X.skip ?_
                                refine X.seq ?_
                                refine X.region ?_
                                refine XL.cons (XOp.assign (.int .i64 (1)) rfl ?_)
                                refine XL.nil ?_
                                refine X.seq ?_
                                refine X.region ?_
                                refine XL.cons (XOp.loadN [x17, x18] Try.isAgg63 Try.sizeOf63 rfl rfl (Rd.ownN [_, _, _, _, _, _, _, _, _] rfl rfl) ?_)
                                refine XL.cons (XOp.move (.int .i64 (1)) rfl ?_)
                                refine XL.cons (XOp.lend [_] _ _ rfl (fun F43 le43 hz20 => ?_))
                                refine id (XOp.lend [_] _ _ rfl (fun F44 le44 hz21 => ?_))
                                have hf20 : IntsF _ x17 m6 := (intsH.fz (xs := m6) hz20).mono le44
                                have hf21 : StepsF _ x18 m7 := stepsD.fz hz21
                                refine id (XOp.call (args := [.agg #[x17, x18], .int .i64 (1)]) Try.call58 rfl (heldWalk_spec (z := 1) hf20 hf21 (hzb := (by first | assumption | rfl | omega | (left; simp; done) | (right; simp; done))) (hxl := (by first | assumption | rfl | omega | (left; simp; done) | (right; simp; done)))) ?_)
                                rintro _ _ _ _ ⟨rfl, rfl, rfl⟩
                                show XL _ _ _ _ _ _ _ (intsH 2 x17 m6 :: stepsD 2 74 x18 m7 :: cellsH b11 [u17, u18] 63 :: intsH 2 v3 m5 :: intsH 2 x15 m3 :: stepsD 2 74 x16 m4 :: intsH 2 x13 m1 :: pairsD 2 156 x14 m2 :: intsH 2 v4 ((t)) :: cellsH b8 [x17, x18] 63 :: cellsH b7 [x15, x16] 63 :: cellsH b6 [x13, x14] 29 :: cellsH b5 [u6, u7] 63 :: cellsH b2 [fv, xsv] 58 :: cellsH b1 [arv, rsv] 41 :: L)
                                refine XL.cons (XOp.assign (.int .i64 (heldF (m6 ++ m7.flatMap flatStep) 1)) rfl ?_)
                                refine XL.nil ?_
                                refine X.seq ?_
                                refine X.seq ?_
                                refine X.region ?_
                                refine XL.cons (XOp.move (.int .i64 (heldF (m6 ++ m7.flatMap flatStep) 1)) rfl ?_)
                                refine XL.cons (XOp.lss (a := heldF (m6 ++ m7.flatMap flatStep) 1) (b := 0) rfl rfl ?_)
                                refine XL.nil ?_
                                refine X.condF (congrArg Value.bool (decide_eq_false h10)) ?_
                                refine X.skip ?_
                                refine X.seq ?_
                                refine X.seq ?_
                                refine X.region ?_
                                refine XL.cons (XOp.move (.int .i64 (heldF (m6 ++ m7.flatMap flatStep) 1)) rfl ?_)
                                refine XL.cons (XOp.move (.int .i64 (1 + (((((insB ar rs f xs ((t)) p).1)) ++ (((insB ar rs f xs ((t)) p).2.1).flatMap flatStep)).length : Int))) rfl ?_)
                                refine XL.cons (XOp.neq (a := heldF (m6 ++ m7.flatMap flatStep) 1) (b := 1 + (((((insB ar rs f xs ((t)) p).1)) ++ (((insB ar rs f xs ((t)) p).2.1).flatMap flatStep)).length : Int)) rfl rfl ?_)
                                refine XL.nil ?_
                                refine X.condF (congrArg Value.bool (decide_eq_false h11)) ?_
                                refine X.skip ?_
                                refine X.seq ?_
                                refine X.region ?_
                                refine XL.cons (XOp.assign (.bool (true)) rfl ?_)
                                refine XL.nil ?_
                                refine X.ret (retEnd (L' := L) [.bool (true)] (.bool (true)) (.tmp rfl .nil) rfl (FLe.refl _) (FLe.trans (FLe.trans (FLe.trans le8 le21) le26) le42) (Sub.drop (Sub.drop (Sub.drop (Sub.drop (Sub.drop (Sub.drop (Sub.drop (Sub.drop (Sub.drop (Sub.drop (Sub.drop (Sub.drop (Sub.drop (Sub.drop (Sub.drop (Sub.refl _)))))))))))))))) ?_)
                                exact ⟨rfl, rfl, rfl⟩
end Go.Proofs.Ytacbenjncjcglaa
