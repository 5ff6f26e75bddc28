/-
  Walks: rewrite sequences, of the program and of the reference.
-/
import Derived.Test.YtacbenjncjcglaaGreatQhFs
set_option linter.unusedSimpArgs false
set_option linter.unusedVariables false
namespace Go.Proofs.YtacbenjncjcglaaGreat
open Go X M

/- impl.walkOk -/
theorem walkOk_spec {F : FH} {L : List HP} {arv : Value} {ar : List Int} (har : IntsF F arv ar) {rsv : Value} {rs : List (List Int × List Int)} (hrs : PairsF F rsv rs) {fv : Value} {f : List Int} (hf : IntsF F fv f) {ssv : Value} {ss : List StepT} (hss : StepsF F ssv ss) (hlf : f.length ≤ 4000000) (hsb : ∀ i, i < ss.length → (ss.getD i (0, 0, [])).2.2.length ≤ 4000000) :
    Does Tryz.prog 73 [.agg #[arv, rsv], .agg #[fv, ssv]] F (L) (fun v F' L' => (.bool (((termOk ar f && decide (ss.length ≤ 60)) && goOk ar rs f ss)) : Value) = v ∧ F = F' ∧ L = L') := by
  refine Does.of_X Tryz.func73 rfl rfl rfl ?_
  refine X.seq ?_
  refine X.region ?_
  refine XL.cons (XOp.box [arv, rsv] rfl rfl ?_)
  intro b1
  refine XL.cons (XOp.box [fv, ssv] rfl rfl ?_)
  intro b2
  refine XL.cons (XOp.assign (.bool (false)) rfl ?_)
  refine XL.nil ?_
  refine X.seq ?_
  refine X.seq ?_
  refine X.region ?_
  refine XL.cons (XOp.fieldP (b := b1) (0) Tryz.runUnderlying45 rfl Tryz.sizeOf42 (by decide) rfl rfl ?_)
  refine XL.cons (XOp.loadN [arv] Tryz.isAgg42 Tryz.sizeOf42 rfl rfl (Rd.ownN [_] rfl rfl) ?_)
  refine XL.cons (XOp.fieldP (b := b2) (0) Tryz.runUnderlying39 rfl Tryz.sizeOf22 (by decide) rfl rfl ?_)
  refine XL.cons (XOp.load1 (v := fv) Tryz.isAgg22 rfl (Rd.own [] rfl rfl) ?_)
  refine XL.cons (XOp.call (args := [.agg #[arv], fv]) Tryz.call74 rfl (TermOk_spec har hf) ?_)
  rintro _ _ _ _ ⟨rfl, rfl, rfl⟩
  refine XL.cons (XOp.notB (b := termOk ar f) rfl ?_)
  refine XL.cons (XOp.move (.bool (!(termOk ar f))) rfl ?_)
  by_cases h1 : (!(termOk ar f)) = true
  · refine XL.no (t := 16) rfl (congrArg Value.bool h1) ?_
    refine XL.no (t := 16) rfl (congrArg Value.bool h1) ?_
    refine XL.no (t := 16) rfl (congrArg Value.bool h1) ?_
    refine XL.no (t := 16) rfl (congrArg Value.bool h1) ?_
    refine XL.cons (XOp.pickT (.bool (true)) (congrArg Value.bool h1) rfl ?_)
    refine XL.nil ?_
    refine X.condT rfl ?_
    refine X.seq ?_
    refine X.region ?_
    refine XL.cons (XOp.assign (.bool (false)) rfl ?_)
    refine XL.nil ?_
    refine X.ret (thenQ_ret (retEnd (L' := L) [.bool (false)] (.bool (false)) (.tmp rfl .nil) rfl (FLe.refl _) (FLe.refl _) (Sub.drop (Sub.drop (Sub.refl _))) ?_))
    exact ⟨(congrArg Value.bool (by simp_all <;> omega)), rfl, rfl⟩
  · rw [Bool.not_eq_true] at h1
    refine XL.yes (t := 16) rfl (congrArg Value.bool h1) (XOp.fieldP (b := b2) (1) Tryz.runUnderlying39 rfl Tryz.sizeOf37 (by decide) rfl rfl ?_)
    refine XL.yes (t := 16) rfl (congrArg Value.bool h1) (XOp.load1 (v := ssv) Tryz.isAgg37 rfl (Rd.own [] rfl rfl) ?_)
    refine XL.yes (t := 16) rfl (congrArg Value.bool h1) (XOp.lenS (v := ssv) (n := (ss).length) Tryz.runUnderlying37 rfl hss.slv ?_)
    refine XL.yes (t := 16) rfl (congrArg Value.bool h1) (XOp.gtr (a := (((ss).length : Nat) : Int)) (b := 60) rfl rfl ?_)
    refine XL.cons (XOp.pickF (.bool (decide (((((ss).length : Nat) : Int) : Int) > 60))) (congrArg Value.bool h1) rfl ?_)
    refine XL.nil ?_
    refine X.condD (p := ((((ss).length : Nat) : Int) : Int) > 60) rfl (fun h2 => ?_) (fun h2 => ?_)
    · refine X.seq ?_
      refine X.region ?_
      refine XL.cons (XOp.assign (.bool (false)) rfl ?_)
      refine XL.nil ?_
      refine X.ret (thenQ_ret (retEnd (L' := L) [.bool (false)] (.bool (false)) (.tmp rfl .nil) rfl (FLe.refl _) (FLe.refl _) (Sub.drop (Sub.drop (Sub.refl _))) ?_))
      exact ⟨(congrArg Value.bool (by simp_all <;> omega)), rfl, rfl⟩
    · refine X.skip ?_
      refine X.seq ?_
      refine X.region ?_
      refine XL.cons (XOp.fieldP (b := b2) (0) Tryz.runUnderlying39 rfl Tryz.sizeOf22 (by decide) rfl rfl ?_)
      refine XL.cons (XOp.load1 (v := fv) Tryz.isAgg22 rfl (Rd.own [] rfl rfl) ?_)
      refine XL.cons (XOp.assign (fv) rfl ?_)
      refine XL.nil ?_
      refine X.seq ?_
      refine X.seq ?_
      refine X.region ?_
      refine XL.cons (XOp.fieldP (b := b2) (1) Tryz.runUnderlying39 rfl Tryz.sizeOf37 (by decide) rfl rfl ?_)
      refine XL.cons (XOp.load1 (v := ssv) Tryz.isAgg37 rfl (Rd.own [] rfl rfl) ?_)
      refine XL.cons (XOp.lenS (v := ssv) (n := (ss).length) Tryz.runUnderlying37 rfl hss.slv ?_)
      refine XL.cons (XOp.move (.int .i64 (0)) rfl ?_)
      refine XL.nil ?_
      refine X.block ?_
      refine X.loop (α := Nat × Value × List Int × FH) (fun xQ => [(2, ptr b1 0), (5, xQ.2.1), (25, ssv), (26, .int .i64 ((((ss).length : Nat) : Int))), (27, .int .i64 (((xQ.1 : Nat) : Int)))]) (fun xQ => cellsH b2 [fv, ssv] 39 :: cellsH b1 [arv, rsv] 45 :: L) (fun xQ F' => xQ.2.2.2 = F' ∧ F ≤ xQ.2.2.2 ∧ (IntsF xQ.2.2.2 xQ.2.1 xQ.2.2.1) ∧ (xQ.1 ≤ ss.length) ∧ (goOk ar rs f ss = goOk ar rs xQ.2.2.1 (ss.drop xQ.1)) ∧ (xQ.2.2.1.length ≤ 4000000)) (fun xQ => ss.length - xQ.1) (0, fv, f, F) ⟨rfl, rfl, rfl, rfl, rfl, trivial⟩ (Sub.cons (Sub.cons (Sub.refl _))) ⟨rfl, FLe.refl _, (hf), (by (try dsimp only) <;> omega), (rfl), (hlf)⟩ ?_
      rintro ⟨k, cv, cur, G1⟩ rE _ _ ⟨rfl, leG, hcv, hk, hgo, hcl⟩
      show X _ _ _ _ (envs [(2, ptr b1 0), (5, cv), (25, ssv), (26, .int .i64 ((((ss).length : Nat) : Int))), (27, .int .i64 (((k : Nat) : Int)))] rE) _ (cellsH b2 [fv, ssv] 39 :: cellsH b1 [arv, rsv] 45 :: L)
      replace leG : F ≤ G1 := leG
      dsimp only at hcv hk hgo hcl
      have hsk := hsb k
      have leG1 := leG
      replace har := har.mono leG1
      replace hrs := hrs.mono leG1
      replace hf := hf.mono leG1
      replace hss := hss.mono leG1
      refine X.seq ?_
      refine X.region ?_
      refine XL.cons (XOp.lss (a := ((k : Nat) : Int)) (b := (((ss).length : Nat) : Int)) rfl rfl ?_)
      refine XL.nil ?_
      refine X.seq ?_
      refine X.condD (p := (((k : Nat) : Int) : Int) < (((ss).length : Nat) : Int)) rfl (fun h3 => ?_) (fun h3 => ?_)
      · refine X.skip ?_
        refine X.seq ?_
        refine X.block ?_
        refine X.seq ?_
        refine X.region ?_
        refine XL.cons (XOp.indexS (v := ssv) (i := ((k : Nat) : Int)) (n := (ss).length) k Tryz.runUnderlying37 Tryz.sizeOf78 rfl rfl rfl hss.slv (by omega) rfl ?_)
        obtain ⟨a1, ha1, hr1, hr2, hr3⟩ := hss.rd (i := k) (by omega)
        refine XL.cons (XOp.loadN [.int .i64 ((ss.getD k (0, 0, [])).1), .int .i64 ((ss.getD k (0, 0, [])).2.1), a1] Tryz.isAgg78 Tryz.sizeOf78 rfl rfl (Rd.three (hr1 _) (hr2 _) (hr3 _)) ?_)
        refine XL.cons (XOp.alloc [.int .i64 (0), .int .i64 (0), (.slice none 0 0)] Tryz.zeroValue78 rfl ?_)
        intro b3
        refine XL.cons (XOp.storeN (vs := [.int .i64 ((ss.getD k (0, 0, [])).1), .int .i64 ((ss.getD k (0, 0, [])).2.1), a1]) [] _ [.int .i64 ((ss.getD k (0, 0, [])).1), .int .i64 ((ss.getD k (0, 0, [])).2.1), a1] Tryz.sizeOf78 rfl rfl rfl (ones_cons rfl (ones_cons rfl (ones_cons (one_sl (IntsF.isSl ha1)) ones_nil))) rfl rfl rfl ?_)
        refine XL.nil ?_
        refine X.seq ?_
        refine X.region ?_
        refine XL.cons (XOp.loadN [arv, rsv] Tryz.isAgg45 Tryz.sizeOf45 rfl rfl (Rd.ownN [_, _] rfl rfl) ?_)
        refine XL.cons (XOp.move (cv) rfl ?_)
        refine XL.cons (XOp.fieldP (b := b3) (0) Tryz.runUnderlying78 rfl Tryz.sizeOf2 (by decide) rfl rfl ?_)
        refine XL.cons (XOp.load1 (v := .int .i64 ((ss.getD k (0, 0, [])).1)) Tryz.isAgg2 rfl (Rd.own [] rfl rfl) ?_)
        refine XL.cons (XOp.fieldP (b := b3) (1) Tryz.runUnderlying78 rfl Tryz.sizeOf2 (by decide) rfl rfl ?_)
        refine XL.cons (XOp.load1 (v := .int .i64 ((ss.getD k (0, 0, [])).2.1)) Tryz.isAgg2 rfl (Rd.own [] rfl rfl) ?_)
        refine XL.cons (XOp.call (args := [.agg #[arv, rsv], cv, .int .i64 ((ss.getD k (0, 0, [])).1), .int .i64 ((ss.getD k (0, 0, [])).2.1)]) Tryz.call107 rfl (StepAt_spec (p := (ss.getD k (0, 0, [])).1) (r := (ss.getD k (0, 0, [])).2.1) har hrs hcv) ?_)
        rintro _ F1 _ le1 ⟨x1, rfl, hr4, hr5, rfl⟩
        replace har := har.mono le1
        replace hrs := hrs.mono le1
        replace hf := hf.mono le1
        replace hss := hss.mono le1
        replace hcv := hcv.mono le1
        replace ha1 := ha1.mono le1
        replace hr1 := Rd.monoA hr1 le1
        replace hr2 := Rd.monoA hr2 le1
        replace hr3 := Rd.monoA hr3 le1
        refine XL.cons (XOp.move (.tuple #[x1, .bool ((stepAtL ar rs cur ((ss.getD k (0, 0, [])).1) ((ss.getD k (0, 0, [])).2.1)).isSome)]) rfl ?_)
        refine XL.cons (XOp.extract (x1) rfl rfl ?_)
        refine XL.cons (XOp.extract (.bool ((stepAtL ar rs cur ((ss.getD k (0, 0, [])).1) ((ss.getD k (0, 0, [])).2.1)).isSome)) rfl rfl ?_)
        refine XL.cons (XOp.assign (x1) rfl ?_)
        refine XL.cons (XOp.assign (.bool ((stepAtL ar rs cur ((ss.getD k (0, 0, [])).1) ((ss.getD k (0, 0, [])).2.1)).isSome)) rfl ?_)
        refine XL.nil ?_
        refine X.seq ?_
        refine X.seq ?_
        refine X.region ?_
        refine XL.cons (XOp.move (.bool ((stepAtL ar rs cur ((ss.getD k (0, 0, [])).1) ((ss.getD k (0, 0, [])).2.1)).isSome)) rfl ?_)
        refine XL.cons (XOp.notB (b := (stepAtL ar rs cur ((ss.getD k (0, 0, [])).1) ((ss.getD k (0, 0, [])).2.1)).isSome) rfl ?_)
        refine XL.cons (XOp.move (.bool (!((stepAtL ar rs cur ((ss.getD k (0, 0, [])).1) ((ss.getD k (0, 0, [])).2.1)).isSome))) rfl ?_)
        by_cases h4 : (!((stepAtL ar rs cur ((ss.getD k (0, 0, [])).1) ((ss.getD k (0, 0, [])).2.1)).isSome)) = true
        · have hu1 : (stepAtL ar rs cur (ss.getD k (0, 0, [])).1 (ss.getD k (0, 0, [])).2.1).isSome = false := by simpa using h4
          refine XL.no (t := 43) rfl (congrArg Value.bool h4) ?_
          refine XL.no (t := 43) rfl (congrArg Value.bool h4) ?_
          refine XL.no (t := 43) rfl (congrArg Value.bool h4) ?_
          refine XL.no (t := 43) rfl (congrArg Value.bool h4) ?_
          refine XL.no (t := 43) rfl (congrArg Value.bool h4) ?_
          refine XL.cons (XOp.pickT (.bool (true)) (congrArg Value.bool h4) rfl ?_)
          refine XL.nil ?_
          refine X.condT rfl ?_
          refine X.seq ?_
          refine X.region ?_
          refine XL.cons (XOp.assign (.bool (false)) rfl ?_)
          refine XL.nil ?_
          refine X.ret (thenQ_ret (blockQ_ret (thenQ_ret (thenQ_ret (blockQ_ret (thenQ_ret (retEnd (L' := L) [.bool (false)] (.bool (false)) (.tmp rfl .nil) rfl (FLe.refl _) (FLe.trans leG1 le1) (Sub.drop (Sub.drop (Sub.drop (Sub.refl _)))) ?_)))))))
          exact ⟨(congrArg Value.bool (by have hz := goOk_fail (ar := ar) (rs := rs) (t := cur) (ss := ss) (k := k) (by omega) (by first | exact .inl hu1 | exact .inr hu2); rw [hgo, hz]; simp)), rfl, rfl⟩
        · rw [Bool.not_eq_true] at h4
          have hu1 : (stepAtL ar rs cur (ss.getD k (0, 0, [])).1 (ss.getD k (0, 0, [])).2.1).isSome = true := by simpa using h4
          refine XL.yes (t := 43) rfl (congrArg Value.bool h4) (XOp.move (x1) rfl ?_)
          refine XL.yes (t := 43) rfl (congrArg Value.bool h4) (XOp.fieldP (b := b3) (2) Tryz.runUnderlying78 rfl Tryz.sizeOf22 (by decide) rfl rfl ?_)
          refine XL.yes (t := 43) rfl (congrArg Value.bool h4) (XOp.load1 (v := a1) Tryz.isAgg22 rfl (Rd.own [] rfl rfl) ?_)
          refine XL.yes (t := 43) rfl (congrArg Value.bool h4) (XOp.call (args := [x1, a1]) Tryz.call78 rfl (Equal_spec hr4 ha1 (hbd := (by first | assumption | rfl | omega | (left; simp; done) | (right; simp; done)))) ?_)
          rintro _ _ _ _ ⟨rfl, rfl, rfl⟩
          refine XL.yes (t := 43) rfl (congrArg Value.bool h4) (XOp.notD (p := ((stepAtL ar rs cur ((ss.getD k (0, 0, [])).1) ((ss.getD k (0, 0, [])).2.1)).getD []) = ((ss.getD k (0, 0, [])).2.2)) rfl ?_)
          refine XL.cons (XOp.pickF (.bool (decide (¬(((stepAtL ar rs cur ((ss.getD k (0, 0, [])).1) ((ss.getD k (0, 0, [])).2.1)).getD []) = ((ss.getD k (0, 0, [])).2.2))))) (congrArg Value.bool h4) rfl ?_)
          refine XL.nil ?_
          refine X.condD (p := ¬(((stepAtL ar rs cur ((ss.getD k (0, 0, [])).1) ((ss.getD k (0, 0, [])).2.1)).getD []) = ((ss.getD k (0, 0, [])).2.2))) rfl (fun h5 => ?_) (fun h5 => ?_)
          · have hu2 : (stepAtL ar rs cur (ss.getD k (0, 0, [])).1 (ss.getD k (0, 0, [])).2.1).getD [] ≠ (ss.getD k (0, 0, [])).2.2 := h5
            refine X.seq ?_
            refine X.region ?_
            refine XL.cons (XOp.assign (.bool (false)) rfl ?_)
            refine XL.nil ?_
            refine X.ret (thenQ_ret (blockQ_ret (thenQ_ret (thenQ_ret (blockQ_ret (thenQ_ret (retEnd (L' := L) [.bool (false)] (.bool (false)) (.tmp rfl .nil) rfl (FLe.refl _) (FLe.trans leG1 le1) (Sub.drop (Sub.drop (Sub.drop (Sub.refl _)))) ?_)))))))
            exact ⟨(congrArg Value.bool (by have hz := goOk_fail (ar := ar) (rs := rs) (t := cur) (ss := ss) (k := k) (by omega) (by first | exact .inl hu1 | exact .inr hu2); rw [hgo, hz]; simp)), rfl, rfl⟩
          · have hu2 : (stepAtL ar rs cur (ss.getD k (0, 0, [])).1 (ss.getD k (0, 0, [])).2.1).getD [] = (ss.getD k (0, 0, [])).2.2 := Classical.not_not.1 h5
            refine X.skip ?_
            refine X.region ?_
            refine XL.cons (XOp.move (x1) rfl ?_)
            refine XL.cons (XOp.assign (x1) rfl ?_)
            refine XL.nil ?_
            refine X.region ?_
            refine XL.cons (XOp.addR (a := ((k : Nat) : Int)) (b := 1) (((k + 1 : Nat) : Int)) rfl rfl (by omega) (by omega) ?_)
            refine XL.cons (XOp.move (.int .i64 (((k + 1 : Nat) : Int))) rfl ?_)
            refine XL.nil ?_
            exact ⟨(k + 1, x1, (stepAtL ar rs cur ((ss.getD k (0, 0, [])).1) ((ss.getD k (0, 0, [])).2.1)).getD [], F1), _, (FLe.trans leG1 le1), (FLe.refl _), ⟨rfl, rfl, rfl, rfl, rfl, trivial⟩, (Sub.drop (Sub.cons (Sub.cons (Sub.refl _)))), ⟨rfl, (FLe.trans leG1 le1), (hr4), (by (try dsimp only) <;> omega), (by (try dsimp only); rw [hgo]; exact goOk_next (by omega) hu1 hu2), (by (try dsimp only); rw [hu2]; exact hsk (by omega))⟩, (by omega)⟩
      · refine X.exit (thenQ_exit (thenQ_exit (blockQ_exit ?_)))
        refine X.seq ?_
        refine X.region ?_
        refine XL.cons (XOp.assign (.bool (true)) rfl ?_)
        refine XL.nil ?_
        refine X.ret (retEnd (L' := L) [.bool (true)] (.bool (true)) (.tmp rfl .nil) rfl (FLe.refl _) leG1 (Sub.drop (Sub.drop (Sub.refl _))) ?_)
        exact ⟨(congrArg Value.bool (by rw [hgo, goOk_end (by omega)]; simp_all <;> omega)), rfl, rfl⟩

/- impl.WalkOk -/
theorem WalkOk_spec {F : FH} {L : List HP} {arv : Value} {ar : List Int} (har : IntsF F arv ar) {rsv : Value} {rs : List (List Int × List Int)} (hrs : PairsF F rsv rs) {fv : Value} {f : List Int} (hf : IntsF F fv f) {ssv : Value} {ss : List StepT} (hss : StepsF F ssv ss) (hlf : f.length ≤ 4000000) (hsb : ∀ i, i < ss.length → (ss.getD i (0, 0, [])).2.2.length ≤ 4000000) :
    Does Tryz.prog 27 [.agg #[arv, rsv], .agg #[fv, ssv]] F (L) (fun v F' L' => (.bool (walkOkL ar rs f ss) : Value) = v ∧ F = F' ∧ L = L') := by
  refine Does.of_X Tryz.func27 rfl rfl rfl ?_
  refine X.seq ?_
  refine X.region ?_
  refine XL.cons (XOp.box [arv, rsv] rfl rfl ?_)
  intro b1
  refine XL.cons (XOp.box [fv, ssv] rfl rfl ?_)
  intro b2
  refine XL.cons (XOp.assign (.bool (false)) rfl ?_)
  refine XL.nil ?_
  refine X.seq ?_
  refine X.region ?_
  refine XL.cons (XOp.loadN [arv, rsv] Tryz.isAgg45 Tryz.sizeOf45 rfl rfl (Rd.ownN [_] rfl rfl) ?_)
  refine XL.cons (XOp.call (args := [.agg #[arv, rsv]]) Tryz.call72 rfl (SystemOk_spec har hrs) ?_)
  rintro _ _ _ _ ⟨rfl, rfl, rfl⟩
  refine XL.cons (XOp.move (.bool (sysOk ar rs)) rfl ?_)
  by_cases h1 : (sysOk ar rs) = true
  · refine XL.yes (t := 7) rfl (congrArg Value.bool h1) (XOp.loadN [arv, rsv] Tryz.isAgg45 Tryz.sizeOf45 rfl rfl (Rd.ownN [_] rfl rfl) ?_)
    refine XL.yes (t := 7) rfl (congrArg Value.bool h1) (XOp.loadN [fv, ssv] Tryz.isAgg39 Tryz.sizeOf39 rfl rfl (Rd.ownN [] rfl rfl) ?_)
    refine XL.yes (t := 7) rfl (congrArg Value.bool h1) (XOp.call (args := [.agg #[arv, rsv], .agg #[fv, ssv]]) Tryz.call73 rfl (walkOk_spec har hrs hf hss (hlf := (by first | assumption | rfl | omega | (left; simp; done) | (right; simp; done))) (hsb := (by first | assumption | rfl | omega | (left; simp; done) | (right; simp; done)))) ?_)
    rintro _ _ _ _ ⟨rfl, rfl, rfl⟩
    refine XL.cons (XOp.pickT (.bool (((termOk ar f && decide (ss.length ≤ 60)) && goOk ar rs f ss))) (congrArg Value.bool h1) rfl ?_)
    refine XL.cons (XOp.assign (.bool (((termOk ar f && decide (ss.length ≤ 60)) && goOk ar rs f ss))) rfl ?_)
    refine XL.nil ?_
    refine X.ret (retEnd (L' := L) [.bool (((termOk ar f && decide (ss.length ≤ 60)) && goOk ar rs f ss))] (.bool (((termOk ar f && decide (ss.length ≤ 60)) && goOk ar rs f ss))) (.tmp rfl .nil) rfl (FLe.refl _) (FLe.refl _) (Sub.drop (Sub.drop (Sub.refl _))) ?_)
    exact ⟨(congrArg Value.bool (by rw [walkOkL, rightB]; simp_all [Bool.and_assoc])), rfl, rfl⟩
  · rw [Bool.not_eq_true] at h1
    refine XL.no (t := 7) rfl (congrArg Value.bool h1) ?_
    refine XL.no (t := 7) rfl (congrArg Value.bool h1) ?_
    refine XL.no (t := 7) rfl (congrArg Value.bool h1) ?_
    refine XL.cons (XOp.pickF (.bool (false)) (congrArg Value.bool h1) rfl ?_)
    refine XL.cons (XOp.assign (.bool (false)) rfl ?_)
    refine XL.nil ?_
    refine X.ret (retEnd (L' := L) [.bool (false)] (.bool (false)) (.tmp rfl .nil) rfl (FLe.refl _) (FLe.refl _) (Sub.drop (Sub.drop (Sub.refl _))) ?_)
    exact ⟨(congrArg Value.bool (by rw [walkOkL, rightB]; simp_all [Bool.and_assoc])), rfl, rfl⟩

/- spec.StepAt -/
theorem sStepAt_spec {F : FH} {L : List HP} {arv : Value} {ar : List Int} (har : IntsF F arv ar) {rsv : Value} {rs : List (List Int × List Int)} (hrs : PairsF F rsv rs) {tv : Value} {t : List Int} (ht : IntsF F tv t) {p : Int} {r : Int} (hla : ar.length ≤ 4000000) (hlr : rs.length ≤ 4000000) (hrb : ∀ i, i < rs.length → (rs.getD i ([], [])).1.length ≤ 4000000 ∧ (rs.getD i ([], [])).2.length ≤ 4000000) (hlt : t.length ≤ 4000000) :
    Does Tryz.prog 82 [.agg #[arv, rsv], tv, .int .i64 (p), .int .i64 (r)] F (L) (fun v F' L' => ∃ (a : Value), (.tuple #[a, .bool ((stepAtL ar rs t p r).isSome)] : Value) = v ∧ (IntsF F' a ((stepAtL ar rs t p r).getD [])) ∧ L = L') := by
  refine Does.of_X Tryz.func82 rfl rfl rfl ?_
  refine X.seq ?_
  refine X.region ?_
  refine XL.cons (XOp.box [arv, rsv] rfl rfl ?_)
  intro b1
  refine XL.cons (XOp.assign ((.slice none 0 0)) rfl ?_)
  refine XL.cons (XOp.assign (.bool (false)) rfl ?_)
  refine XL.nil ?_
  refine X.seq ?_
  refine X.seq ?_
  refine X.region ?_
  refine XL.cons (XOp.loadN [arv, rsv] Tryz.isAgg45 Tryz.sizeOf45 rfl rfl (Rd.ownN [] rfl rfl) ?_)
  refine XL.cons (XOp.move (tv) rfl ?_)
  refine XL.cons (XOp.call (args := [.agg #[arv, rsv], tv]) Tryz.call81 rfl (l7Right_spec har hrs ht (hla := (by first | assumption | rfl | omega | (left; simp; done) | (right; simp; done))) (hlr := (by first | assumption | rfl | omega | (left; simp; done) | (right; simp; done))) (hrb := (by first | assumption | rfl | omega | (left; simp; done) | (right; simp; done))) (hlt := (by first | assumption | rfl | omega | (left; simp; done) | (right; simp; done)))) ?_)
  rintro _ _ _ _ ⟨rfl, rfl, rfl⟩
  refine XL.cons (XOp.notB (b := rightB ar rs t) rfl ?_)
  refine XL.cons (XOp.move (.bool (!(rightB ar rs t))) rfl ?_)
  by_cases h1 : (!(rightB ar rs t)) = true
  · refine XL.no (t := 14) rfl (congrArg Value.bool h1) ?_
    refine XL.no (t := 14) rfl (congrArg Value.bool h1) ?_
    refine XL.no (t := 14) rfl (congrArg Value.bool h1) ?_
    refine XL.no (t := 14) rfl (congrArg Value.bool h1) ?_
    refine XL.cons (XOp.pickT (.bool (true)) (congrArg Value.bool h1) rfl ?_)
    refine XL.cons (XOp.move (.bool (true)) rfl ?_)
    refine XL.no (t := 20) rfl rfl ?_
    refine XL.no (t := 20) rfl rfl ?_
    refine XL.no (t := 20) rfl rfl ?_
    refine XL.no (t := 20) rfl rfl ?_
    refine XL.no (t := 20) rfl rfl ?_
    refine XL.no (t := 20) rfl rfl ?_
    refine XL.no (t := 20) rfl rfl ?_
    refine XL.cons (XOp.pickT (.bool (true)) rfl rfl ?_)
    refine XL.nil ?_
    refine X.condT rfl ?_
    refine X.seq ?_
    refine X.region ?_
    refine XL.cons (XOp.buildSlice (s := 1) [] [.int .i64 (0)] [] Tryz.runUnderlying22 Tryz.sizeOf2 Tryz.zeroValue2 rfl (by decide) rfl CellsAre.nil rfl ?_)
    intro v1 hv1
    refine XL.cons (XOp.assign (v1) rfl ?_)
    refine XL.cons (XOp.assign (.bool (false)) rfl ?_)
    refine XL.nil ?_
    show X _ _ _ _ _ _ (intsH 2 v1 ([] : List Int) :: cellsH b1 [arv, rsv] 45 :: L)
    refine X.freezeF [] _ _ rfl (fun F1 le1 hz1 => ?_)
    replace har := har.mono le1
    replace hrs := hrs.mono le1
    replace ht := ht.mono le1
    have hf1 : IntsF F1 v1 ([]) := intsH.fz (xs := []) hz1.fz
    refine X.ret (thenQ_ret (retEnd (L' := L) [v1, .bool (false)] (.tuple #[v1, .bool (false)]) (.tmp rfl (.tmp rfl .nil)) rfl le1 (FLe.refl _) (Sub.drop (Sub.refl _)) ?_))
    have hz0 : stepAtL ar rs t p r = none := by rw [stepAtL, if_neg (by unfold stepAtOk; cases hA : rightB ar rs t <;> simp_all <;> omega)]
    exact ⟨_, by rw [hz0]; rfl, by rw [hz0]; exact hf1, rfl⟩
  · rw [Bool.not_eq_true] at h1
    refine XL.yes (t := 14) rfl (congrArg Value.bool h1) (XOp.move (tv) rfl ?_)
    refine XL.yes (t := 14) rfl (congrArg Value.bool h1) (XOp.move (.int .i64 (p)) rfl ?_)
    refine XL.yes (t := 14) rfl (congrArg Value.bool h1) (XOp.call (args := [tv, .int .i64 (p)]) Tryz.call111 rfl (l1There_spec (n := p) ht (hbd := (by first | assumption | rfl | omega | (left; simp; done) | (right; simp; done)))) ?_)
    rintro _ _ _ _ ⟨rfl, rfl, rfl⟩
    refine XL.yes (t := 14) rfl (congrArg Value.bool h1) (XOp.notD (p := 0 ≤ p ∧ p < (t.length : Int)) rfl ?_)
    refine XL.cons (XOp.pickF (.bool (decide (¬(0 ≤ p ∧ p < (t.length : Int))))) (congrArg Value.bool h1) rfl ?_)
    refine XL.cons (XOp.move (.bool (decide (¬(0 ≤ p ∧ p < (t.length : Int))))) rfl ?_)
    by_cases h2 : ¬(0 ≤ p ∧ p < (t.length : Int))
    · refine XL.no (t := 20) rfl (congrArg Value.bool (decide_eq_true h2)) ?_
      refine XL.no (t := 20) rfl (congrArg Value.bool (decide_eq_true h2)) ?_
      refine XL.no (t := 20) rfl (congrArg Value.bool (decide_eq_true h2)) ?_
      refine XL.no (t := 20) rfl (congrArg Value.bool (decide_eq_true h2)) ?_
      refine XL.no (t := 20) rfl (congrArg Value.bool (decide_eq_true h2)) ?_
      refine XL.no (t := 20) rfl (congrArg Value.bool (decide_eq_true h2)) ?_
      refine XL.no (t := 20) rfl (congrArg Value.bool (decide_eq_true h2)) ?_
      refine XL.cons (XOp.pickT (.bool (true)) (congrArg Value.bool (decide_eq_true h2)) rfl ?_)
      refine XL.nil ?_
      refine X.condT rfl ?_
      refine X.seq ?_
      refine X.region ?_
      refine XL.cons (XOp.buildSlice (s := 1) [] [.int .i64 (0)] [] Tryz.runUnderlying22 Tryz.sizeOf2 Tryz.zeroValue2 rfl (by decide) rfl CellsAre.nil rfl ?_)
      intro v2 hv2
      refine XL.cons (XOp.assign (v2) rfl ?_)
      refine XL.cons (XOp.assign (.bool (false)) rfl ?_)
      refine XL.nil ?_
      show X _ _ _ _ _ _ (intsH 2 v2 ([] : List Int) :: cellsH b1 [arv, rsv] 45 :: L)
      refine X.freezeF [] _ _ rfl (fun F2 le2 hz2 => ?_)
      replace har := har.mono le2
      replace hrs := hrs.mono le2
      replace ht := ht.mono le2
      have hf2 : IntsF F2 v2 ([]) := intsH.fz (xs := []) hz2.fz
      refine X.ret (thenQ_ret (retEnd (L' := L) [v2, .bool (false)] (.tuple #[v2, .bool (false)]) (.tmp rfl (.tmp rfl .nil)) rfl le2 (FLe.refl _) (Sub.drop (Sub.refl _)) ?_))
      have hz0 : stepAtL ar rs t p r = none := by rw [stepAtL, if_neg (by unfold stepAtOk; cases hA : rightB ar rs t <;> simp_all <;> omega)]
      exact ⟨_, by rw [hz0]; rfl, by rw [hz0]; exact hf2, rfl⟩
    · refine XL.yes (t := 20) rfl (congrArg Value.bool (decide_eq_false h2)) (XOp.move (.int .i64 (r)) rfl ?_)
      refine XL.yes (t := 20) rfl (congrArg Value.bool (decide_eq_false h2)) (XOp.fieldP (b := b1) (1) Tryz.runUnderlying45 rfl Tryz.sizeOf43 (by decide) rfl rfl ?_)
      refine XL.yes (t := 20) rfl (congrArg Value.bool (decide_eq_false h2)) (XOp.load1 (v := rsv) Tryz.isAgg43 rfl (Rd.own [] rfl rfl) ?_)
      refine XL.yes (t := 20) rfl (congrArg Value.bool (decide_eq_false h2)) (XOp.lenS (v := rsv) (n := (rs).length) Tryz.runUnderlying43 rfl hrs.slv ?_)
      refine XL.yes (t := 20) rfl (congrArg Value.bool (decide_eq_false h2)) (XOp.subR (a := (((rs).length : Nat) : Int)) (b := 1) (((((rs).length : Nat) : Int)) - 1) rfl rfl (by omega) (by omega) ?_)
      refine XL.yes (t := 20) rfl (congrArg Value.bool (decide_eq_false h2)) (XOp.call (args := [.int .i64 (r), .int .i64 (0), .int .i64 (((((rs).length : Nat) : Int)) - 1)]) Tryz.call66 rfl (l1In_spec (n := r) (a := 0) (b := ((((rs).length : Nat) : Int)) - 1)) ?_)
      rintro _ _ _ _ ⟨rfl, rfl, rfl⟩
      refine XL.yes (t := 20) rfl (congrArg Value.bool (decide_eq_false h2)) (XOp.notD (p := 0 ≤ r ∧ r ≤ (((((rs).length : Nat) : Int)) - 1)) rfl ?_)
      refine XL.cons (XOp.pickF (.bool (decide (¬(0 ≤ r ∧ r ≤ (((((rs).length : Nat) : Int)) - 1))))) (congrArg Value.bool (decide_eq_false h2)) rfl ?_)
      refine XL.nil ?_
      refine X.condD (p := ¬(0 ≤ r ∧ r ≤ (((((rs).length : Nat) : Int)) - 1))) rfl (fun h3 => ?_) (fun h3 => ?_)
      · refine X.seq ?_
        refine X.region ?_
        refine XL.cons (XOp.buildSlice (s := 1) [] [.int .i64 (0)] [] Tryz.runUnderlying22 Tryz.sizeOf2 Tryz.zeroValue2 rfl (by decide) rfl CellsAre.nil rfl ?_)
        intro v3 hv3
        refine XL.cons (XOp.assign (v3) rfl ?_)
        refine XL.cons (XOp.assign (.bool (false)) rfl ?_)
        refine XL.nil ?_
        show X _ _ _ _ _ _ (intsH 2 v3 ([] : List Int) :: cellsH b1 [arv, rsv] 45 :: L)
        refine X.freezeF [] _ _ rfl (fun F3 le3 hz3 => ?_)
        replace har := har.mono le3
        replace hrs := hrs.mono le3
        replace ht := ht.mono le3
        have hf3 : IntsF F3 v3 ([]) := intsH.fz (xs := []) hz3.fz
        refine X.ret (thenQ_ret (retEnd (L' := L) [v3, .bool (false)] (.tuple #[v3, .bool (false)]) (.tmp rfl (.tmp rfl .nil)) rfl le3 (FLe.refl _) (Sub.drop (Sub.refl _)) ?_))
        have hz0 : stepAtL ar rs t p r = none := by rw [stepAtL, if_neg (by unfold stepAtOk; cases hA : rightB ar rs t <;> simp_all <;> omega)]
        exact ⟨_, by rw [hz0]; rfl, by rw [hz0]; exact hf3, rfl⟩
      · refine X.skip ?_
        refine X.seq ?_
        refine X.region ?_
        have hok : stepAtOk ar rs t p r = true := by unfold stepAtOk; cases hA : rightB ar rs t <;> simp_all <;> omega
        have hok2 := hok
        unfold stepAtOk rightB at hok2
        simp only [Bool.and_eq_true, decide_eq_true_eq] at hok2
        obtain ⟨⟨⟨hsys, ho⟩, hp1⟩, hr1⟩ := hok2
        refine XL.cons (XOp.loadN [arv, rsv] Tryz.isAgg45 Tryz.sizeOf45 rfl rfl (Rd.ownN [] rfl rfl) ?_)
        refine XL.cons (XOp.move (tv) rfl ?_)
        refine XL.cons (XOp.move (.int .i64 (p)) rfl ?_)
        refine XL.cons (XOp.move (.int .i64 (r)) rfl ?_)
        refine XL.cons (XOp.call (args := [.agg #[arv, rsv], tv, .int .i64 (((p).toNat : Nat) : Int), .int .i64 (((r).toNat : Nat) : Int)]) Tryz.call69 (by rw [show (((p).toNat : Nat) : Int) = p from by omega, show (((r).toNat : Nat) : Int) = r from by omega]; rfl) (l7Step_spec (p := (p).toNat) (r := (r).toNat) har hrs ht (hsys := (by first | assumption | rfl | omega | (left; simp; done) | (right; simp; done))) (ho := (by first | assumption | rfl | omega | (left; simp; done) | (right; simp; done))) (hp := (by first | assumption | rfl | omega | (left; simp; done) | (right; simp; done))) (hr := (by first | assumption | rfl | omega | (left; simp; done) | (right; simp; done)))) ?_)
        rintro _ F4 _ le4 ⟨x1, rfl, hr1, rfl⟩
        replace har := har.mono le4
        replace hrs := hrs.mono le4
        replace ht := ht.mono le4
        refine XL.cons (XOp.extract (x1) rfl rfl ?_)
        refine XL.cons (XOp.extract (.bool ((stepL ar rs t ((p).toNat) ((r).toNat)).isSome)) rfl rfl ?_)
        refine XL.cons (XOp.assign (x1) rfl ?_)
        refine XL.cons (XOp.assign (.bool ((stepL ar rs t ((p).toNat) ((r).toNat)).isSome)) rfl ?_)
        refine XL.nil ?_
        refine X.ret (retEnd (L' := L) [x1, .bool ((stepL ar rs t ((p).toNat) ((r).toNat)).isSome)] (.tuple #[x1, .bool ((stepL ar rs t ((p).toNat) ((r).toNat)).isSome)]) (.tmp rfl (.tmp rfl .nil)) rfl le4 (FLe.refl _) (Sub.drop (Sub.refl _)) ?_)
        have e := show stepAtL ar rs t p r = stepL ar rs t p.toNat r.toNat from by rw [stepAtL, if_pos hok]
        exact ⟨_, by rw [e], by rw [e]; exact hr1, rfl⟩

/- spec.WalkOk -/
theorem sWalkOk_spec {F : FH} {L : List HP} {arv : Value} {ar : List Int} (har : IntsF F arv ar) {rsv : Value} {rs : List (List Int × List Int)} (hrs : PairsF F rsv rs) {fv : Value} {f : List Int} (hf : IntsF F fv f) {ssv : Value} {ss : List StepT} (hss : StepsF F ssv ss) (hla : ar.length ≤ 4000000) (hlr : rs.length ≤ 4000000) (hrb : ∀ i, i < rs.length → (rs.getD i ([], [])).1.length ≤ 4000000 ∧ (rs.getD i ([], [])).2.length ≤ 4000000) (hlf : f.length ≤ 4000000) (hlss : ss.length ≤ 4000000) (hsb : ∀ i, i < ss.length → (ss.getD i (0, 0, [])).2.2.length ≤ 4000000) :
    Does Tryz.prog 37 [.agg #[arv, rsv], .agg #[fv, ssv]] F (L) (fun v F' L' => (.bool (walkOkL ar rs f ss) : Value) = v ∧ F = F' ∧ L = L') := by
  refine Does.of_X Tryz.func37 rfl rfl rfl ?_
  refine X.seq ?_
  refine X.region ?_
  refine XL.cons (XOp.box [arv, rsv] rfl rfl ?_)
  intro b1
  refine XL.cons (XOp.box [fv, ssv] rfl rfl ?_)
  intro b2
  refine XL.cons (XOp.assign (.bool (false)) rfl ?_)
  refine XL.nil ?_
  refine X.seq ?_
  refine X.seq ?_
  refine X.region ?_
  refine XL.cons (XOp.loadN [arv, rsv] Tryz.isAgg45 Tryz.sizeOf45 rfl rfl (Rd.ownN [_] rfl rfl) ?_)
  refine XL.cons (XOp.fieldP (b := b2) (0) Tryz.runUnderlying39 rfl Tryz.sizeOf22 (by decide) rfl rfl ?_)
  refine XL.cons (XOp.load1 (v := fv) Tryz.isAgg22 rfl (Rd.own [] rfl rfl) ?_)
  refine XL.cons (XOp.call (args := [.agg #[arv, rsv], fv]) Tryz.call81 rfl (l7Right_spec har hrs hf (hla := (by first | assumption | rfl | omega | (left; simp; done) | (right; simp; done))) (hlr := (by first | assumption | rfl | omega | (left; simp; done) | (right; simp; done))) (hrb := (by first | assumption | rfl | omega | (left; simp; done) | (right; simp; done))) (hlt := (by first | assumption | rfl | omega | (left; simp; done) | (right; simp; done)))) ?_)
  rintro _ _ _ _ ⟨rfl, rfl, rfl⟩
  refine XL.cons (XOp.notB (b := rightB ar rs f) rfl ?_)
  refine XL.cons (XOp.move (.bool (!(rightB ar rs f))) rfl ?_)
  by_cases h1 : (!(rightB ar rs f)) = true
  · refine XL.no (t := 14) rfl (congrArg Value.bool h1) ?_
    refine XL.no (t := 14) rfl (congrArg Value.bool h1) ?_
    refine XL.no (t := 14) rfl (congrArg Value.bool h1) ?_
    refine XL.no (t := 14) rfl (congrArg Value.bool h1) ?_
    refine XL.cons (XOp.pickT (.bool (true)) (congrArg Value.bool h1) rfl ?_)
    refine XL.nil ?_
    refine X.condT rfl ?_
    refine X.seq ?_
    refine X.region ?_
    refine XL.cons (XOp.assign (.bool (false)) rfl ?_)
    refine XL.nil ?_
    refine X.ret (thenQ_ret (retEnd (L' := L) [.bool (false)] (.bool (false)) (.tmp rfl .nil) rfl (FLe.refl _) (FLe.refl _) (Sub.drop (Sub.drop (Sub.refl _))) ?_))
    exact ⟨(congrArg Value.bool (by unfold walkOkL; simp_all <;> omega)), rfl, rfl⟩
  · rw [Bool.not_eq_true] at h1
    refine XL.yes (t := 14) rfl (congrArg Value.bool h1) (XOp.fieldP (b := b2) (1) Tryz.runUnderlying39 rfl Tryz.sizeOf37 (by decide) rfl rfl ?_)
    refine XL.yes (t := 14) rfl (congrArg Value.bool h1) (XOp.load1 (v := ssv) Tryz.isAgg37 rfl (Rd.own [] rfl rfl) ?_)
    refine XL.yes (t := 14) rfl (congrArg Value.bool h1) (XOp.lenS (v := ssv) (n := (ss).length) Tryz.runUnderlying37 rfl hss.slv ?_)
    refine XL.yes (t := 14) rfl (congrArg Value.bool h1) (XOp.gtr (a := (((ss).length : Nat) : Int)) (b := 60) rfl rfl ?_)
    refine XL.cons (XOp.pickF (.bool (decide (((((ss).length : Nat) : Int) : Int) > 60))) (congrArg Value.bool h1) rfl ?_)
    refine XL.nil ?_
    refine X.condD (p := ((((ss).length : Nat) : Int) : Int) > 60) rfl (fun h2 => ?_) (fun h2 => ?_)
    · refine X.seq ?_
      refine X.region ?_
      refine XL.cons (XOp.assign (.bool (false)) rfl ?_)
      refine XL.nil ?_
      refine X.ret (thenQ_ret (retEnd (L' := L) [.bool (false)] (.bool (false)) (.tmp rfl .nil) rfl (FLe.refl _) (FLe.refl _) (Sub.drop (Sub.drop (Sub.refl _))) ?_))
      exact ⟨(congrArg Value.bool (by unfold walkOkL; simp_all <;> omega)), rfl, rfl⟩
    · refine X.skip ?_
      refine X.seq ?_
      refine X.region ?_
      refine XL.cons (XOp.fieldP (b := b2) (0) Tryz.runUnderlying39 rfl Tryz.sizeOf22 (by decide) rfl rfl ?_)
      refine XL.cons (XOp.load1 (v := fv) Tryz.isAgg22 rfl (Rd.own [] rfl rfl) ?_)
      refine XL.cons (XOp.assign (fv) rfl ?_)
      refine XL.nil ?_
      refine X.seq ?_
      refine X.seq ?_
      refine X.region ?_
      refine XL.cons (XOp.assign (.int .i64 (0)) rfl ?_)
      refine XL.nil ?_
      refine X.block ?_
      refine X.loop (α := Nat × Value × List Int × FH) (fun xQ => [(2, ptr b1 0), (3, ptr b2 0), (5, xQ.2.1), (6, .int .i64 (((xQ.1 : Nat) : Int)))]) (fun xQ => cellsH b2 [fv, ssv] 39 :: cellsH b1 [arv, rsv] 45 :: L) (fun xQ F' => xQ.2.2.2 = F' ∧ F ≤ xQ.2.2.2 ∧ (IntsF xQ.2.2.2 xQ.2.1 xQ.2.2.1) ∧ (xQ.1 ≤ ss.length) ∧ (goOk ar rs f ss = goOk ar rs xQ.2.2.1 (ss.drop xQ.1)) ∧ (xQ.2.2.1.length ≤ 4000000)) (fun xQ => ss.length - xQ.1) (0, fv, f, F) ⟨rfl, rfl, rfl, rfl, trivial⟩ (Sub.cons (Sub.cons (Sub.refl _))) ⟨rfl, FLe.refl _, (hf), (by (try dsimp only) <;> omega), (rfl), (hlf)⟩ ?_
      rintro ⟨k, cv, cur, G1⟩ rE _ _ ⟨rfl, leG, hcv, hk, hgo, hcl⟩
      show X _ _ _ _ (envs [(2, ptr b1 0), (3, ptr b2 0), (5, cv), (6, .int .i64 (((k : Nat) : Int)))] rE) _ (cellsH b2 [fv, ssv] 39 :: cellsH b1 [arv, rsv] 45 :: L)
      replace leG : F ≤ G1 := leG
      dsimp only at hcv hk hgo hcl
      have hsk := hsb k
      have leG1 := leG
      replace har := har.mono leG1
      replace hrs := hrs.mono leG1
      replace hf := hf.mono leG1
      replace hss := hss.mono leG1
      refine X.seq ?_
      refine X.seq ?_
      refine X.region ?_
      refine XL.cons (XOp.move (.int .i64 (((k : Nat) : Int))) rfl ?_)
      refine XL.cons (XOp.fieldP (b := b2) (1) Tryz.runUnderlying39 rfl Tryz.sizeOf37 (by decide) rfl rfl ?_)
      refine XL.cons (XOp.load1 (v := ssv) Tryz.isAgg37 rfl (Rd.own [] rfl rfl) ?_)
      refine XL.cons (XOp.lenS (v := ssv) (n := (ss).length) Tryz.runUnderlying37 rfl hss.slv ?_)
      refine XL.cons (XOp.lss (a := ((k : Nat) : Int)) (b := (((ss).length : Nat) : Int)) rfl rfl ?_)
      refine XL.nil ?_
      refine X.condD (p := (((k : Nat) : Int) : Int) < (((ss).length : Nat) : Int)) rfl (fun h3 => ?_) (fun h3 => ?_)
      · refine X.skip ?_
        refine X.seq ?_
        refine X.block ?_
        refine X.seq ?_
        obtain ⟨a1, ha1, hr1, hr2, hr3⟩ := hss.rd (i := k) (by omega)
        refine X.drawG [cellsH b2 [fv, ssv] 39, cellsH b1 [arv, rsv] 45] L 19 [[], [], [], [], [], [], [], [], [], [], [], [], [], [], [], [14], [14], [], [14]] [[], [], [], [2], [], [3, 4], [5], [6], [], [8], [], [9, 10], [11], [12], [0, 1, 7, 13], [14], [14, 15], [14, 15], [14, 16]] [[], [], [], [], [], [], [], [], [], [], [], [], [], [], [], [], [], [], []] (phiG [fun FF us v => v = (.agg #[arv, rsv] : Value), fun FF us v => v = cv, fun FF us v => v = ptr b2 1, fun FF us v => v = ssv, fun FF us v => v = (.int .i64 (((k : Nat) : Int)) : Value), fun FF us v => v = (.pointer (some (elemA ssv (k * 3))) : Value), fun FF us v => v = (.pointer (some (elemA ssv (k * 3))) : Value), fun FF us v => v = (.int .i64 ((ss.getD k (0, 0, [])).1) : Value), fun FF us v => v = ptr b2 1, fun FF us v => v = ssv, fun FF us v => v = (.int .i64 (((k : Nat) : Int)) : Value), fun FF us v => v = (.pointer (some (elemA ssv (k * 3))) : Value), fun FF us v => v = (.pointer (some (elemA ssv (k * 3 + 1))) : Value), fun FF us v => v = (.int .i64 ((ss.getD k (0, 0, [])).2.1) : Value), fun FF us v => (.tuple #[((tupAt v 0)), .bool ((stepAtL ar rs cur ((ss.getD k (0, 0, [])).1) ((ss.getD k (0, 0, [])).2.1)).isSome)] : Value) = v ∧ (IntsF FF ((tupAt v 0)) ((stepAtL ar rs cur ((ss.getD k (0, 0, [])).1) ((ss.getD k (0, 0, [])).2.1)).getD [])), fun FF us v => v = (.tuple #[((tupAt (us.getD 0 undef) 0)), .bool ((stepAtL ar rs cur ((ss.getD k (0, 0, [])).1) ((ss.getD k (0, 0, [])).2.1)).isSome)] : Value), fun FF us v => v = ((tupAt (us.getD 0 undef) 0)), fun FF us v => v = (.bool ((stepAtL ar rs cur ((ss.getD k (0, 0, [])).1) ((ss.getD k (0, 0, [])).2.1)).isSome) : Value), fun FF us v => v = ((tupAt (us.getD 0 undef) 0))]) (ownL [fun us v => [], fun us v => [], fun us v => [], fun us v => [], fun us v => [], fun us v => [], fun us v => [], fun us v => [], fun us v => [], fun us v => [], fun us v => [], fun us v => [], fun us v => [], fun us v => [], fun us v => [], fun us v => [], fun us v => [], fun us v => [], fun us v => []]) mixed rfl rfl (by kernel_rfl) (by kernel_rfl) (MonoG.get (MonoG.cons (fun le h => h) (MonoG.cons (fun le h => h) (MonoG.cons (fun le h => h) (MonoG.cons (fun le h => h) (MonoG.cons (fun le h => h) (MonoG.cons (fun le h => h) (MonoG.cons (fun le h => h) (MonoG.cons (fun le h => h) (MonoG.cons (fun le h => h) (MonoG.cons (fun le h => h) (MonoG.cons (fun le h => h) (MonoG.cons (fun le h => h) (MonoG.cons (fun le h => h) (MonoG.cons (fun le h => h) (MonoG.cons (fun le h => ⟨h.1, h.2.mono le⟩) (MonoG.cons (fun le h => h) (MonoG.cons (fun le h => h) (MonoG.cons (fun le h => h) (MonoG.cons (fun le h => h) MonoG.nil)))))))))))))))))))) ?_ ?_
        · refine stepsG.cons (fun vals Fs R leFs hpZ => ?_) ?_
          · replace har := har.mono leFs
            replace hrs := hrs.mono leFs
            replace hf := hf.mono leFs
            replace hss := hss.mono leFs
            replace hcv := hcv.mono leFs
            replace ha1 := ha1.mono leFs
            replace hr1 := Rd.monoA hr1 leFs
            replace hr2 := Rd.monoA hr2 leFs
            replace hr3 := Rd.monoA hr3 leFs
            refine XG.op (XOp.loadN [arv, rsv] Tryz.isAgg45 Tryz.sizeOf45 rfl rfl (Rd.ownN [_] rfl rfl) ?_)
            exact ⟨rfl, rfl⟩
          refine stepsG.cons (fun vals Fs R leFs hpZ => ?_) ?_
          · refine XG.op (XOp.move (cv) rfl ?_)
            exact ⟨rfl, rfl⟩
          refine stepsG.cons (fun vals Fs R leFs hpZ => ?_) ?_
          · refine XG.op (XOp.fieldP (b := b2) (1) Tryz.runUnderlying39 rfl Tryz.sizeOf37 (by decide) rfl rfl ?_)
            exact ⟨rfl, rfl⟩
          refine stepsG.cons (fun vals Fs R leFs hpZ => ?_) ?_
          · have e2 : vals 2 = ptr b2 1 := hpZ 2 (by decide)
            replace har := har.mono leFs
            replace hrs := hrs.mono leFs
            replace hf := hf.mono leFs
            replace hss := hss.mono leFs
            replace hcv := hcv.mono leFs
            replace ha1 := ha1.mono leFs
            replace hr1 := Rd.monoA hr1 leFs
            replace hr2 := Rd.monoA hr2 leFs
            replace hr3 := Rd.monoA hr3 leFs
            rw [(envs_of_sat (l := [(2, ptr b2 1)]) ⟨e2, trivial⟩).symm]
            refine XG.op (XOp.load1 (v := ssv) Tryz.isAgg37 rfl (Rd.own [] rfl rfl) ?_)
            exact ⟨rfl, rfl⟩
          refine stepsG.cons (fun vals Fs R leFs hpZ => ?_) ?_
          · refine XG.op (XOp.move (.int .i64 (((k : Nat) : Int))) rfl ?_)
            exact ⟨rfl, rfl⟩
          refine stepsG.cons (fun vals Fs R leFs hpZ => ?_) ?_
          · have e3 : vals 3 = ssv := hpZ 3 (by decide)
            have e4 : vals 4 = (.int .i64 (((k : Nat) : Int)) : Value) := hpZ 4 (by decide)
            replace har := har.mono leFs
            replace hrs := hrs.mono leFs
            replace hf := hf.mono leFs
            replace hss := hss.mono leFs
            replace hcv := hcv.mono leFs
            replace ha1 := ha1.mono leFs
            replace hr1 := Rd.monoA hr1 leFs
            replace hr2 := Rd.monoA hr2 leFs
            replace hr3 := Rd.monoA hr3 leFs
            rw [(envs_of_sat (l := [(3, ssv), (4, (.int .i64 (((k : Nat) : Int)) : Value))]) ⟨e3, e4, trivial⟩).symm]
            refine XG.op (XOp.indexS (v := ssv) (i := ((k : Nat) : Int)) (n := (ss).length) k Tryz.runUnderlying37 Tryz.sizeOf78 rfl rfl rfl hss.slv (by omega) rfl ?_)
            exact ⟨rfl, rfl⟩
          refine stepsG.cons (fun vals Fs R leFs hpZ => ?_) ?_
          · have e5 : vals 5 = (.pointer (some (elemA ssv (k * 3))) : Value) := hpZ 5 (by decide)
            rw [(envs_of_sat (l := [(5, (.pointer (some (elemA ssv (k * 3))) : Value))]) ⟨e5, trivial⟩).symm]
            refine XG.op (XOp.fieldE (v := ssv) (k * 3) Tryz.runUnderlying78 rfl Tryz.sizeOf2 (by decide) rfl rfl ?_)
            exact ⟨rfl, rfl⟩
          refine stepsG.cons (fun vals Fs R leFs hpZ => ?_) ?_
          · have e6 : vals 6 = (.pointer (some (elemA ssv (k * 3))) : Value) := hpZ 6 (by decide)
            replace har := har.mono leFs
            replace hrs := hrs.mono leFs
            replace hf := hf.mono leFs
            replace hss := hss.mono leFs
            replace hcv := hcv.mono leFs
            replace ha1 := ha1.mono leFs
            replace hr1 := Rd.monoA hr1 leFs
            replace hr2 := Rd.monoA hr2 leFs
            replace hr3 := Rd.monoA hr3 leFs
            rw [(envs_of_sat (l := [(6, (.pointer (some (elemA ssv (k * 3))) : Value))]) ⟨e6, trivial⟩).symm]
            refine XG.op (XOp.load1 (v := .int .i64 ((ss.getD k (0, 0, [])).1)) Tryz.isAgg2 rfl (hr1 _) ?_)
            exact ⟨rfl, rfl⟩
          refine stepsG.cons (fun vals Fs R leFs hpZ => ?_) ?_
          · refine XG.op (XOp.fieldP (b := b2) (1) Tryz.runUnderlying39 rfl Tryz.sizeOf37 (by decide) rfl rfl ?_)
            exact ⟨rfl, rfl⟩
          refine stepsG.cons (fun vals Fs R leFs hpZ => ?_) ?_
          · have e8 : vals 8 = ptr b2 1 := hpZ 8 (by decide)
            replace har := har.mono leFs
            replace hrs := hrs.mono leFs
            replace hf := hf.mono leFs
            replace hss := hss.mono leFs
            replace hcv := hcv.mono leFs
            replace ha1 := ha1.mono leFs
            replace hr1 := Rd.monoA hr1 leFs
            replace hr2 := Rd.monoA hr2 leFs
            replace hr3 := Rd.monoA hr3 leFs
            rw [(envs_of_sat (l := [(8, ptr b2 1)]) ⟨e8, trivial⟩).symm]
            refine XG.op (XOp.load1 (v := ssv) Tryz.isAgg37 rfl (Rd.own [] rfl rfl) ?_)
            exact ⟨rfl, rfl⟩
          refine stepsG.cons (fun vals Fs R leFs hpZ => ?_) ?_
          · refine XG.op (XOp.move (.int .i64 (((k : Nat) : Int))) rfl ?_)
            exact ⟨rfl, rfl⟩
          refine stepsG.cons (fun vals Fs R leFs hpZ => ?_) ?_
          · have e9 : vals 9 = ssv := hpZ 9 (by decide)
            have e10 : vals 10 = (.int .i64 (((k : Nat) : Int)) : Value) := hpZ 10 (by decide)
            replace har := har.mono leFs
            replace hrs := hrs.mono leFs
            replace hf := hf.mono leFs
            replace hss := hss.mono leFs
            replace hcv := hcv.mono leFs
            replace ha1 := ha1.mono leFs
            replace hr1 := Rd.monoA hr1 leFs
            replace hr2 := Rd.monoA hr2 leFs
            replace hr3 := Rd.monoA hr3 leFs
            rw [(envs_of_sat (l := [(9, ssv), (10, (.int .i64 (((k : Nat) : Int)) : Value))]) ⟨e9, e10, trivial⟩).symm]
            refine XG.op (XOp.indexS (v := ssv) (i := ((k : Nat) : Int)) (n := (ss).length) k Tryz.runUnderlying37 Tryz.sizeOf78 rfl rfl rfl hss.slv (by omega) rfl ?_)
            exact ⟨rfl, rfl⟩
          refine stepsG.cons (fun vals Fs R leFs hpZ => ?_) ?_
          · have e11 : vals 11 = (.pointer (some (elemA ssv (k * 3))) : Value) := hpZ 11 (by decide)
            rw [(envs_of_sat (l := [(11, (.pointer (some (elemA ssv (k * 3))) : Value))]) ⟨e11, trivial⟩).symm]
            refine XG.op (XOp.fieldE (v := ssv) (k * 3 + 1) Tryz.runUnderlying78 rfl Tryz.sizeOf2 (by decide) rfl rfl ?_)
            exact ⟨rfl, rfl⟩
          refine stepsG.cons (fun vals Fs R leFs hpZ => ?_) ?_
          · have e12 : vals 12 = (.pointer (some (elemA ssv (k * 3 + 1))) : Value) := hpZ 12 (by decide)
            replace har := har.mono leFs
            replace hrs := hrs.mono leFs
            replace hf := hf.mono leFs
            replace hss := hss.mono leFs
            replace hcv := hcv.mono leFs
            replace ha1 := ha1.mono leFs
            replace hr1 := Rd.monoA hr1 leFs
            replace hr2 := Rd.monoA hr2 leFs
            replace hr3 := Rd.monoA hr3 leFs
            rw [(envs_of_sat (l := [(12, (.pointer (some (elemA ssv (k * 3 + 1))) : Value))]) ⟨e12, trivial⟩).symm]
            refine XG.op (XOp.load1 (v := .int .i64 ((ss.getD k (0, 0, [])).2.1)) Tryz.isAgg2 rfl (hr2 _) ?_)
            exact ⟨rfl, rfl⟩
          refine stepsG.cons (fun vals Fs R leFs hpZ => ?_) ?_
          · have e0 : vals 0 = (.agg #[arv, rsv] : Value) := hpZ 0 (by decide)
            have e1 : vals 1 = cv := hpZ 1 (by decide)
            have e7 : vals 7 = (.int .i64 ((ss.getD k (0, 0, [])).1) : Value) := hpZ 7 (by decide)
            have e13 : vals 13 = (.int .i64 ((ss.getD k (0, 0, [])).2.1) : Value) := hpZ 13 (by decide)
            replace har := har.mono leFs
            replace hrs := hrs.mono leFs
            replace hf := hf.mono leFs
            replace hss := hss.mono leFs
            replace hcv := hcv.mono leFs
            replace ha1 := ha1.mono leFs
            replace hr1 := Rd.monoA hr1 leFs
            replace hr2 := Rd.monoA hr2 leFs
            replace hr3 := Rd.monoA hr3 leFs
            rw [(envs_of_sat (l := [(0, (.agg #[arv, rsv] : Value)), (1, cv), (7, (.int .i64 ((ss.getD k (0, 0, [])).1) : Value)), (13, (.int .i64 ((ss.getD k (0, 0, [])).2.1) : Value))]) ⟨e0, e1, e7, e13, trivial⟩).symm]
            refine XG.op (XOp.call (args := [.agg #[arv, rsv], cv, .int .i64 ((ss.getD k (0, 0, [])).1), .int .i64 ((ss.getD k (0, 0, [])).2.1)]) Tryz.call82 rfl (sStepAt_spec (p := (ss.getD k (0, 0, [])).1) (r := (ss.getD k (0, 0, [])).2.1) har hrs hcv (hla := (by first | assumption | rfl | omega | (left; simp; done) | (right; simp; done))) (hlr := (by first | assumption | rfl | omega | (left; simp; done) | (right; simp; done))) (hrb := (by first | assumption | rfl | omega | (left; simp; done) | (right; simp; done))) (hlt := (by first | assumption | rfl | omega | (left; simp; done) | (right; simp; done)))) ?_)
            rintro _ F2 _ le2 ⟨x2, rfl, hr5, rfl⟩
            replace har := har.mono le2
            replace hrs := hrs.mono le2
            replace hf := hf.mono le2
            replace hss := hss.mono le2
            replace hcv := hcv.mono le2
            replace ha1 := ha1.mono le2
            replace hr1 := Rd.monoA hr1 le2
            replace hr2 := Rd.monoA hr2 le2
            replace hr3 := Rd.monoA hr3 le2
            exact ⟨⟨rfl, hr5⟩, rfl⟩
          refine stepsG.cons (fun vals Fs R leFs hpZ => ?_) ?_
          · obtain ⟨e14, f14_1hr⟩ := hpZ 14 (by decide)
            rw [(envs_of_sat (l := [(14, (.tuple #[((tupAt (vals 14) 0)), .bool ((stepAtL ar rs cur ((ss.getD k (0, 0, [])).1) ((ss.getD k (0, 0, [])).2.1)).isSome)] : Value))]) ⟨(e14).symm, trivial⟩).symm]
            refine XG.op (XOp.move (.tuple #[((tupAt (vals 14) 0)), .bool ((stepAtL ar rs cur ((ss.getD k (0, 0, [])).1) ((ss.getD k (0, 0, [])).2.1)).isSome)]) rfl ?_)
            exact ⟨rfl, rfl⟩
          refine stepsG.cons (fun vals Fs R leFs hpZ => ?_) ?_
          · obtain ⟨e14, f14_1hr⟩ := hpZ 14 (by decide)
            have e15 : vals 15 = (.tuple #[((tupAt (vals 14) 0)), .bool ((stepAtL ar rs cur ((ss.getD k (0, 0, [])).1) ((ss.getD k (0, 0, [])).2.1)).isSome)] : Value) := hpZ 15 (by decide)
            rw [(envs_of_sat (l := [(14, (.tuple #[((tupAt (vals 14) 0)), .bool ((stepAtL ar rs cur ((ss.getD k (0, 0, [])).1) ((ss.getD k (0, 0, [])).2.1)).isSome)] : Value)), (15, (.tuple #[((tupAt (vals 14) 0)), .bool ((stepAtL ar rs cur ((ss.getD k (0, 0, [])).1) ((ss.getD k (0, 0, [])).2.1)).isSome)] : Value))]) ⟨(e14).symm, e15, trivial⟩).symm]
            refine XG.op (XOp.extract (((tupAt (vals 14) 0))) rfl rfl ?_)
            exact ⟨rfl, rfl⟩
          refine stepsG.cons (fun vals Fs R leFs hpZ => ?_) ?_
          · obtain ⟨e14, f14_1hr⟩ := hpZ 14 (by decide)
            have e15 : vals 15 = (.tuple #[((tupAt (vals 14) 0)), .bool ((stepAtL ar rs cur ((ss.getD k (0, 0, [])).1) ((ss.getD k (0, 0, [])).2.1)).isSome)] : Value) := hpZ 15 (by decide)
            rw [(envs_of_sat (l := [(14, (.tuple #[((tupAt (vals 14) 0)), .bool ((stepAtL ar rs cur ((ss.getD k (0, 0, [])).1) ((ss.getD k (0, 0, [])).2.1)).isSome)] : Value)), (15, (.tuple #[((tupAt (vals 14) 0)), .bool ((stepAtL ar rs cur ((ss.getD k (0, 0, [])).1) ((ss.getD k (0, 0, [])).2.1)).isSome)] : Value))]) ⟨(e14).symm, e15, trivial⟩).symm]
            refine XG.op (XOp.extract (.bool ((stepAtL ar rs cur ((ss.getD k (0, 0, [])).1) ((ss.getD k (0, 0, [])).2.1)).isSome)) rfl rfl ?_)
            exact ⟨rfl, rfl⟩
          refine stepsG.cons (fun vals Fs R leFs hpZ => ?_) ?_
          · obtain ⟨e14, f14_1hr⟩ := hpZ 14 (by decide)
            have e16 : vals 16 = ((tupAt (vals 14) 0)) := hpZ 16 (by decide)
            rw [(envs_of_sat (l := [(14, (.tuple #[((tupAt (vals 14) 0)), .bool ((stepAtL ar rs cur ((ss.getD k (0, 0, [])).1) ((ss.getD k (0, 0, [])).2.1)).isSome)] : Value)), (16, ((tupAt (vals 14) 0)))]) ⟨(e14).symm, e16, trivial⟩).symm]
            refine XG.op (XOp.assign (((tupAt (vals 14) 0))) rfl ?_)
            exact ⟨rfl, rfl⟩
          exact stepsG.nil
        · intro vals F3 le3 hphi
          have e0 : vals 0 = (.agg #[arv, rsv] : Value) := hphi 0 (by decide)
          have e1 : vals 1 = cv := hphi 1 (by decide)
          have e2 : vals 2 = ptr b2 1 := hphi 2 (by decide)
          have e3 : vals 3 = ssv := hphi 3 (by decide)
          have e4 : vals 4 = (.int .i64 (((k : Nat) : Int)) : Value) := hphi 4 (by decide)
          have e5 : vals 5 = (.pointer (some (elemA ssv (k * 3))) : Value) := hphi 5 (by decide)
          have e6 : vals 6 = (.pointer (some (elemA ssv (k * 3))) : Value) := hphi 6 (by decide)
          have e7 : vals 7 = (.int .i64 ((ss.getD k (0, 0, [])).1) : Value) := hphi 7 (by decide)
          have e8 : vals 8 = ptr b2 1 := hphi 8 (by decide)
          have e9 : vals 9 = ssv := hphi 9 (by decide)
          have e10 : vals 10 = (.int .i64 (((k : Nat) : Int)) : Value) := hphi 10 (by decide)
          have e11 : vals 11 = (.pointer (some (elemA ssv (k * 3))) : Value) := hphi 11 (by decide)
          have e12 : vals 12 = (.pointer (some (elemA ssv (k * 3 + 1))) : Value) := hphi 12 (by decide)
          have e13 : vals 13 = (.int .i64 ((ss.getD k (0, 0, [])).2.1) : Value) := hphi 13 (by decide)
          obtain ⟨e14, f14_1hr⟩ := hphi 14 (by decide)
          have e15 : vals 15 = (.tuple #[((tupAt (vals 14) 0)), .bool ((stepAtL ar rs cur ((ss.getD k (0, 0, [])).1) ((ss.getD k (0, 0, [])).2.1)).isSome)] : Value) := hphi 15 (by decide)
          have e16 : vals 16 = ((tupAt (vals 14) 0)) := hphi 16 (by decide)
          have e17 : vals 17 = (.bool ((stepAtL ar rs cur ((ss.getD k (0, 0, [])).1) ((ss.getD k (0, 0, [])).2.1)).isSome) : Value) := hphi 17 (by decide)
          have e18 : vals 18 = ((tupAt (vals 14) 0)) := hphi 18 (by decide)
          generalize hu1 : ((tupAt (vals 14) 0)) = u1 at e0 e1 e2 e3 e4 e5 e6 e7 e8 e9 e10 e11 e12 e13 e14 f14_1hr e15 e16 e17 e18
          rw [(envs_of_sat (l := [(0, (.agg #[arv, rsv] : Value)), (1, cv), (2, ptr b2 1), (3, ssv), (4, (.int .i64 (((k : Nat) : Int)) : Value)), (5, (.pointer (some (elemA ssv (k * 3))) : Value)), (6, (.pointer (some (elemA ssv (k * 3))) : Value)), (7, (.int .i64 ((ss.getD k (0, 0, [])).1) : Value)), (8, ptr b2 1), (9, ssv), (10, (.int .i64 (((k : Nat) : Int)) : Value)), (11, (.pointer (some (elemA ssv (k * 3))) : Value)), (12, (.pointer (some (elemA ssv (k * 3 + 1))) : Value)), (13, (.int .i64 ((ss.getD k (0, 0, [])).2.1) : Value)), (14, (.tuple #[u1, .bool ((stepAtL ar rs cur ((ss.getD k (0, 0, [])).1) ((ss.getD k (0, 0, [])).2.1)).isSome)] : Value)), (15, (.tuple #[u1, .bool ((stepAtL ar rs cur ((ss.getD k (0, 0, [])).1) ((ss.getD k (0, 0, [])).2.1)).isSome)] : Value)), (16, u1), (17, (.bool ((stepAtL ar rs cur ((ss.getD k (0, 0, [])).1) ((ss.getD k (0, 0, [])).2.1)).isSome) : Value)), (18, u1)]) ⟨e0, e1, e2, e3, e4, e5, e6, e7, e8, e9, e10, e11, e12, e13, (e14).symm, e15, e16, e17, e18, trivial⟩).symm]
          replace har := har.mono le3
          replace hrs := hrs.mono le3
          replace hf := hf.mono le3
          replace hss := hss.mono le3
          replace hcv := hcv.mono le3
          replace ha1 := ha1.mono le3
          replace hr1 := Rd.monoA hr1 le3
          replace hr2 := Rd.monoA hr2 le3
          replace hr3 := Rd.monoA hr3 le3
          show XL _ _ _ _ _ _ _ (cellsH b2 [fv, ssv] 39 :: cellsH b1 [arv, rsv] 45 :: L)
          refine XL.cons (XOp.assign (.bool ((stepAtL ar rs cur ((ss.getD k (0, 0, [])).1) ((ss.getD k (0, 0, [])).2.1)).isSome)) rfl ?_)
          refine XL.nil ?_
          refine X.seq ?_
          refine X.seq ?_
          refine X.region ?_
          refine XL.cons (XOp.move (.bool ((stepAtL ar rs cur ((ss.getD k (0, 0, [])).1) ((ss.getD k (0, 0, [])).2.1)).isSome)) rfl ?_)
          refine XL.cons (XOp.notB (b := (stepAtL ar rs cur ((ss.getD k (0, 0, [])).1) ((ss.getD k (0, 0, [])).2.1)).isSome) rfl ?_)
          refine XL.cons (XOp.move (.bool (!((stepAtL ar rs cur ((ss.getD k (0, 0, [])).1) ((ss.getD k (0, 0, [])).2.1)).isSome))) rfl ?_)
          by_cases h4 : (!((stepAtL ar rs cur ((ss.getD k (0, 0, [])).1) ((ss.getD k (0, 0, [])).2.1)).isSome)) = true
          · have hu1 : (stepAtL ar rs cur (ss.getD k (0, 0, [])).1 (ss.getD k (0, 0, [])).2.1).isSome = false := by simpa using h4
            refine XL.no (t := 49) rfl (congrArg Value.bool h4) ?_
            refine XL.no (t := 49) rfl (congrArg Value.bool h4) ?_
            refine XL.no (t := 49) rfl (congrArg Value.bool h4) ?_
            refine XL.no (t := 49) rfl (congrArg Value.bool h4) ?_
            refine XL.no (t := 49) rfl (congrArg Value.bool h4) ?_
            refine XL.no (t := 49) rfl (congrArg Value.bool h4) ?_
            refine XL.no (t := 49) rfl (congrArg Value.bool h4) ?_
            refine XL.no (t := 49) rfl (congrArg Value.bool h4) ?_
            refine XL.no (t := 49) rfl (congrArg Value.bool h4) ?_
            refine XL.cons (XOp.pickT (.bool (true)) (congrArg Value.bool h4) rfl ?_)
            refine XL.nil ?_
            refine X.condT rfl ?_
            refine X.seq ?_
            refine X.region ?_
            refine XL.cons (XOp.assign (.bool (false)) rfl ?_)
            refine XL.nil ?_
            refine X.ret (thenQ_ret (blockQ_ret (thenQ_ret (thenQ_ret (blockQ_ret (thenQ_ret (retEnd (L' := L) [.bool (false)] (.bool (false)) (.tmp rfl .nil) rfl (FLe.refl _) (FLe.trans leG1 le3) (Sub.drop (Sub.drop (Sub.refl _))) ?_)))))))
            exact ⟨(congrArg Value.bool (by have hz := goOk_fail (ar := ar) (rs := rs) (t := cur) (ss := ss) (k := k) (by omega) (by first | exact .inl hu1 | exact .inr hu2); rw [walkOkL, hgo, hz]; simp)), rfl, rfl⟩
          · rw [Bool.not_eq_true] at h4
            have hu1 : (stepAtL ar rs cur (ss.getD k (0, 0, [])).1 (ss.getD k (0, 0, [])).2.1).isSome = true := by simpa using h4
            refine XL.yes (t := 49) rfl (congrArg Value.bool h4) (XOp.move (u1) rfl ?_)
            refine XL.yes (t := 49) rfl (congrArg Value.bool h4) (XOp.fieldP (b := b2) (1) Tryz.runUnderlying39 rfl Tryz.sizeOf37 (by decide) rfl rfl ?_)
            refine XL.yes (t := 49) rfl (congrArg Value.bool h4) (XOp.load1 (v := ssv) Tryz.isAgg37 rfl (Rd.own [] rfl rfl) ?_)
            refine XL.yes (t := 49) rfl (congrArg Value.bool h4) (XOp.move (.int .i64 (((k : Nat) : Int))) rfl ?_)
            refine XL.yes (t := 49) rfl (congrArg Value.bool h4) (XOp.indexS (v := ssv) (i := ((k : Nat) : Int)) (n := (ss).length) k Tryz.runUnderlying37 Tryz.sizeOf78 rfl rfl rfl hss.slv (by omega) rfl ?_)
            refine XL.yes (t := 49) rfl (congrArg Value.bool h4) (XOp.fieldE (v := ssv) (k * 3 + 2) Tryz.runUnderlying78 rfl Tryz.sizeOf22 (by decide) rfl rfl ?_)
            refine XL.yes (t := 49) rfl (congrArg Value.bool h4) (XOp.load1 (v := a1) Tryz.isAgg22 rfl (hr3 _) ?_)
            refine XL.yes (t := 49) rfl (congrArg Value.bool h4) (XOp.call (args := [u1, a1]) Tryz.call83 rfl (SameTerm_spec f14_1hr ha1 (hbd := (by first | assumption | rfl | omega | (left; simp; done) | (right; simp; done)))) ?_)
            rintro _ _ _ _ ⟨rfl, rfl, rfl⟩
            refine XL.yes (t := 49) rfl (congrArg Value.bool h4) (XOp.notD (p := ((stepAtL ar rs cur ((ss.getD k (0, 0, [])).1) ((ss.getD k (0, 0, [])).2.1)).getD []) = ((ss.getD k (0, 0, [])).2.2)) rfl ?_)
            refine XL.cons (XOp.pickF (.bool (decide (¬(((stepAtL ar rs cur ((ss.getD k (0, 0, [])).1) ((ss.getD k (0, 0, [])).2.1)).getD []) = ((ss.getD k (0, 0, [])).2.2))))) (congrArg Value.bool h4) rfl ?_)
            refine XL.nil ?_
            refine X.condD (p := ¬(((stepAtL ar rs cur ((ss.getD k (0, 0, [])).1) ((ss.getD k (0, 0, [])).2.1)).getD []) = ((ss.getD k (0, 0, [])).2.2))) rfl (fun h5 => ?_) (fun h5 => ?_)
            · have hu2 : (stepAtL ar rs cur (ss.getD k (0, 0, [])).1 (ss.getD k (0, 0, [])).2.1).getD [] ≠ (ss.getD k (0, 0, [])).2.2 := h5
              refine X.seq ?_
              refine X.region ?_
              refine XL.cons (XOp.assign (.bool (false)) rfl ?_)
              refine XL.nil ?_
              refine X.ret (thenQ_ret (blockQ_ret (thenQ_ret (thenQ_ret (blockQ_ret (thenQ_ret (retEnd (L' := L) [.bool (false)] (.bool (false)) (.tmp rfl .nil) rfl (FLe.refl _) (FLe.trans leG1 le3) (Sub.drop (Sub.drop (Sub.refl _))) ?_)))))))
              exact ⟨(congrArg Value.bool (by have hz := goOk_fail (ar := ar) (rs := rs) (t := cur) (ss := ss) (k := k) (by omega) (by first | exact .inl hu1 | exact .inr hu2); rw [walkOkL, hgo, hz]; simp)), rfl, rfl⟩
            · have hu2 : (stepAtL ar rs cur (ss.getD k (0, 0, [])).1 (ss.getD k (0, 0, [])).2.1).getD [] = (ss.getD k (0, 0, [])).2.2 := Classical.not_not.1 h5
              refine X.skip ?_
              refine X.region ?_
              refine XL.cons (XOp.move (u1) rfl ?_)
              refine XL.cons (XOp.assign (u1) rfl ?_)
              refine XL.nil ?_
              refine X.region ?_
              refine XL.cons (XOp.move (.int .i64 (((k : Nat) : Int))) rfl ?_)
              refine XL.cons (XOp.addR (a := ((k : Nat) : Int)) (b := 1) (((k + 1 : Nat) : Int)) rfl rfl (by omega) (by omega) ?_)
              refine XL.cons (XOp.assign (.int .i64 (((k + 1 : Nat) : Int))) rfl ?_)
              refine XL.nil ?_
              exact ⟨(k + 1, u1, (stepAtL ar rs cur ((ss.getD k (0, 0, [])).1) ((ss.getD k (0, 0, [])).2.1)).getD [], F3), _, (FLe.trans leG1 le3), (FLe.refl _), ⟨rfl, rfl, rfl, rfl, trivial⟩, (Sub.cons (Sub.cons (Sub.refl _))), ⟨rfl, (FLe.trans leG1 le3), (f14_1hr), (by (try dsimp only) <;> omega), (by (try dsimp only); rw [hgo]; exact goOk_next (by omega) hu1 hu2), (by (try dsimp only); rw [hu2]; exact hsk (by omega))⟩, (by omega)⟩
      · refine X.exit (thenQ_exit (thenQ_exit (blockQ_exit ?_)))
        refine X.seq ?_
        refine X.region ?_
        refine XL.cons (XOp.assign (.bool (true)) rfl ?_)
        refine XL.nil ?_
        refine X.ret (retEnd (L' := L) [.bool (true)] (.bool (true)) (.tmp rfl .nil) rfl (FLe.refl _) leG1 (Sub.drop (Sub.drop (Sub.refl _))) ?_)
        exact ⟨(congrArg Value.bool (by rw [walkOkL, hgo, goOk_end (by omega)]; simp_all <;> omega)), rfl, rfl⟩
end Go.Proofs.YtacbenjncjcglaaGreat
