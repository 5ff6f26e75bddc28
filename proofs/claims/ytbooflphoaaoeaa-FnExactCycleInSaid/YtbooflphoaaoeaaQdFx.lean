/-
  Walks: substitutions that are right, loops; the statements LoopOk, CycleIn.
-/
import Derived.Test.YtbooflphoaaoeaaQdFt
import Derived.Test.YtbooflphoaaoeaaP11
set_option linter.unusedSimpArgs false
set_option linter.unusedVariables false
namespace Go.Proofs.Ytbooflphoaaoeaa
open Go X M

/- impl.SubstOk -/
theorem SubstOk_spec {F : FH} {L : List HP} {arv : Value} {ar : List Int} (har : IntsF F arv ar) {sv : Value} {s : List (List Int)} (hs : RowsF F sv s) :
    Does Try.prog 110 [.agg #[arv], .agg #[sv]] F (L) (fun v F' L' => (.bool (substOk ar s) : Value) = v ∧ F = F' ∧ L = L') := by
  refine Does.of_X Try.func110 rfl rfl rfl ?_
  refine X.seq ?_
  refine X.region ?_
  refine XL.cons (XOp.box [arv] rfl rfl ?_)
  intro b1
  refine XL.cons (XOp.box [sv] rfl rfl ?_)
  intro b2
  refine XL.cons (XOp.assign (.bool (false)) rfl ?_)
  refine XL.nil ?_
  refine X.seq ?_
  refine X.seq ?_
  refine X.region ?_
  refine XL.cons (XOp.loadN [arv] Try.isAgg34 Try.sizeOf34 rfl rfl (Rd.ownN [_] rfl rfl) ?_)
  refine XL.cons (XOp.call (args := [.agg #[arv]]) Try.call87 rfl (SigOk_spec har) ?_)
  rintro _ _ _ _ ⟨rfl, rfl, rfl⟩
  refine XL.cons (XOp.notB (b := sigOk ar) rfl ?_)
  refine XL.cons (XOp.move (.bool (!(sigOk ar))) rfl ?_)
  by_cases h1 : (!(sigOk ar)) = true
  · refine XL.no (t := 10) rfl (congrArg Value.bool h1) ?_
    refine XL.no (t := 10) rfl (congrArg Value.bool h1) ?_
    refine XL.no (t := 10) rfl (congrArg Value.bool h1) ?_
    refine XL.no (t := 10) rfl (congrArg Value.bool h1) ?_
    refine XL.cons (XOp.pickT (.bool (true)) (congrArg Value.bool h1) rfl ?_)
    refine XL.nil ?_
    refine X.condT rfl ?_
    refine X.seq ?_
    refine X.region ?_
    refine XL.cons (XOp.assign (.bool (false)) rfl ?_)
    refine XL.nil ?_
    refine X.ret (thenQ_ret (retEnd (L' := L) [.bool (false)] (.bool (false)) (.tmp rfl .nil) rfl (FLe.refl _) (FLe.refl _) (Sub.drop (Sub.drop (Sub.refl _))) ?_))
    exact ⟨(congrArg Value.bool (substOk_false (fun h => by have := h.1; have := h.2.1; simp_all <;> omega))), rfl, rfl⟩
  · rw [Bool.not_eq_true] at h1
    refine XL.yes (t := 10) rfl (congrArg Value.bool h1) (XOp.fieldP (b := b2) (0) Try.runUnderlying59 rfl Try.sizeOf52 (by decide) rfl rfl ?_)
    refine XL.yes (t := 10) rfl (congrArg Value.bool h1) (XOp.load1 (v := sv) Try.isAgg52 rfl (Rd.own [] rfl rfl) ?_)
    refine XL.yes (t := 10) rfl (congrArg Value.bool h1) (XOp.lenS (v := sv) (n := (s).length) Try.runUnderlying52 rfl hs.slv ?_)
    refine XL.yes (t := 10) rfl (congrArg Value.bool h1) (XOp.gtr (a := (((s).length : Nat) : Int)) (b := 24) rfl rfl ?_)
    refine XL.cons (XOp.pickF (.bool (decide (((((s).length : Nat) : Int) : Int) > 24))) (congrArg Value.bool h1) rfl ?_)
    refine XL.nil ?_
    refine X.condD (p := ((((s).length : Nat) : Int) : Int) > 24) rfl (fun h2 => ?_) (fun h2 => ?_)
    · refine X.seq ?_
      refine X.region ?_
      refine XL.cons (XOp.assign (.bool (false)) rfl ?_)
      refine XL.nil ?_
      refine X.ret (thenQ_ret (retEnd (L' := L) [.bool (false)] (.bool (false)) (.tmp rfl .nil) rfl (FLe.refl _) (FLe.refl _) (Sub.drop (Sub.drop (Sub.refl _))) ?_))
      exact ⟨(congrArg Value.bool (substOk_false (fun h => by have := h.1; have := h.2.1; simp_all <;> omega))), rfl, rfl⟩
    · refine X.skip ?_
      refine X.seq ?_
      refine X.seq ?_
      refine X.region ?_
      refine XL.cons (XOp.fieldP (b := b2) (0) Try.runUnderlying59 rfl Try.sizeOf52 (by decide) rfl rfl ?_)
      refine XL.cons (XOp.load1 (v := sv) Try.isAgg52 rfl (Rd.own [] rfl rfl) ?_)
      refine XL.cons (XOp.lenS (v := sv) (n := (s).length) Try.runUnderlying52 rfl hs.slv ?_)
      refine XL.cons (XOp.move (.int .i64 (0)) rfl ?_)
      refine XL.nil ?_
      refine X.block ?_
      refine X.loop (α := Nat) (fun k => [(2, ptr b1 0), (17, sv), (18, .int .i64 ((((s).length : Nat) : Int))), (19, .int .i64 (((k : Nat) : Int)))]) (fun k => cellsH b2 [sv] 59 :: cellsH b1 [arv] 34 :: L) (fun k F' => F = F' ∧ (k ≤ s.length) ∧ (∀ i, i < k → s.getD i [] = [] ∨ termOk ar (s.getD i []) = true)) (fun k => s.length - k) 0 ⟨rfl, rfl, rfl, rfl, trivial⟩ (Sub.cons (Sub.cons (Sub.refl _))) ⟨rfl, (by (try dsimp only) <;> omega), (fun i hi => absurd hi (by omega))⟩ ?_
      rintro k rE _ _ ⟨rfl, hk, hall⟩
      show X _ _ _ _ (envs [(2, ptr b1 0), (17, sv), (18, .int .i64 ((((s).length : Nat) : Int))), (19, .int .i64 (((k : Nat) : Int)))] rE) _ (cellsH b2 [sv] 59 :: cellsH b1 [arv] 34 :: L)
      refine X.seq ?_
      refine X.region ?_
      refine XL.cons (XOp.lss (a := ((k : Nat) : Int)) (b := (((s).length : Nat) : Int)) rfl rfl ?_)
      refine XL.nil ?_
      refine X.seq ?_
      refine X.condD (p := (((k : Nat) : Int) : Int) < (((s).length : Nat) : Int)) rfl (fun h3 => ?_) (fun h3 => ?_)
      · refine X.skip ?_
        refine X.seq ?_
        refine X.block ?_
        refine X.seq ?_
        refine X.region ?_
        refine XL.cons (XOp.indexS (v := sv) (i := ((k : Nat) : Int)) (n := (s).length) k Try.runUnderlying52 Try.sizeOf22 rfl rfl rfl hs.slv (by omega) (Nat.mul_one _) ?_)
        obtain ⟨a1, ha1, hr1⟩ := hs.rd (i := k) (by omega)
        refine XL.cons (XOp.load1 (v := a1) Try.isAgg22 rfl (hr1 _) ?_)
        refine XL.cons (XOp.assign (a1) rfl ?_)
        refine XL.nil ?_
        refine X.seq ?_
        refine X.region ?_
        refine XL.cons (XOp.move (a1) rfl ?_)
        refine XL.cons (XOp.lenS (v := a1) (n := ((s.getD k [])).length) Try.runUnderlying22 rfl ha1.slv ?_)
        refine XL.cons (XOp.gtr (a := ((((s.getD k [])).length : Nat) : Int)) (b := 0) rfl rfl ?_)
        refine XL.cons (XOp.move (.bool (decide ((((((s.getD k [])).length : Nat) : Int) : Int) > 0))) rfl ?_)
        by_cases h4 : (((((s.getD k [])).length : Nat) : Int) : Int) > 0
        · refine XL.yes (t := 26) rfl (congrArg Value.bool (decide_eq_true h4)) (XOp.loadN [arv] Try.isAgg34 Try.sizeOf34 rfl rfl (Rd.ownN [_] rfl rfl) ?_)
          refine XL.yes (t := 26) rfl (congrArg Value.bool (decide_eq_true h4)) (XOp.move (a1) rfl ?_)
          refine XL.yes (t := 26) rfl (congrArg Value.bool (decide_eq_true h4)) (XOp.call (args := [.agg #[arv], a1]) Try.call44 rfl (TermOk_spec har ha1) ?_)
          rintro _ _ _ _ ⟨rfl, rfl, rfl⟩
          refine XL.yes (t := 26) rfl (congrArg Value.bool (decide_eq_true h4)) (XOp.notB (b := termOk ar ((s.getD k []))) rfl ?_)
          refine XL.cons (XOp.pickT (.bool (!(termOk ar ((s.getD k []))))) (congrArg Value.bool (decide_eq_true h4)) rfl ?_)
          refine XL.nil ?_
          refine X.cond (t := !(termOk ar ((s.getD k [])))) rfl (fun h5 => ?_) (fun h5 => ?_)
          · refine X.seq ?_
            refine X.region ?_
            refine XL.cons (XOp.assign (.bool (false)) rfl ?_)
            refine XL.nil ?_
            refine X.ret (blockQ_ret (thenQ_ret (thenQ_ret (blockQ_ret (thenQ_ret (retEnd (L' := L) [.bool (false)] (.bool (false)) (.tmp rfl .nil) rfl (FLe.refl _) (FLe.refl _) (Sub.drop (Sub.drop (Sub.refl _))) ?_))))))
            exact ⟨(congrArg Value.bool (substOk_false (fun h => by have h9 := h.2.2 k (by omega); rcases h9 with h9 | h9; (have := congrArg List.length h9; simp only [List.length_nil] at this; omega); simp_all))), rfl, rfl⟩
          · refine X.skip ?_
            refine X.region ?_
            refine XL.cons (XOp.addR (a := ((k : Nat) : Int)) (b := 1) (((k + 1 : Nat) : Int)) rfl rfl (by omega) (by omega) ?_)
            refine XL.cons (XOp.move (.int .i64 (((k + 1 : Nat) : Int))) rfl ?_)
            refine XL.nil ?_
            exact ⟨k + 1, _, FLe.refl _, (FLe.refl _), ⟨rfl, rfl, rfl, rfl, trivial⟩, (Sub.cons (Sub.cons (Sub.refl _))), ⟨rfl, (by (try dsimp only) <;> omega), (fun i hi => (Nat.lt_or_ge i k).elim (fun h => hall i h) (fun h => by obtain rfl : i = k := (by omega); first | exact .inr (by assumption) | exact .inl (len_nil (by assumption)) | (have := len_nil (by assumption); simp_all) | simp_all))⟩, (by omega)⟩
        · refine XL.no (t := 26) rfl (congrArg Value.bool (decide_eq_false h4)) ?_
          refine XL.no (t := 26) rfl (congrArg Value.bool (decide_eq_false h4)) ?_
          refine XL.no (t := 26) rfl (congrArg Value.bool (decide_eq_false h4)) ?_
          refine XL.no (t := 26) rfl (congrArg Value.bool (decide_eq_false h4)) ?_
          refine XL.cons (XOp.pickF (.bool (false)) (congrArg Value.bool (decide_eq_false h4)) rfl ?_)
          refine XL.nil ?_
          refine X.condF rfl ?_
          refine X.skip ?_
          refine X.region ?_
          refine XL.cons (XOp.addR (a := ((k : Nat) : Int)) (b := 1) (((k + 1 : Nat) : Int)) rfl rfl (by omega) (by omega) ?_)
          refine XL.cons (XOp.move (.int .i64 (((k + 1 : Nat) : Int))) rfl ?_)
          refine XL.nil ?_
          exact ⟨k + 1, _, FLe.refl _, (FLe.refl _), ⟨rfl, rfl, rfl, rfl, trivial⟩, (Sub.cons (Sub.cons (Sub.refl _))), ⟨rfl, (by (try dsimp only) <;> omega), (fun i hi => (Nat.lt_or_ge i k).elim (fun h => hall i h) (fun h => by obtain rfl : i = k := (by omega); first | exact .inr (by assumption) | exact .inl (len_nil (by assumption)) | (have := len_nil (by assumption); simp_all) | simp_all))⟩, (by omega)⟩
      · refine X.exit (thenQ_exit (thenQ_exit (blockQ_exit ?_)))
        refine X.seq ?_
        refine X.region ?_
        refine XL.cons (XOp.assign (.bool (true)) rfl ?_)
        refine XL.nil ?_
        refine X.ret (retEnd (L' := L) [.bool (true)] (.bool (true)) (.tmp rfl .nil) rfl (FLe.refl _) (FLe.refl _) (Sub.drop (Sub.drop (Sub.refl _))) ?_)
        exact ⟨(congrArg Value.bool (substOk_iff.2 ⟨by simp_all, by omega, fun i hi => hall i (by omega)⟩)), rfl, rfl⟩

/- spec.SubstOk -/
theorem sSubstOk_spec {F : FH} {L : List HP} {arv : Value} {ar : List Int} (har : IntsF F arv ar) {sv : Value} {s : List (List Int)} (hs : RowsF F sv s) (hla : ar.length ≤ 4000000) (hsl : s.length ≤ 4000000) (hsb : ∀ i, i < s.length → (s.getD i []).length ≤ 4000000) :
    Does Try.prog 62 [.agg #[arv], .agg #[sv]] F (L) (fun v F' L' => (.bool (substOk ar s) : Value) = v ∧ F = F' ∧ L = L') := by
  refine Does.of_X Try.func62 rfl rfl rfl ?_
  refine X.seq ?_
  refine X.region ?_
  refine XL.cons (XOp.box [arv] rfl rfl ?_)
  intro b1
  refine XL.cons (XOp.box [sv] rfl rfl ?_)
  intro b2
  refine XL.cons (XOp.assign (.bool (false)) rfl ?_)
  refine XL.nil ?_
  refine X.seq ?_
  refine X.seq ?_
  refine X.region ?_
  refine XL.cons (XOp.loadN [arv] Try.isAgg34 Try.sizeOf34 rfl rfl (Rd.ownN [_] rfl rfl) ?_)
  refine XL.cons (XOp.call (args := [.agg #[arv]]) Try.call104 rfl (sSigOk_spec har (hla := (by first | assumption | rfl | omega | (left; simp; done) | (right; simp; done)))) ?_)
  rintro _ _ _ _ ⟨rfl, rfl, rfl⟩
  refine XL.cons (XOp.notB (b := sigOk ar) rfl ?_)
  refine XL.cons (XOp.move (.bool (!(sigOk ar))) rfl ?_)
  by_cases h1 : (!(sigOk ar)) = true
  · refine XL.no (t := 9) rfl (congrArg Value.bool h1) ?_
    refine XL.no (t := 9) rfl (congrArg Value.bool h1) ?_
    refine XL.no (t := 9) rfl (congrArg Value.bool h1) ?_
    refine XL.no (t := 9) rfl (congrArg Value.bool h1) ?_
    refine XL.cons (XOp.pickT (.bool (true)) (congrArg Value.bool h1) rfl ?_)
    refine XL.nil ?_
    refine X.condT rfl ?_
    refine X.seq ?_
    refine X.region ?_
    refine XL.cons (XOp.assign (.bool (false)) rfl ?_)
    refine XL.nil ?_
    refine X.ret (thenQ_ret (retEnd (L' := L) [.bool (false)] (.bool (false)) (.tmp rfl .nil) rfl (FLe.refl _) (FLe.refl _) (Sub.drop (Sub.drop (Sub.refl _))) ?_))
    exact ⟨(congrArg Value.bool (substOk_false (fun h => by have := h.1; have := h.2.1; simp_all <;> omega))), rfl, rfl⟩
  · rw [Bool.not_eq_true] at h1
    refine XL.yes (t := 9) rfl (congrArg Value.bool h1) (XOp.fieldP (b := b2) (0) Try.runUnderlying59 rfl Try.sizeOf52 (by decide) rfl rfl ?_)
    refine XL.yes (t := 9) rfl (congrArg Value.bool h1) (XOp.load1 (v := sv) Try.isAgg52 rfl (Rd.own [] rfl rfl) ?_)
    refine XL.yes (t := 9) rfl (congrArg Value.bool h1) (XOp.lenS (v := sv) (n := (s).length) Try.runUnderlying52 rfl hs.slv ?_)
    refine XL.yes (t := 9) rfl (congrArg Value.bool h1) (XOp.gtr (a := (((s).length : Nat) : Int)) (b := 24) rfl rfl ?_)
    refine XL.cons (XOp.pickF (.bool (decide (((((s).length : Nat) : Int) : Int) > 24))) (congrArg Value.bool h1) rfl ?_)
    refine XL.nil ?_
    refine X.condD (p := ((((s).length : Nat) : Int) : Int) > 24) rfl (fun h2 => ?_) (fun h2 => ?_)
    · refine X.seq ?_
      refine X.region ?_
      refine XL.cons (XOp.assign (.bool (false)) rfl ?_)
      refine XL.nil ?_
      refine X.ret (thenQ_ret (retEnd (L' := L) [.bool (false)] (.bool (false)) (.tmp rfl .nil) rfl (FLe.refl _) (FLe.refl _) (Sub.drop (Sub.drop (Sub.refl _))) ?_))
      exact ⟨(congrArg Value.bool (substOk_false (fun h => by have := h.1; have := h.2.1; simp_all <;> omega))), rfl, rfl⟩
    · refine X.skip ?_
      refine X.seq ?_
      refine X.seq ?_
      refine X.region ?_
      refine XL.cons (XOp.assign (.int .i64 (0)) rfl ?_)
      refine XL.nil ?_
      refine X.block ?_
      refine X.loop (α := Nat) (fun k => [(2, ptr b1 0), (3, ptr b2 0), (5, .int .i64 (((k : Nat) : Int)))]) (fun k => cellsH b2 [sv] 59 :: cellsH b1 [arv] 34 :: L) (fun k F' => F = F' ∧ (k ≤ s.length) ∧ (∀ i, i < k → s.getD i [] = [] ∨ termOk ar (s.getD i []) = true)) (fun k => s.length - k) 0 ⟨rfl, rfl, rfl, trivial⟩ (Sub.cons (Sub.cons (Sub.refl _))) ⟨rfl, (by (try dsimp only) <;> omega), (fun i hi => absurd hi (by omega))⟩ ?_
      rintro k rE _ _ ⟨rfl, hk, hall⟩
      show X _ _ _ _ (envs [(2, ptr b1 0), (3, ptr b2 0), (5, .int .i64 (((k : Nat) : Int)))] rE) _ (cellsH b2 [sv] 59 :: cellsH b1 [arv] 34 :: L)
      have hsbk := hsb k
      refine X.seq ?_
      refine X.seq ?_
      refine X.region ?_
      refine XL.cons (XOp.move (.int .i64 (((k : Nat) : Int))) rfl ?_)
      refine XL.cons (XOp.fieldP (b := b2) (0) Try.runUnderlying59 rfl Try.sizeOf52 (by decide) rfl rfl ?_)
      refine XL.cons (XOp.load1 (v := sv) Try.isAgg52 rfl (Rd.own [] rfl rfl) ?_)
      refine XL.cons (XOp.lenS (v := sv) (n := (s).length) Try.runUnderlying52 rfl hs.slv ?_)
      refine XL.cons (XOp.lss (a := ((k : Nat) : Int)) (b := (((s).length : Nat) : Int)) rfl rfl ?_)
      refine XL.nil ?_
      refine X.condD (p := (((k : Nat) : Int) : Int) < (((s).length : Nat) : Int)) rfl (fun h3 => ?_) (fun h3 => ?_)
      · refine X.skip ?_
        refine X.seq ?_
        refine X.block ?_
        refine X.seq ?_
        obtain ⟨a1, ha1, hr1⟩ := hs.rd (i := k) (by omega)
        by_cases h4 : (((((s.getD k [])).length : Nat) : Int) : Int) > 0
        · refine X.draw [cellsH b2 [sv] 59, cellsH b1 [arv] 34] L 14 [[], [], [], [], [], [], [], [], [], [], [], [], [], []] [[], [0], [], [1, 2], [3], [4], [5], [6], [7], [7], [7, 9], [7], [7, 10, 11], [7, 12]] (phiL [fun us v => v = ptr b2 0, fun us v => v = sv, fun us v => v = (.int .i64 (((k : Nat) : Int)) : Value), fun us v => v = (.pointer (some (elemA sv (k))) : Value), fun us v => v = a1, fun us v => v = (.int .i64 (((((s.getD k [])).length : Nat) : Int)) : Value), fun us v => v = (.bool (decide ((((((s.getD k [])).length : Nat) : Int) : Int) > 0)) : Value), fun us v => v = (.bool (decide ((((((s.getD k [])).length : Nat) : Int) : Int) > 0)) : Value), fun us v => v = (.agg #[arv] : Value), fun us v => v = ptr b2 0, fun us v => v = sv, fun us v => v = (.int .i64 (((k : Nat) : Int)) : Value), fun us v => v = (.pointer (some (elemA sv (k))) : Value), fun us v => v = a1]) (ownL [fun us v => [], fun us v => [], fun us v => [], fun us v => [], fun us v => [], fun us v => [], fun us v => [], fun us v => [], fun us v => [], fun us v => [], fun us v => [], fun us v => [], fun us v => [], fun us v => []]) mixed rfl rfl (by kernel_rfl) ?_ ?_
          · refine stepsP.cons (fun vals R hpZ => ?_) ?_
            · refine XG.op (XOp.fieldP (b := b2) (0) Try.runUnderlying59 rfl Try.sizeOf52 (by decide) rfl rfl ?_)
              exact ⟨rfl, rfl, rfl⟩
            refine stepsP.cons (fun vals R hpZ => ?_) ?_
            · rw [(envs_of_sat (l := [(0, ptr b2 0)]) ⟨hpZ 0 (by decide), trivial⟩).symm]
              refine XG.op (XOp.load1 (v := sv) Try.isAgg52 rfl (Rd.own [] rfl rfl) ?_)
              exact ⟨rfl, rfl, rfl⟩
            refine stepsP.cons (fun vals R hpZ => ?_) ?_
            · refine XG.op (XOp.move (.int .i64 (((k : Nat) : Int))) rfl ?_)
              exact ⟨rfl, rfl, rfl⟩
            refine stepsP.cons (fun vals R hpZ => ?_) ?_
            · rw [(envs_of_sat (l := [(1, sv), (2, (.int .i64 (((k : Nat) : Int)) : Value))]) ⟨hpZ 1 (by decide), hpZ 2 (by decide), trivial⟩).symm]
              refine XG.op (XOp.indexS (v := sv) (i := ((k : Nat) : Int)) (n := (s).length) k Try.runUnderlying52 Try.sizeOf22 rfl rfl rfl hs.slv (by omega) (Nat.mul_one _) ?_)
              exact ⟨rfl, rfl, rfl⟩
            refine stepsP.cons (fun vals R hpZ => ?_) ?_
            · rw [(envs_of_sat (l := [(3, (.pointer (some (elemA sv (k))) : Value))]) ⟨hpZ 3 (by decide), trivial⟩).symm]
              refine XG.op (XOp.load1 (v := a1) Try.isAgg22 rfl (hr1 _) ?_)
              exact ⟨rfl, rfl, rfl⟩
            refine stepsP.cons (fun vals R hpZ => ?_) ?_
            · rw [(envs_of_sat (l := [(4, a1)]) ⟨hpZ 4 (by decide), trivial⟩).symm]
              refine XG.op (XOp.lenS (v := a1) (n := ((s.getD k [])).length) Try.runUnderlying22 rfl ha1.slv ?_)
              exact ⟨rfl, rfl, rfl⟩
            refine stepsP.cons (fun vals R hpZ => ?_) ?_
            · rw [(envs_of_sat (l := [(5, (.int .i64 (((((s.getD k [])).length : Nat) : Int)) : Value))]) ⟨hpZ 5 (by decide), trivial⟩).symm]
              refine XG.op (XOp.gtr (a := ((((s.getD k [])).length : Nat) : Int)) (b := 0) rfl rfl ?_)
              exact ⟨rfl, rfl, rfl⟩
            refine stepsP.cons (fun vals R hpZ => ?_) ?_
            · rw [(envs_of_sat (l := [(6, (.bool (decide ((((((s.getD k [])).length : Nat) : Int) : Int) > 0)) : Value))]) ⟨hpZ 6 (by decide), trivial⟩).symm]
              refine XG.op (XOp.move (.bool (decide ((((((s.getD k [])).length : Nat) : Int) : Int) > 0))) rfl ?_)
              exact ⟨rfl, rfl, rfl⟩
            refine stepsP.cons (fun vals R hpZ => ?_) ?_
            · rw [(envs_of_sat (l := [(7, (.bool (decide ((((((s.getD k [])).length : Nat) : Int) : Int) > 0)) : Value))]) ⟨hpZ 7 (by decide), trivial⟩).symm]
              refine XG.yes (t := 29) rfl (congrArg Value.bool (decide_eq_true h4)) (XOp.loadN [arv] Try.isAgg34 Try.sizeOf34 rfl rfl (Rd.ownN [_] rfl rfl) ?_)
              exact ⟨rfl, rfl, rfl⟩
            refine stepsP.cons (fun vals R hpZ => ?_) ?_
            · rw [(envs_of_sat (l := [(7, (.bool (decide ((((((s.getD k [])).length : Nat) : Int) : Int) > 0)) : Value))]) ⟨hpZ 7 (by decide), trivial⟩).symm]
              refine XG.yes (t := 29) rfl (congrArg Value.bool (decide_eq_true h4)) (XOp.fieldP (b := b2) (0) Try.runUnderlying59 rfl Try.sizeOf52 (by decide) rfl rfl ?_)
              exact ⟨rfl, rfl, rfl⟩
            refine stepsP.cons (fun vals R hpZ => ?_) ?_
            · rw [(envs_of_sat (l := [(7, (.bool (decide ((((((s.getD k [])).length : Nat) : Int) : Int) > 0)) : Value)), (9, ptr b2 0)]) ⟨hpZ 7 (by decide), hpZ 9 (by decide), trivial⟩).symm]
              refine XG.yes (t := 29) rfl (congrArg Value.bool (decide_eq_true h4)) (XOp.load1 (v := sv) Try.isAgg52 rfl (Rd.own [] rfl rfl) ?_)
              exact ⟨rfl, rfl, rfl⟩
            refine stepsP.cons (fun vals R hpZ => ?_) ?_
            · rw [(envs_of_sat (l := [(7, (.bool (decide ((((((s.getD k [])).length : Nat) : Int) : Int) > 0)) : Value))]) ⟨hpZ 7 (by decide), trivial⟩).symm]
              refine XG.yes (t := 29) rfl (congrArg Value.bool (decide_eq_true h4)) (XOp.move (.int .i64 (((k : Nat) : Int))) rfl ?_)
              exact ⟨rfl, rfl, rfl⟩
            refine stepsP.cons (fun vals R hpZ => ?_) ?_
            · rw [(envs_of_sat (l := [(7, (.bool (decide ((((((s.getD k [])).length : Nat) : Int) : Int) > 0)) : Value)), (10, sv), (11, (.int .i64 (((k : Nat) : Int)) : Value))]) ⟨hpZ 7 (by decide), hpZ 10 (by decide), hpZ 11 (by decide), trivial⟩).symm]
              refine XG.yes (t := 29) rfl (congrArg Value.bool (decide_eq_true h4)) (XOp.indexS (v := sv) (i := ((k : Nat) : Int)) (n := (s).length) k Try.runUnderlying52 Try.sizeOf22 rfl rfl rfl hs.slv (by omega) (Nat.mul_one _) ?_)
              exact ⟨rfl, rfl, rfl⟩
            refine stepsP.cons (fun vals R hpZ => ?_) ?_
            · rw [(envs_of_sat (l := [(7, (.bool (decide ((((((s.getD k [])).length : Nat) : Int) : Int) > 0)) : Value)), (12, (.pointer (some (elemA sv (k))) : Value))]) ⟨hpZ 7 (by decide), hpZ 12 (by decide), trivial⟩).symm]
              refine XG.yes (t := 29) rfl (congrArg Value.bool (decide_eq_true h4)) (XOp.load1 (v := a1) Try.isAgg22 rfl (hr1 _) ?_)
              exact ⟨rfl, rfl, rfl⟩
            exact stepsP.nil
          · intro vals hphi
            have e0 : vals 0 = ptr b2 0 := hphi 0 (by decide)
            have e1 : vals 1 = sv := hphi 1 (by decide)
            have e2 : vals 2 = (.int .i64 (((k : Nat) : Int)) : Value) := hphi 2 (by decide)
            have e3 : vals 3 = (.pointer (some (elemA sv (k))) : Value) := hphi 3 (by decide)
            have e4 : vals 4 = a1 := hphi 4 (by decide)
            have e5 : vals 5 = (.int .i64 (((((s.getD k [])).length : Nat) : Int)) : Value) := hphi 5 (by decide)
            have e6 : vals 6 = (.bool (decide ((((((s.getD k [])).length : Nat) : Int) : Int) > 0)) : Value) := hphi 6 (by decide)
            have e7 : vals 7 = (.bool (decide ((((((s.getD k [])).length : Nat) : Int) : Int) > 0)) : Value) := hphi 7 (by decide)
            have e8 : vals 8 = (.agg #[arv] : Value) := hphi 8 (by decide)
            have e9 : vals 9 = ptr b2 0 := hphi 9 (by decide)
            have e10 : vals 10 = sv := hphi 10 (by decide)
            have e11 : vals 11 = (.int .i64 (((k : Nat) : Int)) : Value) := hphi 11 (by decide)
            have e12 : vals 12 = (.pointer (some (elemA sv (k))) : Value) := hphi 12 (by decide)
            have e13 : vals 13 = a1 := hphi 13 (by decide)
            rw [(envs_of_sat (l := [(0, ptr b2 0), (1, sv), (2, (.int .i64 (((k : Nat) : Int)) : Value)), (3, (.pointer (some (elemA sv (k))) : Value)), (4, a1), (5, (.int .i64 (((((s.getD k [])).length : Nat) : Int)) : Value)), (6, (.bool (decide ((((((s.getD k [])).length : Nat) : Int) : Int) > 0)) : Value)), (7, (.bool (decide ((((((s.getD k [])).length : Nat) : Int) : Int) > 0)) : Value)), (8, (.agg #[arv] : Value)), (9, ptr b2 0), (10, sv), (11, (.int .i64 (((k : Nat) : Int)) : Value)), (12, (.pointer (some (elemA sv (k))) : Value)), (13, a1)]) ⟨e0, e1, e2, e3, e4, e5, e6, e7, e8, e9, e10, e11, e12, e13, trivial⟩).symm]
            show XL _ _ _ _ _ _ _ (cellsH b2 [sv] 59 :: cellsH b1 [arv] 34 :: L)
            refine XL.yes (t := 29) rfl (congrArg Value.bool (decide_eq_true h4)) (XOp.call (args := [.agg #[arv], a1]) Try.call83 rfl (sTermOk_spec har ha1 (hla := (by first | assumption | rfl | omega | (left; simp; done) | (right; simp; done))) (hlt := (by first | assumption | rfl | omega | (left; simp; done) | (right; simp; done)))) ?_)
            rintro _ _ _ _ ⟨rfl, rfl, rfl⟩
            refine XL.yes (t := 29) rfl (congrArg Value.bool (decide_eq_true h4)) (XOp.notB (b := termOk ar ((s.getD k []))) rfl ?_)
            refine XL.cons (XOp.pickT (.bool (!(termOk ar ((s.getD k []))))) (congrArg Value.bool (decide_eq_true h4)) rfl ?_)
            refine XL.nil ?_
            refine X.cond (t := !(termOk ar ((s.getD k [])))) rfl (fun h5 => ?_) (fun h5 => ?_)
            · refine X.seq ?_
              refine X.region ?_
              refine XL.cons (XOp.assign (.bool (false)) rfl ?_)
              refine XL.nil ?_
              refine X.ret (blockQ_ret (thenQ_ret (thenQ_ret (blockQ_ret (thenQ_ret (retEnd (L' := L) [.bool (false)] (.bool (false)) (.tmp rfl .nil) rfl (FLe.refl _) (FLe.refl _) (Sub.drop (Sub.drop (Sub.refl _))) ?_))))))
              exact ⟨(congrArg Value.bool (substOk_false (fun h => by have h9 := h.2.2 k (by omega); rcases h9 with h9 | h9; (have := congrArg List.length h9; simp only [List.length_nil] at this; omega); simp_all))), rfl, rfl⟩
            · refine X.skip ?_
              refine X.region ?_
              refine XL.cons (XOp.move (.int .i64 (((k : Nat) : Int))) rfl ?_)
              refine XL.cons (XOp.addR (a := ((k : Nat) : Int)) (b := 1) (((k + 1 : Nat) : Int)) rfl rfl (by omega) (by omega) ?_)
              refine XL.cons (XOp.assign (.int .i64 (((k + 1 : Nat) : Int))) rfl ?_)
              refine XL.nil ?_
              exact ⟨k + 1, _, FLe.refl _, (FLe.refl _), ⟨rfl, rfl, rfl, trivial⟩, (Sub.cons (Sub.cons (Sub.refl _))), ⟨rfl, (by (try dsimp only) <;> omega), (fun i hi => (Nat.lt_or_ge i k).elim (fun h => hall i h) (fun h => by obtain rfl : i = k := (by omega); first | exact .inr (by assumption) | exact .inl (len_nil (by assumption)) | (have := len_nil (by assumption); simp_all) | simp_all))⟩, (by omega)⟩
        · refine X.draw [cellsH b2 [sv] 59, cellsH b1 [arv] 34] L 14 [[], [], [], [], [], [], [], [], [], [], [], [], [], []] [[], [0], [], [1, 2], [3], [4], [5], [6], [7], [7], [7, 9], [7], [7, 10, 11], [7, 12]] (phiL [fun us v => v = ptr b2 0, fun us v => v = sv, fun us v => v = (.int .i64 (((k : Nat) : Int)) : Value), fun us v => v = (.pointer (some (elemA sv (k))) : Value), fun us v => v = a1, fun us v => v = (.int .i64 (((((s.getD k [])).length : Nat) : Int)) : Value), fun us v => v = (.bool (decide ((((((s.getD k [])).length : Nat) : Int) : Int) > 0)) : Value), fun us v => v = (.bool (decide ((((((s.getD k [])).length : Nat) : Int) : Int) > 0)) : Value), fun us v => v = undef, fun us v => v = undef, fun us v => v = undef, fun us v => v = undef, fun us v => v = undef, fun us v => v = undef]) (ownL [fun us v => [], fun us v => [], fun us v => [], fun us v => [], fun us v => [], fun us v => [], fun us v => [], fun us v => [], fun us v => [], fun us v => [], fun us v => [], fun us v => [], fun us v => [], fun us v => []]) mixed rfl rfl (by kernel_rfl) ?_ ?_
          · refine stepsP.cons (fun vals R hpZ => ?_) ?_
            · refine XG.op (XOp.fieldP (b := b2) (0) Try.runUnderlying59 rfl Try.sizeOf52 (by decide) rfl rfl ?_)
              exact ⟨rfl, rfl, rfl⟩
            refine stepsP.cons (fun vals R hpZ => ?_) ?_
            · rw [(envs_of_sat (l := [(0, ptr b2 0)]) ⟨hpZ 0 (by decide), trivial⟩).symm]
              refine XG.op (XOp.load1 (v := sv) Try.isAgg52 rfl (Rd.own [] rfl rfl) ?_)
              exact ⟨rfl, rfl, rfl⟩
            refine stepsP.cons (fun vals R hpZ => ?_) ?_
            · refine XG.op (XOp.move (.int .i64 (((k : Nat) : Int))) rfl ?_)
              exact ⟨rfl, rfl, rfl⟩
            refine stepsP.cons (fun vals R hpZ => ?_) ?_
            · rw [(envs_of_sat (l := [(1, sv), (2, (.int .i64 (((k : Nat) : Int)) : Value))]) ⟨hpZ 1 (by decide), hpZ 2 (by decide), trivial⟩).symm]
              refine XG.op (XOp.indexS (v := sv) (i := ((k : Nat) : Int)) (n := (s).length) k Try.runUnderlying52 Try.sizeOf22 rfl rfl rfl hs.slv (by omega) (Nat.mul_one _) ?_)
              exact ⟨rfl, rfl, rfl⟩
            refine stepsP.cons (fun vals R hpZ => ?_) ?_
            · rw [(envs_of_sat (l := [(3, (.pointer (some (elemA sv (k))) : Value))]) ⟨hpZ 3 (by decide), trivial⟩).symm]
              refine XG.op (XOp.load1 (v := a1) Try.isAgg22 rfl (hr1 _) ?_)
              exact ⟨rfl, rfl, rfl⟩
            refine stepsP.cons (fun vals R hpZ => ?_) ?_
            · rw [(envs_of_sat (l := [(4, a1)]) ⟨hpZ 4 (by decide), trivial⟩).symm]
              refine XG.op (XOp.lenS (v := a1) (n := ((s.getD k [])).length) Try.runUnderlying22 rfl ha1.slv ?_)
              exact ⟨rfl, rfl, rfl⟩
            refine stepsP.cons (fun vals R hpZ => ?_) ?_
            · rw [(envs_of_sat (l := [(5, (.int .i64 (((((s.getD k [])).length : Nat) : Int)) : Value))]) ⟨hpZ 5 (by decide), trivial⟩).symm]
              refine XG.op (XOp.gtr (a := ((((s.getD k [])).length : Nat) : Int)) (b := 0) rfl rfl ?_)
              exact ⟨rfl, rfl, rfl⟩
            refine stepsP.cons (fun vals R hpZ => ?_) ?_
            · rw [(envs_of_sat (l := [(6, (.bool (decide ((((((s.getD k [])).length : Nat) : Int) : Int) > 0)) : Value))]) ⟨hpZ 6 (by decide), trivial⟩).symm]
              refine XG.op (XOp.move (.bool (decide ((((((s.getD k [])).length : Nat) : Int) : Int) > 0))) rfl ?_)
              exact ⟨rfl, rfl, rfl⟩
            refine stepsP.cons (fun vals R hpZ => ?_) ?_
            · rw [(envs_of_sat (l := [(7, (.bool (decide ((((((s.getD k [])).length : Nat) : Int) : Int) > 0)) : Value))]) ⟨hpZ 7 (by decide), trivial⟩).symm]
              exact XG.no (t := 29) rfl (congrArg Value.bool (decide_eq_false h4)) ⟨rfl, rfl, rfl⟩
            refine stepsP.cons (fun vals R hpZ => ?_) ?_
            · rw [(envs_of_sat (l := [(7, (.bool (decide ((((((s.getD k [])).length : Nat) : Int) : Int) > 0)) : Value))]) ⟨hpZ 7 (by decide), trivial⟩).symm]
              exact XG.no (t := 29) rfl (congrArg Value.bool (decide_eq_false h4)) ⟨rfl, rfl, rfl⟩
            refine stepsP.cons (fun vals R hpZ => ?_) ?_
            · rw [(envs_of_sat (l := [(7, (.bool (decide ((((((s.getD k [])).length : Nat) : Int) : Int) > 0)) : Value)), (9, undef)]) ⟨hpZ 7 (by decide), hpZ 9 (by decide), trivial⟩).symm]
              exact XG.no (t := 29) rfl (congrArg Value.bool (decide_eq_false h4)) ⟨rfl, rfl, rfl⟩
            refine stepsP.cons (fun vals R hpZ => ?_) ?_
            · rw [(envs_of_sat (l := [(7, (.bool (decide ((((((s.getD k [])).length : Nat) : Int) : Int) > 0)) : Value))]) ⟨hpZ 7 (by decide), trivial⟩).symm]
              exact XG.no (t := 29) rfl (congrArg Value.bool (decide_eq_false h4)) ⟨rfl, rfl, rfl⟩
            refine stepsP.cons (fun vals R hpZ => ?_) ?_
            · rw [(envs_of_sat (l := [(7, (.bool (decide ((((((s.getD k [])).length : Nat) : Int) : Int) > 0)) : Value)), (10, undef), (11, undef)]) ⟨hpZ 7 (by decide), hpZ 10 (by decide), hpZ 11 (by decide), trivial⟩).symm]
              exact XG.no (t := 29) rfl (congrArg Value.bool (decide_eq_false h4)) ⟨rfl, rfl, rfl⟩
            refine stepsP.cons (fun vals R hpZ => ?_) ?_
            · rw [(envs_of_sat (l := [(7, (.bool (decide ((((((s.getD k [])).length : Nat) : Int) : Int) > 0)) : Value)), (12, undef)]) ⟨hpZ 7 (by decide), hpZ 12 (by decide), trivial⟩).symm]
              exact XG.no (t := 29) rfl (congrArg Value.bool (decide_eq_false h4)) ⟨rfl, rfl, rfl⟩
            exact stepsP.nil
          · intro vals hphi
            have e0 : vals 0 = ptr b2 0 := hphi 0 (by decide)
            have e1 : vals 1 = sv := hphi 1 (by decide)
            have e2 : vals 2 = (.int .i64 (((k : Nat) : Int)) : Value) := hphi 2 (by decide)
            have e3 : vals 3 = (.pointer (some (elemA sv (k))) : Value) := hphi 3 (by decide)
            have e4 : vals 4 = a1 := hphi 4 (by decide)
            have e5 : vals 5 = (.int .i64 (((((s.getD k [])).length : Nat) : Int)) : Value) := hphi 5 (by decide)
            have e6 : vals 6 = (.bool (decide ((((((s.getD k [])).length : Nat) : Int) : Int) > 0)) : Value) := hphi 6 (by decide)
            have e7 : vals 7 = (.bool (decide ((((((s.getD k [])).length : Nat) : Int) : Int) > 0)) : Value) := hphi 7 (by decide)
            have e8 : vals 8 = undef := hphi 8 (by decide)
            have e9 : vals 9 = undef := hphi 9 (by decide)
            have e10 : vals 10 = undef := hphi 10 (by decide)
            have e11 : vals 11 = undef := hphi 11 (by decide)
            have e12 : vals 12 = undef := hphi 12 (by decide)
            have e13 : vals 13 = undef := hphi 13 (by decide)
            rw [(envs_of_sat (l := [(0, ptr b2 0), (1, sv), (2, (.int .i64 (((k : Nat) : Int)) : Value)), (3, (.pointer (some (elemA sv (k))) : Value)), (4, a1), (5, (.int .i64 (((((s.getD k [])).length : Nat) : Int)) : Value)), (6, (.bool (decide ((((((s.getD k [])).length : Nat) : Int) : Int) > 0)) : Value)), (7, (.bool (decide ((((((s.getD k [])).length : Nat) : Int) : Int) > 0)) : Value)), (8, undef), (9, undef), (10, undef), (11, undef), (12, undef), (13, undef)]) ⟨e0, e1, e2, e3, e4, e5, e6, e7, e8, e9, e10, e11, e12, e13, trivial⟩).symm]
            show XL _ _ _ _ _ _ _ (cellsH b2 [sv] 59 :: cellsH b1 [arv] 34 :: L)
            refine XL.no (t := 29) rfl (congrArg Value.bool (decide_eq_false h4)) ?_
            refine XL.no (t := 29) rfl (congrArg Value.bool (decide_eq_false h4)) ?_
            refine XL.cons (XOp.pickF (.bool (false)) (congrArg Value.bool (decide_eq_false h4)) rfl ?_)
            refine XL.nil ?_
            refine X.condF rfl ?_
            refine X.skip ?_
            refine X.region ?_
            refine XL.cons (XOp.move (.int .i64 (((k : Nat) : Int))) rfl ?_)
            refine XL.cons (XOp.addR (a := ((k : Nat) : Int)) (b := 1) (((k + 1 : Nat) : Int)) rfl rfl (by omega) (by omega) ?_)
            refine XL.cons (XOp.assign (.int .i64 (((k + 1 : Nat) : Int))) rfl ?_)
            refine XL.nil ?_
            exact ⟨k + 1, _, FLe.refl _, (FLe.refl _), ⟨rfl, rfl, rfl, trivial⟩, (Sub.cons (Sub.cons (Sub.refl _))), ⟨rfl, (by (try dsimp only) <;> omega), (fun i hi => (Nat.lt_or_ge i k).elim (fun h => hall i h) (fun h => by obtain rfl : i = k := (by omega); first | exact .inr (by assumption) | exact .inl (len_nil (by assumption)) | (have := len_nil (by assumption); simp_all) | simp_all))⟩, (by omega)⟩
      · refine X.exit (thenQ_exit (thenQ_exit (blockQ_exit ?_)))
        refine X.seq ?_
        refine X.region ?_
        refine XL.cons (XOp.assign (.bool (true)) rfl ?_)
        refine XL.nil ?_
        refine X.ret (retEnd (L' := L) [.bool (true)] (.bool (true)) (.tmp rfl .nil) rfl (FLe.refl _) (FLe.refl _) (Sub.drop (Sub.drop (Sub.refl _))) ?_)
        exact ⟨(congrArg Value.bool (substOk_iff.2 ⟨by simp_all, by omega, fun i hi => hall i (by omega)⟩)), rfl, rfl⟩

/- spec.Filled -/
theorem sFilled_spec {F : FH} {L : List HP} {arv : Value} {ar : List Int} (har : IntsF F arv ar) {sv : Value} {s : List (List Int)} (hs : RowsF F sv s) {tv : Value} {t : List Int} (ht : IntsF F tv t) (hla : ar.length ≤ 4000000) (hsl : s.length ≤ 4000000) (hsb : ∀ i, i < s.length → (s.getD i []).length ≤ 4000000) (hlt : t.length ≤ 4000000) :
    Does Try.prog 65 [.agg #[arv], .agg #[sv], tv] F (L) (fun v F' L' => ∃ (a : Value), (.tuple #[a, .bool ((filledL ar s t).isSome)] : Value) = v ∧ (IntsF F' a ((filledL ar s t).getD [])) ∧ L = L') := by
  refine Does.of_X Try.func65 rfl rfl rfl ?_
  refine X.seq ?_
  refine X.region ?_
  refine XL.cons (XOp.box [arv] rfl rfl ?_)
  intro b1
  refine XL.cons (XOp.box [sv] rfl rfl ?_)
  intro b2
  refine XL.cons (XOp.assign ((.slice none 0 0)) rfl ?_)
  refine XL.cons (XOp.assign (.bool (false)) rfl ?_)
  refine XL.nil ?_
  refine X.seq ?_
  refine X.seq ?_
  refine X.region ?_
  refine XL.cons (XOp.loadN [arv] Try.isAgg34 Try.sizeOf34 rfl rfl (Rd.ownN [_] rfl rfl) ?_)
  refine XL.cons (XOp.loadN [sv] Try.isAgg59 Try.sizeOf59 rfl rfl (Rd.ownN [] rfl rfl) ?_)
  refine XL.cons (XOp.call (args := [.agg #[arv], .agg #[sv]]) Try.call62 rfl (sSubstOk_spec har hs (hla := (by first | assumption | rfl | omega | (left; simp; done) | (right; simp; done))) (hsl := (by first | assumption | rfl | omega | (left; simp; done) | (right; simp; done))) (hsb := (by first | assumption | rfl | omega | (left; simp; done) | (right; simp; done)))) ?_)
  rintro _ _ _ _ ⟨rfl, rfl, rfl⟩
  refine XL.cons (XOp.notB (b := substOk ar s) rfl ?_)
  refine XL.cons (XOp.move (.bool (!(substOk ar s))) rfl ?_)
  by_cases h1 : (!(substOk ar s)) = true
  · refine XL.no (t := 12) rfl (congrArg Value.bool h1) ?_
    refine XL.no (t := 12) rfl (congrArg Value.bool h1) ?_
    refine XL.no (t := 12) rfl (congrArg Value.bool h1) ?_
    refine XL.no (t := 12) rfl (congrArg Value.bool h1) ?_
    refine XL.cons (XOp.pickT (.bool (true)) (congrArg Value.bool h1) rfl ?_)
    refine XL.nil ?_
    refine X.condT rfl ?_
    refine X.seq ?_
    refine X.region ?_
    refine XL.cons (XOp.buildSlice (s := 1) [] [.int .i64 (0)] [] Try.runUnderlying22 Try.sizeOf2 Try.zeroValue2 rfl (by decide) rfl CellsAre.nil rfl ?_)
    intro v1 hv1
    refine XL.cons (XOp.assign (v1) rfl ?_)
    refine XL.cons (XOp.assign (.bool (false)) rfl ?_)
    refine XL.nil ?_
    show X _ _ _ _ _ _ (intsH 2 v1 ([] : List Int) :: cellsH b2 [sv] 59 :: cellsH b1 [arv] 34 :: L)
    refine X.freezeF [] _ _ rfl (fun F1 le1 hz1 => ?_)
    replace har := har.mono le1
    replace hs := hs.mono le1
    replace ht := ht.mono le1
    have hf1 : IntsF F1 v1 ([]) := intsH.fz (xs := []) hz1.fz
    refine X.ret (thenQ_ret (retEnd (L' := L) [v1, .bool (false)] (.tuple #[v1, .bool (false)]) (.tmp rfl (.tmp rfl .nil)) rfl le1 (FLe.refl _) (Sub.drop (Sub.drop (Sub.refl _))) ?_))
    have e : filledL ar s t = none := by unfold filledL; rw [if_neg (by simp_all)]
    exact ⟨_, by rw [e]; rfl, by rw [e]; exact hf1, rfl⟩
  · rw [Bool.not_eq_true] at h1
    have hsk : substOk ar s = true := by simpa using h1
    have hsk2 := substOk_len hsk
    have hsk3 := (substOk_iff.1 hsk).2.1
    refine XL.yes (t := 12) rfl (congrArg Value.bool h1) (XOp.loadN [arv] Try.isAgg34 Try.sizeOf34 rfl rfl (Rd.ownN [_] rfl rfl) ?_)
    refine XL.yes (t := 12) rfl (congrArg Value.bool h1) (XOp.move (tv) rfl ?_)
    refine XL.yes (t := 12) rfl (congrArg Value.bool h1) (XOp.call (args := [.agg #[arv], tv]) Try.call83 rfl (sTermOk_spec har ht (hla := (by first | assumption | rfl | omega | (left; simp; done) | (right; simp; done))) (hlt := (by first | assumption | rfl | omega | (left; simp; done) | (right; simp; done)))) ?_)
    rintro _ _ _ _ ⟨rfl, rfl, rfl⟩
    refine XL.yes (t := 12) rfl (congrArg Value.bool h1) (XOp.notB (b := termOk ar t) rfl ?_)
    refine XL.cons (XOp.pickF (.bool (!(termOk ar t))) (congrArg Value.bool h1) rfl ?_)
    refine XL.nil ?_
    refine X.cond (t := !(termOk ar t)) rfl (fun h2 => ?_) (fun h2 => ?_)
    · refine X.seq ?_
      refine X.region ?_
      refine XL.cons (XOp.buildSlice (s := 1) [] [.int .i64 (0)] [] Try.runUnderlying22 Try.sizeOf2 Try.zeroValue2 rfl (by decide) rfl CellsAre.nil rfl ?_)
      intro v2 hv2
      refine XL.cons (XOp.assign (v2) rfl ?_)
      refine XL.cons (XOp.assign (.bool (false)) rfl ?_)
      refine XL.nil ?_
      show X _ _ _ _ _ _ (intsH 2 v2 ([] : List Int) :: cellsH b2 [sv] 59 :: cellsH b1 [arv] 34 :: L)
      refine X.freezeF [] _ _ rfl (fun F2 le2 hz2 => ?_)
      replace har := har.mono le2
      replace hs := hs.mono le2
      replace ht := ht.mono le2
      have hf2 : IntsF F2 v2 ([]) := intsH.fz (xs := []) hz2.fz
      refine X.ret (thenQ_ret (retEnd (L' := L) [v2, .bool (false)] (.tuple #[v2, .bool (false)]) (.tmp rfl (.tmp rfl .nil)) rfl le2 (FLe.refl _) (Sub.drop (Sub.drop (Sub.refl _))) ?_))
      have e : filledL ar s t = none := by unfold filledL; rw [if_neg (by simp_all)]
      exact ⟨_, by rw [e]; rfl, by rw [e]; exact hf2, rfl⟩
    · have hto : termOk ar t = true := by simpa using h2
      have htl2 := termOk_len hto
      have htg := fun k (hk : k < t.length) => termOk_ge hto hk
      refine X.skip ?_
      refine X.seq ?_
      refine X.region ?_
      refine XL.cons (XOp.loadN [sv] Try.isAgg59 Try.sizeOf59 rfl rfl (Rd.ownN [] rfl rfl) ?_)
      refine XL.cons (XOp.move (tv) rfl ?_)
      refine XL.cons (XOp.call (args := [.agg #[sv], tv]) Try.call105 rfl (l2Filled_spec hs ht (hsl := (by first | assumption | rfl | omega | (left; simp; done) | (right; simp; done))) (hsb := (fun i => by have := hsk2 i; omega)) (htl := (by first | assumption | rfl | omega | (left; simp; done) | (right; simp; done))) (htg := (fun k hk => by have := htg k hk; omega))) ?_)
      rintro _ F3 _ le3 ⟨x1, rfl, hr1, rfl⟩
      replace har := har.mono le3
      replace hs := hs.mono le3
      replace ht := ht.mono le3
      refine XL.cons (XOp.extract (x1) rfl rfl ?_)
      refine XL.cons (XOp.extract (.bool ((fillL s t).isSome)) rfl rfl ?_)
      refine XL.cons (XOp.assign (x1) rfl ?_)
      refine XL.cons (XOp.assign (.bool ((fillL s t).isSome)) rfl ?_)
      refine XL.nil ?_
      refine X.ret (retEnd (L' := L) [x1, .bool ((fillL s t).isSome)] (.tuple #[x1, .bool ((fillL s t).isSome)]) (.tmp rfl (.tmp rfl .nil)) rfl le3 (FLe.refl _) (Sub.drop (Sub.drop (Sub.refl _))) ?_)
      have e : filledL ar s t = fillL s t := by unfold filledL; rw [if_pos ⟨hsk, hto⟩]
      exact ⟨_, by rw [e], by rw [e]; exact hr1, rfl⟩

/- spec.SubAt -/
theorem sSubAt_spec {F : FH} {L : List HP} {arv : Value} {ar : List Int} (har : IntsF F arv ar) {tv : Value} {t : List Int} (ht : IntsF F tv t) {p : Int} (hla : ar.length ≤ 4000000) (hlt : t.length ≤ 4000000) :
    Does Try.prog 66 [.agg #[arv], tv, .int .i64 (p)] F (L) (fun v F' L' => ∃ (a : Value), (a : Value) = v ∧ (IntsF F' a (if posOk ar t p = true then sub ar t p.toNat else [])) ∧ L = L') := by
  refine Does.of_X Try.func66 rfl rfl rfl ?_
  refine X.seq ?_
  refine X.region ?_
  refine XL.cons (XOp.box [arv] rfl rfl ?_)
  intro b1
  refine XL.cons (XOp.assign ((.slice none 0 0)) rfl ?_)
  refine XL.nil ?_
  refine X.seq ?_
  refine X.seq ?_
  refine X.region ?_
  refine XL.cons (XOp.loadN [arv] Try.isAgg34 Try.sizeOf34 rfl rfl (Rd.ownN [] rfl rfl) ?_)
  refine XL.cons (XOp.move (tv) rfl ?_)
  refine XL.cons (XOp.call (args := [.agg #[arv], tv]) Try.call83 rfl (sTermOk_spec har ht (hla := (by first | assumption | rfl | omega | (left; simp; done) | (right; simp; done))) (hlt := (by first | assumption | rfl | omega | (left; simp; done) | (right; simp; done)))) ?_)
  rintro _ _ _ _ ⟨rfl, rfl, rfl⟩
  refine XL.cons (XOp.notB (b := termOk ar t) rfl ?_)
  refine XL.cons (XOp.move (.bool (!(termOk ar t))) rfl ?_)
  by_cases h1 : (!(termOk ar t)) = true
  · refine XL.no (t := 11) rfl (congrArg Value.bool h1) ?_
    refine XL.no (t := 11) rfl (congrArg Value.bool h1) ?_
    refine XL.no (t := 11) rfl (congrArg Value.bool h1) ?_
    refine XL.no (t := 11) rfl (congrArg Value.bool h1) ?_
    refine XL.cons (XOp.pickT (.bool (true)) (congrArg Value.bool h1) rfl ?_)
    refine XL.nil ?_
    refine X.condT rfl ?_
    refine X.seq ?_
    refine X.region ?_
    refine XL.cons (XOp.buildSlice (s := 1) [] [.int .i64 (0)] [] Try.runUnderlying22 Try.sizeOf2 Try.zeroValue2 rfl (by decide) rfl CellsAre.nil rfl ?_)
    intro v1 hv1
    refine XL.cons (XOp.assign (v1) rfl ?_)
    refine XL.nil ?_
    show X _ _ _ _ _ _ (intsH 2 v1 ([] : List Int) :: cellsH b1 [arv] 34 :: L)
    refine X.freezeF [] _ _ rfl (fun F1 le1 hz1 => ?_)
    replace har := har.mono le1
    replace ht := ht.mono le1
    have hf1 : IntsF F1 v1 ([]) := intsH.fz (xs := []) hz1.fz
    refine X.ret (thenQ_ret (retEnd (L' := L) [v1] (v1) (.tmp rfl .nil) rfl le1 (FLe.refl _) (Sub.drop (Sub.refl _)) ?_))
    exact ⟨_, rfl, by rw [if_neg (by rw [posOk_iff]; simp_all <;> omega)]; exact hf1, rfl⟩
  · rw [Bool.not_eq_true] at h1
    refine XL.yes (t := 11) rfl (congrArg Value.bool h1) (XOp.move (tv) rfl ?_)
    refine XL.yes (t := 11) rfl (congrArg Value.bool h1) (XOp.move (.int .i64 (p)) rfl ?_)
    refine XL.yes (t := 11) rfl (congrArg Value.bool h1) (XOp.call (args := [tv, .int .i64 (p)]) Try.call84 rfl (l1There_spec (n := p) ht (hbd := (by first | assumption | rfl | omega | (left; simp; done) | (right; simp; done)))) ?_)
    rintro _ _ _ _ ⟨rfl, rfl, rfl⟩
    refine XL.yes (t := 11) rfl (congrArg Value.bool h1) (XOp.notD (p := 0 ≤ p ∧ p < (t.length : Int)) rfl ?_)
    refine XL.cons (XOp.pickF (.bool (decide (¬(0 ≤ p ∧ p < (t.length : Int))))) (congrArg Value.bool h1) rfl ?_)
    refine XL.nil ?_
    refine X.condD (p := ¬(0 ≤ p ∧ p < (t.length : Int))) rfl (fun h2 => ?_) (fun h2 => ?_)
    · refine X.seq ?_
      refine X.region ?_
      refine XL.cons (XOp.buildSlice (s := 1) [] [.int .i64 (0)] [] Try.runUnderlying22 Try.sizeOf2 Try.zeroValue2 rfl (by decide) rfl CellsAre.nil rfl ?_)
      intro v2 hv2
      refine XL.cons (XOp.assign (v2) rfl ?_)
      refine XL.nil ?_
      show X _ _ _ _ _ _ (intsH 2 v2 ([] : List Int) :: cellsH b1 [arv] 34 :: L)
      refine X.freezeF [] _ _ rfl (fun F2 le2 hz2 => ?_)
      replace har := har.mono le2
      replace ht := ht.mono le2
      have hf2 : IntsF F2 v2 ([]) := intsH.fz (xs := []) hz2.fz
      refine X.ret (thenQ_ret (retEnd (L' := L) [v2] (v2) (.tmp rfl .nil) rfl le2 (FLe.refl _) (Sub.drop (Sub.refl _)) ?_))
      exact ⟨_, rfl, by rw [if_neg (by rw [posOk_iff]; simp_all <;> omega)]; exact hf2, rfl⟩
    · refine X.skip ?_
      refine X.seq ?_
      refine X.region ?_
      have ho : termOk ar t = true := by simp_all
      have hpz : 0 ≤ p ∧ p < (t.length : Int) := by simp_all
      refine XL.cons (XOp.loadN [arv] Try.isAgg34 Try.sizeOf34 rfl rfl (Rd.ownN [] rfl rfl) ?_)
      refine XL.cons (XOp.move (tv) rfl ?_)
      refine XL.cons (XOp.move (.int .i64 (p)) rfl ?_)
      refine XL.cons (XOp.frzF <| XOp.call (args := [.agg #[arv], tv, .int .i64 (((p).toNat : Nat) : Int)]) Try.call106 (by rw [show (((p).toNat : Nat) : Int) = p from by omega]; rfl) (l1Sub_spec (p := (p).toNat) har ht (ho := (by first | assumption | rfl | omega | (left; simp; done) | (right; simp; done))) (hp := (by first | assumption | rfl | omega | (left; simp; done) | (right; simp; done)))) ?_)
      rintro v3 _ _ _ ⟨rfl, hs1, rfl⟩
      refine ⟨_, _, rfl, fun F3 le3 hz3 => ?_⟩
      replace har := har.mono le3
      replace ht := ht.mono le3
      have hf3 : IntsF F3 v3 ((sub ar t ((p).toNat))) := intsH.fz (xs := (sub ar t ((p).toNat))) hz3.fz
      refine XL.cons (XOp.assign (v3) rfl ?_)
      refine XL.nil ?_
      refine X.ret (retEnd (L' := L) [v3] (v3) (.tmp rfl .nil) rfl le3 (FLe.refl _) (Sub.drop (Sub.refl _)) ?_)
      exact ⟨_, rfl, by rw [if_pos (posOk_iff.2 ⟨ho, hpz⟩)]; exact hf3, rfl⟩

/- impl.loopOk -/
theorem loopOk_spec {F : FH} {L : List HP} {arv : Value} {ar : List Int} (har : IntsF F arv ar) {rsv : Value} {rs : List (List Int × List Int)} (hrs : PairsF F rsv rs) {fv : Value} {f : List Int} (hf : IntsF F fv f) {ssv : Value} {ss : List StepT} (hss : StepsF F ssv ss) {p : Int} {sv : Value} {s : List (List Int)} (hs : RowsF F sv s) (hsys : sysOk ar rs = true) (hlf : f.length ≤ 4000000) (hsb : ∀ i, i < ss.length → (ss.getD i (0, 0, [])).2.2.length ≤ 4000000) (hlss : ss.length ≤ 4000000) :
    Does Try.prog 68 [.agg #[arv, rsv], .agg #[fv, ssv, .int .i64 (p), sv]] F (L) (fun v F' L' => (.bool (loopOkL ar rs f ss p s) : Value) = v ∧ F = F' ∧ L = L') := by
  refine Does.of_X Try.func68 rfl rfl rfl ?_
  refine X.seq ?_
  refine X.region ?_
  refine XL.cons (XOp.box [arv, rsv] rfl rfl ?_)
  intro b1
  refine XL.cons (XOp.box [fv, ssv, .int .i64 (p), sv] rfl rfl ?_)
  intro b2
  refine XL.cons (XOp.assign (.bool (false)) rfl ?_)
  refine XL.nil ?_
  refine X.seq ?_
  refine X.seq ?_
  by_cases h1 : ((((ss).length : Nat) : Int) : Int) = 0
  · refine X.draw [cellsH b2 [fv, ssv, .int .i64 (p), sv] 61, cellsH b1 [arv, rsv] 37] L 28 [[], [], [], [], [], [], [], [], [], [], [], [], [], [], [], [], [], [], [], [], [], [], [], [], [], [], [], []] [[], [0], [1], [2], [3], [4], [5], [5], [5, 7], [5, 6, 8], [5, 9], [5, 10], [11], [12], [12, 13], [12], [12, 15], [12, 16], [12], [12, 18], [12, 14, 17, 19], [12, 20], [12, 21], [22], [23], [23, 24], [23], [23, 26]] (phiL [fun us v => v = ptr b2 0, fun us v => v = ptr b2 1, fun us v => v = ssv, fun us v => v = (.int .i64 ((((ss).length : Nat) : Int)) : Value), fun us v => v = (.bool (decide (((((ss).length : Nat) : Int) : Int) = 0)) : Value), fun us v => v = (.bool (decide (((((ss).length : Nat) : Int) : Int) = 0)) : Value), fun us v => v = undef, fun us v => v = undef, fun us v => v = undef, fun us v => v = undef, fun us v => v = undef, fun us v => v = (.bool (true) : Value), fun us v => v = (.bool (true) : Value), fun us v => v = undef, fun us v => v = undef, fun us v => v = undef, fun us v => v = undef, fun us v => v = undef, fun us v => v = undef, fun us v => v = undef, fun us v => v = undef, fun us v => v = undef, fun us v => v = (.bool (true) : Value), fun us v => v = (.bool (true) : Value), fun us v => v = undef, fun us v => v = undef, fun us v => v = undef, fun us v => v = undef]) (ownL [fun us v => [], fun us v => [], fun us v => [], fun us v => [], fun us v => [], fun us v => [], fun us v => [], fun us v => [], fun us v => [], fun us v => [], fun us v => [], fun us v => [], fun us v => [], fun us v => [], fun us v => [], fun us v => [], fun us v => [], fun us v => [], fun us v => [], fun us v => [], fun us v => [], fun us v => [], fun us v => [], fun us v => [], fun us v => [], fun us v => [], fun us v => [], fun us v => []]) mixed rfl rfl (by kernel_rfl) ?_ ?_
    · refine stepsP.cons (fun vals R hpZ => ?_) ?_
      · refine XG.op (XOp.fieldP (b := b2) (0) Try.runUnderlying61 rfl Try.sizeOf31 (by decide) rfl rfl ?_)
        exact ⟨rfl, rfl, rfl⟩
      refine stepsP.cons (fun vals R hpZ => ?_) ?_
      · rw [(envs_of_sat (l := [(0, ptr b2 0)]) ⟨hpZ 0 (by decide), trivial⟩).symm]
        refine XG.op (XOp.fieldP (b := b2) (1) Try.runUnderlying31 rfl Try.sizeOf29 (by decide) rfl rfl ?_)
        exact ⟨rfl, rfl, rfl⟩
      refine stepsP.cons (fun vals R hpZ => ?_) ?_
      · rw [(envs_of_sat (l := [(1, ptr b2 1)]) ⟨hpZ 1 (by decide), trivial⟩).symm]
        refine XG.op (XOp.load1 (v := ssv) Try.isAgg29 rfl (Rd.own [] rfl rfl) ?_)
        exact ⟨rfl, rfl, rfl⟩
      refine stepsP.cons (fun vals R hpZ => ?_) ?_
      · rw [(envs_of_sat (l := [(2, ssv)]) ⟨hpZ 2 (by decide), trivial⟩).symm]
        refine XG.op (XOp.lenS (v := ssv) (n := (ss).length) Try.runUnderlying29 rfl hss.slv ?_)
        exact ⟨rfl, rfl, rfl⟩
      refine stepsP.cons (fun vals R hpZ => ?_) ?_
      · rw [(envs_of_sat (l := [(3, (.int .i64 ((((ss).length : Nat) : Int)) : Value))]) ⟨hpZ 3 (by decide), trivial⟩).symm]
        refine XG.op (XOp.eql (a := (((ss).length : Nat) : Int)) (b := 0) rfl rfl ?_)
        exact ⟨rfl, rfl, rfl⟩
      refine stepsP.cons (fun vals R hpZ => ?_) ?_
      · rw [(envs_of_sat (l := [(4, (.bool (decide (((((ss).length : Nat) : Int) : Int) = 0)) : Value))]) ⟨hpZ 4 (by decide), trivial⟩).symm]
        refine XG.op (XOp.move (.bool (decide (((((ss).length : Nat) : Int) : Int) = 0))) rfl ?_)
        exact ⟨rfl, rfl, rfl⟩
      refine stepsP.cons (fun vals R hpZ => ?_) ?_
      · rw [(envs_of_sat (l := [(5, (.bool (decide (((((ss).length : Nat) : Int) : Int) = 0)) : Value))]) ⟨hpZ 5 (by decide), trivial⟩).symm]
        exact XG.no (t := 12) rfl (congrArg Value.bool (decide_eq_true h1)) ⟨rfl, rfl, rfl⟩
      refine stepsP.cons (fun vals R hpZ => ?_) ?_
      · rw [(envs_of_sat (l := [(5, (.bool (decide (((((ss).length : Nat) : Int) : Int) = 0)) : Value))]) ⟨hpZ 5 (by decide), trivial⟩).symm]
        exact XG.no (t := 12) rfl (congrArg Value.bool (decide_eq_true h1)) ⟨rfl, rfl, rfl⟩
      refine stepsP.cons (fun vals R hpZ => ?_) ?_
      · rw [(envs_of_sat (l := [(5, (.bool (decide (((((ss).length : Nat) : Int) : Int) = 0)) : Value)), (7, undef)]) ⟨hpZ 5 (by decide), hpZ 7 (by decide), trivial⟩).symm]
        exact XG.no (t := 12) rfl (congrArg Value.bool (decide_eq_true h1)) ⟨rfl, rfl, rfl⟩
      refine stepsP.cons (fun vals R hpZ => ?_) ?_
      · rw [(envs_of_sat (l := [(5, (.bool (decide (((((ss).length : Nat) : Int) : Int) = 0)) : Value)), (6, undef), (8, undef)]) ⟨hpZ 5 (by decide), hpZ 6 (by decide), hpZ 8 (by decide), trivial⟩).symm]
        exact XG.no (t := 12) rfl (congrArg Value.bool (decide_eq_true h1)) ⟨rfl, rfl, rfl⟩
      refine stepsP.cons (fun vals R hpZ => ?_) ?_
      · rw [(envs_of_sat (l := [(5, (.bool (decide (((((ss).length : Nat) : Int) : Int) = 0)) : Value)), (9, undef)]) ⟨hpZ 5 (by decide), hpZ 9 (by decide), trivial⟩).symm]
        exact XG.no (t := 12) rfl (congrArg Value.bool (decide_eq_true h1)) ⟨rfl, rfl, rfl⟩
      refine stepsP.cons (fun vals R hpZ => ?_) ?_
      · rw [(envs_of_sat (l := [(5, (.bool (decide (((((ss).length : Nat) : Int) : Int) = 0)) : Value)), (10, undef)]) ⟨hpZ 5 (by decide), hpZ 10 (by decide), trivial⟩).symm]
        refine XG.op (XOp.pickT (.bool (true)) (congrArg Value.bool (decide_eq_true h1)) rfl ?_)
        exact ⟨rfl, rfl, rfl⟩
      refine stepsP.cons (fun vals R hpZ => ?_) ?_
      · rw [(envs_of_sat (l := [(11, (.bool (true) : Value))]) ⟨hpZ 11 (by decide), trivial⟩).symm]
        refine XG.op (XOp.move (.bool (true)) rfl ?_)
        exact ⟨rfl, rfl, rfl⟩
      refine stepsP.cons (fun vals R hpZ => ?_) ?_
      · rw [(envs_of_sat (l := [(12, (.bool (true) : Value))]) ⟨hpZ 12 (by decide), trivial⟩).symm]
        exact XG.no (t := 19) rfl rfl ⟨rfl, rfl, rfl⟩
      refine stepsP.cons (fun vals R hpZ => ?_) ?_
      · rw [(envs_of_sat (l := [(12, (.bool (true) : Value)), (13, undef)]) ⟨hpZ 12 (by decide), hpZ 13 (by decide), trivial⟩).symm]
        exact XG.no (t := 19) rfl rfl ⟨rfl, rfl, rfl⟩
      refine stepsP.cons (fun vals R hpZ => ?_) ?_
      · rw [(envs_of_sat (l := [(12, (.bool (true) : Value))]) ⟨hpZ 12 (by decide), trivial⟩).symm]
        exact XG.no (t := 19) rfl rfl ⟨rfl, rfl, rfl⟩
      refine stepsP.cons (fun vals R hpZ => ?_) ?_
      · rw [(envs_of_sat (l := [(12, (.bool (true) : Value)), (15, undef)]) ⟨hpZ 12 (by decide), hpZ 15 (by decide), trivial⟩).symm]
        exact XG.no (t := 19) rfl rfl ⟨rfl, rfl, rfl⟩
      refine stepsP.cons (fun vals R hpZ => ?_) ?_
      · rw [(envs_of_sat (l := [(12, (.bool (true) : Value)), (16, undef)]) ⟨hpZ 12 (by decide), hpZ 16 (by decide), trivial⟩).symm]
        exact XG.no (t := 19) rfl rfl ⟨rfl, rfl, rfl⟩
      refine stepsP.cons (fun vals R hpZ => ?_) ?_
      · rw [(envs_of_sat (l := [(12, (.bool (true) : Value))]) ⟨hpZ 12 (by decide), trivial⟩).symm]
        exact XG.no (t := 19) rfl rfl ⟨rfl, rfl, rfl⟩
      refine stepsP.cons (fun vals R hpZ => ?_) ?_
      · rw [(envs_of_sat (l := [(12, (.bool (true) : Value)), (18, undef)]) ⟨hpZ 12 (by decide), hpZ 18 (by decide), trivial⟩).symm]
        exact XG.no (t := 19) rfl rfl ⟨rfl, rfl, rfl⟩
      refine stepsP.cons (fun vals R hpZ => ?_) ?_
      · rw [(envs_of_sat (l := [(12, (.bool (true) : Value)), (14, undef), (17, undef), (19, undef)]) ⟨hpZ 12 (by decide), hpZ 14 (by decide), hpZ 17 (by decide), hpZ 19 (by decide), trivial⟩).symm]
        exact XG.no (t := 19) rfl rfl ⟨rfl, rfl, rfl⟩
      refine stepsP.cons (fun vals R hpZ => ?_) ?_
      · rw [(envs_of_sat (l := [(12, (.bool (true) : Value)), (20, undef)]) ⟨hpZ 12 (by decide), hpZ 20 (by decide), trivial⟩).symm]
        exact XG.no (t := 19) rfl rfl ⟨rfl, rfl, rfl⟩
      refine stepsP.cons (fun vals R hpZ => ?_) ?_
      · rw [(envs_of_sat (l := [(12, (.bool (true) : Value)), (21, undef)]) ⟨hpZ 12 (by decide), hpZ 21 (by decide), trivial⟩).symm]
        refine XG.op (XOp.pickT (.bool (true)) rfl rfl ?_)
        exact ⟨rfl, rfl, rfl⟩
      refine stepsP.cons (fun vals R hpZ => ?_) ?_
      · rw [(envs_of_sat (l := [(22, (.bool (true) : Value))]) ⟨hpZ 22 (by decide), trivial⟩).symm]
        refine XG.op (XOp.move (.bool (true)) rfl ?_)
        exact ⟨rfl, rfl, rfl⟩
      refine stepsP.cons (fun vals R hpZ => ?_) ?_
      · rw [(envs_of_sat (l := [(23, (.bool (true) : Value))]) ⟨hpZ 23 (by decide), trivial⟩).symm]
        exact XG.no (t := 30) rfl rfl ⟨rfl, rfl, rfl⟩
      refine stepsP.cons (fun vals R hpZ => ?_) ?_
      · rw [(envs_of_sat (l := [(23, (.bool (true) : Value)), (24, undef)]) ⟨hpZ 23 (by decide), hpZ 24 (by decide), trivial⟩).symm]
        exact XG.no (t := 30) rfl rfl ⟨rfl, rfl, rfl⟩
      refine stepsP.cons (fun vals R hpZ => ?_) ?_
      · rw [(envs_of_sat (l := [(23, (.bool (true) : Value))]) ⟨hpZ 23 (by decide), trivial⟩).symm]
        exact XG.no (t := 30) rfl rfl ⟨rfl, rfl, rfl⟩
      refine stepsP.cons (fun vals R hpZ => ?_) ?_
      · rw [(envs_of_sat (l := [(23, (.bool (true) : Value)), (26, undef)]) ⟨hpZ 23 (by decide), hpZ 26 (by decide), trivial⟩).symm]
        exact XG.no (t := 30) rfl rfl ⟨rfl, rfl, rfl⟩
      exact stepsP.nil
    · intro vals hphi
      have e0 : vals 0 = ptr b2 0 := hphi 0 (by decide)
      have e1 : vals 1 = ptr b2 1 := hphi 1 (by decide)
      have e2 : vals 2 = ssv := hphi 2 (by decide)
      have e3 : vals 3 = (.int .i64 ((((ss).length : Nat) : Int)) : Value) := hphi 3 (by decide)
      have e4 : vals 4 = (.bool (decide (((((ss).length : Nat) : Int) : Int) = 0)) : Value) := hphi 4 (by decide)
      have e5 : vals 5 = (.bool (decide (((((ss).length : Nat) : Int) : Int) = 0)) : Value) := hphi 5 (by decide)
      have e6 : vals 6 = undef := hphi 6 (by decide)
      have e7 : vals 7 = undef := hphi 7 (by decide)
      have e8 : vals 8 = undef := hphi 8 (by decide)
      have e9 : vals 9 = undef := hphi 9 (by decide)
      have e10 : vals 10 = undef := hphi 10 (by decide)
      have e11 : vals 11 = (.bool (true) : Value) := hphi 11 (by decide)
      have e12 : vals 12 = (.bool (true) : Value) := hphi 12 (by decide)
      have e13 : vals 13 = undef := hphi 13 (by decide)
      have e14 : vals 14 = undef := hphi 14 (by decide)
      have e15 : vals 15 = undef := hphi 15 (by decide)
      have e16 : vals 16 = undef := hphi 16 (by decide)
      have e17 : vals 17 = undef := hphi 17 (by decide)
      have e18 : vals 18 = undef := hphi 18 (by decide)
      have e19 : vals 19 = undef := hphi 19 (by decide)
      have e20 : vals 20 = undef := hphi 20 (by decide)
      have e21 : vals 21 = undef := hphi 21 (by decide)
      have e22 : vals 22 = (.bool (true) : Value) := hphi 22 (by decide)
      have e23 : vals 23 = (.bool (true) : Value) := hphi 23 (by decide)
      have e24 : vals 24 = undef := hphi 24 (by decide)
      have e25 : vals 25 = undef := hphi 25 (by decide)
      have e26 : vals 26 = undef := hphi 26 (by decide)
      have e27 : vals 27 = undef := hphi 27 (by decide)
      rw [(envs_of_sat (l := [(0, ptr b2 0), (1, ptr b2 1), (2, ssv), (3, (.int .i64 ((((ss).length : Nat) : Int)) : Value)), (4, (.bool (decide (((((ss).length : Nat) : Int) : Int) = 0)) : Value)), (5, (.bool (decide (((((ss).length : Nat) : Int) : Int) = 0)) : Value)), (6, undef), (7, undef), (8, undef), (9, undef), (10, undef), (11, (.bool (true) : Value)), (12, (.bool (true) : Value)), (13, undef), (14, undef), (15, undef), (16, undef), (17, undef), (18, undef), (19, undef), (20, undef), (21, undef), (22, (.bool (true) : Value)), (23, (.bool (true) : Value)), (24, undef), (25, undef), (26, undef), (27, undef)]) ⟨e0, e1, e2, e3, e4, e5, e6, e7, e8, e9, e10, e11, e12, e13, e14, e15, e16, e17, e18, e19, e20, e21, e22, e23, e24, e25, e26, e27, trivial⟩).symm]
      show XL _ _ _ _ _ _ _ (cellsH b2 [fv, ssv, .int .i64 (p), sv] 61 :: cellsH b1 [arv, rsv] 37 :: L)
      refine XL.no (t := 30) rfl rfl ?_
      refine XL.no (t := 30) rfl rfl ?_
      refine XL.cons (XOp.pickT (.bool (true)) rfl rfl ?_)
      refine XL.nil ?_
      refine X.condT rfl ?_
      refine X.seq ?_
      refine X.region ?_
      refine XL.cons (XOp.assign (.bool (false)) rfl ?_)
      refine XL.nil ?_
      refine X.ret (thenQ_ret (retEnd (L' := L) [.bool (false)] (.bool (false)) (.tmp rfl .nil) rfl (FLe.refl _) (FLe.refl _) (Sub.drop (Sub.drop (Sub.refl _))) ?_))
      exact ⟨(congrArg Value.bool (loopOkL_no (fun h => by obtain ⟨h1, h2, h3, h4, h5⟩ := h; have h6 := walkOkL_iff.1 h2; have h7 := right_iff.1 h6.1; simp_all <;> omega))), rfl, rfl⟩
  · by_cases h2 : (!(((termOk ar f && decide (ss.length ≤ 60)) && goOk ar rs f ss))) = true
    · refine X.draw [cellsH b2 [fv, ssv, .int .i64 (p), sv] 61, cellsH b1 [arv, rsv] 37] L 28 [[], [], [], [], [], [], [], [], [], [], [], [], [], [], [], [], [], [], [], [], [], [], [], [], [], [], [], []] [[], [0], [1], [2], [3], [4], [5], [5], [5, 7], [5, 6, 8], [5, 9], [5, 10], [11], [12], [12, 13], [12], [12, 15], [12, 16], [12], [12, 18], [12, 14, 17, 19], [12, 20], [12, 21], [22], [23], [23, 24], [23], [23, 26]] (phiL [fun us v => v = ptr b2 0, fun us v => v = ptr b2 1, fun us v => v = ssv, fun us v => v = (.int .i64 ((((ss).length : Nat) : Int)) : Value), fun us v => v = (.bool (decide (((((ss).length : Nat) : Int) : Int) = 0)) : Value), fun us v => v = (.bool (decide (((((ss).length : Nat) : Int) : Int) = 0)) : Value), fun us v => v = (.agg #[arv, rsv] : Value), fun us v => v = ptr b2 0, fun us v => v = (.agg #[fv, ssv] : Value), fun us v => v = (.bool (((termOk ar f && decide (ss.length ≤ 60)) && goOk ar rs f ss)) : Value), fun us v => v = (.bool (!(((termOk ar f && decide (ss.length ≤ 60)) && goOk ar rs f ss))) : Value), fun us v => v = (.bool (!(((termOk ar f && decide (ss.length ≤ 60)) && goOk ar rs f ss))) : Value), fun us v => v = (.bool (!(((termOk ar f && decide (ss.length ≤ 60)) && goOk ar rs f ss))) : Value), fun us v => v = undef, fun us v => v = undef, fun us v => v = undef, fun us v => v = undef, fun us v => v = undef, fun us v => v = undef, fun us v => v = undef, fun us v => v = undef, fun us v => v = undef, fun us v => v = (.bool (true) : Value), fun us v => v = (.bool (true) : Value), fun us v => v = undef, fun us v => v = undef, fun us v => v = undef, fun us v => v = undef]) (ownL [fun us v => [], fun us v => [], fun us v => [], fun us v => [], fun us v => [], fun us v => [], fun us v => [], fun us v => [], fun us v => [], fun us v => [], fun us v => [], fun us v => [], fun us v => [], fun us v => [], fun us v => [], fun us v => [], fun us v => [], fun us v => [], fun us v => [], fun us v => [], fun us v => [], fun us v => [], fun us v => [], fun us v => [], fun us v => [], fun us v => [], fun us v => [], fun us v => []]) mixed rfl rfl (by kernel_rfl) ?_ ?_
      · refine stepsP.cons (fun vals R hpZ => ?_) ?_
        · refine XG.op (XOp.fieldP (b := b2) (0) Try.runUnderlying61 rfl Try.sizeOf31 (by decide) rfl rfl ?_)
          exact ⟨rfl, rfl, rfl⟩
        refine stepsP.cons (fun vals R hpZ => ?_) ?_
        · rw [(envs_of_sat (l := [(0, ptr b2 0)]) ⟨hpZ 0 (by decide), trivial⟩).symm]
          refine XG.op (XOp.fieldP (b := b2) (1) Try.runUnderlying31 rfl Try.sizeOf29 (by decide) rfl rfl ?_)
          exact ⟨rfl, rfl, rfl⟩
        refine stepsP.cons (fun vals R hpZ => ?_) ?_
        · rw [(envs_of_sat (l := [(1, ptr b2 1)]) ⟨hpZ 1 (by decide), trivial⟩).symm]
          refine XG.op (XOp.load1 (v := ssv) Try.isAgg29 rfl (Rd.own [] rfl rfl) ?_)
          exact ⟨rfl, rfl, rfl⟩
        refine stepsP.cons (fun vals R hpZ => ?_) ?_
        · rw [(envs_of_sat (l := [(2, ssv)]) ⟨hpZ 2 (by decide), trivial⟩).symm]
          refine XG.op (XOp.lenS (v := ssv) (n := (ss).length) Try.runUnderlying29 rfl hss.slv ?_)
          exact ⟨rfl, rfl, rfl⟩
        refine stepsP.cons (fun vals R hpZ => ?_) ?_
        · rw [(envs_of_sat (l := [(3, (.int .i64 ((((ss).length : Nat) : Int)) : Value))]) ⟨hpZ 3 (by decide), trivial⟩).symm]
          refine XG.op (XOp.eql (a := (((ss).length : Nat) : Int)) (b := 0) rfl rfl ?_)
          exact ⟨rfl, rfl, rfl⟩
        refine stepsP.cons (fun vals R hpZ => ?_) ?_
        · rw [(envs_of_sat (l := [(4, (.bool (decide (((((ss).length : Nat) : Int) : Int) = 0)) : Value))]) ⟨hpZ 4 (by decide), trivial⟩).symm]
          refine XG.op (XOp.move (.bool (decide (((((ss).length : Nat) : Int) : Int) = 0))) rfl ?_)
          exact ⟨rfl, rfl, rfl⟩
        refine stepsP.cons (fun vals R hpZ => ?_) ?_
        · rw [(envs_of_sat (l := [(5, (.bool (decide (((((ss).length : Nat) : Int) : Int) = 0)) : Value))]) ⟨hpZ 5 (by decide), trivial⟩).symm]
          refine XG.yes (t := 12) rfl (congrArg Value.bool (decide_eq_false h1)) (XOp.loadN [arv, rsv] Try.isAgg37 Try.sizeOf37 rfl rfl (Rd.ownN [_] rfl rfl) ?_)
          exact ⟨rfl, rfl, rfl⟩
        refine stepsP.cons (fun vals R hpZ => ?_) ?_
        · rw [(envs_of_sat (l := [(5, (.bool (decide (((((ss).length : Nat) : Int) : Int) = 0)) : Value))]) ⟨hpZ 5 (by decide), trivial⟩).symm]
          refine XG.yes (t := 12) rfl (congrArg Value.bool (decide_eq_false h1)) (XOp.fieldP (b := b2) (0) Try.runUnderlying61 rfl Try.sizeOf31 (by decide) rfl rfl ?_)
          exact ⟨rfl, rfl, rfl⟩
        refine stepsP.cons (fun vals R hpZ => ?_) ?_
        · rw [(envs_of_sat (l := [(5, (.bool (decide (((((ss).length : Nat) : Int) : Int) = 0)) : Value)), (7, ptr b2 0)]) ⟨hpZ 5 (by decide), hpZ 7 (by decide), trivial⟩).symm]
          refine XG.yes (t := 12) rfl (congrArg Value.bool (decide_eq_false h1)) (XOp.loadN [fv, ssv] Try.isAgg31 Try.sizeOf31 rfl rfl (Rd.ownN [] rfl rfl) ?_)
          exact ⟨rfl, rfl, rfl⟩
        refine stepsP.cons (fun vals R hpZ => ?_) ?_
        · rw [(envs_of_sat (l := [(5, (.bool (decide (((((ss).length : Nat) : Int) : Int) = 0)) : Value)), (6, (.agg #[arv, rsv] : Value)), (8, (.agg #[fv, ssv] : Value))]) ⟨hpZ 5 (by decide), hpZ 6 (by decide), hpZ 8 (by decide), trivial⟩).symm]
          refine XG.yes (t := 12) rfl (congrArg Value.bool (decide_eq_false h1)) (XOp.call (args := [.agg #[arv, rsv], .agg #[fv, ssv]]) Try.call108 rfl (walkOk_spec har hrs hf hss (hlf := (by first | assumption | rfl | omega | (left; simp; done) | (right; simp; done))) (hsb := (by first | assumption | rfl | omega | (left; simp; done) | (right; simp; done)))) ?_)
          rintro _ _ _ _ ⟨rfl, rfl, rfl⟩
          exact ⟨rfl, rfl, rfl⟩
        refine stepsP.cons (fun vals R hpZ => ?_) ?_
        · rw [(envs_of_sat (l := [(5, (.bool (decide (((((ss).length : Nat) : Int) : Int) = 0)) : Value)), (9, (.bool (((termOk ar f && decide (ss.length ≤ 60)) && goOk ar rs f ss)) : Value))]) ⟨hpZ 5 (by decide), hpZ 9 (by decide), trivial⟩).symm]
          refine XG.yes (t := 12) rfl (congrArg Value.bool (decide_eq_false h1)) (XOp.notB (b := ((termOk ar f && decide (ss.length ≤ 60)) && goOk ar rs f ss)) rfl ?_)
          exact ⟨rfl, rfl, rfl⟩
        refine stepsP.cons (fun vals R hpZ => ?_) ?_
        · rw [(envs_of_sat (l := [(5, (.bool (decide (((((ss).length : Nat) : Int) : Int) = 0)) : Value)), (10, (.bool (!(((termOk ar f && decide (ss.length ≤ 60)) && goOk ar rs f ss))) : Value))]) ⟨hpZ 5 (by decide), hpZ 10 (by decide), trivial⟩).symm]
          refine XG.op (XOp.pickF (.bool (!(((termOk ar f && decide (ss.length ≤ 60)) && goOk ar rs f ss)))) (congrArg Value.bool (decide_eq_false h1)) rfl ?_)
          exact ⟨rfl, rfl, rfl⟩
        refine stepsP.cons (fun vals R hpZ => ?_) ?_
        · rw [(envs_of_sat (l := [(11, (.bool (!(((termOk ar f && decide (ss.length ≤ 60)) && goOk ar rs f ss))) : Value))]) ⟨hpZ 11 (by decide), trivial⟩).symm]
          refine XG.op (XOp.move (.bool (!(((termOk ar f && decide (ss.length ≤ 60)) && goOk ar rs f ss)))) rfl ?_)
          exact ⟨rfl, rfl, rfl⟩
        refine stepsP.cons (fun vals R hpZ => ?_) ?_
        · rw [(envs_of_sat (l := [(12, (.bool (!(((termOk ar f && decide (ss.length ≤ 60)) && goOk ar rs f ss))) : Value))]) ⟨hpZ 12 (by decide), trivial⟩).symm]
          exact XG.no (t := 19) rfl (congrArg Value.bool h2) ⟨rfl, rfl, rfl⟩
        refine stepsP.cons (fun vals R hpZ => ?_) ?_
        · rw [(envs_of_sat (l := [(12, (.bool (!(((termOk ar f && decide (ss.length ≤ 60)) && goOk ar rs f ss))) : Value)), (13, undef)]) ⟨hpZ 12 (by decide), hpZ 13 (by decide), trivial⟩).symm]
          exact XG.no (t := 19) rfl (congrArg Value.bool h2) ⟨rfl, rfl, rfl⟩
        refine stepsP.cons (fun vals R hpZ => ?_) ?_
        · rw [(envs_of_sat (l := [(12, (.bool (!(((termOk ar f && decide (ss.length ≤ 60)) && goOk ar rs f ss))) : Value))]) ⟨hpZ 12 (by decide), trivial⟩).symm]
          exact XG.no (t := 19) rfl (congrArg Value.bool h2) ⟨rfl, rfl, rfl⟩
        refine stepsP.cons (fun vals R hpZ => ?_) ?_
        · rw [(envs_of_sat (l := [(12, (.bool (!(((termOk ar f && decide (ss.length ≤ 60)) && goOk ar rs f ss))) : Value)), (15, undef)]) ⟨hpZ 12 (by decide), hpZ 15 (by decide), trivial⟩).symm]
          exact XG.no (t := 19) rfl (congrArg Value.bool h2) ⟨rfl, rfl, rfl⟩
        refine stepsP.cons (fun vals R hpZ => ?_) ?_
        · rw [(envs_of_sat (l := [(12, (.bool (!(((termOk ar f && decide (ss.length ≤ 60)) && goOk ar rs f ss))) : Value)), (16, undef)]) ⟨hpZ 12 (by decide), hpZ 16 (by decide), trivial⟩).symm]
          exact XG.no (t := 19) rfl (congrArg Value.bool h2) ⟨rfl, rfl, rfl⟩
        refine stepsP.cons (fun vals R hpZ => ?_) ?_
        · rw [(envs_of_sat (l := [(12, (.bool (!(((termOk ar f && decide (ss.length ≤ 60)) && goOk ar rs f ss))) : Value))]) ⟨hpZ 12 (by decide), trivial⟩).symm]
          exact XG.no (t := 19) rfl (congrArg Value.bool h2) ⟨rfl, rfl, rfl⟩
        refine stepsP.cons (fun vals R hpZ => ?_) ?_
        · rw [(envs_of_sat (l := [(12, (.bool (!(((termOk ar f && decide (ss.length ≤ 60)) && goOk ar rs f ss))) : Value)), (18, undef)]) ⟨hpZ 12 (by decide), hpZ 18 (by decide), trivial⟩).symm]
          exact XG.no (t := 19) rfl (congrArg Value.bool h2) ⟨rfl, rfl, rfl⟩
        refine stepsP.cons (fun vals R hpZ => ?_) ?_
        · rw [(envs_of_sat (l := [(12, (.bool (!(((termOk ar f && decide (ss.length ≤ 60)) && goOk ar rs f ss))) : Value)), (14, undef), (17, undef), (19, undef)]) ⟨hpZ 12 (by decide), hpZ 14 (by decide), hpZ 17 (by decide), hpZ 19 (by decide), trivial⟩).symm]
          exact XG.no (t := 19) rfl (congrArg Value.bool h2) ⟨rfl, rfl, rfl⟩
        refine stepsP.cons (fun vals R hpZ => ?_) ?_
        · rw [(envs_of_sat (l := [(12, (.bool (!(((termOk ar f && decide (ss.length ≤ 60)) && goOk ar rs f ss))) : Value)), (20, undef)]) ⟨hpZ 12 (by decide), hpZ 20 (by decide), trivial⟩).symm]
          exact XG.no (t := 19) rfl (congrArg Value.bool h2) ⟨rfl, rfl, rfl⟩
        refine stepsP.cons (fun vals R hpZ => ?_) ?_
        · rw [(envs_of_sat (l := [(12, (.bool (!(((termOk ar f && decide (ss.length ≤ 60)) && goOk ar rs f ss))) : Value)), (21, undef)]) ⟨hpZ 12 (by decide), hpZ 21 (by decide), trivial⟩).symm]
          refine XG.op (XOp.pickT (.bool (true)) (congrArg Value.bool h2) rfl ?_)
          exact ⟨rfl, rfl, rfl⟩
        refine stepsP.cons (fun vals R hpZ => ?_) ?_
        · rw [(envs_of_sat (l := [(22, (.bool (true) : Value))]) ⟨hpZ 22 (by decide), trivial⟩).symm]
          refine XG.op (XOp.move (.bool (true)) rfl ?_)
          exact ⟨rfl, rfl, rfl⟩
        refine stepsP.cons (fun vals R hpZ => ?_) ?_
        · rw [(envs_of_sat (l := [(23, (.bool (true) : Value))]) ⟨hpZ 23 (by decide), trivial⟩).symm]
          exact XG.no (t := 30) rfl rfl ⟨rfl, rfl, rfl⟩
        refine stepsP.cons (fun vals R hpZ => ?_) ?_
        · rw [(envs_of_sat (l := [(23, (.bool (true) : Value)), (24, undef)]) ⟨hpZ 23 (by decide), hpZ 24 (by decide), trivial⟩).symm]
          exact XG.no (t := 30) rfl rfl ⟨rfl, rfl, rfl⟩
        refine stepsP.cons (fun vals R hpZ => ?_) ?_
        · rw [(envs_of_sat (l := [(23, (.bool (true) : Value))]) ⟨hpZ 23 (by decide), trivial⟩).symm]
          exact XG.no (t := 30) rfl rfl ⟨rfl, rfl, rfl⟩
        refine stepsP.cons (fun vals R hpZ => ?_) ?_
        · rw [(envs_of_sat (l := [(23, (.bool (true) : Value)), (26, undef)]) ⟨hpZ 23 (by decide), hpZ 26 (by decide), trivial⟩).symm]
          exact XG.no (t := 30) rfl rfl ⟨rfl, rfl, rfl⟩
        exact stepsP.nil
      · intro vals hphi
        have e0 : vals 0 = ptr b2 0 := hphi 0 (by decide)
        have e1 : vals 1 = ptr b2 1 := hphi 1 (by decide)
        have e2 : vals 2 = ssv := hphi 2 (by decide)
        have e3 : vals 3 = (.int .i64 ((((ss).length : Nat) : Int)) : Value) := hphi 3 (by decide)
        have e4 : vals 4 = (.bool (decide (((((ss).length : Nat) : Int) : Int) = 0)) : Value) := hphi 4 (by decide)
        have e5 : vals 5 = (.bool (decide (((((ss).length : Nat) : Int) : Int) = 0)) : Value) := hphi 5 (by decide)
        have e6 : vals 6 = (.agg #[arv, rsv] : Value) := hphi 6 (by decide)
        have e7 : vals 7 = ptr b2 0 := hphi 7 (by decide)
        have e8 : vals 8 = (.agg #[fv, ssv] : Value) := hphi 8 (by decide)
        have e9 : vals 9 = (.bool (((termOk ar f && decide (ss.length ≤ 60)) && goOk ar rs f ss)) : Value) := hphi 9 (by decide)
        have e10 : vals 10 = (.bool (!(((termOk ar f && decide (ss.length ≤ 60)) && goOk ar rs f ss))) : Value) := hphi 10 (by decide)
        have e11 : vals 11 = (.bool (!(((termOk ar f && decide (ss.length ≤ 60)) && goOk ar rs f ss))) : Value) := hphi 11 (by decide)
        have e12 : vals 12 = (.bool (!(((termOk ar f && decide (ss.length ≤ 60)) && goOk ar rs f ss))) : Value) := hphi 12 (by decide)
        have e13 : vals 13 = undef := hphi 13 (by decide)
        have e14 : vals 14 = undef := hphi 14 (by decide)
        have e15 : vals 15 = undef := hphi 15 (by decide)
        have e16 : vals 16 = undef := hphi 16 (by decide)
        have e17 : vals 17 = undef := hphi 17 (by decide)
        have e18 : vals 18 = undef := hphi 18 (by decide)
        have e19 : vals 19 = undef := hphi 19 (by decide)
        have e20 : vals 20 = undef := hphi 20 (by decide)
        have e21 : vals 21 = undef := hphi 21 (by decide)
        have e22 : vals 22 = (.bool (true) : Value) := hphi 22 (by decide)
        have e23 : vals 23 = (.bool (true) : Value) := hphi 23 (by decide)
        have e24 : vals 24 = undef := hphi 24 (by decide)
        have e25 : vals 25 = undef := hphi 25 (by decide)
        have e26 : vals 26 = undef := hphi 26 (by decide)
        have e27 : vals 27 = undef := hphi 27 (by decide)
        rw [(envs_of_sat (l := [(0, ptr b2 0), (1, ptr b2 1), (2, ssv), (3, (.int .i64 ((((ss).length : Nat) : Int)) : Value)), (4, (.bool (decide (((((ss).length : Nat) : Int) : Int) = 0)) : Value)), (5, (.bool (decide (((((ss).length : Nat) : Int) : Int) = 0)) : Value)), (6, (.agg #[arv, rsv] : Value)), (7, ptr b2 0), (8, (.agg #[fv, ssv] : Value)), (9, (.bool (((termOk ar f && decide (ss.length ≤ 60)) && goOk ar rs f ss)) : Value)), (10, (.bool (!(((termOk ar f && decide (ss.length ≤ 60)) && goOk ar rs f ss))) : Value)), (11, (.bool (!(((termOk ar f && decide (ss.length ≤ 60)) && goOk ar rs f ss))) : Value)), (12, (.bool (!(((termOk ar f && decide (ss.length ≤ 60)) && goOk ar rs f ss))) : Value)), (13, undef), (14, undef), (15, undef), (16, undef), (17, undef), (18, undef), (19, undef), (20, undef), (21, undef), (22, (.bool (true) : Value)), (23, (.bool (true) : Value)), (24, undef), (25, undef), (26, undef), (27, undef)]) ⟨e0, e1, e2, e3, e4, e5, e6, e7, e8, e9, e10, e11, e12, e13, e14, e15, e16, e17, e18, e19, e20, e21, e22, e23, e24, e25, e26, e27, trivial⟩).symm]
        show XL _ _ _ _ _ _ _ (cellsH b2 [fv, ssv, .int .i64 (p), sv] 61 :: cellsH b1 [arv, rsv] 37 :: L)
        refine XL.no (t := 30) rfl rfl ?_
        refine XL.no (t := 30) rfl rfl ?_
        refine XL.cons (XOp.pickT (.bool (true)) rfl rfl ?_)
        refine XL.nil ?_
        refine X.condT rfl ?_
        refine X.seq ?_
        refine X.region ?_
        refine XL.cons (XOp.assign (.bool (false)) rfl ?_)
        refine XL.nil ?_
        refine X.ret (thenQ_ret (retEnd (L' := L) [.bool (false)] (.bool (false)) (.tmp rfl .nil) rfl (FLe.refl _) (FLe.refl _) (Sub.drop (Sub.drop (Sub.refl _))) ?_))
        exact ⟨(congrArg Value.bool (loopOkL_no (fun h => by obtain ⟨h1, h2, h3, h4, h5⟩ := h; have h6 := walkOkL_iff.1 h2; have h7 := right_iff.1 h6.1; simp_all <;> omega))), rfl, rfl⟩
    · rw [Bool.not_eq_true] at h2
      have hw1 : ((termOk ar f && decide (ss.length ≤ 60)) && goOk ar rs f ss) = true := by simpa using h2
      have hwk : walkOkL ar rs f ss = true := by rw [walkOkL, rightB, hsys]; simpa using hw1
      have hel := (right_iff.1 (walkOk_end hwk)).2
      have hel2 := termOk_len hel
      have hfo := (right_iff.1 (walkOkL_iff.1 hwk).1).2
      have hfl := termOk_len hfo
      have hfg := fun k (hk : k < f.length) => termOk_ge hfo hk
      have hwl := (walkOkL_iff.1 hwk).2.1
      by_cases h3 : (!(posOk ar (endL f ss) p)) = true
      · refine X.drawG [cellsH b2 [fv, ssv, .int .i64 (p), sv] 61, cellsH b1 [arv, rsv] 37] L 28 [[], [], [], [], [], [], [], [], [], [], [], [], [], [], [], [], [], [], [], [], [], [], [], [], [], [], [], []] [[], [0], [1], [2], [3], [4], [5], [5], [5, 7], [5, 6, 8], [5, 9], [5, 10], [11], [12], [12, 13], [12], [12, 15], [12, 16], [12], [12, 18], [12, 14, 17, 19], [12, 20], [12, 21], [22], [23], [23, 24], [23], [23, 26]] [[], [], [], [], [], [], [], [], [], [], [], [], [], [], [], [], [], [], [], [], [], [], [], [], [], [], [], []] (phiG [fun FF us v => v = ptr b2 0, fun FF us v => v = ptr b2 1, fun FF us v => v = ssv, fun FF us v => v = (.int .i64 ((((ss).length : Nat) : Int)) : Value), fun FF us v => v = (.bool (decide (((((ss).length : Nat) : Int) : Int) = 0)) : Value), fun FF us v => v = (.bool (decide (((((ss).length : Nat) : Int) : Int) = 0)) : Value), fun FF us v => v = (.agg #[arv, rsv] : Value), fun FF us v => v = ptr b2 0, fun FF us v => v = (.agg #[fv, ssv] : Value), fun FF us v => v = (.bool (((termOk ar f && decide (ss.length ≤ 60)) && goOk ar rs f ss)) : Value), fun FF us v => v = (.bool (!(((termOk ar f && decide (ss.length ≤ 60)) && goOk ar rs f ss))) : Value), fun FF us v => v = (.bool (!(((termOk ar f && decide (ss.length ≤ 60)) && goOk ar rs f ss))) : Value), fun FF us v => v = (.bool (!(((termOk ar f && decide (ss.length ≤ 60)) && goOk ar rs f ss))) : Value), fun FF us v => v = ptr b1 0, fun FF us v => v = (.agg #[arv] : Value), fun FF us v => v = ptr b2 0, fun FF us v => v = (.agg #[fv, ssv] : Value), fun FF us v => ((v) : Value) = v ∧ (IntsF FF (v) (endL f ss)), fun FF us v => v = ptr b2 2, fun FF us v => v = (.int .i64 (p) : Value), fun FF us v => v = (.bool (posOk ar (endL f ss) p) : Value), fun FF us v => v = (.bool (!(posOk ar (endL f ss) p)) : Value), fun FF us v => v = (.bool (!(posOk ar (endL f ss) p)) : Value), fun FF us v => v = (.bool (!(posOk ar (endL f ss) p)) : Value), fun FF us v => v = undef, fun FF us v => v = undef, fun FF us v => v = undef, fun FF us v => v = undef]) (ownL [fun us v => [], fun us v => [], fun us v => [], fun us v => [], fun us v => [], fun us v => [], fun us v => [], fun us v => [], fun us v => [], fun us v => [], fun us v => [], fun us v => [], fun us v => [], fun us v => [], fun us v => [], fun us v => [], fun us v => [], fun us v => [], fun us v => [], fun us v => [], fun us v => [], fun us v => [], fun us v => [], fun us v => [], fun us v => [], fun us v => [], fun us v => [], fun us v => []]) mixed rfl rfl (by kernel_rfl) (by kernel_rfl) (MonoG.get (MonoG.cons (fun le h => h) (MonoG.cons (fun le h => h) (MonoG.cons (fun le h => h) (MonoG.cons (fun le h => h) (MonoG.cons (fun le h => h) (MonoG.cons (fun le h => h) (MonoG.cons (fun le h => h) (MonoG.cons (fun le h => h) (MonoG.cons (fun le h => h) (MonoG.cons (fun le h => h) (MonoG.cons (fun le h => h) (MonoG.cons (fun le h => h) (MonoG.cons (fun le h => h) (MonoG.cons (fun le h => h) (MonoG.cons (fun le h => h) (MonoG.cons (fun le h => h) (MonoG.cons (fun le h => h) (MonoG.cons (fun le h => ⟨h.1, h.2.mono le⟩) (MonoG.cons (fun le h => h) (MonoG.cons (fun le h => h) (MonoG.cons (fun le h => h) (MonoG.cons (fun le h => h) (MonoG.cons (fun le h => h) (MonoG.cons (fun le h => h) (MonoG.cons (fun le h => h) (MonoG.cons (fun le h => h) (MonoG.cons (fun le h => h) (MonoG.cons (fun le h => h) MonoG.nil))))))))))))))))))))))))))))) ?_ ?_
        · refine stepsG.cons (fun vals Fs R leFs hpZ => ?_) ?_
          · refine XG.op (XOp.fieldP (b := b2) (0) Try.runUnderlying61 rfl Try.sizeOf31 (by decide) rfl rfl ?_)
            exact ⟨rfl, rfl⟩
          refine stepsG.cons (fun vals Fs R leFs hpZ => ?_) ?_
          · have e0 : vals 0 = ptr b2 0 := hpZ 0 (by decide)
            rw [(envs_of_sat (l := [(0, ptr b2 0)]) ⟨e0, trivial⟩).symm]
            refine XG.op (XOp.fieldP (b := b2) (1) Try.runUnderlying31 rfl Try.sizeOf29 (by decide) rfl rfl ?_)
            exact ⟨rfl, rfl⟩
          refine stepsG.cons (fun vals Fs R leFs hpZ => ?_) ?_
          · have e1 : vals 1 = ptr b2 1 := hpZ 1 (by decide)
            replace har := har.mono leFs
            replace hrs := hrs.mono leFs
            replace hf := hf.mono leFs
            replace hss := hss.mono leFs
            replace hs := hs.mono leFs
            rw [(envs_of_sat (l := [(1, ptr b2 1)]) ⟨e1, trivial⟩).symm]
            refine XG.op (XOp.load1 (v := ssv) Try.isAgg29 rfl (Rd.own [] rfl rfl) ?_)
            exact ⟨rfl, rfl⟩
          refine stepsG.cons (fun vals Fs R leFs hpZ => ?_) ?_
          · have e2 : vals 2 = ssv := hpZ 2 (by decide)
            replace har := har.mono leFs
            replace hrs := hrs.mono leFs
            replace hf := hf.mono leFs
            replace hss := hss.mono leFs
            replace hs := hs.mono leFs
            rw [(envs_of_sat (l := [(2, ssv)]) ⟨e2, trivial⟩).symm]
            refine XG.op (XOp.lenS (v := ssv) (n := (ss).length) Try.runUnderlying29 rfl hss.slv ?_)
            exact ⟨rfl, rfl⟩
          refine stepsG.cons (fun vals Fs R leFs hpZ => ?_) ?_
          · have e3 : vals 3 = (.int .i64 ((((ss).length : Nat) : Int)) : Value) := hpZ 3 (by decide)
            rw [(envs_of_sat (l := [(3, (.int .i64 ((((ss).length : Nat) : Int)) : Value))]) ⟨e3, trivial⟩).symm]
            refine XG.op (XOp.eql (a := (((ss).length : Nat) : Int)) (b := 0) rfl rfl ?_)
            exact ⟨rfl, rfl⟩
          refine stepsG.cons (fun vals Fs R leFs hpZ => ?_) ?_
          · have e4 : vals 4 = (.bool (decide (((((ss).length : Nat) : Int) : Int) = 0)) : Value) := hpZ 4 (by decide)
            rw [(envs_of_sat (l := [(4, (.bool (decide (((((ss).length : Nat) : Int) : Int) = 0)) : Value))]) ⟨e4, trivial⟩).symm]
            refine XG.op (XOp.move (.bool (decide (((((ss).length : Nat) : Int) : Int) = 0))) rfl ?_)
            exact ⟨rfl, rfl⟩
          refine stepsG.cons (fun vals Fs R leFs hpZ => ?_) ?_
          · have e5 : vals 5 = (.bool (decide (((((ss).length : Nat) : Int) : Int) = 0)) : Value) := hpZ 5 (by decide)
            replace har := har.mono leFs
            replace hrs := hrs.mono leFs
            replace hf := hf.mono leFs
            replace hss := hss.mono leFs
            replace hs := hs.mono leFs
            rw [(envs_of_sat (l := [(5, (.bool (decide (((((ss).length : Nat) : Int) : Int) = 0)) : Value))]) ⟨e5, trivial⟩).symm]
            refine XG.yes (t := 12) rfl (congrArg Value.bool (decide_eq_false h1)) (XOp.loadN [arv, rsv] Try.isAgg37 Try.sizeOf37 rfl rfl (Rd.ownN [_] rfl rfl) ?_)
            exact ⟨rfl, rfl⟩
          refine stepsG.cons (fun vals Fs R leFs hpZ => ?_) ?_
          · have e5 : vals 5 = (.bool (decide (((((ss).length : Nat) : Int) : Int) = 0)) : Value) := hpZ 5 (by decide)
            rw [(envs_of_sat (l := [(5, (.bool (decide (((((ss).length : Nat) : Int) : Int) = 0)) : Value))]) ⟨e5, trivial⟩).symm]
            refine XG.yes (t := 12) rfl (congrArg Value.bool (decide_eq_false h1)) (XOp.fieldP (b := b2) (0) Try.runUnderlying61 rfl Try.sizeOf31 (by decide) rfl rfl ?_)
            exact ⟨rfl, rfl⟩
          refine stepsG.cons (fun vals Fs R leFs hpZ => ?_) ?_
          · have e5 : vals 5 = (.bool (decide (((((ss).length : Nat) : Int) : Int) = 0)) : Value) := hpZ 5 (by decide)
            have e7 : vals 7 = ptr b2 0 := hpZ 7 (by decide)
            replace har := har.mono leFs
            replace hrs := hrs.mono leFs
            replace hf := hf.mono leFs
            replace hss := hss.mono leFs
            replace hs := hs.mono leFs
            rw [(envs_of_sat (l := [(5, (.bool (decide (((((ss).length : Nat) : Int) : Int) = 0)) : Value)), (7, ptr b2 0)]) ⟨e5, e7, trivial⟩).symm]
            refine XG.yes (t := 12) rfl (congrArg Value.bool (decide_eq_false h1)) (XOp.loadN [fv, ssv] Try.isAgg31 Try.sizeOf31 rfl rfl (Rd.ownN [] rfl rfl) ?_)
            exact ⟨rfl, rfl⟩
          refine stepsG.cons (fun vals Fs R leFs hpZ => ?_) ?_
          · have e5 : vals 5 = (.bool (decide (((((ss).length : Nat) : Int) : Int) = 0)) : Value) := hpZ 5 (by decide)
            have e6 : vals 6 = (.agg #[arv, rsv] : Value) := hpZ 6 (by decide)
            have e8 : vals 8 = (.agg #[fv, ssv] : Value) := hpZ 8 (by decide)
            replace har := har.mono leFs
            replace hrs := hrs.mono leFs
            replace hf := hf.mono leFs
            replace hss := hss.mono leFs
            replace hs := hs.mono leFs
            rw [(envs_of_sat (l := [(5, (.bool (decide (((((ss).length : Nat) : Int) : Int) = 0)) : Value)), (6, (.agg #[arv, rsv] : Value)), (8, (.agg #[fv, ssv] : Value))]) ⟨e5, e6, e8, trivial⟩).symm]
            refine XG.yes (t := 12) rfl (congrArg Value.bool (decide_eq_false h1)) (XOp.call (args := [.agg #[arv, rsv], .agg #[fv, ssv]]) Try.call108 rfl (walkOk_spec har hrs hf hss (hlf := (by first | assumption | rfl | omega | (left; simp; done) | (right; simp; done))) (hsb := (by first | assumption | rfl | omega | (left; simp; done) | (right; simp; done)))) ?_)
            rintro _ _ _ _ ⟨rfl, rfl, rfl⟩
            exact ⟨rfl, rfl⟩
          refine stepsG.cons (fun vals Fs R leFs hpZ => ?_) ?_
          · have e5 : vals 5 = (.bool (decide (((((ss).length : Nat) : Int) : Int) = 0)) : Value) := hpZ 5 (by decide)
            have e9 : vals 9 = (.bool (((termOk ar f && decide (ss.length ≤ 60)) && goOk ar rs f ss)) : Value) := hpZ 9 (by decide)
            rw [(envs_of_sat (l := [(5, (.bool (decide (((((ss).length : Nat) : Int) : Int) = 0)) : Value)), (9, (.bool (((termOk ar f && decide (ss.length ≤ 60)) && goOk ar rs f ss)) : Value))]) ⟨e5, e9, trivial⟩).symm]
            refine XG.yes (t := 12) rfl (congrArg Value.bool (decide_eq_false h1)) (XOp.notB (b := ((termOk ar f && decide (ss.length ≤ 60)) && goOk ar rs f ss)) rfl ?_)
            exact ⟨rfl, rfl⟩
          refine stepsG.cons (fun vals Fs R leFs hpZ => ?_) ?_
          · have e5 : vals 5 = (.bool (decide (((((ss).length : Nat) : Int) : Int) = 0)) : Value) := hpZ 5 (by decide)
            have e10 : vals 10 = (.bool (!(((termOk ar f && decide (ss.length ≤ 60)) && goOk ar rs f ss))) : Value) := hpZ 10 (by decide)
            rw [(envs_of_sat (l := [(5, (.bool (decide (((((ss).length : Nat) : Int) : Int) = 0)) : Value)), (10, (.bool (!(((termOk ar f && decide (ss.length ≤ 60)) && goOk ar rs f ss))) : Value))]) ⟨e5, e10, trivial⟩).symm]
            refine XG.op (XOp.pickF (.bool (!(((termOk ar f && decide (ss.length ≤ 60)) && goOk ar rs f ss)))) (congrArg Value.bool (decide_eq_false h1)) rfl ?_)
            exact ⟨rfl, rfl⟩
          refine stepsG.cons (fun vals Fs R leFs hpZ => ?_) ?_
          · have e11 : vals 11 = (.bool (!(((termOk ar f && decide (ss.length ≤ 60)) && goOk ar rs f ss))) : Value) := hpZ 11 (by decide)
            rw [(envs_of_sat (l := [(11, (.bool (!(((termOk ar f && decide (ss.length ≤ 60)) && goOk ar rs f ss))) : Value))]) ⟨e11, trivial⟩).symm]
            refine XG.op (XOp.move (.bool (!(((termOk ar f && decide (ss.length ≤ 60)) && goOk ar rs f ss)))) rfl ?_)
            exact ⟨rfl, rfl⟩
          refine stepsG.cons (fun vals Fs R leFs hpZ => ?_) ?_
          · have e12 : vals 12 = (.bool (!(((termOk ar f && decide (ss.length ≤ 60)) && goOk ar rs f ss))) : Value) := hpZ 12 (by decide)
            rw [(envs_of_sat (l := [(12, (.bool (!(((termOk ar f && decide (ss.length ≤ 60)) && goOk ar rs f ss))) : Value))]) ⟨e12, trivial⟩).symm]
            refine XG.yes (t := 19) rfl (congrArg Value.bool h2) (XOp.fieldP (b := b1) (0) Try.runUnderlying37 rfl Try.sizeOf34 (by decide) rfl rfl ?_)
            exact ⟨rfl, rfl⟩
          refine stepsG.cons (fun vals Fs R leFs hpZ => ?_) ?_
          · have e12 : vals 12 = (.bool (!(((termOk ar f && decide (ss.length ≤ 60)) && goOk ar rs f ss))) : Value) := hpZ 12 (by decide)
            have e13 : vals 13 = ptr b1 0 := hpZ 13 (by decide)
            replace har := har.mono leFs
            replace hrs := hrs.mono leFs
            replace hf := hf.mono leFs
            replace hss := hss.mono leFs
            replace hs := hs.mono leFs
            rw [(envs_of_sat (l := [(12, (.bool (!(((termOk ar f && decide (ss.length ≤ 60)) && goOk ar rs f ss))) : Value)), (13, ptr b1 0)]) ⟨e12, e13, trivial⟩).symm]
            refine XG.yes (t := 19) rfl (congrArg Value.bool h2) (XOp.loadN [arv] Try.isAgg34 Try.sizeOf34 rfl rfl (Rd.ownN [_] rfl rfl) ?_)
            exact ⟨rfl, rfl⟩
          refine stepsG.cons (fun vals Fs R leFs hpZ => ?_) ?_
          · have e12 : vals 12 = (.bool (!(((termOk ar f && decide (ss.length ≤ 60)) && goOk ar rs f ss))) : Value) := hpZ 12 (by decide)
            rw [(envs_of_sat (l := [(12, (.bool (!(((termOk ar f && decide (ss.length ≤ 60)) && goOk ar rs f ss))) : Value))]) ⟨e12, trivial⟩).symm]
            refine XG.yes (t := 19) rfl (congrArg Value.bool h2) (XOp.fieldP (b := b2) (0) Try.runUnderlying61 rfl Try.sizeOf31 (by decide) rfl rfl ?_)
            exact ⟨rfl, rfl⟩
          refine stepsG.cons (fun vals Fs R leFs hpZ => ?_) ?_
          · have e12 : vals 12 = (.bool (!(((termOk ar f && decide (ss.length ≤ 60)) && goOk ar rs f ss))) : Value) := hpZ 12 (by decide)
            have e15 : vals 15 = ptr b2 0 := hpZ 15 (by decide)
            replace har := har.mono leFs
            replace hrs := hrs.mono leFs
            replace hf := hf.mono leFs
            replace hss := hss.mono leFs
            replace hs := hs.mono leFs
            rw [(envs_of_sat (l := [(12, (.bool (!(((termOk ar f && decide (ss.length ≤ 60)) && goOk ar rs f ss))) : Value)), (15, ptr b2 0)]) ⟨e12, e15, trivial⟩).symm]
            refine XG.yes (t := 19) rfl (congrArg Value.bool h2) (XOp.loadN [fv, ssv] Try.isAgg31 Try.sizeOf31 rfl rfl (Rd.ownN [] rfl rfl) ?_)
            exact ⟨rfl, rfl⟩
          refine stepsG.cons (fun vals Fs R leFs hpZ => ?_) ?_
          · have e12 : vals 12 = (.bool (!(((termOk ar f && decide (ss.length ≤ 60)) && goOk ar rs f ss))) : Value) := hpZ 12 (by decide)
            have e16 : vals 16 = (.agg #[fv, ssv] : Value) := hpZ 16 (by decide)
            replace har := har.mono leFs
            replace hrs := hrs.mono leFs
            replace hf := hf.mono leFs
            replace hss := hss.mono leFs
            replace hs := hs.mono leFs
            rw [(envs_of_sat (l := [(12, (.bool (!(((termOk ar f && decide (ss.length ≤ 60)) && goOk ar rs f ss))) : Value)), (16, (.agg #[fv, ssv] : Value))]) ⟨e12, e16, trivial⟩).symm]
            refine XG.yes (t := 19) rfl (congrArg Value.bool h2) (XOp.call (args := [.agg #[fv, ssv]]) Try.call71 rfl (walkEnd_spec hf hss (hlss := (by first | assumption | rfl | omega | (left; simp; done) | (right; simp; done)))) ?_)
            rintro _ _ _ _ ⟨rfl, x3, rfl, hr3, rfl⟩
            exact ⟨⟨rfl, hr3⟩, rfl⟩
          refine stepsG.cons (fun vals Fs R leFs hpZ => ?_) ?_
          · have e12 : vals 12 = (.bool (!(((termOk ar f && decide (ss.length ≤ 60)) && goOk ar rs f ss))) : Value) := hpZ 12 (by decide)
            rw [(envs_of_sat (l := [(12, (.bool (!(((termOk ar f && decide (ss.length ≤ 60)) && goOk ar rs f ss))) : Value))]) ⟨e12, trivial⟩).symm]
            refine XG.yes (t := 19) rfl (congrArg Value.bool h2) (XOp.fieldP (b := b2) (2) Try.runUnderlying61 rfl Try.sizeOf2 (by decide) rfl rfl ?_)
            exact ⟨rfl, rfl⟩
          refine stepsG.cons (fun vals Fs R leFs hpZ => ?_) ?_
          · have e12 : vals 12 = (.bool (!(((termOk ar f && decide (ss.length ≤ 60)) && goOk ar rs f ss))) : Value) := hpZ 12 (by decide)
            have e18 : vals 18 = ptr b2 2 := hpZ 18 (by decide)
            replace har := har.mono leFs
            replace hrs := hrs.mono leFs
            replace hf := hf.mono leFs
            replace hss := hss.mono leFs
            replace hs := hs.mono leFs
            rw [(envs_of_sat (l := [(12, (.bool (!(((termOk ar f && decide (ss.length ≤ 60)) && goOk ar rs f ss))) : Value)), (18, ptr b2 2)]) ⟨e12, e18, trivial⟩).symm]
            refine XG.yes (t := 19) rfl (congrArg Value.bool h2) (XOp.load1 (v := .int .i64 (p)) Try.isAgg2 rfl (Rd.own [] rfl rfl) ?_)
            exact ⟨rfl, rfl⟩
          refine stepsG.cons (fun vals Fs R leFs hpZ => ?_) ?_
          · have e12 : vals 12 = (.bool (!(((termOk ar f && decide (ss.length ≤ 60)) && goOk ar rs f ss))) : Value) := hpZ 12 (by decide)
            have e14 : vals 14 = (.agg #[arv] : Value) := hpZ 14 (by decide)
            obtain ⟨e17, f17_6hr⟩ := hpZ 17 (by decide)
            have e19 : vals 19 = (.int .i64 (p) : Value) := hpZ 19 (by decide)
            replace har := har.mono leFs
            replace hrs := hrs.mono leFs
            replace hf := hf.mono leFs
            replace hss := hss.mono leFs
            replace hs := hs.mono leFs
            rw [(envs_of_sat (l := [(12, (.bool (!(((termOk ar f && decide (ss.length ≤ 60)) && goOk ar rs f ss))) : Value)), (14, (.agg #[arv] : Value)), (17, ((vals 17))), (19, (.int .i64 (p) : Value))]) ⟨e12, e14, (e17).symm, e19, trivial⟩).symm]
            refine XG.yes (t := 19) rfl (congrArg Value.bool h2) (XOp.call (args := [.agg #[arv], ((vals 17)), .int .i64 (p)]) Try.call109 rfl (posOk_spec (n := p) har f17_6hr) ?_)
            rintro _ _ _ _ ⟨rfl, rfl, rfl⟩
            exact ⟨rfl, rfl⟩
          refine stepsG.cons (fun vals Fs R leFs hpZ => ?_) ?_
          · have e12 : vals 12 = (.bool (!(((termOk ar f && decide (ss.length ≤ 60)) && goOk ar rs f ss))) : Value) := hpZ 12 (by decide)
            have e20 : vals 20 = (.bool (posOk ar (endL f ss) p) : Value) := hpZ 20 (by decide)
            rw [(envs_of_sat (l := [(12, (.bool (!(((termOk ar f && decide (ss.length ≤ 60)) && goOk ar rs f ss))) : Value)), (20, (.bool (posOk ar (endL f ss) p) : Value))]) ⟨e12, e20, trivial⟩).symm]
            refine XG.yes (t := 19) rfl (congrArg Value.bool h2) (XOp.notB (b := posOk ar (endL f ss) p) rfl ?_)
            exact ⟨rfl, rfl⟩
          refine stepsG.cons (fun vals Fs R leFs hpZ => ?_) ?_
          · have e12 : vals 12 = (.bool (!(((termOk ar f && decide (ss.length ≤ 60)) && goOk ar rs f ss))) : Value) := hpZ 12 (by decide)
            have e21 : vals 21 = (.bool (!(posOk ar (endL f ss) p)) : Value) := hpZ 21 (by decide)
            rw [(envs_of_sat (l := [(12, (.bool (!(((termOk ar f && decide (ss.length ≤ 60)) && goOk ar rs f ss))) : Value)), (21, (.bool (!(posOk ar (endL f ss) p)) : Value))]) ⟨e12, e21, trivial⟩).symm]
            refine XG.op (XOp.pickF (.bool (!(posOk ar (endL f ss) p))) (congrArg Value.bool h2) rfl ?_)
            exact ⟨rfl, rfl⟩
          refine stepsG.cons (fun vals Fs R leFs hpZ => ?_) ?_
          · have e22 : vals 22 = (.bool (!(posOk ar (endL f ss) p)) : Value) := hpZ 22 (by decide)
            rw [(envs_of_sat (l := [(22, (.bool (!(posOk ar (endL f ss) p)) : Value))]) ⟨e22, trivial⟩).symm]
            refine XG.op (XOp.move (.bool (!(posOk ar (endL f ss) p))) rfl ?_)
            exact ⟨rfl, rfl⟩
          refine stepsG.cons (fun vals Fs R leFs hpZ => ?_) ?_
          · have e23 : vals 23 = (.bool (!(posOk ar (endL f ss) p)) : Value) := hpZ 23 (by decide)
            rw [(envs_of_sat (l := [(23, (.bool (!(posOk ar (endL f ss) p)) : Value))]) ⟨e23, trivial⟩).symm]
            exact XG.no (t := 30) rfl (congrArg Value.bool h3) ⟨rfl, rfl⟩
          refine stepsG.cons (fun vals Fs R leFs hpZ => ?_) ?_
          · have e23 : vals 23 = (.bool (!(posOk ar (endL f ss) p)) : Value) := hpZ 23 (by decide)
            have e24 : vals 24 = undef := hpZ 24 (by decide)
            replace har := har.mono leFs
            replace hrs := hrs.mono leFs
            replace hf := hf.mono leFs
            replace hss := hss.mono leFs
            replace hs := hs.mono leFs
            rw [(envs_of_sat (l := [(23, (.bool (!(posOk ar (endL f ss) p)) : Value)), (24, undef)]) ⟨e23, e24, trivial⟩).symm]
            exact XG.no (t := 30) rfl (congrArg Value.bool h3) ⟨rfl, rfl⟩
          refine stepsG.cons (fun vals Fs R leFs hpZ => ?_) ?_
          · have e23 : vals 23 = (.bool (!(posOk ar (endL f ss) p)) : Value) := hpZ 23 (by decide)
            rw [(envs_of_sat (l := [(23, (.bool (!(posOk ar (endL f ss) p)) : Value))]) ⟨e23, trivial⟩).symm]
            exact XG.no (t := 30) rfl (congrArg Value.bool h3) ⟨rfl, rfl⟩
          refine stepsG.cons (fun vals Fs R leFs hpZ => ?_) ?_
          · have e23 : vals 23 = (.bool (!(posOk ar (endL f ss) p)) : Value) := hpZ 23 (by decide)
            have e26 : vals 26 = undef := hpZ 26 (by decide)
            replace har := har.mono leFs
            replace hrs := hrs.mono leFs
            replace hf := hf.mono leFs
            replace hss := hss.mono leFs
            replace hs := hs.mono leFs
            rw [(envs_of_sat (l := [(23, (.bool (!(posOk ar (endL f ss) p)) : Value)), (26, undef)]) ⟨e23, e26, trivial⟩).symm]
            exact XG.no (t := 30) rfl (congrArg Value.bool h3) ⟨rfl, rfl⟩
          exact stepsG.nil
        · intro vals F4 le4 hphi
          have e0 : vals 0 = ptr b2 0 := hphi 0 (by decide)
          have e1 : vals 1 = ptr b2 1 := hphi 1 (by decide)
          have e2 : vals 2 = ssv := hphi 2 (by decide)
          have e3 : vals 3 = (.int .i64 ((((ss).length : Nat) : Int)) : Value) := hphi 3 (by decide)
          have e4 : vals 4 = (.bool (decide (((((ss).length : Nat) : Int) : Int) = 0)) : Value) := hphi 4 (by decide)
          have e5 : vals 5 = (.bool (decide (((((ss).length : Nat) : Int) : Int) = 0)) : Value) := hphi 5 (by decide)
          have e6 : vals 6 = (.agg #[arv, rsv] : Value) := hphi 6 (by decide)
          have e7 : vals 7 = ptr b2 0 := hphi 7 (by decide)
          have e8 : vals 8 = (.agg #[fv, ssv] : Value) := hphi 8 (by decide)
          have e9 : vals 9 = (.bool (((termOk ar f && decide (ss.length ≤ 60)) && goOk ar rs f ss)) : Value) := hphi 9 (by decide)
          have e10 : vals 10 = (.bool (!(((termOk ar f && decide (ss.length ≤ 60)) && goOk ar rs f ss))) : Value) := hphi 10 (by decide)
          have e11 : vals 11 = (.bool (!(((termOk ar f && decide (ss.length ≤ 60)) && goOk ar rs f ss))) : Value) := hphi 11 (by decide)
          have e12 : vals 12 = (.bool (!(((termOk ar f && decide (ss.length ≤ 60)) && goOk ar rs f ss))) : Value) := hphi 12 (by decide)
          have e13 : vals 13 = ptr b1 0 := hphi 13 (by decide)
          have e14 : vals 14 = (.agg #[arv] : Value) := hphi 14 (by decide)
          have e15 : vals 15 = ptr b2 0 := hphi 15 (by decide)
          have e16 : vals 16 = (.agg #[fv, ssv] : Value) := hphi 16 (by decide)
          obtain ⟨e17, f17_6hr⟩ := hphi 17 (by decide)
          have e18 : vals 18 = ptr b2 2 := hphi 18 (by decide)
          have e19 : vals 19 = (.int .i64 (p) : Value) := hphi 19 (by decide)
          have e20 : vals 20 = (.bool (posOk ar (endL f ss) p) : Value) := hphi 20 (by decide)
          have e21 : vals 21 = (.bool (!(posOk ar (endL f ss) p)) : Value) := hphi 21 (by decide)
          have e22 : vals 22 = (.bool (!(posOk ar (endL f ss) p)) : Value) := hphi 22 (by decide)
          have e23 : vals 23 = (.bool (!(posOk ar (endL f ss) p)) : Value) := hphi 23 (by decide)
          have e24 : vals 24 = undef := hphi 24 (by decide)
          have e25 : vals 25 = undef := hphi 25 (by decide)
          have e26 : vals 26 = undef := hphi 26 (by decide)
          have e27 : vals 27 = undef := hphi 27 (by decide)
          generalize hu1 : ((vals 17)) = u1 at e0 e1 e2 e3 e4 e5 e6 e7 e8 e9 e10 e11 e12 e13 e14 e15 e16 e17 f17_6hr e18 e19 e20 e21 e22 e23 e24 e25 e26 e27
          rw [(envs_of_sat (l := [(0, ptr b2 0), (1, ptr b2 1), (2, ssv), (3, (.int .i64 ((((ss).length : Nat) : Int)) : Value)), (4, (.bool (decide (((((ss).length : Nat) : Int) : Int) = 0)) : Value)), (5, (.bool (decide (((((ss).length : Nat) : Int) : Int) = 0)) : Value)), (6, (.agg #[arv, rsv] : Value)), (7, ptr b2 0), (8, (.agg #[fv, ssv] : Value)), (9, (.bool (((termOk ar f && decide (ss.length ≤ 60)) && goOk ar rs f ss)) : Value)), (10, (.bool (!(((termOk ar f && decide (ss.length ≤ 60)) && goOk ar rs f ss))) : Value)), (11, (.bool (!(((termOk ar f && decide (ss.length ≤ 60)) && goOk ar rs f ss))) : Value)), (12, (.bool (!(((termOk ar f && decide (ss.length ≤ 60)) && goOk ar rs f ss))) : Value)), (13, ptr b1 0), (14, (.agg #[arv] : Value)), (15, ptr b2 0), (16, (.agg #[fv, ssv] : Value)), (17, u1), (18, ptr b2 2), (19, (.int .i64 (p) : Value)), (20, (.bool (posOk ar (endL f ss) p) : Value)), (21, (.bool (!(posOk ar (endL f ss) p)) : Value)), (22, (.bool (!(posOk ar (endL f ss) p)) : Value)), (23, (.bool (!(posOk ar (endL f ss) p)) : Value)), (24, undef), (25, undef), (26, undef), (27, undef)]) ⟨e0, e1, e2, e3, e4, e5, e6, e7, e8, e9, e10, e11, e12, e13, e14, e15, e16, hu1, e18, e19, e20, e21, e22, e23, e24, e25, e26, e27, trivial⟩).symm]
          replace har := har.mono le4
          replace hrs := hrs.mono le4
          replace hf := hf.mono le4
          replace hss := hss.mono le4
          replace hs := hs.mono le4
          show XL _ _ _ _ _ _ _ (cellsH b2 [fv, ssv, .int .i64 (p), sv] 61 :: cellsH b1 [arv, rsv] 37 :: L)
          refine XL.no (t := 30) rfl (congrArg Value.bool h3) ?_
          refine XL.no (t := 30) rfl (congrArg Value.bool h3) ?_
          refine XL.cons (XOp.pickT (.bool (true)) (congrArg Value.bool h3) rfl ?_)
          refine XL.nil ?_
          refine X.condT rfl ?_
          refine X.seq ?_
          refine X.region ?_
          refine XL.cons (XOp.assign (.bool (false)) rfl ?_)
          refine XL.nil ?_
          refine X.ret (thenQ_ret (retEnd (L' := L) [.bool (false)] (.bool (false)) (.tmp rfl .nil) rfl (FLe.refl _) le4 (Sub.drop (Sub.drop (Sub.refl _))) ?_))
          exact ⟨(congrArg Value.bool (loopOkL_no (fun h => by obtain ⟨h1, h2, h3, h4, h5⟩ := h; have h6 := walkOkL_iff.1 h2; have h7 := right_iff.1 h6.1; simp_all <;> omega))), rfl, rfl⟩
      · rw [Bool.not_eq_true] at h3
        have hpo : posOk ar (endL f ss) p = true := by simpa using h3
        have hpo2 := posOk_iff.1 hpo
        have hso := sub_ok hpo2.1 (p := p.toNat) (by omega)
        have hsol := termOk_len hso
        refine X.drawG [cellsH b2 [fv, ssv, .int .i64 (p), sv] 61, cellsH b1 [arv, rsv] 37] L 28 [[], [], [], [], [], [], [], [], [], [], [], [], [], [], [], [], [], [], [], [], [], [], [], [], [], [], [], []] [[], [0], [1], [2], [3], [4], [5], [5], [5, 7], [5, 6, 8], [5, 9], [5, 10], [11], [12], [12, 13], [12], [12, 15], [12, 16], [12], [12, 18], [12, 14, 17, 19], [12, 20], [12, 21], [22], [23], [23, 24], [23], [23, 26]] [[], [], [], [], [], [], [], [], [], [], [], [], [], [], [], [], [], [], [], [], [], [], [], [], [], [], [], []] (phiG [fun FF us v => v = ptr b2 0, fun FF us v => v = ptr b2 1, fun FF us v => v = ssv, fun FF us v => v = (.int .i64 ((((ss).length : Nat) : Int)) : Value), fun FF us v => v = (.bool (decide (((((ss).length : Nat) : Int) : Int) = 0)) : Value), fun FF us v => v = (.bool (decide (((((ss).length : Nat) : Int) : Int) = 0)) : Value), fun FF us v => v = (.agg #[arv, rsv] : Value), fun FF us v => v = ptr b2 0, fun FF us v => v = (.agg #[fv, ssv] : Value), fun FF us v => v = (.bool (((termOk ar f && decide (ss.length ≤ 60)) && goOk ar rs f ss)) : Value), fun FF us v => v = (.bool (!(((termOk ar f && decide (ss.length ≤ 60)) && goOk ar rs f ss))) : Value), fun FF us v => v = (.bool (!(((termOk ar f && decide (ss.length ≤ 60)) && goOk ar rs f ss))) : Value), fun FF us v => v = (.bool (!(((termOk ar f && decide (ss.length ≤ 60)) && goOk ar rs f ss))) : Value), fun FF us v => v = ptr b1 0, fun FF us v => v = (.agg #[arv] : Value), fun FF us v => v = ptr b2 0, fun FF us v => v = (.agg #[fv, ssv] : Value), fun FF us v => ((v) : Value) = v ∧ (IntsF FF (v) (endL f ss)), fun FF us v => v = ptr b2 2, fun FF us v => v = (.int .i64 (p) : Value), fun FF us v => v = (.bool (posOk ar (endL f ss) p) : Value), fun FF us v => v = (.bool (!(posOk ar (endL f ss) p)) : Value), fun FF us v => v = (.bool (!(posOk ar (endL f ss) p)) : Value), fun FF us v => v = (.bool (!(posOk ar (endL f ss) p)) : Value), fun FF us v => v = ptr b1 0, fun FF us v => v = (.agg #[arv] : Value), fun FF us v => v = ptr b2 3, fun FF us v => v = (.agg #[sv] : Value)]) (ownL [fun us v => [], fun us v => [], fun us v => [], fun us v => [], fun us v => [], fun us v => [], fun us v => [], fun us v => [], fun us v => [], fun us v => [], fun us v => [], fun us v => [], fun us v => [], fun us v => [], fun us v => [], fun us v => [], fun us v => [], fun us v => [], fun us v => [], fun us v => [], fun us v => [], fun us v => [], fun us v => [], fun us v => [], fun us v => [], fun us v => [], fun us v => [], fun us v => []]) mixed rfl rfl (by kernel_rfl) (by kernel_rfl) (MonoG.get (MonoG.cons (fun le h => h) (MonoG.cons (fun le h => h) (MonoG.cons (fun le h => h) (MonoG.cons (fun le h => h) (MonoG.cons (fun le h => h) (MonoG.cons (fun le h => h) (MonoG.cons (fun le h => h) (MonoG.cons (fun le h => h) (MonoG.cons (fun le h => h) (MonoG.cons (fun le h => h) (MonoG.cons (fun le h => h) (MonoG.cons (fun le h => h) (MonoG.cons (fun le h => h) (MonoG.cons (fun le h => h) (MonoG.cons (fun le h => h) (MonoG.cons (fun le h => h) (MonoG.cons (fun le h => h) (MonoG.cons (fun le h => ⟨h.1, h.2.mono le⟩) (MonoG.cons (fun le h => h) (MonoG.cons (fun le h => h) (MonoG.cons (fun le h => h) (MonoG.cons (fun le h => h) (MonoG.cons (fun le h => h) (MonoG.cons (fun le h => h) (MonoG.cons (fun le h => h) (MonoG.cons (fun le h => h) (MonoG.cons (fun le h => h) (MonoG.cons (fun le h => h) MonoG.nil))))))))))))))))))))))))))))) ?_ ?_
        · refine stepsG.cons (fun vals Fs R leFs hpZ => ?_) ?_
          · refine XG.op (XOp.fieldP (b := b2) (0) Try.runUnderlying61 rfl Try.sizeOf31 (by decide) rfl rfl ?_)
            exact ⟨rfl, rfl⟩
          refine stepsG.cons (fun vals Fs R leFs hpZ => ?_) ?_
          · have e0 : vals 0 = ptr b2 0 := hpZ 0 (by decide)
            rw [(envs_of_sat (l := [(0, ptr b2 0)]) ⟨e0, trivial⟩).symm]
            refine XG.op (XOp.fieldP (b := b2) (1) Try.runUnderlying31 rfl Try.sizeOf29 (by decide) rfl rfl ?_)
            exact ⟨rfl, rfl⟩
          refine stepsG.cons (fun vals Fs R leFs hpZ => ?_) ?_
          · have e1 : vals 1 = ptr b2 1 := hpZ 1 (by decide)
            replace har := har.mono leFs
            replace hrs := hrs.mono leFs
            replace hf := hf.mono leFs
            replace hss := hss.mono leFs
            replace hs := hs.mono leFs
            rw [(envs_of_sat (l := [(1, ptr b2 1)]) ⟨e1, trivial⟩).symm]
            refine XG.op (XOp.load1 (v := ssv) Try.isAgg29 rfl (Rd.own [] rfl rfl) ?_)
            exact ⟨rfl, rfl⟩
          refine stepsG.cons (fun vals Fs R leFs hpZ => ?_) ?_
          · have e2 : vals 2 = ssv := hpZ 2 (by decide)
            replace har := har.mono leFs
            replace hrs := hrs.mono leFs
            replace hf := hf.mono leFs
            replace hss := hss.mono leFs
            replace hs := hs.mono leFs
            rw [(envs_of_sat (l := [(2, ssv)]) ⟨e2, trivial⟩).symm]
            refine XG.op (XOp.lenS (v := ssv) (n := (ss).length) Try.runUnderlying29 rfl hss.slv ?_)
            exact ⟨rfl, rfl⟩
          refine stepsG.cons (fun vals Fs R leFs hpZ => ?_) ?_
          · have e3 : vals 3 = (.int .i64 ((((ss).length : Nat) : Int)) : Value) := hpZ 3 (by decide)
            rw [(envs_of_sat (l := [(3, (.int .i64 ((((ss).length : Nat) : Int)) : Value))]) ⟨e3, trivial⟩).symm]
            refine XG.op (XOp.eql (a := (((ss).length : Nat) : Int)) (b := 0) rfl rfl ?_)
            exact ⟨rfl, rfl⟩
          refine stepsG.cons (fun vals Fs R leFs hpZ => ?_) ?_
          · have e4 : vals 4 = (.bool (decide (((((ss).length : Nat) : Int) : Int) = 0)) : Value) := hpZ 4 (by decide)
            rw [(envs_of_sat (l := [(4, (.bool (decide (((((ss).length : Nat) : Int) : Int) = 0)) : Value))]) ⟨e4, trivial⟩).symm]
            refine XG.op (XOp.move (.bool (decide (((((ss).length : Nat) : Int) : Int) = 0))) rfl ?_)
            exact ⟨rfl, rfl⟩
          refine stepsG.cons (fun vals Fs R leFs hpZ => ?_) ?_
          · have e5 : vals 5 = (.bool (decide (((((ss).length : Nat) : Int) : Int) = 0)) : Value) := hpZ 5 (by decide)
            replace har := har.mono leFs
            replace hrs := hrs.mono leFs
            replace hf := hf.mono leFs
            replace hss := hss.mono leFs
            replace hs := hs.mono leFs
            rw [(envs_of_sat (l := [(5, (.bool (decide (((((ss).length : Nat) : Int) : Int) = 0)) : Value))]) ⟨e5, trivial⟩).symm]
            refine XG.yes (t := 12) rfl (congrArg Value.bool (decide_eq_false h1)) (XOp.loadN [arv, rsv] Try.isAgg37 Try.sizeOf37 rfl rfl (Rd.ownN [_] rfl rfl) ?_)
            exact ⟨rfl, rfl⟩
          refine stepsG.cons (fun vals Fs R leFs hpZ => ?_) ?_
          · have e5 : vals 5 = (.bool (decide (((((ss).length : Nat) : Int) : Int) = 0)) : Value) := hpZ 5 (by decide)
            rw [(envs_of_sat (l := [(5, (.bool (decide (((((ss).length : Nat) : Int) : Int) = 0)) : Value))]) ⟨e5, trivial⟩).symm]
            refine XG.yes (t := 12) rfl (congrArg Value.bool (decide_eq_false h1)) (XOp.fieldP (b := b2) (0) Try.runUnderlying61 rfl Try.sizeOf31 (by decide) rfl rfl ?_)
            exact ⟨rfl, rfl⟩
          refine stepsG.cons (fun vals Fs R leFs hpZ => ?_) ?_
          · have e5 : vals 5 = (.bool (decide (((((ss).length : Nat) : Int) : Int) = 0)) : Value) := hpZ 5 (by decide)
            have e7 : vals 7 = ptr b2 0 := hpZ 7 (by decide)
            replace har := har.mono leFs
            replace hrs := hrs.mono leFs
            replace hf := hf.mono leFs
            replace hss := hss.mono leFs
            replace hs := hs.mono leFs
            rw [(envs_of_sat (l := [(5, (.bool (decide (((((ss).length : Nat) : Int) : Int) = 0)) : Value)), (7, ptr b2 0)]) ⟨e5, e7, trivial⟩).symm]
            refine XG.yes (t := 12) rfl (congrArg Value.bool (decide_eq_false h1)) (XOp.loadN [fv, ssv] Try.isAgg31 Try.sizeOf31 rfl rfl (Rd.ownN [] rfl rfl) ?_)
            exact ⟨rfl, rfl⟩
          refine stepsG.cons (fun vals Fs R leFs hpZ => ?_) ?_
          · have e5 : vals 5 = (.bool (decide (((((ss).length : Nat) : Int) : Int) = 0)) : Value) := hpZ 5 (by decide)
            have e6 : vals 6 = (.agg #[arv, rsv] : Value) := hpZ 6 (by decide)
            have e8 : vals 8 = (.agg #[fv, ssv] : Value) := hpZ 8 (by decide)
            replace har := har.mono leFs
            replace hrs := hrs.mono leFs
            replace hf := hf.mono leFs
            replace hss := hss.mono leFs
            replace hs := hs.mono leFs
            rw [(envs_of_sat (l := [(5, (.bool (decide (((((ss).length : Nat) : Int) : Int) = 0)) : Value)), (6, (.agg #[arv, rsv] : Value)), (8, (.agg #[fv, ssv] : Value))]) ⟨e5, e6, e8, trivial⟩).symm]
            refine XG.yes (t := 12) rfl (congrArg Value.bool (decide_eq_false h1)) (XOp.call (args := [.agg #[arv, rsv], .agg #[fv, ssv]]) Try.call108 rfl (walkOk_spec har hrs hf hss (hlf := (by first | assumption | rfl | omega | (left; simp; done) | (right; simp; done))) (hsb := (by first | assumption | rfl | omega | (left; simp; done) | (right; simp; done)))) ?_)
            rintro _ _ _ _ ⟨rfl, rfl, rfl⟩
            exact ⟨rfl, rfl⟩
          refine stepsG.cons (fun vals Fs R leFs hpZ => ?_) ?_
          · have e5 : vals 5 = (.bool (decide (((((ss).length : Nat) : Int) : Int) = 0)) : Value) := hpZ 5 (by decide)
            have e9 : vals 9 = (.bool (((termOk ar f && decide (ss.length ≤ 60)) && goOk ar rs f ss)) : Value) := hpZ 9 (by decide)
            rw [(envs_of_sat (l := [(5, (.bool (decide (((((ss).length : Nat) : Int) : Int) = 0)) : Value)), (9, (.bool (((termOk ar f && decide (ss.length ≤ 60)) && goOk ar rs f ss)) : Value))]) ⟨e5, e9, trivial⟩).symm]
            refine XG.yes (t := 12) rfl (congrArg Value.bool (decide_eq_false h1)) (XOp.notB (b := ((termOk ar f && decide (ss.length ≤ 60)) && goOk ar rs f ss)) rfl ?_)
            exact ⟨rfl, rfl⟩
          refine stepsG.cons (fun vals Fs R leFs hpZ => ?_) ?_
          · have e5 : vals 5 = (.bool (decide (((((ss).length : Nat) : Int) : Int) = 0)) : Value) := hpZ 5 (by decide)
            have e10 : vals 10 = (.bool (!(((termOk ar f && decide (ss.length ≤ 60)) && goOk ar rs f ss))) : Value) := hpZ 10 (by decide)
            rw [(envs_of_sat (l := [(5, (.bool (decide (((((ss).length : Nat) : Int) : Int) = 0)) : Value)), (10, (.bool (!(((termOk ar f && decide (ss.length ≤ 60)) && goOk ar rs f ss))) : Value))]) ⟨e5, e10, trivial⟩).symm]
            refine XG.op (XOp.pickF (.bool (!(((termOk ar f && decide (ss.length ≤ 60)) && goOk ar rs f ss)))) (congrArg Value.bool (decide_eq_false h1)) rfl ?_)
            exact ⟨rfl, rfl⟩
          refine stepsG.cons (fun vals Fs R leFs hpZ => ?_) ?_
          · have e11 : vals 11 = (.bool (!(((termOk ar f && decide (ss.length ≤ 60)) && goOk ar rs f ss))) : Value) := hpZ 11 (by decide)
            rw [(envs_of_sat (l := [(11, (.bool (!(((termOk ar f && decide (ss.length ≤ 60)) && goOk ar rs f ss))) : Value))]) ⟨e11, trivial⟩).symm]
            refine XG.op (XOp.move (.bool (!(((termOk ar f && decide (ss.length ≤ 60)) && goOk ar rs f ss)))) rfl ?_)
            exact ⟨rfl, rfl⟩
          refine stepsG.cons (fun vals Fs R leFs hpZ => ?_) ?_
          · have e12 : vals 12 = (.bool (!(((termOk ar f && decide (ss.length ≤ 60)) && goOk ar rs f ss))) : Value) := hpZ 12 (by decide)
            rw [(envs_of_sat (l := [(12, (.bool (!(((termOk ar f && decide (ss.length ≤ 60)) && goOk ar rs f ss))) : Value))]) ⟨e12, trivial⟩).symm]
            refine XG.yes (t := 19) rfl (congrArg Value.bool h2) (XOp.fieldP (b := b1) (0) Try.runUnderlying37 rfl Try.sizeOf34 (by decide) rfl rfl ?_)
            exact ⟨rfl, rfl⟩
          refine stepsG.cons (fun vals Fs R leFs hpZ => ?_) ?_
          · have e12 : vals 12 = (.bool (!(((termOk ar f && decide (ss.length ≤ 60)) && goOk ar rs f ss))) : Value) := hpZ 12 (by decide)
            have e13 : vals 13 = ptr b1 0 := hpZ 13 (by decide)
            replace har := har.mono leFs
            replace hrs := hrs.mono leFs
            replace hf := hf.mono leFs
            replace hss := hss.mono leFs
            replace hs := hs.mono leFs
            rw [(envs_of_sat (l := [(12, (.bool (!(((termOk ar f && decide (ss.length ≤ 60)) && goOk ar rs f ss))) : Value)), (13, ptr b1 0)]) ⟨e12, e13, trivial⟩).symm]
            refine XG.yes (t := 19) rfl (congrArg Value.bool h2) (XOp.loadN [arv] Try.isAgg34 Try.sizeOf34 rfl rfl (Rd.ownN [_] rfl rfl) ?_)
            exact ⟨rfl, rfl⟩
          refine stepsG.cons (fun vals Fs R leFs hpZ => ?_) ?_
          · have e12 : vals 12 = (.bool (!(((termOk ar f && decide (ss.length ≤ 60)) && goOk ar rs f ss))) : Value) := hpZ 12 (by decide)
            rw [(envs_of_sat (l := [(12, (.bool (!(((termOk ar f && decide (ss.length ≤ 60)) && goOk ar rs f ss))) : Value))]) ⟨e12, trivial⟩).symm]
            refine XG.yes (t := 19) rfl (congrArg Value.bool h2) (XOp.fieldP (b := b2) (0) Try.runUnderlying61 rfl Try.sizeOf31 (by decide) rfl rfl ?_)
            exact ⟨rfl, rfl⟩
          refine stepsG.cons (fun vals Fs R leFs hpZ => ?_) ?_
          · have e12 : vals 12 = (.bool (!(((termOk ar f && decide (ss.length ≤ 60)) && goOk ar rs f ss))) : Value) := hpZ 12 (by decide)
            have e15 : vals 15 = ptr b2 0 := hpZ 15 (by decide)
            replace har := har.mono leFs
            replace hrs := hrs.mono leFs
            replace hf := hf.mono leFs
            replace hss := hss.mono leFs
            replace hs := hs.mono leFs
            rw [(envs_of_sat (l := [(12, (.bool (!(((termOk ar f && decide (ss.length ≤ 60)) && goOk ar rs f ss))) : Value)), (15, ptr b2 0)]) ⟨e12, e15, trivial⟩).symm]
            refine XG.yes (t := 19) rfl (congrArg Value.bool h2) (XOp.loadN [fv, ssv] Try.isAgg31 Try.sizeOf31 rfl rfl (Rd.ownN [] rfl rfl) ?_)
            exact ⟨rfl, rfl⟩
          refine stepsG.cons (fun vals Fs R leFs hpZ => ?_) ?_
          · have e12 : vals 12 = (.bool (!(((termOk ar f && decide (ss.length ≤ 60)) && goOk ar rs f ss))) : Value) := hpZ 12 (by decide)
            have e16 : vals 16 = (.agg #[fv, ssv] : Value) := hpZ 16 (by decide)
            replace har := har.mono leFs
            replace hrs := hrs.mono leFs
            replace hf := hf.mono leFs
            replace hss := hss.mono leFs
            replace hs := hs.mono leFs
            rw [(envs_of_sat (l := [(12, (.bool (!(((termOk ar f && decide (ss.length ≤ 60)) && goOk ar rs f ss))) : Value)), (16, (.agg #[fv, ssv] : Value))]) ⟨e12, e16, trivial⟩).symm]
            refine XG.yes (t := 19) rfl (congrArg Value.bool h2) (XOp.call (args := [.agg #[fv, ssv]]) Try.call71 rfl (walkEnd_spec hf hss (hlss := (by first | assumption | rfl | omega | (left; simp; done) | (right; simp; done)))) ?_)
            rintro _ _ _ _ ⟨rfl, x5, rfl, hr5, rfl⟩
            exact ⟨⟨rfl, hr5⟩, rfl⟩
          refine stepsG.cons (fun vals Fs R leFs hpZ => ?_) ?_
          · have e12 : vals 12 = (.bool (!(((termOk ar f && decide (ss.length ≤ 60)) && goOk ar rs f ss))) : Value) := hpZ 12 (by decide)
            rw [(envs_of_sat (l := [(12, (.bool (!(((termOk ar f && decide (ss.length ≤ 60)) && goOk ar rs f ss))) : Value))]) ⟨e12, trivial⟩).symm]
            refine XG.yes (t := 19) rfl (congrArg Value.bool h2) (XOp.fieldP (b := b2) (2) Try.runUnderlying61 rfl Try.sizeOf2 (by decide) rfl rfl ?_)
            exact ⟨rfl, rfl⟩
          refine stepsG.cons (fun vals Fs R leFs hpZ => ?_) ?_
          · have e12 : vals 12 = (.bool (!(((termOk ar f && decide (ss.length ≤ 60)) && goOk ar rs f ss))) : Value) := hpZ 12 (by decide)
            have e18 : vals 18 = ptr b2 2 := hpZ 18 (by decide)
            replace har := har.mono leFs
            replace hrs := hrs.mono leFs
            replace hf := hf.mono leFs
            replace hss := hss.mono leFs
            replace hs := hs.mono leFs
            rw [(envs_of_sat (l := [(12, (.bool (!(((termOk ar f && decide (ss.length ≤ 60)) && goOk ar rs f ss))) : Value)), (18, ptr b2 2)]) ⟨e12, e18, trivial⟩).symm]
            refine XG.yes (t := 19) rfl (congrArg Value.bool h2) (XOp.load1 (v := .int .i64 (p)) Try.isAgg2 rfl (Rd.own [] rfl rfl) ?_)
            exact ⟨rfl, rfl⟩
          refine stepsG.cons (fun vals Fs R leFs hpZ => ?_) ?_
          · have e12 : vals 12 = (.bool (!(((termOk ar f && decide (ss.length ≤ 60)) && goOk ar rs f ss))) : Value) := hpZ 12 (by decide)
            have e14 : vals 14 = (.agg #[arv] : Value) := hpZ 14 (by decide)
            obtain ⟨e17, f17_7hr⟩ := hpZ 17 (by decide)
            have e19 : vals 19 = (.int .i64 (p) : Value) := hpZ 19 (by decide)
            replace har := har.mono leFs
            replace hrs := hrs.mono leFs
            replace hf := hf.mono leFs
            replace hss := hss.mono leFs
            replace hs := hs.mono leFs
            rw [(envs_of_sat (l := [(12, (.bool (!(((termOk ar f && decide (ss.length ≤ 60)) && goOk ar rs f ss))) : Value)), (14, (.agg #[arv] : Value)), (17, ((vals 17))), (19, (.int .i64 (p) : Value))]) ⟨e12, e14, (e17).symm, e19, trivial⟩).symm]
            refine XG.yes (t := 19) rfl (congrArg Value.bool h2) (XOp.call (args := [.agg #[arv], ((vals 17)), .int .i64 (p)]) Try.call109 rfl (posOk_spec (n := p) har f17_7hr) ?_)
            rintro _ _ _ _ ⟨rfl, rfl, rfl⟩
            exact ⟨rfl, rfl⟩
          refine stepsG.cons (fun vals Fs R leFs hpZ => ?_) ?_
          · have e12 : vals 12 = (.bool (!(((termOk ar f && decide (ss.length ≤ 60)) && goOk ar rs f ss))) : Value) := hpZ 12 (by decide)
            have e20 : vals 20 = (.bool (posOk ar (endL f ss) p) : Value) := hpZ 20 (by decide)
            rw [(envs_of_sat (l := [(12, (.bool (!(((termOk ar f && decide (ss.length ≤ 60)) && goOk ar rs f ss))) : Value)), (20, (.bool (posOk ar (endL f ss) p) : Value))]) ⟨e12, e20, trivial⟩).symm]
            refine XG.yes (t := 19) rfl (congrArg Value.bool h2) (XOp.notB (b := posOk ar (endL f ss) p) rfl ?_)
            exact ⟨rfl, rfl⟩
          refine stepsG.cons (fun vals Fs R leFs hpZ => ?_) ?_
          · have e12 : vals 12 = (.bool (!(((termOk ar f && decide (ss.length ≤ 60)) && goOk ar rs f ss))) : Value) := hpZ 12 (by decide)
            have e21 : vals 21 = (.bool (!(posOk ar (endL f ss) p)) : Value) := hpZ 21 (by decide)
            rw [(envs_of_sat (l := [(12, (.bool (!(((termOk ar f && decide (ss.length ≤ 60)) && goOk ar rs f ss))) : Value)), (21, (.bool (!(posOk ar (endL f ss) p)) : Value))]) ⟨e12, e21, trivial⟩).symm]
            refine XG.op (XOp.pickF (.bool (!(posOk ar (endL f ss) p))) (congrArg Value.bool h2) rfl ?_)
            exact ⟨rfl, rfl⟩
          refine stepsG.cons (fun vals Fs R leFs hpZ => ?_) ?_
          · have e22 : vals 22 = (.bool (!(posOk ar (endL f ss) p)) : Value) := hpZ 22 (by decide)
            rw [(envs_of_sat (l := [(22, (.bool (!(posOk ar (endL f ss) p)) : Value))]) ⟨e22, trivial⟩).symm]
            refine XG.op (XOp.move (.bool (!(posOk ar (endL f ss) p))) rfl ?_)
            exact ⟨rfl, rfl⟩
          refine stepsG.cons (fun vals Fs R leFs hpZ => ?_) ?_
          · have e23 : vals 23 = (.bool (!(posOk ar (endL f ss) p)) : Value) := hpZ 23 (by decide)
            rw [(envs_of_sat (l := [(23, (.bool (!(posOk ar (endL f ss) p)) : Value))]) ⟨e23, trivial⟩).symm]
            refine XG.yes (t := 30) rfl (congrArg Value.bool h3) (XOp.fieldP (b := b1) (0) Try.runUnderlying37 rfl Try.sizeOf34 (by decide) rfl rfl ?_)
            exact ⟨rfl, rfl⟩
          refine stepsG.cons (fun vals Fs R leFs hpZ => ?_) ?_
          · have e23 : vals 23 = (.bool (!(posOk ar (endL f ss) p)) : Value) := hpZ 23 (by decide)
            have e24 : vals 24 = ptr b1 0 := hpZ 24 (by decide)
            replace har := har.mono leFs
            replace hrs := hrs.mono leFs
            replace hf := hf.mono leFs
            replace hss := hss.mono leFs
            replace hs := hs.mono leFs
            rw [(envs_of_sat (l := [(23, (.bool (!(posOk ar (endL f ss) p)) : Value)), (24, ptr b1 0)]) ⟨e23, e24, trivial⟩).symm]
            refine XG.yes (t := 30) rfl (congrArg Value.bool h3) (XOp.loadN [arv] Try.isAgg34 Try.sizeOf34 rfl rfl (Rd.ownN [_] rfl rfl) ?_)
            exact ⟨rfl, rfl⟩
          refine stepsG.cons (fun vals Fs R leFs hpZ => ?_) ?_
          · have e23 : vals 23 = (.bool (!(posOk ar (endL f ss) p)) : Value) := hpZ 23 (by decide)
            rw [(envs_of_sat (l := [(23, (.bool (!(posOk ar (endL f ss) p)) : Value))]) ⟨e23, trivial⟩).symm]
            refine XG.yes (t := 30) rfl (congrArg Value.bool h3) (XOp.fieldP (b := b2) (3) Try.runUnderlying61 rfl Try.sizeOf59 (by decide) rfl rfl ?_)
            exact ⟨rfl, rfl⟩
          refine stepsG.cons (fun vals Fs R leFs hpZ => ?_) ?_
          · have e23 : vals 23 = (.bool (!(posOk ar (endL f ss) p)) : Value) := hpZ 23 (by decide)
            have e26 : vals 26 = ptr b2 3 := hpZ 26 (by decide)
            replace har := har.mono leFs
            replace hrs := hrs.mono leFs
            replace hf := hf.mono leFs
            replace hss := hss.mono leFs
            replace hs := hs.mono leFs
            rw [(envs_of_sat (l := [(23, (.bool (!(posOk ar (endL f ss) p)) : Value)), (26, ptr b2 3)]) ⟨e23, e26, trivial⟩).symm]
            refine XG.yes (t := 30) rfl (congrArg Value.bool h3) (XOp.loadN [sv] Try.isAgg59 Try.sizeOf59 rfl rfl (Rd.ownN [] rfl rfl) ?_)
            exact ⟨rfl, rfl⟩
          exact stepsG.nil
        · intro vals F7 le7 hphi
          have e0 : vals 0 = ptr b2 0 := hphi 0 (by decide)
          have e1 : vals 1 = ptr b2 1 := hphi 1 (by decide)
          have e2 : vals 2 = ssv := hphi 2 (by decide)
          have e3 : vals 3 = (.int .i64 ((((ss).length : Nat) : Int)) : Value) := hphi 3 (by decide)
          have e4 : vals 4 = (.bool (decide (((((ss).length : Nat) : Int) : Int) = 0)) : Value) := hphi 4 (by decide)
          have e5 : vals 5 = (.bool (decide (((((ss).length : Nat) : Int) : Int) = 0)) : Value) := hphi 5 (by decide)
          have e6 : vals 6 = (.agg #[arv, rsv] : Value) := hphi 6 (by decide)
          have e7 : vals 7 = ptr b2 0 := hphi 7 (by decide)
          have e8 : vals 8 = (.agg #[fv, ssv] : Value) := hphi 8 (by decide)
          have e9 : vals 9 = (.bool (((termOk ar f && decide (ss.length ≤ 60)) && goOk ar rs f ss)) : Value) := hphi 9 (by decide)
          have e10 : vals 10 = (.bool (!(((termOk ar f && decide (ss.length ≤ 60)) && goOk ar rs f ss))) : Value) := hphi 10 (by decide)
          have e11 : vals 11 = (.bool (!(((termOk ar f && decide (ss.length ≤ 60)) && goOk ar rs f ss))) : Value) := hphi 11 (by decide)
          have e12 : vals 12 = (.bool (!(((termOk ar f && decide (ss.length ≤ 60)) && goOk ar rs f ss))) : Value) := hphi 12 (by decide)
          have e13 : vals 13 = ptr b1 0 := hphi 13 (by decide)
          have e14 : vals 14 = (.agg #[arv] : Value) := hphi 14 (by decide)
          have e15 : vals 15 = ptr b2 0 := hphi 15 (by decide)
          have e16 : vals 16 = (.agg #[fv, ssv] : Value) := hphi 16 (by decide)
          obtain ⟨e17, f17_7hr⟩ := hphi 17 (by decide)
          have e18 : vals 18 = ptr b2 2 := hphi 18 (by decide)
          have e19 : vals 19 = (.int .i64 (p) : Value) := hphi 19 (by decide)
          have e20 : vals 20 = (.bool (posOk ar (endL f ss) p) : Value) := hphi 20 (by decide)
          have e21 : vals 21 = (.bool (!(posOk ar (endL f ss) p)) : Value) := hphi 21 (by decide)
          have e22 : vals 22 = (.bool (!(posOk ar (endL f ss) p)) : Value) := hphi 22 (by decide)
          have e23 : vals 23 = (.bool (!(posOk ar (endL f ss) p)) : Value) := hphi 23 (by decide)
          have e24 : vals 24 = ptr b1 0 := hphi 24 (by decide)
          have e25 : vals 25 = (.agg #[arv] : Value) := hphi 25 (by decide)
          have e26 : vals 26 = ptr b2 3 := hphi 26 (by decide)
          have e27 : vals 27 = (.agg #[sv] : Value) := hphi 27 (by decide)
          generalize hu2 : ((vals 17)) = u2 at e0 e1 e2 e3 e4 e5 e6 e7 e8 e9 e10 e11 e12 e13 e14 e15 e16 e17 f17_7hr e18 e19 e20 e21 e22 e23 e24 e25 e26 e27
          rw [(envs_of_sat (l := [(0, ptr b2 0), (1, ptr b2 1), (2, ssv), (3, (.int .i64 ((((ss).length : Nat) : Int)) : Value)), (4, (.bool (decide (((((ss).length : Nat) : Int) : Int) = 0)) : Value)), (5, (.bool (decide (((((ss).length : Nat) : Int) : Int) = 0)) : Value)), (6, (.agg #[arv, rsv] : Value)), (7, ptr b2 0), (8, (.agg #[fv, ssv] : Value)), (9, (.bool (((termOk ar f && decide (ss.length ≤ 60)) && goOk ar rs f ss)) : Value)), (10, (.bool (!(((termOk ar f && decide (ss.length ≤ 60)) && goOk ar rs f ss))) : Value)), (11, (.bool (!(((termOk ar f && decide (ss.length ≤ 60)) && goOk ar rs f ss))) : Value)), (12, (.bool (!(((termOk ar f && decide (ss.length ≤ 60)) && goOk ar rs f ss))) : Value)), (13, ptr b1 0), (14, (.agg #[arv] : Value)), (15, ptr b2 0), (16, (.agg #[fv, ssv] : Value)), (17, u2), (18, ptr b2 2), (19, (.int .i64 (p) : Value)), (20, (.bool (posOk ar (endL f ss) p) : Value)), (21, (.bool (!(posOk ar (endL f ss) p)) : Value)), (22, (.bool (!(posOk ar (endL f ss) p)) : Value)), (23, (.bool (!(posOk ar (endL f ss) p)) : Value)), (24, ptr b1 0), (25, (.agg #[arv] : Value)), (26, ptr b2 3), (27, (.agg #[sv] : Value))]) ⟨e0, e1, e2, e3, e4, e5, e6, e7, e8, e9, e10, e11, e12, e13, e14, e15, e16, hu2, e18, e19, e20, e21, e22, e23, e24, e25, e26, e27, trivial⟩).symm]
          replace har := har.mono le7
          replace hrs := hrs.mono le7
          replace hf := hf.mono le7
          replace hss := hss.mono le7
          replace hs := hs.mono le7
          show XL _ _ _ _ _ _ _ (cellsH b2 [fv, ssv, .int .i64 (p), sv] 61 :: cellsH b1 [arv, rsv] 37 :: L)
          refine XL.yes (t := 30) rfl (congrArg Value.bool h3) (XOp.call (args := [.agg #[arv], .agg #[sv]]) Try.call110 rfl (SubstOk_spec har hs) ?_)
          rintro _ _ _ _ ⟨rfl, rfl, rfl⟩
          refine XL.yes (t := 30) rfl (congrArg Value.bool h3) (XOp.notB (b := substOk ar s) rfl ?_)
          refine XL.cons (XOp.pickF (.bool (!(substOk ar s))) (congrArg Value.bool h3) rfl ?_)
          refine XL.nil ?_
          refine X.cond (t := !(substOk ar s)) rfl (fun h4 => ?_) (fun h4 => ?_)
          · refine X.seq ?_
            refine X.region ?_
            refine XL.cons (XOp.assign (.bool (false)) rfl ?_)
            refine XL.nil ?_
            refine X.ret (thenQ_ret (retEnd (L' := L) [.bool (false)] (.bool (false)) (.tmp rfl .nil) rfl (FLe.refl _) le7 (Sub.drop (Sub.drop (Sub.refl _))) ?_))
            exact ⟨(congrArg Value.bool (loopOkL_no (fun h => by obtain ⟨h1, h2, h3, h4, h5⟩ := h; have h6 := walkOkL_iff.1 h2; have h7 := right_iff.1 h6.1; simp_all <;> omega))), rfl, rfl⟩
          · have hsk : substOk ar s = true := by simpa using h4
            have hsk2 := substOk_len hsk
            have hsk3 := (substOk_iff.1 hsk).2.1
            refine X.skip ?_
            refine X.seq ?_
            refine X.region ?_
            refine XL.cons (XOp.fieldP (b := b2) (3) Try.runUnderlying61 rfl Try.sizeOf59 (by decide) rfl rfl ?_)
            refine XL.cons (XOp.loadN [sv] Try.isAgg59 Try.sizeOf59 rfl rfl (Rd.ownN [] rfl rfl) ?_)
            refine XL.cons (XOp.fieldP (b := b2) (0) Try.runUnderlying61 rfl Try.sizeOf31 (by decide) rfl rfl ?_)
            refine XL.cons (XOp.fieldP (b := b2) (0) Try.runUnderlying31 rfl Try.sizeOf22 (by decide) rfl rfl ?_)
            refine XL.cons (XOp.load1 (v := fv) Try.isAgg22 rfl (Rd.own [] rfl rfl) ?_)
            refine XL.cons (XOp.call (args := [.agg #[sv], fv]) Try.call111 rfl (fill_spec hs hf (hsl := (by first | assumption | rfl | omega | (left; simp; done) | (right; simp; done))) (hsb := (fun i => by have := hsk2 i; omega)) (htl := (by first | assumption | rfl | omega | (left; simp; done) | (right; simp; done))) (htg := (fun k hk => by have := hfg k hk; omega))) ?_)
            rintro _ F8 _ le8 ⟨x6, rfl, hr6, hr7, rfl⟩
            replace har := har.mono le8
            replace hrs := hrs.mono le8
            replace hf := hf.mono le8
            replace hss := hss.mono le8
            replace hs := hs.mono le8
            replace f17_7hr := f17_7hr.mono le8
            refine XL.cons (XOp.move (.tuple #[x6, .bool ((fillL s f).isSome)]) rfl ?_)
            refine XL.cons (XOp.extract (x6) rfl rfl ?_)
            refine XL.cons (XOp.extract (.bool ((fillL s f).isSome)) rfl rfl ?_)
            refine XL.cons (XOp.assign (x6) rfl ?_)
            refine XL.cons (XOp.assign (.bool ((fillL s f).isSome)) rfl ?_)
            refine XL.nil ?_
            refine X.seq ?_
            by_cases h5 : ((fillL s f).isSome) = true
            · have hfs := h5
              refine X.drawG [cellsH b2 [fv, ssv, .int .i64 (p), sv] 61, cellsH b1 [arv, rsv] 37] L 11 [[], [], [], [], [], [], [], [], [], [], []] [[], [0], [1], [1], [1, 3], [1], [1, 5], [1, 6], [1], [1, 8], [1, 4, 7, 9]] [[], [], [], [], [], [], [], [], [], [], []] (phiG [fun FF us v => v = (.bool ((fillL s f).isSome) : Value), fun FF us v => v = (.bool ((fillL s f).isSome) : Value), fun FF us v => v = x6, fun FF us v => v = ptr b1 0, fun FF us v => v = (.agg #[arv] : Value), fun FF us v => v = ptr b2 0, fun FF us v => v = (.agg #[fv, ssv] : Value), fun FF us v => ((v) : Value) = v ∧ (IntsF FF (v) (endL f ss)), fun FF us v => v = ptr b2 2, fun FF us v => v = (.int .i64 (p) : Value), fun FF us v => ((v) : Value) = v ∧ (IntsF FF (v) (sub ar (endL f ss) ((p).toNat))) ∧ (isNil (v) = false)]) (ownL [fun us v => [], fun us v => [], fun us v => [], fun us v => [], fun us v => [], fun us v => [], fun us v => [], fun us v => [], fun us v => [], fun us v => [], fun us v => []]) mixed rfl rfl (by kernel_rfl) (by kernel_rfl) (MonoG.get (MonoG.cons (fun le h => h) (MonoG.cons (fun le h => h) (MonoG.cons (fun le h => h) (MonoG.cons (fun le h => h) (MonoG.cons (fun le h => h) (MonoG.cons (fun le h => h) (MonoG.cons (fun le h => h) (MonoG.cons (fun le h => ⟨h.1, h.2.mono le⟩) (MonoG.cons (fun le h => h) (MonoG.cons (fun le h => h) (MonoG.cons (fun le h => ⟨h.1, h.2.1.mono le, h.2.2⟩) MonoG.nil)))))))))))) ?_ ?_
              · refine stepsG.cons (fun vals Fs R leFs hpZ => ?_) ?_
                · refine XG.op (XOp.move (.bool ((fillL s f).isSome)) rfl ?_)
                  exact ⟨rfl, rfl⟩
                refine stepsG.cons (fun vals Fs R leFs hpZ => ?_) ?_
                · have e0 : vals 0 = (.bool ((fillL s f).isSome) : Value) := hpZ 0 (by decide)
                  rw [(envs_of_sat (l := [(0, (.bool ((fillL s f).isSome) : Value))]) ⟨e0, trivial⟩).symm]
                  refine XG.op (XOp.move (.bool ((fillL s f).isSome)) rfl ?_)
                  exact ⟨rfl, rfl⟩
                refine stepsG.cons (fun vals Fs R leFs hpZ => ?_) ?_
                · have e1 : vals 1 = (.bool ((fillL s f).isSome) : Value) := hpZ 1 (by decide)
                  rw [(envs_of_sat (l := [(1, (.bool ((fillL s f).isSome) : Value))]) ⟨e1, trivial⟩).symm]
                  refine XG.yes (t := 48) rfl (congrArg Value.bool h5) (XOp.move (x6) rfl ?_)
                  exact ⟨rfl, rfl⟩
                refine stepsG.cons (fun vals Fs R leFs hpZ => ?_) ?_
                · have e1 : vals 1 = (.bool ((fillL s f).isSome) : Value) := hpZ 1 (by decide)
                  rw [(envs_of_sat (l := [(1, (.bool ((fillL s f).isSome) : Value))]) ⟨e1, trivial⟩).symm]
                  refine XG.yes (t := 48) rfl (congrArg Value.bool h5) (XOp.fieldP (b := b1) (0) Try.runUnderlying37 rfl Try.sizeOf34 (by decide) rfl rfl ?_)
                  exact ⟨rfl, rfl⟩
                refine stepsG.cons (fun vals Fs R leFs hpZ => ?_) ?_
                · have e1 : vals 1 = (.bool ((fillL s f).isSome) : Value) := hpZ 1 (by decide)
                  have e3 : vals 3 = ptr b1 0 := hpZ 3 (by decide)
                  replace har := har.mono leFs
                  replace hrs := hrs.mono leFs
                  replace hf := hf.mono leFs
                  replace hss := hss.mono leFs
                  replace hs := hs.mono leFs
                  replace f17_7hr := f17_7hr.mono leFs
                  replace hr6 := hr6.mono leFs
                  rw [(envs_of_sat (l := [(1, (.bool ((fillL s f).isSome) : Value)), (3, ptr b1 0)]) ⟨e1, e3, trivial⟩).symm]
                  refine XG.yes (t := 48) rfl (congrArg Value.bool h5) (XOp.loadN [arv] Try.isAgg34 Try.sizeOf34 rfl rfl (Rd.ownN [_] rfl rfl) ?_)
                  exact ⟨rfl, rfl⟩
                refine stepsG.cons (fun vals Fs R leFs hpZ => ?_) ?_
                · have e1 : vals 1 = (.bool ((fillL s f).isSome) : Value) := hpZ 1 (by decide)
                  rw [(envs_of_sat (l := [(1, (.bool ((fillL s f).isSome) : Value))]) ⟨e1, trivial⟩).symm]
                  refine XG.yes (t := 48) rfl (congrArg Value.bool h5) (XOp.fieldP (b := b2) (0) Try.runUnderlying61 rfl Try.sizeOf31 (by decide) rfl rfl ?_)
                  exact ⟨rfl, rfl⟩
                refine stepsG.cons (fun vals Fs R leFs hpZ => ?_) ?_
                · have e1 : vals 1 = (.bool ((fillL s f).isSome) : Value) := hpZ 1 (by decide)
                  have e5 : vals 5 = ptr b2 0 := hpZ 5 (by decide)
                  replace har := har.mono leFs
                  replace hrs := hrs.mono leFs
                  replace hf := hf.mono leFs
                  replace hss := hss.mono leFs
                  replace hs := hs.mono leFs
                  replace f17_7hr := f17_7hr.mono leFs
                  replace hr6 := hr6.mono leFs
                  rw [(envs_of_sat (l := [(1, (.bool ((fillL s f).isSome) : Value)), (5, ptr b2 0)]) ⟨e1, e5, trivial⟩).symm]
                  refine XG.yes (t := 48) rfl (congrArg Value.bool h5) (XOp.loadN [fv, ssv] Try.isAgg31 Try.sizeOf31 rfl rfl (Rd.ownN [] rfl rfl) ?_)
                  exact ⟨rfl, rfl⟩
                refine stepsG.cons (fun vals Fs R leFs hpZ => ?_) ?_
                · have e1 : vals 1 = (.bool ((fillL s f).isSome) : Value) := hpZ 1 (by decide)
                  have e6 : vals 6 = (.agg #[fv, ssv] : Value) := hpZ 6 (by decide)
                  replace har := har.mono leFs
                  replace hrs := hrs.mono leFs
                  replace hf := hf.mono leFs
                  replace hss := hss.mono leFs
                  replace hs := hs.mono leFs
                  replace f17_7hr := f17_7hr.mono leFs
                  replace hr6 := hr6.mono leFs
                  rw [(envs_of_sat (l := [(1, (.bool ((fillL s f).isSome) : Value)), (6, (.agg #[fv, ssv] : Value))]) ⟨e1, e6, trivial⟩).symm]
                  refine XG.yes (t := 48) rfl (congrArg Value.bool h5) (XOp.call (args := [.agg #[fv, ssv]]) Try.call71 rfl (walkEnd_spec hf hss (hlss := (by first | assumption | rfl | omega | (left; simp; done) | (right; simp; done)))) ?_)
                  rintro _ _ _ _ ⟨rfl, x8, rfl, hr9, rfl⟩
                  exact ⟨⟨rfl, hr9⟩, rfl⟩
                refine stepsG.cons (fun vals Fs R leFs hpZ => ?_) ?_
                · have e1 : vals 1 = (.bool ((fillL s f).isSome) : Value) := hpZ 1 (by decide)
                  rw [(envs_of_sat (l := [(1, (.bool ((fillL s f).isSome) : Value))]) ⟨e1, trivial⟩).symm]
                  refine XG.yes (t := 48) rfl (congrArg Value.bool h5) (XOp.fieldP (b := b2) (2) Try.runUnderlying61 rfl Try.sizeOf2 (by decide) rfl rfl ?_)
                  exact ⟨rfl, rfl⟩
                refine stepsG.cons (fun vals Fs R leFs hpZ => ?_) ?_
                · have e1 : vals 1 = (.bool ((fillL s f).isSome) : Value) := hpZ 1 (by decide)
                  have e8 : vals 8 = ptr b2 2 := hpZ 8 (by decide)
                  replace har := har.mono leFs
                  replace hrs := hrs.mono leFs
                  replace hf := hf.mono leFs
                  replace hss := hss.mono leFs
                  replace hs := hs.mono leFs
                  replace f17_7hr := f17_7hr.mono leFs
                  replace hr6 := hr6.mono leFs
                  rw [(envs_of_sat (l := [(1, (.bool ((fillL s f).isSome) : Value)), (8, ptr b2 2)]) ⟨e1, e8, trivial⟩).symm]
                  refine XG.yes (t := 48) rfl (congrArg Value.bool h5) (XOp.load1 (v := .int .i64 (p)) Try.isAgg2 rfl (Rd.own [] rfl rfl) ?_)
                  exact ⟨rfl, rfl⟩
                refine stepsG.cons (fun vals Fs R leFs hpZ => ?_) ?_
                · have e1 : vals 1 = (.bool ((fillL s f).isSome) : Value) := hpZ 1 (by decide)
                  have e4 : vals 4 = (.agg #[arv] : Value) := hpZ 4 (by decide)
                  obtain ⟨e7, f7_9hr⟩ := hpZ 7 (by decide)
                  have e9 : vals 9 = (.int .i64 (p) : Value) := hpZ 9 (by decide)
                  replace har := har.mono leFs
                  replace hrs := hrs.mono leFs
                  replace hf := hf.mono leFs
                  replace hss := hss.mono leFs
                  replace hs := hs.mono leFs
                  replace f17_7hr := f17_7hr.mono leFs
                  replace hr6 := hr6.mono leFs
                  rw [(envs_of_sat (l := [(1, (.bool ((fillL s f).isSome) : Value)), (4, (.agg #[arv] : Value)), (7, ((vals 7))), (9, (.int .i64 (p) : Value))]) ⟨e1, e4, (e7).symm, e9, trivial⟩).symm]
                  refine XG.yes (t := 48) rfl (congrArg Value.bool h5) (XOp.call (args := [.agg #[arv], ((vals 7)), .int .i64 (((p).toNat : Nat) : Int)]) Try.call112 (by rw [show (((p).toNat : Nat) : Int) = p from by omega]; rfl) (subAt_spec (p := (p).toNat) har f7_9hr (ho := (hel)) (hp := (by omega)) (hnn := (by first | exact notNil_of_pos (F := Fs) (xs := endL f ss) (by assumption) (by omega) | exact notNil_of_pos (F := F) (xs := endL f ss) (by assumption) (by omega)))) ?_)
                  rintro v2 _ _ _ ⟨rfl, rfl, hv2, hn2⟩
                  exact ⟨⟨rfl, hv2, hn2⟩, rfl⟩
                exact stepsG.nil
              · intro vals F11 le11 hphi
                have e0 : vals 0 = (.bool ((fillL s f).isSome) : Value) := hphi 0 (by decide)
                have e1 : vals 1 = (.bool ((fillL s f).isSome) : Value) := hphi 1 (by decide)
                have e2 : vals 2 = x6 := hphi 2 (by decide)
                have e3 : vals 3 = ptr b1 0 := hphi 3 (by decide)
                have e4 : vals 4 = (.agg #[arv] : Value) := hphi 4 (by decide)
                have e5 : vals 5 = ptr b2 0 := hphi 5 (by decide)
                have e6 : vals 6 = (.agg #[fv, ssv] : Value) := hphi 6 (by decide)
                obtain ⟨e7, f7_9hr⟩ := hphi 7 (by decide)
                have e8 : vals 8 = ptr b2 2 := hphi 8 (by decide)
                have e9 : vals 9 = (.int .i64 (p) : Value) := hphi 9 (by decide)
                obtain ⟨e10, f10_9ha, f10_9hn⟩ := hphi 10 (by decide)
                generalize hu3 : ((vals 7)) = u3 at e0 e1 e2 e3 e4 e5 e6 e7 f7_9hr e8 e9 e10 f10_9ha f10_9hn
                generalize hu4 : ((vals 10)) = u4 at e0 e1 e2 e3 e4 e5 e6 e7 f7_9hr e8 e9 e10 f10_9ha f10_9hn
                rw [(envs_of_sat (l := [(0, (.bool ((fillL s f).isSome) : Value)), (1, (.bool ((fillL s f).isSome) : Value)), (2, x6), (3, ptr b1 0), (4, (.agg #[arv] : Value)), (5, ptr b2 0), (6, (.agg #[fv, ssv] : Value)), (7, u3), (8, ptr b2 2), (9, (.int .i64 (p) : Value)), (10, u4)]) ⟨e0, e1, e2, e3, e4, e5, e6, hu3, e8, e9, hu4, trivial⟩).symm]
                replace har := har.mono le11
                replace hrs := hrs.mono le11
                replace hf := hf.mono le11
                replace hss := hss.mono le11
                replace hs := hs.mono le11
                replace f17_7hr := f17_7hr.mono le11
                replace hr6 := hr6.mono le11
                show XL _ _ _ _ _ _ _ (cellsH b2 [fv, ssv, .int .i64 (p), sv] 61 :: cellsH b1 [arv, rsv] 37 :: L)
                refine XL.yes (t := 48) rfl (congrArg Value.bool h5) (XOp.call (args := [x6, u4]) Try.call70 rfl (Equal_spec hr6 f10_9ha (hbd := (by first | assumption | rfl | omega | (left; simp; done) | (right; simp; done)))) ?_)
                rintro _ _ _ _ ⟨rfl, rfl, rfl⟩
                refine XL.cons (XOp.pickT (.bool (decide (((fillL s f).getD []) = ((sub ar (endL f ss) ((p).toNat)))))) (congrArg Value.bool h5) rfl ?_)
                refine XL.cons (XOp.assign (.bool (decide (((fillL s f).getD []) = ((sub ar (endL f ss) ((p).toNat)))))) rfl ?_)
                refine XL.nil ?_
                refine X.ret (retEnd (L' := L) [.bool (decide (((fillL s f).getD []) = ((sub ar (endL f ss) ((p).toNat)))))] (.bool (decide (((fillL s f).getD []) = ((sub ar (endL f ss) ((p).toNat)))))) (.tmp rfl .nil) rfl (FLe.refl _) (FLe.trans (FLe.trans le7 le8) le11) (Sub.drop (Sub.drop (Sub.refl _))) ?_)
                exact ⟨(congrArg Value.bool (by rw [Bool.eq_iff_iff, loopOkL_iff]; simp only [decide_eq_true_eq]; exact ⟨fun h => (fill_eq hfs).1 h.2.2.2.2, fun h => ⟨by omega, hwk, hpo, hsk, (fill_eq hfs).2 h⟩⟩)), rfl, rfl⟩
            · rw [Bool.not_eq_true] at h5
              have hfs := h5
              refine X.draw [cellsH b2 [fv, ssv, .int .i64 (p), sv] 61, cellsH b1 [arv, rsv] 37] L 11 [[], [], [], [], [], [], [], [], [], [], []] [[], [0], [1], [1], [1, 3], [1], [1, 5], [1, 6], [1], [1, 8], [1, 4, 7, 9]] (phiL [fun us v => v = (.bool ((fillL s f).isSome) : Value), fun us v => v = (.bool ((fillL s f).isSome) : Value), fun us v => v = undef, fun us v => v = undef, fun us v => v = undef, fun us v => v = undef, fun us v => v = undef, fun us v => v = undef, fun us v => v = undef, fun us v => v = undef, fun us v => v = undef]) (ownL [fun us v => [], fun us v => [], fun us v => [], fun us v => [], fun us v => [], fun us v => [], fun us v => [], fun us v => [], fun us v => [], fun us v => [], fun us v => []]) mixed rfl rfl (by kernel_rfl) ?_ ?_
              · refine stepsP.cons (fun vals R hpZ => ?_) ?_
                · refine XG.op (XOp.move (.bool ((fillL s f).isSome)) rfl ?_)
                  exact ⟨rfl, rfl, rfl⟩
                refine stepsP.cons (fun vals R hpZ => ?_) ?_
                · rw [(envs_of_sat (l := [(0, (.bool ((fillL s f).isSome) : Value))]) ⟨hpZ 0 (by decide), trivial⟩).symm]
                  refine XG.op (XOp.move (.bool ((fillL s f).isSome)) rfl ?_)
                  exact ⟨rfl, rfl, rfl⟩
                refine stepsP.cons (fun vals R hpZ => ?_) ?_
                · rw [(envs_of_sat (l := [(1, (.bool ((fillL s f).isSome) : Value))]) ⟨hpZ 1 (by decide), trivial⟩).symm]
                  exact XG.no (t := 48) rfl (congrArg Value.bool h5) ⟨rfl, rfl, rfl⟩
                refine stepsP.cons (fun vals R hpZ => ?_) ?_
                · rw [(envs_of_sat (l := [(1, (.bool ((fillL s f).isSome) : Value))]) ⟨hpZ 1 (by decide), trivial⟩).symm]
                  exact XG.no (t := 48) rfl (congrArg Value.bool h5) ⟨rfl, rfl, rfl⟩
                refine stepsP.cons (fun vals R hpZ => ?_) ?_
                · rw [(envs_of_sat (l := [(1, (.bool ((fillL s f).isSome) : Value)), (3, undef)]) ⟨hpZ 1 (by decide), hpZ 3 (by decide), trivial⟩).symm]
                  exact XG.no (t := 48) rfl (congrArg Value.bool h5) ⟨rfl, rfl, rfl⟩
                refine stepsP.cons (fun vals R hpZ => ?_) ?_
                · rw [(envs_of_sat (l := [(1, (.bool ((fillL s f).isSome) : Value))]) ⟨hpZ 1 (by decide), trivial⟩).symm]
                  exact XG.no (t := 48) rfl (congrArg Value.bool h5) ⟨rfl, rfl, rfl⟩
                refine stepsP.cons (fun vals R hpZ => ?_) ?_
                · rw [(envs_of_sat (l := [(1, (.bool ((fillL s f).isSome) : Value)), (5, undef)]) ⟨hpZ 1 (by decide), hpZ 5 (by decide), trivial⟩).symm]
                  exact XG.no (t := 48) rfl (congrArg Value.bool h5) ⟨rfl, rfl, rfl⟩
                refine stepsP.cons (fun vals R hpZ => ?_) ?_
                · rw [(envs_of_sat (l := [(1, (.bool ((fillL s f).isSome) : Value)), (6, undef)]) ⟨hpZ 1 (by decide), hpZ 6 (by decide), trivial⟩).symm]
                  exact XG.no (t := 48) rfl (congrArg Value.bool h5) ⟨rfl, rfl, rfl⟩
                refine stepsP.cons (fun vals R hpZ => ?_) ?_
                · rw [(envs_of_sat (l := [(1, (.bool ((fillL s f).isSome) : Value))]) ⟨hpZ 1 (by decide), trivial⟩).symm]
                  exact XG.no (t := 48) rfl (congrArg Value.bool h5) ⟨rfl, rfl, rfl⟩
                refine stepsP.cons (fun vals R hpZ => ?_) ?_
                · rw [(envs_of_sat (l := [(1, (.bool ((fillL s f).isSome) : Value)), (8, undef)]) ⟨hpZ 1 (by decide), hpZ 8 (by decide), trivial⟩).symm]
                  exact XG.no (t := 48) rfl (congrArg Value.bool h5) ⟨rfl, rfl, rfl⟩
                refine stepsP.cons (fun vals R hpZ => ?_) ?_
                · rw [(envs_of_sat (l := [(1, (.bool ((fillL s f).isSome) : Value)), (4, undef), (7, undef), (9, undef)]) ⟨hpZ 1 (by decide), hpZ 4 (by decide), hpZ 7 (by decide), hpZ 9 (by decide), trivial⟩).symm]
                  exact XG.no (t := 48) rfl (congrArg Value.bool h5) ⟨rfl, rfl, rfl⟩
                exact stepsP.nil
              · intro vals hphi
                have e0 : vals 0 = (.bool ((fillL s f).isSome) : Value) := hphi 0 (by decide)
                have e1 : vals 1 = (.bool ((fillL s f).isSome) : Value) := hphi 1 (by decide)
                have e2 : vals 2 = undef := hphi 2 (by decide)
                have e3 : vals 3 = undef := hphi 3 (by decide)
                have e4 : vals 4 = undef := hphi 4 (by decide)
                have e5 : vals 5 = undef := hphi 5 (by decide)
                have e6 : vals 6 = undef := hphi 6 (by decide)
                have e7 : vals 7 = undef := hphi 7 (by decide)
                have e8 : vals 8 = undef := hphi 8 (by decide)
                have e9 : vals 9 = undef := hphi 9 (by decide)
                have e10 : vals 10 = undef := hphi 10 (by decide)
                rw [(envs_of_sat (l := [(0, (.bool ((fillL s f).isSome) : Value)), (1, (.bool ((fillL s f).isSome) : Value)), (2, undef), (3, undef), (4, undef), (5, undef), (6, undef), (7, undef), (8, undef), (9, undef), (10, undef)]) ⟨e0, e1, e2, e3, e4, e5, e6, e7, e8, e9, e10, trivial⟩).symm]
                show XL _ _ _ _ _ _ _ (cellsH b2 [fv, ssv, .int .i64 (p), sv] 61 :: cellsH b1 [arv, rsv] 37 :: L)
                refine XL.no (t := 48) rfl (congrArg Value.bool h5) ?_
                refine XL.cons (XOp.pickF (.bool (false)) (congrArg Value.bool h5) rfl ?_)
                refine XL.cons (XOp.assign (.bool (false)) rfl ?_)
                refine XL.nil ?_
                refine X.ret (retEnd (L' := L) [.bool (false)] (.bool (false)) (.tmp rfl .nil) rfl (FLe.refl _) (FLe.trans le7 le8) (Sub.drop (Sub.drop (Sub.refl _))) ?_)
                exact ⟨(congrArg Value.bool (loopOkL_no (fun h => fill_none (by assumption) h.2.2.2.2))), rfl, rfl⟩

/- impl.LoopOk -/
theorem LoopOk_spec {F : FH} {L : List HP} {arv : Value} {ar : List Int} (har : IntsF F arv ar) {rsv : Value} {rs : List (List Int × List Int)} (hrs : PairsF F rsv rs) {fv : Value} {f : List Int} (hf : IntsF F fv f) {ssv : Value} {ss : List StepT} (hss : StepsF F ssv ss) {p : Int} {sv : Value} {s : List (List Int)} (hs : RowsF F sv s) (hlf : f.length ≤ 4000000) (hsb : ∀ i, i < ss.length → (ss.getD i (0, 0, [])).2.2.length ≤ 4000000) (hlss : ss.length ≤ 4000000) :
    Does Try.prog 25 [.agg #[arv, rsv], .agg #[fv, ssv, .int .i64 (p), sv]] F (L) (fun v F' L' => (.bool ((sysOk ar rs && loopOkL ar rs f ss p s)) : Value) = v ∧ F = F' ∧ L = L') := by
  refine Does.of_X Try.func25 rfl rfl rfl ?_
  refine X.seq ?_
  refine X.region ?_
  refine XL.cons (XOp.box [arv, rsv] rfl rfl ?_)
  intro b1
  refine XL.cons (XOp.box [fv, ssv, .int .i64 (p), sv] rfl rfl ?_)
  intro b2
  refine XL.cons (XOp.assign (.bool (false)) rfl ?_)
  refine XL.nil ?_
  refine X.seq ?_
  refine X.region ?_
  refine XL.cons (XOp.loadN [arv, rsv] Try.isAgg37 Try.sizeOf37 rfl rfl (Rd.ownN [_] rfl rfl) ?_)
  refine XL.cons (XOp.call (args := [.agg #[arv, rsv]]) Try.call43 rfl (SystemOk_spec har hrs) ?_)
  rintro _ _ _ _ ⟨rfl, rfl, rfl⟩
  refine XL.cons (XOp.move (.bool (sysOk ar rs)) rfl ?_)
  by_cases h1 : (sysOk ar rs) = true
  · refine XL.yes (t := 7) rfl (congrArg Value.bool h1) (XOp.loadN [arv, rsv] Try.isAgg37 Try.sizeOf37 rfl rfl (Rd.ownN [_] rfl rfl) ?_)
    refine XL.yes (t := 7) rfl (congrArg Value.bool h1) (XOp.loadN [fv, ssv, .int .i64 (p), sv] Try.isAgg61 Try.sizeOf61 rfl rfl (Rd.ownN [] rfl rfl) ?_)
    refine XL.yes (t := 7) rfl (congrArg Value.bool h1) (XOp.call (args := [.agg #[arv, rsv], .agg #[fv, ssv, .int .i64 (p), sv]]) Try.call68 rfl (loopOk_spec har hrs hf hss hs (hsys := (by first | assumption | rfl | omega | (left; simp; done) | (right; simp; done))) (hlf := (by first | assumption | rfl | omega | (left; simp; done) | (right; simp; done))) (hsb := (by first | assumption | rfl | omega | (left; simp; done) | (right; simp; done))) (hlss := (by first | assumption | rfl | omega | (left; simp; done) | (right; simp; done)))) ?_)
    rintro _ _ _ _ ⟨rfl, rfl, rfl⟩
    refine XL.cons (XOp.pickT (.bool (loopOkL ar rs f ss p s)) (congrArg Value.bool h1) rfl ?_)
    refine XL.cons (XOp.assign (.bool (loopOkL ar rs f ss p s)) rfl ?_)
    refine XL.nil ?_
    refine X.ret (retEnd (L' := L) [.bool (loopOkL ar rs f ss p s)] (.bool (loopOkL ar rs f ss p s)) (.tmp rfl .nil) rfl (FLe.refl _) (FLe.refl _) (Sub.drop (Sub.drop (Sub.refl _))) ?_)
    exact ⟨(congrArg Value.bool (by simp_all)), rfl, rfl⟩
  · rw [Bool.not_eq_true] at h1
    refine XL.no (t := 7) rfl (congrArg Value.bool h1) ?_
    refine XL.no (t := 7) rfl (congrArg Value.bool h1) ?_
    refine XL.no (t := 7) rfl (congrArg Value.bool h1) ?_
    refine XL.cons (XOp.pickF (.bool (false)) (congrArg Value.bool h1) rfl ?_)
    refine XL.cons (XOp.assign (.bool (false)) rfl ?_)
    refine XL.nil ?_
    refine X.ret (retEnd (L' := L) [.bool (false)] (.bool (false)) (.tmp rfl .nil) rfl (FLe.refl _) (FLe.refl _) (Sub.drop (Sub.drop (Sub.refl _))) ?_)
    exact ⟨(congrArg Value.bool (by simp_all)), rfl, rfl⟩

/- impl.CycleIn -/
theorem CycleIn_spec {F : FH} {L : List HP} {arv : Value} {ar : List Int} (har : IntsF F arv ar) {rsv : Value} {rs : List (List Int × List Int)} (hrs : PairsF F rsv rs) {fv : Value} {f : List Int} (hf : IntsF F fv f) {ssv : Value} {ss : List StepT} (hss : StepsF F ssv ss) {p : Int} {sv : Value} {s : List (List Int)} (hs : RowsF F sv s) (hlf : f.length ≤ 4000000) (hsb : ∀ i, i < ss.length → (ss.getD i (0, 0, [])).2.2.length ≤ 4000000) (hlss : ss.length ≤ 4000000) :
    Does Try.prog 28 [.agg #[arv, rsv], .agg #[fv, ssv, .int .i64 (p), sv]] F (L) (fun v F' L' => (.bool (((sysOk ar rs && loopOkL ar rs f ss p s) && decide (endL f ss = f))) : Value) = v ∧ F = F' ∧ L = L') := by
  refine Does.of_X Try.func28 rfl rfl rfl ?_
  refine X.seq ?_
  refine X.region ?_
  refine XL.cons (XOp.box [arv, rsv] rfl rfl ?_)
  intro b1
  refine XL.cons (XOp.box [fv, ssv, .int .i64 (p), sv] rfl rfl ?_)
  intro b2
  refine XL.cons (XOp.assign (.bool (false)) rfl ?_)
  refine XL.nil ?_
  refine X.seq ?_
  by_cases h1 : ((sysOk ar rs && loopOkL ar rs f ss p s)) = true
  · refine X.drawG [cellsH b2 [fv, ssv, .int .i64 (p), sv] 61, cellsH b1 [arv, rsv] 37] L 10 [[], [], [], [], [], [], [], [], [], []] [[], [], [0, 1], [2], [3], [3, 4], [3, 5], [3], [3, 7], [3, 8]] [[], [], [], [], [], [], [], [], [], []] (phiG [fun FF us v => v = (.agg #[arv, rsv] : Value), fun FF us v => v = (.agg #[fv, ssv, .int .i64 (p), sv] : Value), fun FF us v => v = (.bool ((sysOk ar rs && loopOkL ar rs f ss p s)) : Value), fun FF us v => v = (.bool ((sysOk ar rs && loopOkL ar rs f ss p s)) : Value), fun FF us v => v = ptr b2 0, fun FF us v => v = (.agg #[fv, ssv] : Value), fun FF us v => ((v) : Value) = v ∧ (IntsF FF (v) (endL f ss)), fun FF us v => v = ptr b2 0, fun FF us v => v = ptr b2 0, fun FF us v => v = fv]) (ownL [fun us v => [], fun us v => [], fun us v => [], fun us v => [], fun us v => [], fun us v => [], fun us v => [], fun us v => [], fun us v => [], fun us v => []]) mixed rfl rfl (by kernel_rfl) (by kernel_rfl) (MonoG.get (MonoG.cons (fun le h => h) (MonoG.cons (fun le h => h) (MonoG.cons (fun le h => h) (MonoG.cons (fun le h => h) (MonoG.cons (fun le h => h) (MonoG.cons (fun le h => h) (MonoG.cons (fun le h => ⟨h.1, h.2.mono le⟩) (MonoG.cons (fun le h => h) (MonoG.cons (fun le h => h) (MonoG.cons (fun le h => h) MonoG.nil))))))))))) ?_ ?_
    · refine stepsG.cons (fun vals Fs R leFs hpZ => ?_) ?_
      · replace har := har.mono leFs
        replace hrs := hrs.mono leFs
        replace hf := hf.mono leFs
        replace hss := hss.mono leFs
        replace hs := hs.mono leFs
        refine XG.op (XOp.loadN [arv, rsv] Try.isAgg37 Try.sizeOf37 rfl rfl (Rd.ownN [_] rfl rfl) ?_)
        exact ⟨rfl, rfl⟩
      refine stepsG.cons (fun vals Fs R leFs hpZ => ?_) ?_
      · replace har := har.mono leFs
        replace hrs := hrs.mono leFs
        replace hf := hf.mono leFs
        replace hss := hss.mono leFs
        replace hs := hs.mono leFs
        refine XG.op (XOp.loadN [fv, ssv, .int .i64 (p), sv] Try.isAgg61 Try.sizeOf61 rfl rfl (Rd.ownN [] rfl rfl) ?_)
        exact ⟨rfl, rfl⟩
      refine stepsG.cons (fun vals Fs R leFs hpZ => ?_) ?_
      · have e0 : vals 0 = (.agg #[arv, rsv] : Value) := hpZ 0 (by decide)
        have e1 : vals 1 = (.agg #[fv, ssv, .int .i64 (p), sv] : Value) := hpZ 1 (by decide)
        replace har := har.mono leFs
        replace hrs := hrs.mono leFs
        replace hf := hf.mono leFs
        replace hss := hss.mono leFs
        replace hs := hs.mono leFs
        rw [(envs_of_sat (l := [(0, (.agg #[arv, rsv] : Value)), (1, (.agg #[fv, ssv, .int .i64 (p), sv] : Value))]) ⟨e0, e1, trivial⟩).symm]
        refine XG.op (XOp.call (args := [.agg #[arv, rsv], .agg #[fv, ssv, .int .i64 (p), sv]]) Try.call25 rfl (LoopOk_spec har hrs hf hss hs (hlf := (by first | assumption | rfl | omega | (left; simp; done) | (right; simp; done))) (hsb := (by first | assumption | rfl | omega | (left; simp; done) | (right; simp; done))) (hlss := (by first | assumption | rfl | omega | (left; simp; done) | (right; simp; done)))) ?_)
        rintro _ _ _ _ ⟨rfl, rfl, rfl⟩
        exact ⟨rfl, rfl⟩
      refine stepsG.cons (fun vals Fs R leFs hpZ => ?_) ?_
      · have e2 : vals 2 = (.bool ((sysOk ar rs && loopOkL ar rs f ss p s)) : Value) := hpZ 2 (by decide)
        rw [(envs_of_sat (l := [(2, (.bool ((sysOk ar rs && loopOkL ar rs f ss p s)) : Value))]) ⟨e2, trivial⟩).symm]
        refine XG.op (XOp.move (.bool ((sysOk ar rs && loopOkL ar rs f ss p s))) rfl ?_)
        exact ⟨rfl, rfl⟩
      refine stepsG.cons (fun vals Fs R leFs hpZ => ?_) ?_
      · have e3 : vals 3 = (.bool ((sysOk ar rs && loopOkL ar rs f ss p s)) : Value) := hpZ 3 (by decide)
        rw [(envs_of_sat (l := [(3, (.bool ((sysOk ar rs && loopOkL ar rs f ss p s)) : Value))]) ⟨e3, trivial⟩).symm]
        refine XG.yes (t := 8) rfl (congrArg Value.bool h1) (XOp.fieldP (b := b2) (0) Try.runUnderlying61 rfl Try.sizeOf31 (by decide) rfl rfl ?_)
        exact ⟨rfl, rfl⟩
      refine stepsG.cons (fun vals Fs R leFs hpZ => ?_) ?_
      · have e3 : vals 3 = (.bool ((sysOk ar rs && loopOkL ar rs f ss p s)) : Value) := hpZ 3 (by decide)
        have e4 : vals 4 = ptr b2 0 := hpZ 4 (by decide)
        replace har := har.mono leFs
        replace hrs := hrs.mono leFs
        replace hf := hf.mono leFs
        replace hss := hss.mono leFs
        replace hs := hs.mono leFs
        rw [(envs_of_sat (l := [(3, (.bool ((sysOk ar rs && loopOkL ar rs f ss p s)) : Value)), (4, ptr b2 0)]) ⟨e3, e4, trivial⟩).symm]
        refine XG.yes (t := 8) rfl (congrArg Value.bool h1) (XOp.loadN [fv, ssv] Try.isAgg31 Try.sizeOf31 rfl rfl (Rd.ownN [] rfl rfl) ?_)
        exact ⟨rfl, rfl⟩
      refine stepsG.cons (fun vals Fs R leFs hpZ => ?_) ?_
      · have e3 : vals 3 = (.bool ((sysOk ar rs && loopOkL ar rs f ss p s)) : Value) := hpZ 3 (by decide)
        have e5 : vals 5 = (.agg #[fv, ssv] : Value) := hpZ 5 (by decide)
        replace har := har.mono leFs
        replace hrs := hrs.mono leFs
        replace hf := hf.mono leFs
        replace hss := hss.mono leFs
        replace hs := hs.mono leFs
        rw [(envs_of_sat (l := [(3, (.bool ((sysOk ar rs && loopOkL ar rs f ss p s)) : Value)), (5, (.agg #[fv, ssv] : Value))]) ⟨e3, e5, trivial⟩).symm]
        refine XG.yes (t := 8) rfl (congrArg Value.bool h1) (XOp.call (args := [.agg #[fv, ssv]]) Try.call71 rfl (walkEnd_spec hf hss (hlss := (by first | assumption | rfl | omega | (left; simp; done) | (right; simp; done)))) ?_)
        rintro _ _ _ _ ⟨rfl, x2, rfl, hr2, rfl⟩
        exact ⟨⟨rfl, hr2⟩, rfl⟩
      refine stepsG.cons (fun vals Fs R leFs hpZ => ?_) ?_
      · have e3 : vals 3 = (.bool ((sysOk ar rs && loopOkL ar rs f ss p s)) : Value) := hpZ 3 (by decide)
        rw [(envs_of_sat (l := [(3, (.bool ((sysOk ar rs && loopOkL ar rs f ss p s)) : Value))]) ⟨e3, trivial⟩).symm]
        refine XG.yes (t := 8) rfl (congrArg Value.bool h1) (XOp.fieldP (b := b2) (0) Try.runUnderlying61 rfl Try.sizeOf31 (by decide) rfl rfl ?_)
        exact ⟨rfl, rfl⟩
      refine stepsG.cons (fun vals Fs R leFs hpZ => ?_) ?_
      · have e3 : vals 3 = (.bool ((sysOk ar rs && loopOkL ar rs f ss p s)) : Value) := hpZ 3 (by decide)
        have e7 : vals 7 = ptr b2 0 := hpZ 7 (by decide)
        rw [(envs_of_sat (l := [(3, (.bool ((sysOk ar rs && loopOkL ar rs f ss p s)) : Value)), (7, ptr b2 0)]) ⟨e3, e7, trivial⟩).symm]
        refine XG.yes (t := 8) rfl (congrArg Value.bool h1) (XOp.fieldP (b := b2) (0) Try.runUnderlying31 rfl Try.sizeOf22 (by decide) rfl rfl ?_)
        exact ⟨rfl, rfl⟩
      refine stepsG.cons (fun vals Fs R leFs hpZ => ?_) ?_
      · have e3 : vals 3 = (.bool ((sysOk ar rs && loopOkL ar rs f ss p s)) : Value) := hpZ 3 (by decide)
        have e8 : vals 8 = ptr b2 0 := hpZ 8 (by decide)
        replace har := har.mono leFs
        replace hrs := hrs.mono leFs
        replace hf := hf.mono leFs
        replace hss := hss.mono leFs
        replace hs := hs.mono leFs
        rw [(envs_of_sat (l := [(3, (.bool ((sysOk ar rs && loopOkL ar rs f ss p s)) : Value)), (8, ptr b2 0)]) ⟨e3, e8, trivial⟩).symm]
        refine XG.yes (t := 8) rfl (congrArg Value.bool h1) (XOp.load1 (v := fv) Try.isAgg22 rfl (Rd.own [] rfl rfl) ?_)
        exact ⟨rfl, rfl⟩
      exact stepsG.nil
    · intro vals F3 le3 hphi
      have e0 : vals 0 = (.agg #[arv, rsv] : Value) := hphi 0 (by decide)
      have e1 : vals 1 = (.agg #[fv, ssv, .int .i64 (p), sv] : Value) := hphi 1 (by decide)
      have e2 : vals 2 = (.bool ((sysOk ar rs && loopOkL ar rs f ss p s)) : Value) := hphi 2 (by decide)
      have e3 : vals 3 = (.bool ((sysOk ar rs && loopOkL ar rs f ss p s)) : Value) := hphi 3 (by decide)
      have e4 : vals 4 = ptr b2 0 := hphi 4 (by decide)
      have e5 : vals 5 = (.agg #[fv, ssv] : Value) := hphi 5 (by decide)
      obtain ⟨e6, f6_2hr⟩ := hphi 6 (by decide)
      have e7 : vals 7 = ptr b2 0 := hphi 7 (by decide)
      have e8 : vals 8 = ptr b2 0 := hphi 8 (by decide)
      have e9 : vals 9 = fv := hphi 9 (by decide)
      generalize hu1 : ((vals 6)) = u1 at e0 e1 e2 e3 e4 e5 e6 f6_2hr e7 e8 e9
      rw [(envs_of_sat (l := [(0, (.agg #[arv, rsv] : Value)), (1, (.agg #[fv, ssv, .int .i64 (p), sv] : Value)), (2, (.bool ((sysOk ar rs && loopOkL ar rs f ss p s)) : Value)), (3, (.bool ((sysOk ar rs && loopOkL ar rs f ss p s)) : Value)), (4, ptr b2 0), (5, (.agg #[fv, ssv] : Value)), (6, u1), (7, ptr b2 0), (8, ptr b2 0), (9, fv)]) ⟨e0, e1, e2, e3, e4, e5, hu1, e7, e8, e9, trivial⟩).symm]
      replace har := har.mono le3
      replace hrs := hrs.mono le3
      replace hf := hf.mono le3
      replace hss := hss.mono le3
      replace hs := hs.mono le3
      show XL _ _ _ _ _ _ _ (cellsH b2 [fv, ssv, .int .i64 (p), sv] 61 :: cellsH b1 [arv, rsv] 37 :: L)
      refine XL.yes (t := 8) rfl (congrArg Value.bool h1) (XOp.call (args := [u1, fv]) Try.call70 rfl (Equal_spec f6_2hr hf (hbd := (by first | assumption | rfl | omega | (left; simp; done) | (right; simp; done)))) ?_)
      rintro _ _ _ _ ⟨rfl, rfl, rfl⟩
      refine XL.cons (XOp.pickT (.bool (decide ((endL f ss) = f))) (congrArg Value.bool h1) rfl ?_)
      refine XL.cons (XOp.assign (.bool (decide ((endL f ss) = f))) rfl ?_)
      refine XL.nil ?_
      refine X.ret (retEnd (L' := L) [.bool (decide ((endL f ss) = f))] (.bool (decide ((endL f ss) = f))) (.tmp rfl .nil) rfl (FLe.refl _) le3 (Sub.drop (Sub.drop (Sub.refl _))) ?_)
      exact ⟨(congrArg Value.bool (by simp_all)), rfl, rfl⟩
  · rw [Bool.not_eq_true] at h1
    refine X.draw [cellsH b2 [fv, ssv, .int .i64 (p), sv] 61, cellsH b1 [arv, rsv] 37] L 10 [[], [], [], [], [], [], [], [], [], []] [[], [], [0, 1], [2], [3], [3, 4], [3, 5], [3], [3, 7], [3, 8]] (phiL [fun us v => v = (.agg #[arv, rsv] : Value), fun us v => v = (.agg #[fv, ssv, .int .i64 (p), sv] : Value), fun us v => v = (.bool ((sysOk ar rs && loopOkL ar rs f ss p s)) : Value), fun us v => v = (.bool ((sysOk ar rs && loopOkL ar rs f ss p s)) : Value), fun us v => v = undef, fun us v => v = undef, fun us v => v = undef, fun us v => v = undef, fun us v => v = undef, fun us v => v = undef]) (ownL [fun us v => [], fun us v => [], fun us v => [], fun us v => [], fun us v => [], fun us v => [], fun us v => [], fun us v => [], fun us v => [], fun us v => []]) mixed rfl rfl (by kernel_rfl) ?_ ?_
    · refine stepsP.cons (fun vals R hpZ => ?_) ?_
      · refine XG.op (XOp.loadN [arv, rsv] Try.isAgg37 Try.sizeOf37 rfl rfl (Rd.ownN [_] rfl rfl) ?_)
        exact ⟨rfl, rfl, rfl⟩
      refine stepsP.cons (fun vals R hpZ => ?_) ?_
      · refine XG.op (XOp.loadN [fv, ssv, .int .i64 (p), sv] Try.isAgg61 Try.sizeOf61 rfl rfl (Rd.ownN [] rfl rfl) ?_)
        exact ⟨rfl, rfl, rfl⟩
      refine stepsP.cons (fun vals R hpZ => ?_) ?_
      · rw [(envs_of_sat (l := [(0, (.agg #[arv, rsv] : Value)), (1, (.agg #[fv, ssv, .int .i64 (p), sv] : Value))]) ⟨hpZ 0 (by decide), hpZ 1 (by decide), trivial⟩).symm]
        refine XG.op (XOp.call (args := [.agg #[arv, rsv], .agg #[fv, ssv, .int .i64 (p), sv]]) Try.call25 rfl (LoopOk_spec har hrs hf hss hs (hlf := (by first | assumption | rfl | omega | (left; simp; done) | (right; simp; done))) (hsb := (by first | assumption | rfl | omega | (left; simp; done) | (right; simp; done))) (hlss := (by first | assumption | rfl | omega | (left; simp; done) | (right; simp; done)))) ?_)
        rintro _ _ _ _ ⟨rfl, rfl, rfl⟩
        exact ⟨rfl, rfl, rfl⟩
      refine stepsP.cons (fun vals R hpZ => ?_) ?_
      · rw [(envs_of_sat (l := [(2, (.bool ((sysOk ar rs && loopOkL ar rs f ss p s)) : Value))]) ⟨hpZ 2 (by decide), trivial⟩).symm]
        refine XG.op (XOp.move (.bool ((sysOk ar rs && loopOkL ar rs f ss p s))) rfl ?_)
        exact ⟨rfl, rfl, rfl⟩
      refine stepsP.cons (fun vals R hpZ => ?_) ?_
      · rw [(envs_of_sat (l := [(3, (.bool ((sysOk ar rs && loopOkL ar rs f ss p s)) : Value))]) ⟨hpZ 3 (by decide), trivial⟩).symm]
        exact XG.no (t := 8) rfl (congrArg Value.bool h1) ⟨rfl, rfl, rfl⟩
      refine stepsP.cons (fun vals R hpZ => ?_) ?_
      · rw [(envs_of_sat (l := [(3, (.bool ((sysOk ar rs && loopOkL ar rs f ss p s)) : Value)), (4, undef)]) ⟨hpZ 3 (by decide), hpZ 4 (by decide), trivial⟩).symm]
        exact XG.no (t := 8) rfl (congrArg Value.bool h1) ⟨rfl, rfl, rfl⟩
      refine stepsP.cons (fun vals R hpZ => ?_) ?_
      · rw [(envs_of_sat (l := [(3, (.bool ((sysOk ar rs && loopOkL ar rs f ss p s)) : Value)), (5, undef)]) ⟨hpZ 3 (by decide), hpZ 5 (by decide), trivial⟩).symm]
        exact XG.no (t := 8) rfl (congrArg Value.bool h1) ⟨rfl, rfl, rfl⟩
      refine stepsP.cons (fun vals R hpZ => ?_) ?_
      · rw [(envs_of_sat (l := [(3, (.bool ((sysOk ar rs && loopOkL ar rs f ss p s)) : Value))]) ⟨hpZ 3 (by decide), trivial⟩).symm]
        exact XG.no (t := 8) rfl (congrArg Value.bool h1) ⟨rfl, rfl, rfl⟩
      refine stepsP.cons (fun vals R hpZ => ?_) ?_
      · rw [(envs_of_sat (l := [(3, (.bool ((sysOk ar rs && loopOkL ar rs f ss p s)) : Value)), (7, undef)]) ⟨hpZ 3 (by decide), hpZ 7 (by decide), trivial⟩).symm]
        exact XG.no (t := 8) rfl (congrArg Value.bool h1) ⟨rfl, rfl, rfl⟩
      refine stepsP.cons (fun vals R hpZ => ?_) ?_
      · rw [(envs_of_sat (l := [(3, (.bool ((sysOk ar rs && loopOkL ar rs f ss p s)) : Value)), (8, undef)]) ⟨hpZ 3 (by decide), hpZ 8 (by decide), trivial⟩).symm]
        exact XG.no (t := 8) rfl (congrArg Value.bool h1) ⟨rfl, rfl, rfl⟩
      exact stepsP.nil
    · intro vals hphi
      have e0 : vals 0 = (.agg #[arv, rsv] : Value) := hphi 0 (by decide)
      have e1 : vals 1 = (.agg #[fv, ssv, .int .i64 (p), sv] : Value) := hphi 1 (by decide)
      have e2 : vals 2 = (.bool ((sysOk ar rs && loopOkL ar rs f ss p s)) : Value) := hphi 2 (by decide)
      have e3 : vals 3 = (.bool ((sysOk ar rs && loopOkL ar rs f ss p s)) : Value) := hphi 3 (by decide)
      have e4 : vals 4 = undef := hphi 4 (by decide)
      have e5 : vals 5 = undef := hphi 5 (by decide)
      have e6 : vals 6 = undef := hphi 6 (by decide)
      have e7 : vals 7 = undef := hphi 7 (by decide)
      have e8 : vals 8 = undef := hphi 8 (by decide)
      have e9 : vals 9 = undef := hphi 9 (by decide)
      rw [(envs_of_sat (l := [(0, (.agg #[arv, rsv] : Value)), (1, (.agg #[fv, ssv, .int .i64 (p), sv] : Value)), (2, (.bool ((sysOk ar rs && loopOkL ar rs f ss p s)) : Value)), (3, (.bool ((sysOk ar rs && loopOkL ar rs f ss p s)) : Value)), (4, undef), (5, undef), (6, undef), (7, undef), (8, undef), (9, undef)]) ⟨e0, e1, e2, e3, e4, e5, e6, e7, e8, e9, trivial⟩).symm]
      show XL _ _ _ _ _ _ _ (cellsH b2 [fv, ssv, .int .i64 (p), sv] 61 :: cellsH b1 [arv, rsv] 37 :: L)
      refine XL.no (t := 8) rfl (congrArg Value.bool h1) ?_
      refine XL.cons (XOp.pickF (.bool (false)) (congrArg Value.bool h1) rfl ?_)
      refine XL.cons (XOp.assign (.bool (false)) rfl ?_)
      refine XL.nil ?_
      refine X.ret (retEnd (L' := L) [.bool (false)] (.bool (false)) (.tmp rfl .nil) rfl (FLe.refl _) (FLe.refl _) (Sub.drop (Sub.drop (Sub.refl _))) ?_)
      exact ⟨(congrArg Value.bool (by simp_all)), rfl, rfl⟩

/- spec.LoopOk -/
theorem sLoopOk_spec {F : FH} {L : List HP} {arv : Value} {ar : List Int} (har : IntsF F arv ar) {rsv : Value} {rs : List (List Int × List Int)} (hrs : PairsF F rsv rs) {fv : Value} {f : List Int} (hf : IntsF F fv f) {ssv : Value} {ss : List StepT} (hss : StepsF F ssv ss) {p : Int} {sv : Value} {s : List (List Int)} (hs : RowsF F sv s) (hla : ar.length ≤ 4000000) (hlr : rs.length ≤ 4000000) (hrb : ∀ i, i < rs.length → (rs.getD i ([], [])).1.length ≤ 4000000 ∧ (rs.getD i ([], [])).2.length ≤ 4000000) (hlf : f.length ≤ 4000000) (hlss : ss.length ≤ 4000000) (hsb : ∀ i, i < ss.length → (ss.getD i (0, 0, [])).2.2.length ≤ 4000000) (hlrow : s.length ≤ 4000000) (hrowb : ∀ i, i < s.length → (s.getD i []).length ≤ 4000000) :
    Does Try.prog 23 [.agg #[arv, rsv], .agg #[fv, ssv, .int .i64 (p), sv]] F (L) (fun v F' L' => (.bool ((sysOk ar rs && loopOkL ar rs f ss p s)) : Value) = v ∧ F = F' ∧ L = L') := by
  refine Does.of_X Try.func23 rfl rfl rfl ?_
  refine X.seq ?_
  refine X.region ?_
  refine XL.cons (XOp.box [arv, rsv] rfl rfl ?_)
  intro b1
  refine XL.cons (XOp.box [fv, ssv, .int .i64 (p), sv] rfl rfl ?_)
  intro b2
  refine XL.cons (XOp.assign (.bool (false)) rfl ?_)
  refine XL.nil ?_
  refine X.seq ?_
  refine X.seq ?_
  refine X.region ?_
  refine XL.cons (XOp.loadN [arv, rsv] Try.isAgg37 Try.sizeOf37 rfl rfl (Rd.ownN [_] rfl rfl) ?_)
  refine XL.cons (XOp.fieldP (b := b2) (0) Try.runUnderlying61 rfl Try.sizeOf31 (by decide) rfl rfl ?_)
  refine XL.cons (XOp.loadN [fv, ssv] Try.isAgg31 Try.sizeOf31 rfl rfl (Rd.ownN [] rfl rfl) ?_)
  refine XL.cons (XOp.call (args := [.agg #[arv, rsv], .agg #[fv, ssv]]) Try.call61 rfl (sWalkOk_spec har hrs hf hss (hla := (by first | assumption | rfl | omega | (left; simp; done) | (right; simp; done))) (hlr := (by first | assumption | rfl | omega | (left; simp; done) | (right; simp; done))) (hrb := (by first | assumption | rfl | omega | (left; simp; done) | (right; simp; done))) (hlf := (by first | assumption | rfl | omega | (left; simp; done) | (right; simp; done))) (hlss := (by first | assumption | rfl | omega | (left; simp; done) | (right; simp; done))) (hsb := (by first | assumption | rfl | omega | (left; simp; done) | (right; simp; done)))) ?_)
  rintro _ _ _ _ ⟨rfl, rfl, rfl⟩
  refine XL.cons (XOp.notB (b := walkOkL ar rs f ss) rfl ?_)
  refine XL.cons (XOp.move (.bool (!(walkOkL ar rs f ss))) rfl ?_)
  by_cases h1 : (!(walkOkL ar rs f ss)) = true
  · refine XL.no (t := 13) rfl (congrArg Value.bool h1) ?_
    refine XL.no (t := 13) rfl (congrArg Value.bool h1) ?_
    refine XL.no (t := 13) rfl (congrArg Value.bool h1) ?_
    refine XL.no (t := 13) rfl (congrArg Value.bool h1) ?_
    refine XL.no (t := 13) rfl (congrArg Value.bool h1) ?_
    refine XL.cons (XOp.pickT (.bool (true)) (congrArg Value.bool h1) rfl ?_)
    refine XL.cons (XOp.move (.bool (true)) rfl ?_)
    refine XL.no (t := 20) rfl rfl ?_
    refine XL.no (t := 20) rfl rfl ?_
    refine XL.no (t := 20) rfl rfl ?_
    refine XL.no (t := 20) rfl rfl ?_
    refine XL.no (t := 20) rfl rfl ?_
    refine XL.no (t := 20) rfl rfl ?_
    refine XL.cons (XOp.pickT (.bool (true)) rfl rfl ?_)
    refine XL.nil ?_
    refine X.condT rfl ?_
    refine X.seq ?_
    refine X.region ?_
    refine XL.cons (XOp.assign (.bool (false)) rfl ?_)
    refine XL.nil ?_
    refine X.ret (thenQ_ret (retEnd (L' := L) [.bool (false)] (.bool (false)) (.tmp rfl .nil) rfl (FLe.refl _) (FLe.refl _) (Sub.drop (Sub.drop (Sub.refl _))) ?_))
    exact ⟨(congrArg Value.bool (by rw [loopOkL_no]; simp; intro h; simp_all <;> omega)), rfl, rfl⟩
  · rw [Bool.not_eq_true] at h1
    refine XL.yes (t := 13) rfl (congrArg Value.bool h1) (XOp.fieldP (b := b2) (0) Try.runUnderlying61 rfl Try.sizeOf31 (by decide) rfl rfl ?_)
    refine XL.yes (t := 13) rfl (congrArg Value.bool h1) (XOp.fieldP (b := b2) (1) Try.runUnderlying31 rfl Try.sizeOf29 (by decide) rfl rfl ?_)
    refine XL.yes (t := 13) rfl (congrArg Value.bool h1) (XOp.load1 (v := ssv) Try.isAgg29 rfl (Rd.own [] rfl rfl) ?_)
    refine XL.yes (t := 13) rfl (congrArg Value.bool h1) (XOp.lenS (v := ssv) (n := (ss).length) Try.runUnderlying29 rfl hss.slv ?_)
    refine XL.yes (t := 13) rfl (congrArg Value.bool h1) (XOp.eql (a := (((ss).length : Nat) : Int)) (b := 0) rfl rfl ?_)
    refine XL.cons (XOp.pickF (.bool (decide (((((ss).length : Nat) : Int) : Int) = 0))) (congrArg Value.bool h1) rfl ?_)
    refine XL.cons (XOp.move (.bool (decide (((((ss).length : Nat) : Int) : Int) = 0))) rfl ?_)
    by_cases h2 : ((((ss).length : Nat) : Int) : Int) = 0
    · refine XL.no (t := 20) rfl (congrArg Value.bool (decide_eq_true h2)) ?_
      refine XL.no (t := 20) rfl (congrArg Value.bool (decide_eq_true h2)) ?_
      refine XL.no (t := 20) rfl (congrArg Value.bool (decide_eq_true h2)) ?_
      refine XL.no (t := 20) rfl (congrArg Value.bool (decide_eq_true h2)) ?_
      refine XL.no (t := 20) rfl (congrArg Value.bool (decide_eq_true h2)) ?_
      refine XL.no (t := 20) rfl (congrArg Value.bool (decide_eq_true h2)) ?_
      refine XL.cons (XOp.pickT (.bool (true)) (congrArg Value.bool (decide_eq_true h2)) rfl ?_)
      refine XL.nil ?_
      refine X.condT rfl ?_
      refine X.seq ?_
      refine X.region ?_
      refine XL.cons (XOp.assign (.bool (false)) rfl ?_)
      refine XL.nil ?_
      refine X.ret (thenQ_ret (retEnd (L' := L) [.bool (false)] (.bool (false)) (.tmp rfl .nil) rfl (FLe.refl _) (FLe.refl _) (Sub.drop (Sub.drop (Sub.refl _))) ?_))
      exact ⟨(congrArg Value.bool (by rw [loopOkL_no]; simp; intro h; simp_all <;> omega)), rfl, rfl⟩
    · refine XL.yes (t := 20) rfl (congrArg Value.bool (decide_eq_false h2)) (XOp.fieldP (b := b1) (0) Try.runUnderlying37 rfl Try.sizeOf34 (by decide) rfl rfl ?_)
      refine XL.yes (t := 20) rfl (congrArg Value.bool (decide_eq_false h2)) (XOp.loadN [arv] Try.isAgg34 Try.sizeOf34 rfl rfl (Rd.ownN [_] rfl rfl) ?_)
      refine XL.yes (t := 20) rfl (congrArg Value.bool (decide_eq_false h2)) (XOp.fieldP (b := b2) (3) Try.runUnderlying61 rfl Try.sizeOf59 (by decide) rfl rfl ?_)
      refine XL.yes (t := 20) rfl (congrArg Value.bool (decide_eq_false h2)) (XOp.loadN [sv] Try.isAgg59 Try.sizeOf59 rfl rfl (Rd.ownN [] rfl rfl) ?_)
      refine XL.yes (t := 20) rfl (congrArg Value.bool (decide_eq_false h2)) (XOp.call (args := [.agg #[arv], .agg #[sv]]) Try.call62 rfl (sSubstOk_spec har hs (hla := (by first | assumption | rfl | omega | (left; simp; done) | (right; simp; done))) (hsl := (by first | assumption | rfl | omega | (left; simp; done) | (right; simp; done))) (hsb := (by first | assumption | rfl | omega | (left; simp; done) | (right; simp; done)))) ?_)
      rintro _ _ _ _ ⟨rfl, rfl, rfl⟩
      refine XL.yes (t := 20) rfl (congrArg Value.bool (decide_eq_false h2)) (XOp.notB (b := substOk ar s) rfl ?_)
      refine XL.cons (XOp.pickF (.bool (!(substOk ar s))) (congrArg Value.bool (decide_eq_false h2)) rfl ?_)
      refine XL.nil ?_
      refine X.cond (t := !(substOk ar s)) rfl (fun h3 => ?_) (fun h3 => ?_)
      · refine X.seq ?_
        refine X.region ?_
        refine XL.cons (XOp.assign (.bool (false)) rfl ?_)
        refine XL.nil ?_
        refine X.ret (thenQ_ret (retEnd (L' := L) [.bool (false)] (.bool (false)) (.tmp rfl .nil) rfl (FLe.refl _) (FLe.refl _) (Sub.drop (Sub.drop (Sub.refl _))) ?_))
        exact ⟨(congrArg Value.bool (by rw [loopOkL_no]; simp; intro h; simp_all <;> omega)), rfl, rfl⟩
      · refine X.skip ?_
        refine X.seq ?_
        refine X.region ?_
        have hwk : walkOkL ar rs f ss = true := by simp_all
        have hsk : substOk ar s = true := by simp_all
        have hne : ss.length ≠ 0 := by omega
        have hsys : sysOk ar rs = true := (right_iff.1 (walkOkL_iff.1 hwk).1).1
        have het : endT ar rs f ss = endL f ss := by rw [endT, if_pos hwk]
        have hel := (right_iff.1 (walkOk_end hwk)).2
        have hel2 := termOk_len hel
        have hfo := (right_iff.1 (walkOkL_iff.1 hwk).1).2
        have hel3 : (endT ar rs f ss).length ≤ 60 := by rw [het]; exact hel2.2
        have hfe : filledL ar s f = fillL s f := by unfold filledL; rw [if_pos ⟨hsk, hfo⟩]
        refine XL.cons (XOp.loadN [arv, rsv] Try.isAgg37 Try.sizeOf37 rfl rfl (Rd.ownN [_] rfl rfl) ?_)
        refine XL.cons (XOp.fieldP (b := b2) (0) Try.runUnderlying61 rfl Try.sizeOf31 (by decide) rfl rfl ?_)
        refine XL.cons (XOp.loadN [fv, ssv] Try.isAgg31 Try.sizeOf31 rfl rfl (Rd.ownN [] rfl rfl) ?_)
        refine XL.cons (XOp.frzF <| XOp.call (args := [.agg #[arv, rsv], .agg #[fv, ssv]]) Try.call63 rfl (sEndTerm_spec har hrs hf hss (hla := (by first | assumption | rfl | omega | (left; simp; done) | (right; simp; done))) (hlr := (by first | assumption | rfl | omega | (left; simp; done) | (right; simp; done))) (hrb := (by first | assumption | rfl | omega | (left; simp; done) | (right; simp; done))) (hlf := (by first | assumption | rfl | omega | (left; simp; done) | (right; simp; done))) (hlss := (by first | assumption | rfl | omega | (left; simp; done) | (right; simp; done))) (hsb := (by first | assumption | rfl | omega | (left; simp; done) | (right; simp; done)))) ?_)
        rintro v1 _ _ _ ⟨rfl, hs1, rfl⟩
        refine ⟨_, _, rfl, fun F1 le1 hz1 => ?_⟩
        replace har := har.mono le1
        replace hrs := hrs.mono le1
        replace hf := hf.mono le1
        replace hss := hss.mono le1
        replace hs := hs.mono le1
        have hf1 : IntsF F1 v1 ((endT ar rs f ss)) := intsH.fz (xs := (endT ar rs f ss)) hz1.fz
        refine XL.cons (XOp.assign (v1) rfl ?_)
        refine XL.nil ?_
        refine X.seq ?_
        refine X.seq ?_
        refine X.region ?_
        refine XL.cons (XOp.fieldP (b := b2) (2) Try.runUnderlying61 rfl Try.sizeOf2 (by decide) rfl rfl ?_)
        refine XL.cons (XOp.load1 (v := .int .i64 (p)) Try.isAgg2 rfl (Rd.own [] rfl rfl) ?_)
        refine XL.cons (XOp.move (v1) rfl ?_)
        refine XL.cons (XOp.lenS (v := v1) (n := ((endT ar rs f ss)).length) Try.runUnderlying22 rfl hf1.slv ?_)
        refine XL.cons (XOp.subR (a := ((((endT ar rs f ss)).length : Nat) : Int)) (b := 1) ((((((endT ar rs f ss)).length : Nat) : Int)) - 1) rfl rfl (by omega) (by omega) ?_)
        refine XL.cons (XOp.call (args := [.int .i64 (p), .int .i64 (0), .int .i64 ((((((endT ar rs f ss)).length : Nat) : Int)) - 1)]) Try.call64 rfl (l1In_spec (n := p) (a := 0) (b := (((((endT ar rs f ss)).length : Nat) : Int)) - 1)) ?_)
        rintro _ _ _ _ ⟨rfl, rfl, rfl⟩
        refine XL.cons (XOp.notD (p := 0 ≤ p ∧ p ≤ ((((((endT ar rs f ss)).length : Nat) : Int)) - 1)) rfl ?_)
        refine XL.nil ?_
        refine X.condD (p := ¬(0 ≤ p ∧ p ≤ ((((((endT ar rs f ss)).length : Nat) : Int)) - 1))) rfl (fun h4 => ?_) (fun h4 => ?_)
        · refine X.seq ?_
          refine X.region ?_
          refine XL.cons (XOp.assign (.bool (false)) rfl ?_)
          refine XL.nil ?_
          refine X.ret (thenQ_ret (retEnd (L' := L) [.bool (false)] (.bool (false)) (.tmp rfl .nil) rfl (FLe.refl _) le1 (Sub.drop (Sub.drop (Sub.refl _))) ?_))
          exact ⟨(congrArg Value.bool (by rw [loopOkL_no]; simp; intro h; have := posOk_iff.1 h.2.2.1; rw [← het] at this; omega)), rfl, rfl⟩
        · refine X.skip ?_
          refine X.seq ?_
          refine X.region ?_
          have hpo : posOk ar (endL f ss) p = true := posOk_iff.2 ⟨hel, by rw [← het]; omega⟩
          refine XL.cons (XOp.fieldP (b := b1) (0) Try.runUnderlying37 rfl Try.sizeOf34 (by decide) rfl rfl ?_)
          refine XL.cons (XOp.loadN [arv] Try.isAgg34 Try.sizeOf34 rfl rfl (Rd.ownN [_] rfl rfl) ?_)
          refine XL.cons (XOp.fieldP (b := b2) (3) Try.runUnderlying61 rfl Try.sizeOf59 (by decide) rfl rfl ?_)
          refine XL.cons (XOp.loadN [sv] Try.isAgg59 Try.sizeOf59 rfl rfl (Rd.ownN [] rfl rfl) ?_)
          refine XL.cons (XOp.fieldP (b := b2) (0) Try.runUnderlying61 rfl Try.sizeOf31 (by decide) rfl rfl ?_)
          refine XL.cons (XOp.fieldP (b := b2) (0) Try.runUnderlying31 rfl Try.sizeOf22 (by decide) rfl rfl ?_)
          refine XL.cons (XOp.load1 (v := fv) Try.isAgg22 rfl (Rd.own [] rfl rfl) ?_)
          refine XL.cons (XOp.call (args := [.agg #[arv], .agg #[sv], fv]) Try.call65 rfl (sFilled_spec har hs hf (hla := (by first | assumption | rfl | omega | (left; simp; done) | (right; simp; done))) (hsl := (by first | assumption | rfl | omega | (left; simp; done) | (right; simp; done))) (hsb := (by first | assumption | rfl | omega | (left; simp; done) | (right; simp; done))) (hlt := (by first | assumption | rfl | omega | (left; simp; done) | (right; simp; done)))) ?_)
          rintro _ F2 _ le2 ⟨x1, rfl, hr1, rfl⟩
          replace har := har.mono le2
          replace hrs := hrs.mono le2
          replace hf := hf.mono le2
          replace hss := hss.mono le2
          replace hs := hs.mono le2
          replace hf1 := hf1.mono le2
          refine XL.cons (XOp.move (.tuple #[x1, .bool ((filledL ar s f).isSome)]) rfl ?_)
          refine XL.cons (XOp.extract (x1) rfl rfl ?_)
          refine XL.cons (XOp.extract (.bool ((filledL ar s f).isSome)) rfl rfl ?_)
          refine XL.cons (XOp.assign (x1) rfl ?_)
          refine XL.cons (XOp.assign (.bool ((filledL ar s f).isSome)) rfl ?_)
          refine XL.nil ?_
          refine X.seq ?_
          refine X.region ?_
          refine XL.cons (XOp.move (.bool ((filledL ar s f).isSome)) rfl ?_)
          refine XL.cons (XOp.move (.bool ((filledL ar s f).isSome)) rfl ?_)
          by_cases h5 : ((filledL ar s f).isSome) = true
          · refine XL.yes (t := 51) rfl (congrArg Value.bool h5) (XOp.move (x1) rfl ?_)
            refine XL.yes (t := 51) rfl (congrArg Value.bool h5) (XOp.fieldP (b := b1) (0) Try.runUnderlying37 rfl Try.sizeOf34 (by decide) rfl rfl ?_)
            refine XL.yes (t := 51) rfl (congrArg Value.bool h5) (XOp.loadN [arv] Try.isAgg34 Try.sizeOf34 rfl rfl (Rd.ownN [_] rfl rfl) ?_)
            refine XL.yes (t := 51) rfl (congrArg Value.bool h5) (XOp.move (v1) rfl ?_)
            refine XL.yes (t := 51) rfl (congrArg Value.bool h5) (XOp.fieldP (b := b2) (2) Try.runUnderlying61 rfl Try.sizeOf2 (by decide) rfl rfl ?_)
            refine XL.yes (t := 51) rfl (congrArg Value.bool h5) (XOp.load1 (v := .int .i64 (p)) Try.isAgg2 rfl (Rd.own [] rfl rfl) ?_)
            refine XL.yes (t := 51) rfl (congrArg Value.bool h5) (XOp.call (args := [.agg #[arv], v1, .int .i64 (p)]) Try.call66 rfl (sSubAt_spec (p := p) har hf1 (hla := (by first | assumption | rfl | omega | (left; simp; done) | (right; simp; done))) (hlt := (by first | assumption | rfl | omega | (left; simp; done) | (right; simp; done)))) ?_)
            rintro _ F3 _ le3 ⟨x2, rfl, hr2, rfl⟩
            replace har := har.mono le3
            replace hrs := hrs.mono le3
            replace hf := hf.mono le3
            replace hss := hss.mono le3
            replace hs := hs.mono le3
            replace hf1 := hf1.mono le3
            replace hr1 := hr1.mono le3
            refine XL.yes (t := 51) rfl (congrArg Value.bool h5) (XOp.call (args := [x1, x2]) Try.call57 rfl (SameTerm_spec hr1 hr2 (hbd := (.inr (by rw [het, if_pos hpo]; have := termOk_len (sub_ok hel (p := p.toNat) (by have := posOk_iff.1 hpo; omega)); omega)))) ?_)
            rintro _ _ _ _ ⟨rfl, rfl, rfl⟩
            refine XL.cons (XOp.pickT (.bool (decide (((filledL ar s f).getD []) = (if posOk ar ((endT ar rs f ss)) p = true then sub ar ((endT ar rs f ss)) p.toNat else [])))) (congrArg Value.bool h5) rfl ?_)
            refine XL.cons (XOp.assign (.bool (decide (((filledL ar s f).getD []) = (if posOk ar ((endT ar rs f ss)) p = true then sub ar ((endT ar rs f ss)) p.toNat else [])))) rfl ?_)
            refine XL.nil ?_
            refine X.ret (retEnd (L' := L) [.bool (decide (((filledL ar s f).getD []) = (if posOk ar ((endT ar rs f ss)) p = true then sub ar ((endT ar rs f ss)) p.toNat else [])))] (.bool (decide (((filledL ar s f).getD []) = (if posOk ar ((endT ar rs f ss)) p = true then sub ar ((endT ar rs f ss)) p.toNat else [])))) (.tmp rfl .nil) rfl (FLe.refl _) (FLe.trans (FLe.trans le1 le2) le3) (Sub.drop (Sub.drop (Sub.refl _))) ?_)
            exact ⟨(congrArg Value.bool (by rw [hsys, Bool.true_and, het, if_pos hpo, hfe, Bool.eq_iff_iff, loopOkL_iff, decide_eq_true_eq, ← fill_eq (by rw [← hfe]; assumption)]; exact ⟨fun h => h.2.2.2.2, fun h => ⟨hne, hwk, hpo, hsk, h⟩⟩)), rfl, rfl⟩
          · rw [Bool.not_eq_true] at h5
            refine XL.no (t := 51) rfl (congrArg Value.bool h5) ?_
            refine XL.no (t := 51) rfl (congrArg Value.bool h5) ?_
            refine XL.no (t := 51) rfl (congrArg Value.bool h5) ?_
            refine XL.no (t := 51) rfl (congrArg Value.bool h5) ?_
            refine XL.no (t := 51) rfl (congrArg Value.bool h5) ?_
            refine XL.no (t := 51) rfl (congrArg Value.bool h5) ?_
            refine XL.no (t := 51) rfl (congrArg Value.bool h5) ?_
            refine XL.no (t := 51) rfl (congrArg Value.bool h5) ?_
            refine XL.cons (XOp.pickF (.bool (false)) (congrArg Value.bool h5) rfl ?_)
            refine XL.cons (XOp.assign (.bool (false)) rfl ?_)
            refine XL.nil ?_
            refine X.ret (retEnd (L' := L) [.bool (false)] (.bool (false)) (.tmp rfl .nil) rfl (FLe.refl _) (FLe.trans le1 le2) (Sub.drop (Sub.drop (Sub.refl _))) ?_)
            exact ⟨(congrArg Value.bool (by rw [loopOkL_no, Bool.and_false]; exact fun h => fill_none (by rw [← hfe]; assumption) h.2.2.2.2)), rfl, rfl⟩

/- spec.CycleIn -/
theorem sCycleIn_spec {F : FH} {L : List HP} {arv : Value} {ar : List Int} (har : IntsF F arv ar) {rsv : Value} {rs : List (List Int × List Int)} (hrs : PairsF F rsv rs) {fv : Value} {f : List Int} (hf : IntsF F fv f) {ssv : Value} {ss : List StepT} (hss : StepsF F ssv ss) {p : Int} {sv : Value} {s : List (List Int)} (hs : RowsF F sv s) (hla : ar.length ≤ 4000000) (hlr : rs.length ≤ 4000000) (hrb : ∀ i, i < rs.length → (rs.getD i ([], [])).1.length ≤ 4000000 ∧ (rs.getD i ([], [])).2.length ≤ 4000000) (hlf : f.length ≤ 4000000) (hlss : ss.length ≤ 4000000) (hsb : ∀ i, i < ss.length → (ss.getD i (0, 0, [])).2.2.length ≤ 4000000) (hlrow : s.length ≤ 4000000) (hrowb : ∀ i, i < s.length → (s.getD i []).length ≤ 4000000) :
    Does Try.prog 27 [.agg #[arv, rsv], .agg #[fv, ssv, .int .i64 (p), sv]] F (L) (fun v F' L' => (.bool (((sysOk ar rs && loopOkL ar rs f ss p s) && decide (endL f ss = f))) : Value) = v ∧ F = F' ∧ L = L') := by
  refine Does.of_X Try.func27 rfl rfl rfl ?_
  refine X.seq ?_
  refine X.region ?_
  refine XL.cons (XOp.box [arv, rsv] rfl rfl ?_)
  intro b1
  refine XL.cons (XOp.box [fv, ssv, .int .i64 (p), sv] rfl rfl ?_)
  intro b2
  refine XL.cons (XOp.assign (.bool (false)) rfl ?_)
  refine XL.nil ?_
  refine X.seq ?_
  by_cases h1 : ((sysOk ar rs && loopOkL ar rs f ss p s)) = true
  · refine X.drawG [cellsH b2 [fv, ssv, .int .i64 (p), sv] 61, cellsH b1 [arv, rsv] 37] L 11 [[], [], [], [], [], [], [], [], [], [], []] [[], [], [0, 1], [2], [3], [3], [3, 5], [3, 4, 6], [3], [3, 8], [3, 9]] [[], [], [], [], [], [], [], [], [], [], []] (phiG [fun FF us v => v = (.agg #[arv, rsv] : Value), fun FF us v => v = (.agg #[fv, ssv, .int .i64 (p), sv] : Value), fun FF us v => v = (.bool ((sysOk ar rs && loopOkL ar rs f ss p s)) : Value), fun FF us v => v = (.bool ((sysOk ar rs && loopOkL ar rs f ss p s)) : Value), fun FF us v => v = (.agg #[arv, rsv] : Value), fun FF us v => v = ptr b2 0, fun FF us v => v = (.agg #[fv, ssv] : Value), fun FF us v => ((v) : Value) = v ∧ (IntsF FF (v) (endT ar rs f ss)), fun FF us v => v = ptr b2 0, fun FF us v => v = ptr b2 0, fun FF us v => v = fv]) (ownL [fun us v => [], fun us v => [], fun us v => [], fun us v => [], fun us v => [], fun us v => [], fun us v => [], fun us v => [], fun us v => [], fun us v => [], fun us v => []]) mixed rfl rfl (by kernel_rfl) (by kernel_rfl) (MonoG.get (MonoG.cons (fun le h => h) (MonoG.cons (fun le h => h) (MonoG.cons (fun le h => h) (MonoG.cons (fun le h => h) (MonoG.cons (fun le h => h) (MonoG.cons (fun le h => h) (MonoG.cons (fun le h => h) (MonoG.cons (fun le h => ⟨h.1, h.2.mono le⟩) (MonoG.cons (fun le h => h) (MonoG.cons (fun le h => h) (MonoG.cons (fun le h => h) MonoG.nil)))))))))))) ?_ ?_
    · refine stepsG.cons (fun vals Fs R leFs hpZ => ?_) ?_
      · replace har := har.mono leFs
        replace hrs := hrs.mono leFs
        replace hf := hf.mono leFs
        replace hss := hss.mono leFs
        replace hs := hs.mono leFs
        refine XG.op (XOp.loadN [arv, rsv] Try.isAgg37 Try.sizeOf37 rfl rfl (Rd.ownN [_] rfl rfl) ?_)
        exact ⟨rfl, rfl⟩
      refine stepsG.cons (fun vals Fs R leFs hpZ => ?_) ?_
      · replace har := har.mono leFs
        replace hrs := hrs.mono leFs
        replace hf := hf.mono leFs
        replace hss := hss.mono leFs
        replace hs := hs.mono leFs
        refine XG.op (XOp.loadN [fv, ssv, .int .i64 (p), sv] Try.isAgg61 Try.sizeOf61 rfl rfl (Rd.ownN [] rfl rfl) ?_)
        exact ⟨rfl, rfl⟩
      refine stepsG.cons (fun vals Fs R leFs hpZ => ?_) ?_
      · have e0 : vals 0 = (.agg #[arv, rsv] : Value) := hpZ 0 (by decide)
        have e1 : vals 1 = (.agg #[fv, ssv, .int .i64 (p), sv] : Value) := hpZ 1 (by decide)
        replace har := har.mono leFs
        replace hrs := hrs.mono leFs
        replace hf := hf.mono leFs
        replace hss := hss.mono leFs
        replace hs := hs.mono leFs
        rw [(envs_of_sat (l := [(0, (.agg #[arv, rsv] : Value)), (1, (.agg #[fv, ssv, .int .i64 (p), sv] : Value))]) ⟨e0, e1, trivial⟩).symm]
        refine XG.op (XOp.call (args := [.agg #[arv, rsv], .agg #[fv, ssv, .int .i64 (p), sv]]) Try.call23 rfl (sLoopOk_spec har hrs hf hss hs (hla := (by first | assumption | rfl | omega | (left; simp; done) | (right; simp; done))) (hlr := (by first | assumption | rfl | omega | (left; simp; done) | (right; simp; done))) (hrb := (by first | assumption | rfl | omega | (left; simp; done) | (right; simp; done))) (hlf := (by first | assumption | rfl | omega | (left; simp; done) | (right; simp; done))) (hlss := (by first | assumption | rfl | omega | (left; simp; done) | (right; simp; done))) (hsb := (by first | assumption | rfl | omega | (left; simp; done) | (right; simp; done))) (hlrow := (by first | assumption | rfl | omega | (left; simp; done) | (right; simp; done))) (hrowb := (by first | assumption | rfl | omega | (left; simp; done) | (right; simp; done)))) ?_)
        rintro _ _ _ _ ⟨rfl, rfl, rfl⟩
        exact ⟨rfl, rfl⟩
      refine stepsG.cons (fun vals Fs R leFs hpZ => ?_) ?_
      · have e2 : vals 2 = (.bool ((sysOk ar rs && loopOkL ar rs f ss p s)) : Value) := hpZ 2 (by decide)
        rw [(envs_of_sat (l := [(2, (.bool ((sysOk ar rs && loopOkL ar rs f ss p s)) : Value))]) ⟨e2, trivial⟩).symm]
        refine XG.op (XOp.move (.bool ((sysOk ar rs && loopOkL ar rs f ss p s))) rfl ?_)
        exact ⟨rfl, rfl⟩
      refine stepsG.cons (fun vals Fs R leFs hpZ => ?_) ?_
      · have e3 : vals 3 = (.bool ((sysOk ar rs && loopOkL ar rs f ss p s)) : Value) := hpZ 3 (by decide)
        replace har := har.mono leFs
        replace hrs := hrs.mono leFs
        replace hf := hf.mono leFs
        replace hss := hss.mono leFs
        replace hs := hs.mono leFs
        rw [(envs_of_sat (l := [(3, (.bool ((sysOk ar rs && loopOkL ar rs f ss p s)) : Value))]) ⟨e3, trivial⟩).symm]
        refine XG.yes (t := 8) rfl (congrArg Value.bool h1) (XOp.loadN [arv, rsv] Try.isAgg37 Try.sizeOf37 rfl rfl (Rd.ownN [_] rfl rfl) ?_)
        exact ⟨rfl, rfl⟩
      refine stepsG.cons (fun vals Fs R leFs hpZ => ?_) ?_
      · have e3 : vals 3 = (.bool ((sysOk ar rs && loopOkL ar rs f ss p s)) : Value) := hpZ 3 (by decide)
        rw [(envs_of_sat (l := [(3, (.bool ((sysOk ar rs && loopOkL ar rs f ss p s)) : Value))]) ⟨e3, trivial⟩).symm]
        refine XG.yes (t := 8) rfl (congrArg Value.bool h1) (XOp.fieldP (b := b2) (0) Try.runUnderlying61 rfl Try.sizeOf31 (by decide) rfl rfl ?_)
        exact ⟨rfl, rfl⟩
      refine stepsG.cons (fun vals Fs R leFs hpZ => ?_) ?_
      · have e3 : vals 3 = (.bool ((sysOk ar rs && loopOkL ar rs f ss p s)) : Value) := hpZ 3 (by decide)
        have e5 : vals 5 = ptr b2 0 := hpZ 5 (by decide)
        replace har := har.mono leFs
        replace hrs := hrs.mono leFs
        replace hf := hf.mono leFs
        replace hss := hss.mono leFs
        replace hs := hs.mono leFs
        rw [(envs_of_sat (l := [(3, (.bool ((sysOk ar rs && loopOkL ar rs f ss p s)) : Value)), (5, ptr b2 0)]) ⟨e3, e5, trivial⟩).symm]
        refine XG.yes (t := 8) rfl (congrArg Value.bool h1) (XOp.loadN [fv, ssv] Try.isAgg31 Try.sizeOf31 rfl rfl (Rd.ownN [] rfl rfl) ?_)
        exact ⟨rfl, rfl⟩
      refine stepsG.cons (fun vals Fs R leFs hpZ => ?_) ?_
      · have e3 : vals 3 = (.bool ((sysOk ar rs && loopOkL ar rs f ss p s)) : Value) := hpZ 3 (by decide)
        have e4 : vals 4 = (.agg #[arv, rsv] : Value) := hpZ 4 (by decide)
        have e6 : vals 6 = (.agg #[fv, ssv] : Value) := hpZ 6 (by decide)
        replace har := har.mono leFs
        replace hrs := hrs.mono leFs
        replace hf := hf.mono leFs
        replace hss := hss.mono leFs
        replace hs := hs.mono leFs
        rw [(envs_of_sat (l := [(3, (.bool ((sysOk ar rs && loopOkL ar rs f ss p s)) : Value)), (4, (.agg #[arv, rsv] : Value)), (6, (.agg #[fv, ssv] : Value))]) ⟨e3, e4, e6, trivial⟩).symm]
        refine XG.yes (t := 8) rfl (congrArg Value.bool h1) (XOp.frzF <| XOp.call (args := [.agg #[arv, rsv], .agg #[fv, ssv]]) Try.call63 rfl (sEndTerm_spec har hrs hf hss (hla := (by first | assumption | rfl | omega | (left; simp; done) | (right; simp; done))) (hlr := (by first | assumption | rfl | omega | (left; simp; done) | (right; simp; done))) (hrb := (by first | assumption | rfl | omega | (left; simp; done) | (right; simp; done))) (hlf := (by first | assumption | rfl | omega | (left; simp; done) | (right; simp; done))) (hlss := (by first | assumption | rfl | omega | (left; simp; done) | (right; simp; done))) (hsb := (by first | assumption | rfl | omega | (left; simp; done) | (right; simp; done)))) ?_)
        rintro v2 _ _ _ ⟨rfl, hs2, rfl⟩
        refine ⟨_, _, rfl, fun F1 le1 hz1 => ?_⟩
        replace har := har.mono le1
        replace hrs := hrs.mono le1
        replace hf := hf.mono le1
        replace hss := hss.mono le1
        replace hs := hs.mono le1
        have hf1 : IntsF F1 v2 ((endT ar rs f ss)) := intsH.fz (xs := (endT ar rs f ss)) hz1.fz
        exact ⟨⟨rfl, hf1⟩, rfl⟩
      refine stepsG.cons (fun vals Fs R leFs hpZ => ?_) ?_
      · have e3 : vals 3 = (.bool ((sysOk ar rs && loopOkL ar rs f ss p s)) : Value) := hpZ 3 (by decide)
        rw [(envs_of_sat (l := [(3, (.bool ((sysOk ar rs && loopOkL ar rs f ss p s)) : Value))]) ⟨e3, trivial⟩).symm]
        refine XG.yes (t := 8) rfl (congrArg Value.bool h1) (XOp.fieldP (b := b2) (0) Try.runUnderlying61 rfl Try.sizeOf31 (by decide) rfl rfl ?_)
        exact ⟨rfl, rfl⟩
      refine stepsG.cons (fun vals Fs R leFs hpZ => ?_) ?_
      · have e3 : vals 3 = (.bool ((sysOk ar rs && loopOkL ar rs f ss p s)) : Value) := hpZ 3 (by decide)
        have e8 : vals 8 = ptr b2 0 := hpZ 8 (by decide)
        rw [(envs_of_sat (l := [(3, (.bool ((sysOk ar rs && loopOkL ar rs f ss p s)) : Value)), (8, ptr b2 0)]) ⟨e3, e8, trivial⟩).symm]
        refine XG.yes (t := 8) rfl (congrArg Value.bool h1) (XOp.fieldP (b := b2) (0) Try.runUnderlying31 rfl Try.sizeOf22 (by decide) rfl rfl ?_)
        exact ⟨rfl, rfl⟩
      refine stepsG.cons (fun vals Fs R leFs hpZ => ?_) ?_
      · have e3 : vals 3 = (.bool ((sysOk ar rs && loopOkL ar rs f ss p s)) : Value) := hpZ 3 (by decide)
        have e9 : vals 9 = ptr b2 0 := hpZ 9 (by decide)
        replace har := har.mono leFs
        replace hrs := hrs.mono leFs
        replace hf := hf.mono leFs
        replace hss := hss.mono leFs
        replace hs := hs.mono leFs
        rw [(envs_of_sat (l := [(3, (.bool ((sysOk ar rs && loopOkL ar rs f ss p s)) : Value)), (9, ptr b2 0)]) ⟨e3, e9, trivial⟩).symm]
        refine XG.yes (t := 8) rfl (congrArg Value.bool h1) (XOp.load1 (v := fv) Try.isAgg22 rfl (Rd.own [] rfl rfl) ?_)
        exact ⟨rfl, rfl⟩
      exact stepsG.nil
    · intro vals F2 le2 hphi
      have e0 : vals 0 = (.agg #[arv, rsv] : Value) := hphi 0 (by decide)
      have e1 : vals 1 = (.agg #[fv, ssv, .int .i64 (p), sv] : Value) := hphi 1 (by decide)
      have e2 : vals 2 = (.bool ((sysOk ar rs && loopOkL ar rs f ss p s)) : Value) := hphi 2 (by decide)
      have e3 : vals 3 = (.bool ((sysOk ar rs && loopOkL ar rs f ss p s)) : Value) := hphi 3 (by decide)
      have e4 : vals 4 = (.agg #[arv, rsv] : Value) := hphi 4 (by decide)
      have e5 : vals 5 = ptr b2 0 := hphi 5 (by decide)
      have e6 : vals 6 = (.agg #[fv, ssv] : Value) := hphi 6 (by decide)
      obtain ⟨e7, f7_2ha⟩ := hphi 7 (by decide)
      have e8 : vals 8 = ptr b2 0 := hphi 8 (by decide)
      have e9 : vals 9 = ptr b2 0 := hphi 9 (by decide)
      have e10 : vals 10 = fv := hphi 10 (by decide)
      generalize hu1 : ((vals 7)) = u1 at e0 e1 e2 e3 e4 e5 e6 e7 f7_2ha e8 e9 e10
      rw [(envs_of_sat (l := [(0, (.agg #[arv, rsv] : Value)), (1, (.agg #[fv, ssv, .int .i64 (p), sv] : Value)), (2, (.bool ((sysOk ar rs && loopOkL ar rs f ss p s)) : Value)), (3, (.bool ((sysOk ar rs && loopOkL ar rs f ss p s)) : Value)), (4, (.agg #[arv, rsv] : Value)), (5, ptr b2 0), (6, (.agg #[fv, ssv] : Value)), (7, u1), (8, ptr b2 0), (9, ptr b2 0), (10, fv)]) ⟨e0, e1, e2, e3, e4, e5, e6, hu1, e8, e9, e10, trivial⟩).symm]
      replace har := har.mono le2
      replace hrs := hrs.mono le2
      replace hf := hf.mono le2
      replace hss := hss.mono le2
      replace hs := hs.mono le2
      show XL _ _ _ _ _ _ _ (cellsH b2 [fv, ssv, .int .i64 (p), sv] 61 :: cellsH b1 [arv, rsv] 37 :: L)
      refine XL.yes (t := 8) rfl (congrArg Value.bool h1) (XOp.call (args := [u1, fv]) Try.call57 rfl (SameTerm_spec f7_2ha hf (hbd := (by first | assumption | rfl | omega | (left; simp; done) | (right; simp; done)))) ?_)
      rintro _ _ _ _ ⟨rfl, rfl, rfl⟩
      refine XL.cons (XOp.pickT (.bool (decide (((endT ar rs f ss)) = f))) (congrArg Value.bool h1) rfl ?_)
      refine XL.cons (XOp.assign (.bool (decide (((endT ar rs f ss)) = f))) rfl ?_)
      refine XL.nil ?_
      refine X.ret (retEnd (L' := L) [.bool (decide (((endT ar rs f ss)) = f))] (.bool (decide (((endT ar rs f ss)) = f))) (.tmp rfl .nil) rfl (FLe.refl _) le2 (Sub.drop (Sub.drop (Sub.refl _))) ?_)
      exact ⟨(congrArg Value.bool (by have hz : loopOkL ar rs f ss p s = true := (by simp_all); rw [endT, if_pos (loopOkL_iff.1 hz).2.1]; simp_all)), rfl, rfl⟩
  · rw [Bool.not_eq_true] at h1
    refine X.draw [cellsH b2 [fv, ssv, .int .i64 (p), sv] 61, cellsH b1 [arv, rsv] 37] L 11 [[], [], [], [], [], [], [], [], [], [], []] [[], [], [0, 1], [2], [3], [3], [3, 5], [3, 4, 6], [3], [3, 8], [3, 9]] (phiL [fun us v => v = (.agg #[arv, rsv] : Value), fun us v => v = (.agg #[fv, ssv, .int .i64 (p), sv] : Value), fun us v => v = (.bool ((sysOk ar rs && loopOkL ar rs f ss p s)) : Value), fun us v => v = (.bool ((sysOk ar rs && loopOkL ar rs f ss p s)) : Value), fun us v => v = undef, fun us v => v = undef, fun us v => v = undef, fun us v => v = undef, fun us v => v = undef, fun us v => v = undef, fun us v => v = undef]) (ownL [fun us v => [], fun us v => [], fun us v => [], fun us v => [], fun us v => [], fun us v => [], fun us v => [], fun us v => [], fun us v => [], fun us v => [], fun us v => []]) mixed rfl rfl (by kernel_rfl) ?_ ?_
    · refine stepsP.cons (fun vals R hpZ => ?_) ?_
      · refine XG.op (XOp.loadN [arv, rsv] Try.isAgg37 Try.sizeOf37 rfl rfl (Rd.ownN [_] rfl rfl) ?_)
        exact ⟨rfl, rfl, rfl⟩
      refine stepsP.cons (fun vals R hpZ => ?_) ?_
      · refine XG.op (XOp.loadN [fv, ssv, .int .i64 (p), sv] Try.isAgg61 Try.sizeOf61 rfl rfl (Rd.ownN [] rfl rfl) ?_)
        exact ⟨rfl, rfl, rfl⟩
      refine stepsP.cons (fun vals R hpZ => ?_) ?_
      · rw [(envs_of_sat (l := [(0, (.agg #[arv, rsv] : Value)), (1, (.agg #[fv, ssv, .int .i64 (p), sv] : Value))]) ⟨hpZ 0 (by decide), hpZ 1 (by decide), trivial⟩).symm]
        refine XG.op (XOp.call (args := [.agg #[arv, rsv], .agg #[fv, ssv, .int .i64 (p), sv]]) Try.call23 rfl (sLoopOk_spec har hrs hf hss hs (hla := (by first | assumption | rfl | omega | (left; simp; done) | (right; simp; done))) (hlr := (by first | assumption | rfl | omega | (left; simp; done) | (right; simp; done))) (hrb := (by first | assumption | rfl | omega | (left; simp; done) | (right; simp; done))) (hlf := (by first | assumption | rfl | omega | (left; simp; done) | (right; simp; done))) (hlss := (by first | assumption | rfl | omega | (left; simp; done) | (right; simp; done))) (hsb := (by first | assumption | rfl | omega | (left; simp; done) | (right; simp; done))) (hlrow := (by first | assumption | rfl | omega | (left; simp; done) | (right; simp; done))) (hrowb := (by first | assumption | rfl | omega | (left; simp; done) | (right; simp; done)))) ?_)
        rintro _ _ _ _ ⟨rfl, rfl, rfl⟩
        exact ⟨rfl, rfl, rfl⟩
      refine stepsP.cons (fun vals R hpZ => ?_) ?_
      · rw [(envs_of_sat (l := [(2, (.bool ((sysOk ar rs && loopOkL ar rs f ss p s)) : Value))]) ⟨hpZ 2 (by decide), trivial⟩).symm]
        refine XG.op (XOp.move (.bool ((sysOk ar rs && loopOkL ar rs f ss p s))) rfl ?_)
        exact ⟨rfl, rfl, rfl⟩
      refine stepsP.cons (fun vals R hpZ => ?_) ?_
      · rw [(envs_of_sat (l := [(3, (.bool ((sysOk ar rs && loopOkL ar rs f ss p s)) : Value))]) ⟨hpZ 3 (by decide), trivial⟩).symm]
        exact XG.no (t := 8) rfl (congrArg Value.bool h1) ⟨rfl, rfl, rfl⟩
      refine stepsP.cons (fun vals R hpZ => ?_) ?_
      · rw [(envs_of_sat (l := [(3, (.bool ((sysOk ar rs && loopOkL ar rs f ss p s)) : Value))]) ⟨hpZ 3 (by decide), trivial⟩).symm]
        exact XG.no (t := 8) rfl (congrArg Value.bool h1) ⟨rfl, rfl, rfl⟩
      refine stepsP.cons (fun vals R hpZ => ?_) ?_
      · rw [(envs_of_sat (l := [(3, (.bool ((sysOk ar rs && loopOkL ar rs f ss p s)) : Value)), (5, undef)]) ⟨hpZ 3 (by decide), hpZ 5 (by decide), trivial⟩).symm]
        exact XG.no (t := 8) rfl (congrArg Value.bool h1) ⟨rfl, rfl, rfl⟩
      refine stepsP.cons (fun vals R hpZ => ?_) ?_
      · rw [(envs_of_sat (l := [(3, (.bool ((sysOk ar rs && loopOkL ar rs f ss p s)) : Value)), (4, undef), (6, undef)]) ⟨hpZ 3 (by decide), hpZ 4 (by decide), hpZ 6 (by decide), trivial⟩).symm]
        exact XG.no (t := 8) rfl (congrArg Value.bool h1) ⟨rfl, rfl, rfl⟩
      refine stepsP.cons (fun vals R hpZ => ?_) ?_
      · rw [(envs_of_sat (l := [(3, (.bool ((sysOk ar rs && loopOkL ar rs f ss p s)) : Value))]) ⟨hpZ 3 (by decide), trivial⟩).symm]
        exact XG.no (t := 8) rfl (congrArg Value.bool h1) ⟨rfl, rfl, rfl⟩
      refine stepsP.cons (fun vals R hpZ => ?_) ?_
      · rw [(envs_of_sat (l := [(3, (.bool ((sysOk ar rs && loopOkL ar rs f ss p s)) : Value)), (8, undef)]) ⟨hpZ 3 (by decide), hpZ 8 (by decide), trivial⟩).symm]
        exact XG.no (t := 8) rfl (congrArg Value.bool h1) ⟨rfl, rfl, rfl⟩
      refine stepsP.cons (fun vals R hpZ => ?_) ?_
      · rw [(envs_of_sat (l := [(3, (.bool ((sysOk ar rs && loopOkL ar rs f ss p s)) : Value)), (9, undef)]) ⟨hpZ 3 (by decide), hpZ 9 (by decide), trivial⟩).symm]
        exact XG.no (t := 8) rfl (congrArg Value.bool h1) ⟨rfl, rfl, rfl⟩
      exact stepsP.nil
    · intro vals hphi
      have e0 : vals 0 = (.agg #[arv, rsv] : Value) := hphi 0 (by decide)
      have e1 : vals 1 = (.agg #[fv, ssv, .int .i64 (p), sv] : Value) := hphi 1 (by decide)
      have e2 : vals 2 = (.bool ((sysOk ar rs && loopOkL ar rs f ss p s)) : Value) := hphi 2 (by decide)
      have e3 : vals 3 = (.bool ((sysOk ar rs && loopOkL ar rs f ss p s)) : Value) := hphi 3 (by decide)
      have e4 : vals 4 = undef := hphi 4 (by decide)
      have e5 : vals 5 = undef := hphi 5 (by decide)
      have e6 : vals 6 = undef := hphi 6 (by decide)
      have e7 : vals 7 = undef := hphi 7 (by decide)
      have e8 : vals 8 = undef := hphi 8 (by decide)
      have e9 : vals 9 = undef := hphi 9 (by decide)
      have e10 : vals 10 = undef := hphi 10 (by decide)
      rw [(envs_of_sat (l := [(0, (.agg #[arv, rsv] : Value)), (1, (.agg #[fv, ssv, .int .i64 (p), sv] : Value)), (2, (.bool ((sysOk ar rs && loopOkL ar rs f ss p s)) : Value)), (3, (.bool ((sysOk ar rs && loopOkL ar rs f ss p s)) : Value)), (4, undef), (5, undef), (6, undef), (7, undef), (8, undef), (9, undef), (10, undef)]) ⟨e0, e1, e2, e3, e4, e5, e6, e7, e8, e9, e10, trivial⟩).symm]
      show XL _ _ _ _ _ _ _ (cellsH b2 [fv, ssv, .int .i64 (p), sv] 61 :: cellsH b1 [arv, rsv] 37 :: L)
      refine XL.no (t := 8) rfl (congrArg Value.bool h1) ?_
      refine XL.cons (XOp.pickF (.bool (false)) (congrArg Value.bool h1) rfl ?_)
      refine XL.cons (XOp.assign (.bool (false)) rfl ?_)
      refine XL.nil ?_
      refine X.ret (retEnd (L' := L) [.bool (false)] (.bool (false)) (.tmp rfl .nil) rfl (FLe.refl _) (FLe.refl _) (Sub.drop (Sub.drop (Sub.refl _))) ?_)
      exact ⟨(congrArg Value.bool (by simp_all)), rfl, rfl⟩

/- laws.toLoop -/
theorem toLoop_spec {F : FH} {L : List HP} {fv : Value} {f : List Int} (hf : IntsF F fv f) {ssv : Value} {ss : List StepT} (hss : StepsF F ssv ss) {p : Int} {sv : Value} {s : List (List Int)} (hs : RowsF F sv s) (hfl : f.length ≤ 4000000) (hsl : ss.length ≤ 4000000) (hsb : ∀ i, i < ss.length → (ss.getD i (0, 0, [])).2.2.length ≤ 4000000) (hrl : s.length ≤ 4000000) (hrb : ∀ i, i < s.length → (s.getD i []).length ≤ 4000000) :
    Does Try.prog 24 [.agg #[fv, ssv, .int .i64 (p), sv]] F (L) (fun v F' L' => ∃ (a : Value), ∃ (b : Value), ∃ (c : Value), (.agg #[a, b, .int .i64 (p), c] : Value) = v ∧ (IntsF F' a f) ∧ (StepsF F' b ss) ∧ (RowsF F' c s) ∧ (Fresh F F' (star [intsH 2 a f, stepsD 2 81 b ss, rowsD 2 22 c s])) ∧ L = L') := by
  refine Does.of_X Try.func24 rfl rfl rfl ?_
  refine X.seq ?_
  refine X.region ?_
  refine XL.cons (XOp.box [fv, ssv, .int .i64 (p), sv] rfl rfl ?_)
  intro b1
  refine XL.cons (XOp.alloc [(.slice none 0 0), (.slice none 0 0), .int .i64 (0), (.slice none 0 0)] Try.zeroValue61 rfl ?_)
  intro b2
  refine XL.nil ?_
  refine X.seq ?_
  refine X.region ?_
  refine XL.cons (XOp.alloc [(.slice none 0 0), (.slice none 0 0), .int .i64 (0), (.slice none 0 0)] Try.zeroValue61 rfl ?_)
  intro b3
  refine XL.nil ?_
  refine X.seq ?_
  refine X.region ?_
  refine XL.cons (XOp.fieldP (b := b1) (0) Try.runUnderlying56 rfl Try.sizeOf51 (by decide) rfl rfl ?_)
  refine XL.cons (XOp.loadN [fv, ssv] Try.isAgg51 Try.sizeOf51 rfl rfl (Rd.ownN [_, _] rfl rfl) ?_)
  refine XL.cons (XOp.call (args := [.agg #[fv, ssv]]) Try.call31 rfl (toWalk_spec hf hss (hfl := (by first | assumption | rfl | omega | (left; simp; done) | (right; simp; done))) (hsl := (by first | assumption | rfl | omega | (left; simp; done) | (right; simp; done))) (hsb := (by first | assumption | rfl | omega | (left; simp; done) | (right; simp; done)))) ?_)
  rintro _ F1 _ le1 ⟨x1, x2, rfl, hr1, hr2, hr3, rfl⟩
  replace hf := hf.mono le1
  replace hss := hss.mono le1
  replace hs := hs.mono le1
  refine XL.cons (XOp.fieldP (b := b3) (0) Try.runUnderlying61 rfl Try.sizeOf31 (by decide) rfl rfl ?_)
  refine XL.cons (XOp.storeN (vs := [x1, x2]) [] _ [x1, x2, .int .i64 (0), (.slice none 0 0)] Try.sizeOf31 rfl rfl rfl (ones_cons (one_sl (IntsF.isSl hr1)) (ones_cons (one_sl (StepsF.isSl hr2)) ones_nil)) rfl rfl rfl ?_)
  refine XL.nil ?_
  refine X.seq ?_
  refine X.region ?_
  refine XL.cons (XOp.fieldP (b := b1) (2) Try.runUnderlying56 rfl Try.sizeOf2 (by decide) rfl rfl ?_)
  refine XL.cons (XOp.load1 (v := .int .i64 (p)) Try.isAgg2 rfl (Rd.own [_, _] rfl rfl) ?_)
  refine XL.cons (XOp.fieldP (b := b3) (2) Try.runUnderlying61 rfl Try.sizeOf2 (by decide) rfl rfl ?_)
  refine XL.cons (XOp.store1 (v := .int .i64 (p)) [] _ [x1, x2, .int .i64 (p), (.slice none 0 0)] Try.sizeOf2 rfl rfl rfl rfl rfl rfl ?_)
  refine XL.nil ?_
  refine X.seq ?_
  refine X.region ?_
  refine XL.cons (XOp.fieldP (b := b1) (3) Try.runUnderlying56 rfl Try.sizeOf54 (by decide) rfl rfl ?_)
  refine XL.cons (XOp.loadN [sv] Try.isAgg54 Try.sizeOf54 rfl rfl (Rd.ownN [_, _] rfl rfl) ?_)
  refine XL.cons (XOp.call (args := [.agg #[sv]]) Try.call67 rfl (toSubst_spec hs (hsl := (by first | assumption | rfl | omega | (left; simp; done) | (right; simp; done))) (hsb := (by first | assumption | rfl | omega | (left; simp; done) | (right; simp; done)))) ?_)
  rintro _ F2 _ le2 ⟨x3, rfl, hr4, hr5, rfl⟩
  replace hf := hf.mono le2
  replace hss := hss.mono le2
  replace hs := hs.mono le2
  replace hr1 := hr1.mono le2
  replace hr2 := hr2.mono le2
  refine XL.cons (XOp.fieldP (b := b3) (3) Try.runUnderlying61 rfl Try.sizeOf59 (by decide) rfl rfl ?_)
  refine XL.cons (XOp.storeN (vs := [x3]) [] _ [x1, x2, .int .i64 (p), x3] Try.sizeOf59 rfl rfl rfl (ones_cons (one_sl (RowsF.isSl hr4)) ones_nil) rfl rfl rfl ?_)
  refine XL.nil ?_
  refine X.seq ?_
  refine X.region ?_
  refine XL.cons (XOp.loadN [x1, x2, .int .i64 (p), x3] Try.isAgg61 Try.sizeOf61 rfl rfl (Rd.ownN [] rfl rfl) ?_)
  refine XL.cons (XOp.storeN (vs := [x1, x2, .int .i64 (p), x3]) [_] _ [x1, x2, .int .i64 (p), x3] Try.sizeOf61 rfl rfl rfl (ones_cons (one_sl (IntsF.isSl hr1)) (ones_cons (one_sl (StepsF.isSl hr2)) (ones_cons rfl (ones_cons (one_sl (RowsF.isSl hr4)) ones_nil)))) rfl rfl rfl ?_)
  refine XL.nil ?_
  refine X.ret (retEnd (L' := L) [.agg #[x1, x2, .int .i64 (p), x3]] (.agg #[x1, x2, .int .i64 (p), x3]) (.cell rfl (loadNV [x1, x2, .int .i64 (p), x3] Try.isAgg61 Try.sizeOf61 rfl (Rd.ownN [_] rfl rfl)) .nil) rfl (FLe.trans le1 le2) (FLe.refl _) (Sub.drop (Sub.drop (Sub.drop (Sub.refl _)))) ?_)
  exact ⟨_, _, _, rfl, hr1, hr2, hr4, (Fresh.app hr3 le1 hr5 le2), rfl⟩

/- laws.szLoop -/
theorem szLoop_spec {F : FH} {L : List HP} {fv : Value} {f : List Int} (hf : IntsF F fv f) {ssv : Value} {ss : List StepT} (hss : StepsF F ssv ss) {p : Int} {sv : Value} {s : List (List Int)} (hs : RowsF F sv s) {z : Int} (hz : 0 ≤ z ∧ z ≤ 4000000) (hal : f.length ≤ 9223372036854775807) (hrl : ss.length ≤ 9223372036854775807) (hrb : ∀ i, i < ss.length → (ss.getD i (0, 0, [])).2.2.length ≤ 9223372036854775807) (hsl : s.length ≤ 9223372036854775807) (hsb : ∀ i, i < s.length → (s.getD i []).length ≤ 9223372036854775807) :
    Does Try.prog 22 [.agg #[fv, ssv, .int .i64 (p), sv], .int .i64 (z)] F (L) (fun v F' L' => (.int .i64 (dec z ((f.length + szG lenS ss) + szG lenR s)) : Value) = v ∧ F = F' ∧ L = L') := by
  refine Does.of_X Try.func22 rfl rfl rfl ?_
  have hdr := dec_range z (f.length + szG lenS ss)
  refine X.seq ?_
  refine X.region ?_
  refine XL.cons (XOp.box [fv, ssv, .int .i64 (p), sv] rfl rfl ?_)
  intro b1
  refine XL.cons (XOp.assign (.int .i64 (0)) rfl ?_)
  refine XL.nil ?_
  refine X.seq ?_
  refine X.region ?_
  refine XL.cons (XOp.fieldP (b := b1) (0) Try.runUnderlying56 rfl Try.sizeOf51 (by decide) rfl rfl ?_)
  refine XL.cons (XOp.loadN [fv, ssv] Try.isAgg51 Try.sizeOf51 rfl rfl (Rd.ownN [] rfl rfl) ?_)
  refine XL.cons (XOp.move (.int .i64 (z)) rfl ?_)
  refine XL.cons (XOp.call (args := [.agg #[fv, ssv], .int .i64 (z)]) Try.call29 rfl (szWalk_spec (z := z) hf hss (hz := (by first | assumption | rfl | omega | (left; simp; done) | (right; simp; done))) (hal := (by first | assumption | rfl | omega | (left; simp; done) | (right; simp; done))) (hrl := (by first | assumption | rfl | omega | (left; simp; done) | (right; simp; done))) (hrb := (by first | assumption | rfl | omega | (left; simp; done) | (right; simp; done)))) ?_)
  rintro _ _ _ _ ⟨rfl, rfl, rfl⟩
  refine XL.cons (XOp.assign (.int .i64 (dec z (f.length + szG lenS ss))) rfl ?_)
  refine XL.nil ?_
  refine X.seq ?_
  refine X.seq ?_
  refine X.region ?_
  refine XL.cons (XOp.move (.int .i64 (dec z (f.length + szG lenS ss))) rfl ?_)
  refine XL.cons (XOp.lss (a := dec z (f.length + szG lenS ss)) (b := 0) rfl rfl ?_)
  refine XL.nil ?_
  refine X.condD (p := (dec z (f.length + szG lenS ss) : Int) < 0) rfl (fun h1 => ?_) (fun h1 => ?_)
  · refine X.seq ?_
    refine X.region ?_
    refine XL.cons (XOp.assign (.int .i64 (-1)) rfl ?_)
    refine XL.nil ?_
    refine X.ret (thenQ_ret (retEnd (L' := L) [.int .i64 (-1)] (.int .i64 (-1)) (.tmp rfl .nil) rfl (FLe.refl _) (FLe.refl _) (Sub.drop (Sub.refl _)) ?_))
    exact ⟨(congrArg (Value.int .i64) (dec_out (by omega))), rfl, rfl⟩
  · refine X.skip ?_
    refine X.seq ?_
    refine X.region ?_
    refine XL.cons (XOp.fieldP (b := b1) (3) Try.runUnderlying56 rfl Try.sizeOf54 (by decide) rfl rfl ?_)
    refine XL.cons (XOp.loadN [sv] Try.isAgg54 Try.sizeOf54 rfl rfl (Rd.ownN [] rfl rfl) ?_)
    refine XL.cons (XOp.move (.int .i64 (dec z (f.length + szG lenS ss))) rfl ?_)
    refine XL.cons (XOp.call (args := [.agg #[sv], .int .i64 (dec z (f.length + szG lenS ss))]) Try.call60 rfl (szSubst_spec (z := dec z (f.length + szG lenS ss)) hs (hz := (by first | assumption | rfl | omega | (left; simp; done) | (right; simp; done))) (hrl := (by first | assumption | rfl | omega | (left; simp; done) | (right; simp; done))) (hrb := (by first | assumption | rfl | omega | (left; simp; done) | (right; simp; done)))) ?_)
    rintro _ _ _ _ ⟨rfl, rfl, rfl⟩
    refine XL.cons (XOp.assign (.int .i64 (dec (dec z (f.length + szG lenS ss)) (szG lenR s))) rfl ?_)
    refine XL.nil ?_
    refine X.seq ?_
    refine X.seq ?_
    refine X.region ?_
    refine XL.cons (XOp.move (.int .i64 (dec (dec z (f.length + szG lenS ss)) (szG lenR s))) rfl ?_)
    refine XL.cons (XOp.lss (a := dec (dec z (f.length + szG lenS ss)) (szG lenR s)) (b := 0) rfl rfl ?_)
    refine XL.nil ?_
    refine X.condD (p := (dec (dec z (f.length + szG lenS ss)) (szG lenR s) : Int) < 0) rfl (fun h2 => ?_) (fun h2 => ?_)
    · refine X.seq ?_
      refine X.region ?_
      refine XL.cons (XOp.assign (.int .i64 (-1)) rfl ?_)
      refine XL.nil ?_
      refine X.ret (thenQ_ret (retEnd (L' := L) [.int .i64 (-1)] (.int .i64 (-1)) (.tmp rfl .nil) rfl (FLe.refl _) (FLe.refl _) (Sub.drop (Sub.refl _)) ?_))
      exact ⟨(congrArg (Value.int .i64) (by rw [← dec_dec (by omega)]; have := (dec_range (dec z (f.length + szG lenS ss)) (szG lenR s)).1; omega)), rfl, rfl⟩
    · refine X.skip ?_
      refine X.seq ?_
      refine X.region ?_
      refine XL.cons (XOp.move (.int .i64 (dec (dec z (f.length + szG lenS ss)) (szG lenR s))) rfl ?_)
      refine XL.cons (XOp.assign (.int .i64 (dec (dec z (f.length + szG lenS ss)) (szG lenR s))) rfl ?_)
      refine XL.nil ?_
      refine X.ret (retEnd (L' := L) [.int .i64 (dec (dec z (f.length + szG lenS ss)) (szG lenR s))] (.int .i64 (dec (dec z (f.length + szG lenS ss)) (szG lenR s))) (.tmp rfl .nil) rfl (FLe.refl _) (FLe.refl _) (Sub.drop (Sub.refl _)) ?_)
      exact ⟨(congrArg (Value.int .i64) ((dec_dec (by omega)).symm)), rfl, rfl⟩

/- laws.eqLoop -/
theorem eqLoop_spec {F : FH} {L : List HP} {fv : Value} {f : List Int} (hf : IntsF F fv f) {ssv : Value} {ss : List StepT} (hss : StepsF F ssv ss) {p : Int} {sv : Value} {s : List (List Int)} (hs : RowsF F sv s) {gv : Value} {g : List Int} (hg : IntsF F gv g) {bv : Value} {b : List StepT} (hb : StepsF F bv b) {q : Int} {uv : Value} {u : List (List Int)} (hu : RowsF F uv u) (hfl : f.length ≤ 9223372036854775807) (hal : ss.length ≤ 9223372036854775807) (hbd : ∀ i, i < ss.length → (ss.getD i (0, 0, [])).2.2.length ≤ 9223372036854775807) (hsl : s.length ≤ 9223372036854775807) (hsb : ∀ i, i < s.length → (s.getD i []).length ≤ 9223372036854775807) :
    Does Try.prog 26 [.agg #[fv, ssv, .int .i64 (p), sv], .agg #[gv, bv, .int .i64 (q), uv]] F (L) (fun v F' L' => (.bool (decide ((f = g ∧ ss = b) ∧ p = q ∧ s = u)) : Value) = v ∧ F = F' ∧ L = L') := by
  refine Does.of_X Try.func26 rfl rfl rfl ?_
  refine X.seq ?_
  refine X.region ?_
  refine XL.cons (XOp.box [fv, ssv, .int .i64 (p), sv] rfl rfl ?_)
  intro b1
  refine XL.cons (XOp.box [gv, bv, .int .i64 (q), uv] rfl rfl ?_)
  intro b2
  refine XL.cons (XOp.assign (.bool (false)) rfl ?_)
  refine XL.nil ?_
  refine X.seq ?_
  refine X.seq ?_
  refine X.region ?_
  refine XL.cons (XOp.fieldP (b := b1) (0) Try.runUnderlying61 rfl Try.sizeOf31 (by decide) rfl rfl ?_)
  refine XL.cons (XOp.loadN [fv, ssv] Try.isAgg31 Try.sizeOf31 rfl rfl (Rd.ownN [_] rfl rfl) ?_)
  refine XL.cons (XOp.fieldP (b := b2) (0) Try.runUnderlying61 rfl Try.sizeOf31 (by decide) rfl rfl ?_)
  refine XL.cons (XOp.loadN [gv, bv] Try.isAgg31 Try.sizeOf31 rfl rfl (Rd.ownN [] rfl rfl) ?_)
  refine XL.cons (XOp.call (args := [.agg #[fv, ssv], .agg #[gv, bv]]) Try.call13 rfl (eqWalk_spec hf hss hg hb (hfl := (by first | assumption | rfl | omega | (left; simp; done) | (right; simp; done))) (hal := (by first | assumption | rfl | omega | (left; simp; done) | (right; simp; done))) (hbd := (by first | assumption | rfl | omega | (left; simp; done) | (right; simp; done)))) ?_)
  rintro _ _ _ _ ⟨rfl, rfl, rfl⟩
  refine XL.cons (XOp.notD (p := f = g ∧ ss = b) rfl ?_)
  refine XL.nil ?_
  refine X.condD (p := ¬(f = g ∧ ss = b)) rfl (fun h1 => ?_) (fun h1 => ?_)
  · refine X.seq ?_
    refine X.region ?_
    refine XL.cons (XOp.assign (.bool (false)) rfl ?_)
    refine XL.nil ?_
    refine X.ret (thenQ_ret (retEnd (L' := L) [.bool (false)] (.bool (false)) (.tmp rfl .nil) rfl (FLe.refl _) (FLe.refl _) (Sub.drop (Sub.drop (Sub.refl _))) ?_))
    exact ⟨(congrArg Value.bool (decide_eq_false (by intro e; simp_all))), rfl, rfl⟩
  · refine X.skip ?_
    refine X.seq ?_
    refine X.seq ?_
    refine X.region ?_
    refine XL.cons (XOp.fieldP (b := b1) (2) Try.runUnderlying61 rfl Try.sizeOf2 (by decide) rfl rfl ?_)
    refine XL.cons (XOp.load1 (v := .int .i64 (p)) Try.isAgg2 rfl (Rd.own [_] rfl rfl) ?_)
    refine XL.cons (XOp.fieldP (b := b2) (2) Try.runUnderlying61 rfl Try.sizeOf2 (by decide) rfl rfl ?_)
    refine XL.cons (XOp.load1 (v := .int .i64 (q)) Try.isAgg2 rfl (Rd.own [] rfl rfl) ?_)
    refine XL.cons (XOp.neq (a := p) (b := q) rfl rfl ?_)
    refine XL.nil ?_
    refine X.condD (p := (p : Int) ≠ q) rfl (fun h2 => ?_) (fun h2 => ?_)
    · refine X.seq ?_
      refine X.region ?_
      refine XL.cons (XOp.assign (.bool (false)) rfl ?_)
      refine XL.nil ?_
      refine X.ret (thenQ_ret (retEnd (L' := L) [.bool (false)] (.bool (false)) (.tmp rfl .nil) rfl (FLe.refl _) (FLe.refl _) (Sub.drop (Sub.drop (Sub.refl _))) ?_))
      exact ⟨(congrArg Value.bool (decide_eq_false (by intro e; simp_all))), rfl, rfl⟩
    · refine X.skip ?_
      refine X.seq ?_
      refine X.seq ?_
      refine X.region ?_
      refine XL.cons (XOp.fieldP (b := b1) (3) Try.runUnderlying61 rfl Try.sizeOf59 (by decide) rfl rfl ?_)
      refine XL.cons (XOp.loadN [sv] Try.isAgg59 Try.sizeOf59 rfl rfl (Rd.ownN [_] rfl rfl) ?_)
      refine XL.cons (XOp.fieldP (b := b2) (3) Try.runUnderlying61 rfl Try.sizeOf59 (by decide) rfl rfl ?_)
      refine XL.cons (XOp.loadN [uv] Try.isAgg59 Try.sizeOf59 rfl rfl (Rd.ownN [] rfl rfl) ?_)
      refine XL.cons (XOp.call (args := [.agg #[sv], .agg #[uv]]) Try.call69 rfl (eqSubst_spec hs hu (hal := (by first | assumption | rfl | omega | (left; simp; done) | (right; simp; done))) (hbd := (by first | assumption | rfl | omega | (left; simp; done) | (right; simp; done)))) ?_)
      rintro _ _ _ _ ⟨rfl, rfl, rfl⟩
      refine XL.cons (XOp.notD (p := s = u) rfl ?_)
      refine XL.nil ?_
      refine X.condD (p := ¬(s = u)) rfl (fun h3 => ?_) (fun h3 => ?_)
      · refine X.seq ?_
        refine X.region ?_
        refine XL.cons (XOp.assign (.bool (false)) rfl ?_)
        refine XL.nil ?_
        refine X.ret (thenQ_ret (retEnd (L' := L) [.bool (false)] (.bool (false)) (.tmp rfl .nil) rfl (FLe.refl _) (FLe.refl _) (Sub.drop (Sub.drop (Sub.refl _))) ?_))
        exact ⟨(congrArg Value.bool (decide_eq_false (by intro e; simp_all))), rfl, rfl⟩
      · refine X.skip ?_
        refine X.seq ?_
        refine X.region ?_
        refine XL.cons (XOp.assign (.bool (true)) rfl ?_)
        refine XL.nil ?_
        refine X.ret (retEnd (L' := L) [.bool (true)] (.bool (true)) (.tmp rfl .nil) rfl (FLe.refl _) (FLe.refl _) (Sub.drop (Sub.drop (Sub.refl _))) ?_)
        exact ⟨(congrArg Value.bool (decide_eq_true (by simp_all))), rfl, rfl⟩

/- laws.FnExactCycleIn -/
set_option maxRecDepth 20000 in
theorem FnExactCycleIn_does {F : FH} {L : List HP} {arv : Value} {ar : List Int} (har : IntsF F arv ar) {rsv : Value} {rs : List (List Int × List Int)} (hrs : PairsF F rsv rs) {fv : Value} {f : List Int} (hf : IntsF F fv f) {ssv : Value} {ss : List StepT} (hss : StepsF F ssv ss) {p : Int} {sv : Value} {s : List (List Int)} (hs : RowsF F sv s) (hlar : ar.length ≤ 9223372036854775807) (hlrs : rs.length ≤ 9223372036854775807) (hbrs : ∀ i, i < rs.length → (rs.getD i ([], [])).1.length ≤ 9223372036854775807 ∧ (rs.getD i ([], [])).2.length ≤ 9223372036854775807) (hlf : f.length ≤ 9223372036854775807) (hlss : ss.length ≤ 9223372036854775807) (hbss : ∀ i, i < ss.length → (ss.getD i (0, 0, [])).2.2.length ≤ 9223372036854775807) (hls : s.length ≤ 9223372036854775807) (hbs : ∀ i, i < s.length → (s.getD i []).length ≤ 9223372036854775807) :
    Does Try.prog 6 [.agg #[arv, rsv], .agg #[fv, ssv, .int .i64 (p), sv]] F (L) (fun v F' L' => (.bool (true) : Value) = v ∧ F = F' ∧ L = L') := by
  refine Does.of_X Try.func6 rfl rfl rfl ?_
  refine X.seq ?_
  refine X.region ?_
  refine XL.cons (XOp.box [arv, rsv] rfl rfl ?_)
  intro b1
  refine XL.cons (XOp.box [fv, ssv, .int .i64 (p), sv] rfl rfl ?_)
  intro b2
  refine XL.cons (XOp.assign (.bool (false)) rfl ?_)
  refine XL.nil ?_
  refine X.seq ?_
  refine X.region ?_
  refine XL.cons (XOp.assign (.int .i64 (1048576)) rfl ?_)
  refine XL.nil ?_
  refine X.seq ?_
  refine X.region ?_
  refine XL.cons (XOp.loadN [arv, rsv] Try.isAgg27 Try.sizeOf27 rfl rfl (Rd.ownN [_] rfl rfl) ?_)
  refine XL.cons (XOp.move (.int .i64 (1048576)) rfl ?_)
  refine XL.cons (XOp.call (args := [.agg #[arv, rsv], .int .i64 (1048576)]) Try.call8 rfl (szSystem_spec (z := 1048576) har hrs (hz := (by first | assumption | rfl | omega | (left; simp; done) | (right; simp; done))) (hal := (by first | assumption | rfl | omega | (left; simp; done) | (right; simp; done))) (hrl := (by first | assumption | rfl | omega | (left; simp; done) | (right; simp; done))) (hrb := (by first | assumption | rfl | omega | (left; simp; done) | (right; simp; done)))) ?_)
  rintro _ _ _ _ ⟨rfl, rfl, rfl⟩
  refine XL.cons (XOp.assign (.int .i64 (dec 1048576 (ar.length + szR rs))) rfl ?_)
  refine XL.nil ?_
  refine X.seq ?_
  refine X.seq ?_
  refine X.region ?_
  refine XL.cons (XOp.move (.int .i64 (dec 1048576 (ar.length + szR rs))) rfl ?_)
  refine XL.cons (XOp.lss (a := dec 1048576 (ar.length + szR rs)) (b := 0) rfl rfl ?_)
  refine XL.nil ?_
  refine X.condD (p := (dec 1048576 (ar.length + szR rs) : Int) < 0) rfl (fun h1 => ?_) (fun h1 => ?_)
  · refine X.seq ?_
    refine X.region ?_
    refine XL.cons (XOp.assign (.bool (true)) rfl ?_)
    refine XL.nil ?_
    refine X.ret (thenQ_ret (retEnd (L' := L) [.bool (true)] (.bool (true)) (.tmp rfl .nil) rfl (FLe.refl _) (FLe.refl _) (Sub.drop (Sub.drop (Sub.refl _))) ?_))
    exact ⟨rfl, rfl, rfl⟩
  · have hd1 := dec_le2 h1 (by omega)
    have hzrs := szR_le (rs := rs)
    have hirs := hzrs.2
    have hcrs : ∀ i, i < rs.length → (rs.getD i ([], [])).1.length ≤ 4000000 ∧ (rs.getD i ([], [])).2.length ≤ 4000000 := fun i hi => by have := hirs i hi; omega
    have hfrs := flatPair_len rs
    refine X.skip ?_
    refine X.seq ?_
    refine X.region ?_
    refine XL.cons (XOp.loadN [fv, ssv, .int .i64 (p), sv] Try.isAgg56 Try.sizeOf56 rfl rfl (Rd.ownN [] rfl rfl) ?_)
    refine XL.cons (XOp.move (.int .i64 (dec 1048576 (ar.length + szR rs))) rfl ?_)
    refine XL.cons (XOp.call (args := [.agg #[fv, ssv, .int .i64 (p), sv], .int .i64 (dec 1048576 (ar.length + szR rs))]) Try.call22 rfl (szLoop_spec (z := dec 1048576 (ar.length + szR rs)) hf hss hs (hz := (by first | assumption | rfl | omega | (left; simp; done) | (right; simp; done))) (hal := (by first | assumption | rfl | omega | (left; simp; done) | (right; simp; done))) (hrl := (by first | assumption | rfl | omega | (left; simp; done) | (right; simp; done))) (hrb := (by first | assumption | rfl | omega | (left; simp; done) | (right; simp; done))) (hsl := (by first | assumption | rfl | omega | (left; simp; done) | (right; simp; done))) (hsb := (by first | assumption | rfl | omega | (left; simp; done) | (right; simp; done)))) ?_)
    rintro _ _ _ _ ⟨rfl, rfl, rfl⟩
    refine XL.cons (XOp.assign (.int .i64 (dec (dec 1048576 (ar.length + szR rs)) ((f.length + szG lenS ss) + szG lenR s))) rfl ?_)
    refine XL.nil ?_
    refine X.seq ?_
    refine X.seq ?_
    refine X.region ?_
    refine XL.cons (XOp.move (.int .i64 (dec (dec 1048576 (ar.length + szR rs)) ((f.length + szG lenS ss) + szG lenR s))) rfl ?_)
    refine XL.cons (XOp.lss (a := dec (dec 1048576 (ar.length + szR rs)) ((f.length + szG lenS ss) + szG lenR s)) (b := 0) rfl rfl ?_)
    refine XL.nil ?_
    refine X.condD (p := (dec (dec 1048576 (ar.length + szR rs)) ((f.length + szG lenS ss) + szG lenR s) : Int) < 0) rfl (fun h2 => ?_) (fun h2 => ?_)
    · refine X.seq ?_
      refine X.region ?_
      refine XL.cons (XOp.assign (.bool (true)) rfl ?_)
      refine XL.nil ?_
      refine X.ret (thenQ_ret (retEnd (L' := L) [.bool (true)] (.bool (true)) (.tmp rfl .nil) rfl (FLe.refl _) (FLe.refl _) (Sub.drop (Sub.drop (Sub.refl _))) ?_))
      exact ⟨rfl, rfl, rfl⟩
    · have hd2 := dec_le2 h2 (by omega)
      have hzss := szG_le (f := lenS) (l := ss) ((0 : Int), (0 : Int), ([] : List Int))
      have hiss := hzss.2
      have hcss : ∀ i, i < ss.length → (ss.getD i (0, 0, [])).2.2.length ≤ 4000000 := fun i hi => by have h9 := hiss i hi; have h8 : lenS (ss.getD i (0, 0, [])) = (ss.getD i (0, 0, [])).2.2.length := rfl; omega
      have hfss := flatStep_len ss
      have hq9ss : szG lenS ss = ss.length + gTo lenS ss ss.length := rfl
      have hzs := szG_le (f := lenR) (l := s) ([] : List Int)
      have his := hzs.2
      have hcs : ∀ i, i < s.length → (s.getD i []).length ≤ 4000000 := fun i hi => by have h9 := his i hi; have h8 : lenR (s.getD i []) = (s.getD i []).length := rfl; omega
      have hfs := flatRow_len s
      have hq9s : szG lenR s = s.length + gTo lenR s s.length := rfl
      refine X.skip ?_
      refine X.seq ?_
      refine X.drawG [cellsH b2 [fv, ssv, .int .i64 (p), sv] 56, cellsH b1 [arv, rsv] 27] L 3 [[], [], []] [[], [0], []] [[], [], []] (phiG [fun FF us v => v = (.agg #[arv, rsv] : Value), fun FF us v => (.agg #[((aggAt v 0)), ((aggAt v 1))] : Value) = v ∧ (IntsF FF ((aggAt v 0)) ar) ∧ (PairsF FF ((aggAt v 1)) rs), fun FF us v => v = (.agg #[fv, ssv, .int .i64 (p), sv] : Value)]) (ownL [fun us v => [], fun us v => [], fun us v => []]) mixed rfl rfl (by kernel_rfl) (by kernel_rfl) (MonoG.get (MonoG.cons (fun le h => h) (MonoG.cons (fun le h => ⟨h.1, h.2.1.mono le, h.2.2.mono le⟩) (MonoG.cons (fun le h => h) MonoG.nil)))) ?_ ?_
      · refine stepsG.cons (fun vals Fs R leFs hpZ => ?_) ?_
        · replace har := har.mono leFs
          replace hrs := hrs.mono leFs
          replace hf := hf.mono leFs
          replace hss := hss.mono leFs
          replace hs := hs.mono leFs
          refine XG.op (XOp.loadN [arv, rsv] Try.isAgg27 Try.sizeOf27 rfl rfl (Rd.ownN [_] rfl rfl) ?_)
          exact ⟨rfl, rfl⟩
        refine stepsG.cons (fun vals Fs R leFs hpZ => ?_) ?_
        · have e0 : vals 0 = (.agg #[arv, rsv] : Value) := hpZ 0 (by decide)
          replace har := har.mono leFs
          replace hrs := hrs.mono leFs
          replace hf := hf.mono leFs
          replace hss := hss.mono leFs
          replace hs := hs.mono leFs
          rw [(envs_of_sat (l := [(0, (.agg #[arv, rsv] : Value))]) ⟨e0, trivial⟩).symm]
          refine XG.op (XOp.call (args := [.agg #[arv, rsv]]) Try.call10 rfl (toSystem_spec har hrs (hla := (by first | assumption | rfl | omega | (left; simp; done) | (right; simp; done))) (hrl := (by first | assumption | rfl | omega | (left; simp; done) | (right; simp; done))) (hrb := (by first | assumption | rfl | omega | (left; simp; done) | (right; simp; done)))) ?_)
          rintro _ F2 _ le2 ⟨x3, x4, rfl, hr4, hr5, hr6, rfl⟩
          replace har := har.mono le2
          replace hrs := hrs.mono le2
          replace hf := hf.mono le2
          replace hss := hss.mono le2
          replace hs := hs.mono le2
          exact ⟨⟨rfl, hr4, hr5⟩, rfl⟩
        refine stepsG.cons (fun vals Fs R leFs hpZ => ?_) ?_
        · replace har := har.mono leFs
          replace hrs := hrs.mono leFs
          replace hf := hf.mono leFs
          replace hss := hss.mono leFs
          replace hs := hs.mono leFs
          refine XG.op (XOp.loadN [fv, ssv, .int .i64 (p), sv] Try.isAgg56 Try.sizeOf56 rfl rfl (Rd.ownN [] rfl rfl) ?_)
          exact ⟨rfl, rfl⟩
        exact stepsG.nil
      · intro vals F3 le3 hphi
        have e0 : vals 0 = (.agg #[arv, rsv] : Value) := hphi 0 (by decide)
        obtain ⟨e1, f1_1hr1, f1_1hr2⟩ := hphi 1 (by decide)
        have e2 : vals 2 = (.agg #[fv, ssv, .int .i64 (p), sv] : Value) := hphi 2 (by decide)
        generalize hu1 : ((aggAt (vals 1) 0)) = u1 at e0 e1 f1_1hr1 f1_1hr2 e2
        generalize hu2 : ((aggAt (vals 1) 1)) = u2 at e0 e1 f1_1hr1 f1_1hr2 e2
        rw [(envs_of_sat (l := [(0, (.agg #[arv, rsv] : Value)), (1, (.agg #[u1, u2] : Value)), (2, (.agg #[fv, ssv, .int .i64 (p), sv] : Value))]) ⟨e0, (e1).symm, e2, trivial⟩).symm]
        replace har := har.mono le3
        replace hrs := hrs.mono le3
        replace hf := hf.mono le3
        replace hss := hss.mono le3
        replace hs := hs.mono le3
        show XL _ _ _ _ _ _ _ (cellsH b2 [fv, ssv, .int .i64 (p), sv] 56 :: cellsH b1 [arv, rsv] 27 :: L)
        refine XL.cons (XOp.thawL ?_)
        refine id (XOp.call (args := [.agg #[fv, ssv, .int .i64 (p), sv]]) Try.call24 rfl (toLoop_spec hf hss hs (hfl := (by first | assumption | rfl | omega | (left; simp; done) | (right; simp; done))) (hsl := (by first | assumption | rfl | omega | (left; simp; done) | (right; simp; done))) (hsb := (by first | assumption | rfl | omega | (left; simp; done) | (right; simp; done))) (hrl := (by first | assumption | rfl | omega | (left; simp; done) | (right; simp; done))) (hrb := (by first | assumption | rfl | omega | (left; simp; done) | (right; simp; done)))) ?_)
        rintro _ F4 _ le4 ⟨x5, x6, x7, rfl, hr7, hr8, hr9, hr10, rfl⟩
        refine ⟨[intsH 2 x5 f, stepsD 2 81 x6 ss, rowsD 2 22 x7 s], hr10, ?_⟩
        show XL _ _ _ _ _ _ _ (intsH 2 x5 f :: stepsD 2 81 x6 ss :: rowsD 2 22 x7 s :: cellsH b2 [fv, ssv, .int .i64 (p), sv] 56 :: cellsH b1 [arv, rsv] 27 :: L)
        refine XL.cons (XOp.lend [] _ _ rfl (fun F5 le5 hz1 => ?_))
        refine id (XOp.lend [] _ _ rfl (fun F6 le6 hz2 => ?_))
        refine id (XOp.lend [] _ _ rfl (fun F7 le7 hz3 => ?_))
        have hf1 : IntsF _ x5 f := (intsH.fz (xs := f) hz1).mono (FLe.trans le6 le7)
        have hf2 : StepsF _ x6 ss := (stepsD.fz hz2).mono le7
        have hf3 : RowsF _ x7 s := rowsD.fz hz3
        refine id (XOp.call (args := [.agg #[u1, u2], .agg #[x5, x6, .int .i64 (p), x7]]) Try.call27 rfl (sCycleIn_spec ((f1_1hr1.mono (FLe.trans (FLe.trans le5 le6) le7))) ((f1_1hr2.mono (FLe.trans (FLe.trans le5 le6) le7))) hf1 hf2 hf3 (hla := (by first | assumption | rfl | omega | (left; simp; done) | (right; simp; done))) (hlr := (by first | assumption | rfl | omega | (left; simp; done) | (right; simp; done))) (hrb := (by first | assumption | rfl | omega | (left; simp; done) | (right; simp; done))) (hlf := (by first | assumption | rfl | omega | (left; simp; done) | (right; simp; done))) (hlss := (by first | assumption | rfl | omega | (left; simp; done) | (right; simp; done))) (hsb := (by first | assumption | rfl | omega | (left; simp; done) | (right; simp; done))) (hlrow := (by first | assumption | rfl | omega | (left; simp; done) | (right; simp; done))) (hrowb := (by first | assumption | rfl | omega | (left; simp; done) | (right; simp; done)))) ?_)
        rintro _ _ _ _ ⟨rfl, rfl, rfl⟩
        show XL _ _ _ _ _ _ _ (intsH 2 x5 f :: stepsD 2 81 x6 ss :: rowsD 2 22 x7 s :: cellsH b2 [fv, ssv, .int .i64 (p), sv] 56 :: cellsH b1 [arv, rsv] 27 :: L)
        refine XL.cons (XOp.assign (.bool (((sysOk ar rs && loopOkL ar rs f ss p s) && decide (endL f ss = f)))) rfl ?_)
        refine XL.nil ?_
        refine X.seq ?_
        refine X.region ?_
        refine XL.cons (XOp.loadN [arv, rsv] Try.isAgg27 Try.sizeOf27 rfl rfl (Rd.ownN [_, _, _, _] rfl rfl) ?_)
        refine XL.cons (XOp.thawL ?_)
        refine id (XOp.call (args := [.agg #[arv, rsv]]) Try.call10 rfl (toSystem_spec har hrs (hla := (by first | assumption | rfl | omega | (left; simp; done) | (right; simp; done))) (hrl := (by first | assumption | rfl | omega | (left; simp; done) | (right; simp; done))) (hrb := (by first | assumption | rfl | omega | (left; simp; done) | (right; simp; done)))) ?_)
        rintro _ F8 _ le8 ⟨x8, x9, rfl, hr11, hr12, hr13, rfl⟩
        refine ⟨[intsH 2 x8 ar, pairsD 2 115 x9 rs], hr13, ?_⟩
        show XL _ _ _ _ _ _ _ (intsH 2 x8 ar :: pairsD 2 115 x9 rs :: intsH 2 x5 f :: stepsD 2 81 x6 ss :: rowsD 2 22 x7 s :: cellsH b2 [fv, ssv, .int .i64 (p), sv] 56 :: cellsH b1 [arv, rsv] 27 :: L)
        refine XL.cons (XOp.alloc [(.slice none 0 0), (.slice none 0 0)] Try.zeroValue37 rfl ?_)
        intro b3
        refine XL.cons (XOp.storeN (vs := [x8, x9]) [] _ [x8, x9] Try.sizeOf37 rfl rfl rfl (ones_cons (one_sl (IntsF.isSl hr11)) (ones_cons (one_sl (PairsF.isSl hr12)) ones_nil)) rfl rfl rfl ?_)
        refine XL.nil ?_
        refine X.seq ?_
        refine X.region ?_
        refine XL.cons (XOp.loadN [fv, ssv, .int .i64 (p), sv] Try.isAgg56 Try.sizeOf56 rfl rfl (Rd.ownN [_, _, _, _, _, _] rfl rfl) ?_)
        refine XL.cons (XOp.thawL ?_)
        refine id (XOp.call (args := [.agg #[fv, ssv, .int .i64 (p), sv]]) Try.call24 rfl (toLoop_spec hf hss hs (hfl := (by first | assumption | rfl | omega | (left; simp; done) | (right; simp; done))) (hsl := (by first | assumption | rfl | omega | (left; simp; done) | (right; simp; done))) (hsb := (by first | assumption | rfl | omega | (left; simp; done) | (right; simp; done))) (hrl := (by first | assumption | rfl | omega | (left; simp; done) | (right; simp; done))) (hrb := (by first | assumption | rfl | omega | (left; simp; done) | (right; simp; done)))) ?_)
        rintro _ F9 _ le9 ⟨x10, x11, x12, rfl, hr14, hr15, hr16, hr17, rfl⟩
        refine ⟨[intsH 2 x10 f, stepsD 2 81 x11 ss, rowsD 2 22 x12 s], hr17, ?_⟩
        show XL _ _ _ _ _ _ _ (intsH 2 x10 f :: stepsD 2 81 x11 ss :: rowsD 2 22 x12 s :: cellsH b3 [x8, x9] 37 :: intsH 2 x8 ar :: pairsD 2 115 x9 rs :: intsH 2 x5 f :: stepsD 2 81 x6 ss :: rowsD 2 22 x7 s :: cellsH b2 [fv, ssv, .int .i64 (p), sv] 56 :: cellsH b1 [arv, rsv] 27 :: L)
        refine XL.cons (XOp.alloc [(.slice none 0 0), (.slice none 0 0), .int .i64 (0), (.slice none 0 0)] Try.zeroValue61 rfl ?_)
        intro b4
        refine XL.cons (XOp.storeN (vs := [x10, x11, .int .i64 (p), x12]) [] _ [x10, x11, .int .i64 (p), x12] Try.sizeOf61 rfl rfl rfl (ones_cons (one_sl (IntsF.isSl hr14)) (ones_cons (one_sl (StepsF.isSl hr15)) (ones_cons rfl (ones_cons (one_sl (RowsF.isSl hr16)) ones_nil)))) rfl rfl rfl ?_)
        refine XL.nil ?_
        refine X.seq ?_
        refine X.region ?_
        refine XL.cons (XOp.loadN [x8, x9] Try.isAgg37 Try.sizeOf37 rfl rfl (Rd.ownN [_, _, _, _] rfl rfl) ?_)
        refine XL.cons (XOp.loadN [x10, x11, .int .i64 (p), x12] Try.isAgg61 Try.sizeOf61 rfl rfl (Rd.ownN [] rfl rfl) ?_)
        refine XL.cons (XOp.lend [_, _, _, _, _] _ _ rfl (fun F10 le10 hz4 => ?_))
        refine id (XOp.lend [_, _, _, _, _] _ _ rfl (fun F11 le11 hz5 => ?_))
        refine id (XOp.lend [_] _ _ rfl (fun F12 le12 hz6 => ?_))
        refine id (XOp.lend [_] _ _ rfl (fun F13 le13 hz7 => ?_))
        refine id (XOp.lend [_] _ _ rfl (fun F14 le14 hz8 => ?_))
        have hf4 : IntsF _ x8 ar := (intsH.fz (xs := ar) hz4).mono (FLe.trans (FLe.trans (FLe.trans le11 le12) le13) le14)
        have hf5 : PairsF _ x9 rs := (pairsD.fz hz5).mono (FLe.trans (FLe.trans le12 le13) le14)
        have hf6 : IntsF _ x10 f := (intsH.fz (xs := f) hz6).mono (FLe.trans le13 le14)
        have hf7 : StepsF _ x11 ss := (stepsD.fz hz7).mono le14
        have hf8 : RowsF _ x12 s := rowsD.fz hz8
        refine id (XOp.call (args := [.agg #[x8, x9], .agg #[x10, x11, .int .i64 (p), x12]]) Try.call28 rfl (CycleIn_spec hf4 hf5 hf6 hf7 hf8 (hlf := (by first | assumption | rfl | omega | (left; simp; done) | (right; simp; done))) (hsb := (by first | assumption | rfl | omega | (left; simp; done) | (right; simp; done))) (hlss := (by first | assumption | rfl | omega | (left; simp; done) | (right; simp; done)))) ?_)
        rintro _ _ _ _ ⟨rfl, rfl, rfl⟩
        show XL _ _ _ _ _ _ _ (intsH 2 x8 ar :: pairsD 2 115 x9 rs :: intsH 2 x10 f :: stepsD 2 81 x11 ss :: rowsD 2 22 x12 s :: cellsH b4 [x10, x11, .int .i64 (p), x12] 61 :: cellsH b3 [x8, x9] 37 :: intsH 2 x5 f :: stepsD 2 81 x6 ss :: rowsD 2 22 x7 s :: cellsH b2 [fv, ssv, .int .i64 (p), sv] 56 :: cellsH b1 [arv, rsv] 27 :: L)
        refine XL.cons (XOp.assign (.bool (((sysOk ar rs && loopOkL ar rs f ss p s) && decide (endL f ss = f)))) rfl ?_)
        refine XL.nil ?_
        refine X.seq ?_
        refine X.seq ?_
        refine X.region ?_
        refine XL.cons (XOp.move (.bool (((sysOk ar rs && loopOkL ar rs f ss p s) && decide (endL f ss = f)))) rfl ?_)
        refine XL.cons (XOp.move (.bool (((sysOk ar rs && loopOkL ar rs f ss p s) && decide (endL f ss = f)))) rfl ?_)
        refine XL.cons (XOp.neB (a := ((sysOk ar rs && loopOkL ar rs f ss p s) && decide (endL f ss = f))) (b := ((sysOk ar rs && loopOkL ar rs f ss p s) && decide (endL f ss = f))) Try.runUnderlying4 rfl rfl ?_)
        refine XL.nil ?_
        refine X.condD (p := (((sysOk ar rs && loopOkL ar rs f ss p s) && decide (endL f ss = f))) ≠ (((sysOk ar rs && loopOkL ar rs f ss p s) && decide (endL f ss = f)))) rfl (fun h3 => ?_) (fun h3 => ?_)
        · exact absurd rfl h3
        · refine X.skip ?_
          refine X.seq ?_
          refine X.seq ?_
          refine X.drawG [intsH 2 x8 ar, pairsD 2 115 x9 rs, intsH 2 x10 f, stepsD 2 81 x11 ss, rowsD 2 22 x12 s, cellsH b4 [x10, x11, .int .i64 (p), x12] 61, cellsH b3 [x8, x9] 37, intsH 2 x5 f, stepsD 2 81 x6 ss, rowsD 2 22 x7 s, cellsH b2 [fv, ssv, .int .i64 (p), sv] 56, cellsH b1 [arv, rsv] 27] L 3 [[], [], []] [[], [], [1]] [[], [], []] (phiG [fun FF us v => v = (.agg #[x8, x9] : Value), fun FF us v => v = (.agg #[arv, rsv] : Value), fun FF us v => (.agg #[((aggAt v 0)), ((aggAt v 1))] : Value) = v ∧ (IntsF FF ((aggAt v 0)) ar) ∧ (PairsF FF ((aggAt v 1)) rs)]) (ownL [fun us v => [], fun us v => [], fun us v => []]) mixed rfl rfl (by kernel_rfl) (by kernel_rfl) (MonoG.get (MonoG.cons (fun le h => h) (MonoG.cons (fun le h => h) (MonoG.cons (fun le h => ⟨h.1, h.2.1.mono le, h.2.2.mono le⟩) MonoG.nil)))) ?_ ?_
          · refine stepsG.cons (fun vals Fs R leFs hpZ => ?_) ?_
            · replace har := har.mono leFs
              replace hrs := hrs.mono leFs
              replace hf := hf.mono leFs
              replace hss := hss.mono leFs
              replace hs := hs.mono leFs
              replace f1_1hr1 := f1_1hr1.mono leFs
              replace f1_1hr2 := f1_1hr2.mono leFs
              refine XG.op (XOp.loadN [x8, x9] Try.isAgg37 Try.sizeOf37 rfl rfl (Rd.ownN [_, _, _, _, _, _] rfl rfl) ?_)
              exact ⟨rfl, rfl⟩
            refine stepsG.cons (fun vals Fs R leFs hpZ => ?_) ?_
            · replace har := har.mono leFs
              replace hrs := hrs.mono leFs
              replace hf := hf.mono leFs
              replace hss := hss.mono leFs
              replace hs := hs.mono leFs
              replace f1_1hr1 := f1_1hr1.mono leFs
              replace f1_1hr2 := f1_1hr2.mono leFs
              refine XG.op (XOp.loadN [arv, rsv] Try.isAgg27 Try.sizeOf27 rfl rfl (Rd.ownN [_, _, _, _, _, _, _, _, _, _, _] rfl rfl) ?_)
              exact ⟨rfl, rfl⟩
            refine stepsG.cons (fun vals Fs R leFs hpZ => ?_) ?_
            · have e1 : vals 1 = (.agg #[arv, rsv] : Value) := hpZ 1 (by decide)
              replace har := har.mono leFs
              replace hrs := hrs.mono leFs
              replace hf := hf.mono leFs
              replace hss := hss.mono leFs
              replace hs := hs.mono leFs
              replace f1_1hr1 := f1_1hr1.mono leFs
              replace f1_1hr2 := f1_1hr2.mono leFs
              rw [(envs_of_sat (l := [(1, (.agg #[arv, rsv] : Value))]) ⟨e1, trivial⟩).symm]
              refine XG.op (XOp.call (args := [.agg #[arv, rsv]]) Try.call10 rfl (toSystem_spec har hrs (hla := (by first | assumption | rfl | omega | (left; simp; done) | (right; simp; done))) (hrl := (by first | assumption | rfl | omega | (left; simp; done) | (right; simp; done))) (hrb := (by first | assumption | rfl | omega | (left; simp; done) | (right; simp; done)))) ?_)
              rintro _ F16 _ le16 ⟨x15, x16, rfl, hr21, hr22, hr23, rfl⟩
              replace har := har.mono le16
              replace hrs := hrs.mono le16
              replace hf := hf.mono le16
              replace hss := hss.mono le16
              replace hs := hs.mono le16
              replace f1_1hr1 := f1_1hr1.mono le16
              replace f1_1hr2 := f1_1hr2.mono le16
              exact ⟨⟨rfl, hr21, hr22⟩, rfl⟩
            exact stepsG.nil
          · intro vals F17 le17 hphi
            have e0 : vals 0 = (.agg #[x8, x9] : Value) := hphi 0 (by decide)
            have e1 : vals 1 = (.agg #[arv, rsv] : Value) := hphi 1 (by decide)
            obtain ⟨e2, f2_2hr1, f2_2hr2⟩ := hphi 2 (by decide)
            generalize hu3 : ((aggAt (vals 2) 0)) = u3 at e0 e1 e2 f2_2hr1 f2_2hr2
            generalize hu4 : ((aggAt (vals 2) 1)) = u4 at e0 e1 e2 f2_2hr1 f2_2hr2
            rw [(envs_of_sat (l := [(0, (.agg #[x8, x9] : Value)), (1, (.agg #[arv, rsv] : Value)), (2, (.agg #[u3, u4] : Value))]) ⟨e0, e1, (e2).symm, trivial⟩).symm]
            replace har := har.mono le17
            replace hrs := hrs.mono le17
            replace hf := hf.mono le17
            replace hss := hss.mono le17
            replace hs := hs.mono le17
            replace f1_1hr1 := f1_1hr1.mono le17
            replace f1_1hr2 := f1_1hr2.mono le17
            show XL _ _ _ _ _ _ _ (intsH 2 x8 ar :: pairsD 2 115 x9 rs :: intsH 2 x10 f :: stepsD 2 81 x11 ss :: rowsD 2 22 x12 s :: cellsH b4 [x10, x11, .int .i64 (p), x12] 61 :: cellsH b3 [x8, x9] 37 :: intsH 2 x5 f :: stepsD 2 81 x6 ss :: rowsD 2 22 x7 s :: cellsH b2 [fv, ssv, .int .i64 (p), sv] 56 :: cellsH b1 [arv, rsv] 27 :: L)
            refine XL.cons (XOp.lend [] _ _ rfl (fun F18 le18 hz9 => ?_))
            refine id (XOp.lend [] _ _ rfl (fun F19 le19 hz10 => ?_))
            have hf9 : IntsF _ x8 ar := (intsH.fz (xs := ar) hz9).mono le19
            have hf10 : PairsF _ x9 rs := pairsD.fz hz10
            refine id (XOp.call (args := [.agg #[x8, x9], .agg #[u3, u4]]) Try.call14 rfl (eqSystem_spec hf9 hf10 ((f2_2hr1.mono (FLe.trans le18 le19))) ((f2_2hr2.mono (FLe.trans le18 le19))) (hcl := (by first | assumption | rfl | omega | (left; simp; done) | (right; simp; done))) (hal := (by first | assumption | rfl | omega | (left; simp; done) | (right; simp; done))) (hbd := (by first | assumption | rfl | omega | (left; simp; done) | (right; simp; done)))) ?_)
            rintro _ _ _ _ ⟨rfl, rfl, rfl⟩
            show XL _ _ _ _ _ _ _ (intsH 2 x8 ar :: pairsD 2 115 x9 rs :: intsH 2 x10 f :: stepsD 2 81 x11 ss :: rowsD 2 22 x12 s :: cellsH b4 [x10, x11, .int .i64 (p), x12] 61 :: cellsH b3 [x8, x9] 37 :: intsH 2 x5 f :: stepsD 2 81 x6 ss :: rowsD 2 22 x7 s :: cellsH b2 [fv, ssv, .int .i64 (p), sv] 56 :: cellsH b1 [arv, rsv] 27 :: L)
            refine XL.cons (XOp.notD (p := ar = ar ∧ rs = rs) rfl ?_)
            refine XL.nil ?_
            refine X.condD (p := ¬(ar = ar ∧ rs = rs)) rfl (fun h4 => ?_) (fun h4 => ?_)
            · exact absurd (by first | rfl | exact ⟨rfl, rfl⟩ | exact ⟨⟨rfl, rfl⟩, rfl, rfl⟩ | simp) h4
            · refine X.skip ?_
              refine X.seq ?_
              refine X.seq ?_
              refine X.drawG [intsH 2 x8 ar, pairsD 2 115 x9 rs, intsH 2 x10 f, stepsD 2 81 x11 ss, rowsD 2 22 x12 s, cellsH b4 [x10, x11, .int .i64 (p), x12] 61, cellsH b3 [x8, x9] 37, intsH 2 x5 f, stepsD 2 81 x6 ss, rowsD 2 22 x7 s, cellsH b2 [fv, ssv, .int .i64 (p), sv] 56, cellsH b1 [arv, rsv] 27] L 3 [[], [], []] [[], [], [1]] [[], [], []] (phiG [fun FF us v => v = (.agg #[x10, x11, .int .i64 (p), x12] : Value), fun FF us v => v = (.agg #[fv, ssv, .int .i64 (p), sv] : Value), fun FF us v => (.agg #[((aggAt v 0)), ((aggAt v 1)), .int .i64 (p), ((aggAt v 3))] : Value) = v ∧ (IntsF FF ((aggAt v 0)) f) ∧ (StepsF FF ((aggAt v 1)) ss) ∧ (RowsF FF ((aggAt v 3)) s)]) (ownL [fun us v => [], fun us v => [], fun us v => []]) mixed rfl rfl (by kernel_rfl) (by kernel_rfl) (MonoG.get (MonoG.cons (fun le h => h) (MonoG.cons (fun le h => h) (MonoG.cons (fun le h => ⟨h.1, h.2.1.mono le, h.2.2.1.mono le, h.2.2.2.mono le⟩) MonoG.nil)))) ?_ ?_
              · refine stepsG.cons (fun vals Fs R leFs hpZ => ?_) ?_
                · replace har := har.mono leFs
                  replace hrs := hrs.mono leFs
                  replace hf := hf.mono leFs
                  replace hss := hss.mono leFs
                  replace hs := hs.mono leFs
                  replace f1_1hr1 := f1_1hr1.mono leFs
                  replace f1_1hr2 := f1_1hr2.mono leFs
                  replace f2_2hr1 := f2_2hr1.mono leFs
                  replace f2_2hr2 := f2_2hr2.mono leFs
                  refine XG.op (XOp.loadN [x10, x11, .int .i64 (p), x12] Try.isAgg61 Try.sizeOf61 rfl rfl (Rd.ownN [_, _, _, _, _] rfl rfl) ?_)
                  exact ⟨rfl, rfl⟩
                refine stepsG.cons (fun vals Fs R leFs hpZ => ?_) ?_
                · replace har := har.mono leFs
                  replace hrs := hrs.mono leFs
                  replace hf := hf.mono leFs
                  replace hss := hss.mono leFs
                  replace hs := hs.mono leFs
                  replace f1_1hr1 := f1_1hr1.mono leFs
                  replace f1_1hr2 := f1_1hr2.mono leFs
                  replace f2_2hr1 := f2_2hr1.mono leFs
                  replace f2_2hr2 := f2_2hr2.mono leFs
                  refine XG.op (XOp.loadN [fv, ssv, .int .i64 (p), sv] Try.isAgg56 Try.sizeOf56 rfl rfl (Rd.ownN [_, _, _, _, _, _, _, _, _, _] rfl rfl) ?_)
                  exact ⟨rfl, rfl⟩
                refine stepsG.cons (fun vals Fs R leFs hpZ => ?_) ?_
                · have e1 : vals 1 = (.agg #[fv, ssv, .int .i64 (p), sv] : Value) := hpZ 1 (by decide)
                  replace har := har.mono leFs
                  replace hrs := hrs.mono leFs
                  replace hf := hf.mono leFs
                  replace hss := hss.mono leFs
                  replace hs := hs.mono leFs
                  replace f1_1hr1 := f1_1hr1.mono leFs
                  replace f1_1hr2 := f1_1hr2.mono leFs
                  replace f2_2hr1 := f2_2hr1.mono leFs
                  replace f2_2hr2 := f2_2hr2.mono leFs
                  rw [(envs_of_sat (l := [(1, (.agg #[fv, ssv, .int .i64 (p), sv] : Value))]) ⟨e1, trivial⟩).symm]
                  refine XG.op (XOp.call (args := [.agg #[fv, ssv, .int .i64 (p), sv]]) Try.call24 rfl (toLoop_spec hf hss hs (hfl := (by first | assumption | rfl | omega | (left; simp; done) | (right; simp; done))) (hsl := (by first | assumption | rfl | omega | (left; simp; done) | (right; simp; done))) (hsb := (by first | assumption | rfl | omega | (left; simp; done) | (right; simp; done))) (hrl := (by first | assumption | rfl | omega | (left; simp; done) | (right; simp; done))) (hrb := (by first | assumption | rfl | omega | (left; simp; done) | (right; simp; done)))) ?_)
                  rintro _ F21 _ le21 ⟨x20, x21, x22, rfl, hr28, hr29, hr30, hr31, rfl⟩
                  replace har := har.mono le21
                  replace hrs := hrs.mono le21
                  replace hf := hf.mono le21
                  replace hss := hss.mono le21
                  replace hs := hs.mono le21
                  replace f1_1hr1 := f1_1hr1.mono le21
                  replace f1_1hr2 := f1_1hr2.mono le21
                  replace f2_2hr1 := f2_2hr1.mono le21
                  replace f2_2hr2 := f2_2hr2.mono le21
                  exact ⟨⟨rfl, hr28, hr29, hr30⟩, rfl⟩
                exact stepsG.nil
              · intro vals F22 le22 hphi
                have e0 : vals 0 = (.agg #[x10, x11, .int .i64 (p), x12] : Value) := hphi 0 (by decide)
                have e1 : vals 1 = (.agg #[fv, ssv, .int .i64 (p), sv] : Value) := hphi 1 (by decide)
                obtain ⟨e2, f2_3hr1, f2_3hr2, f2_3hr3⟩ := hphi 2 (by decide)
                generalize hu5 : ((aggAt (vals 2) 0)) = u5 at e0 e1 e2 f2_3hr1 f2_3hr2 f2_3hr3
                generalize hu6 : ((aggAt (vals 2) 1)) = u6 at e0 e1 e2 f2_3hr1 f2_3hr2 f2_3hr3
                generalize hu7 : ((aggAt (vals 2) 3)) = u7 at e0 e1 e2 f2_3hr1 f2_3hr2 f2_3hr3
                rw [(envs_of_sat (l := [(0, (.agg #[x10, x11, .int .i64 (p), x12] : Value)), (1, (.agg #[fv, ssv, .int .i64 (p), sv] : Value)), (2, (.agg #[u5, u6, .int .i64 (p), u7] : Value))]) ⟨e0, e1, (e2).symm, trivial⟩).symm]
                replace har := har.mono le22
                replace hrs := hrs.mono le22
                replace hf := hf.mono le22
                replace hss := hss.mono le22
                replace hs := hs.mono le22
                replace f1_1hr1 := f1_1hr1.mono le22
                replace f1_1hr2 := f1_1hr2.mono le22
                replace f2_2hr1 := f2_2hr1.mono le22
                replace f2_2hr2 := f2_2hr2.mono le22
                show XL _ _ _ _ _ _ _ (intsH 2 x8 ar :: pairsD 2 115 x9 rs :: intsH 2 x10 f :: stepsD 2 81 x11 ss :: rowsD 2 22 x12 s :: cellsH b4 [x10, x11, .int .i64 (p), x12] 61 :: cellsH b3 [x8, x9] 37 :: intsH 2 x5 f :: stepsD 2 81 x6 ss :: rowsD 2 22 x7 s :: cellsH b2 [fv, ssv, .int .i64 (p), sv] 56 :: cellsH b1 [arv, rsv] 27 :: L)
                refine XL.cons (XOp.lend [_, _] _ _ rfl (fun F23 le23 hz11 => ?_))
                refine id (XOp.lend [_, _] _ _ rfl (fun F24 le24 hz12 => ?_))
                refine id (XOp.lend [_, _] _ _ rfl (fun F25 le25 hz13 => ?_))
                have hf11 : IntsF _ x10 f := (intsH.fz (xs := f) hz11).mono (FLe.trans le24 le25)
                have hf12 : StepsF _ x11 ss := (stepsD.fz hz12).mono le25
                have hf13 : RowsF _ x12 s := rowsD.fz hz13
                refine id (XOp.call (args := [.agg #[x10, x11, .int .i64 (p), x12], .agg #[u5, u6, .int .i64 (p), u7]]) Try.call26 rfl (eqLoop_spec hf11 hf12 hf13 ((f2_3hr1.mono (FLe.trans (FLe.trans le23 le24) le25))) ((f2_3hr2.mono (FLe.trans (FLe.trans le23 le24) le25))) ((f2_3hr3.mono (FLe.trans (FLe.trans le23 le24) le25))) (hfl := (by first | assumption | rfl | omega | (left; simp; done) | (right; simp; done))) (hal := (by first | assumption | rfl | omega | (left; simp; done) | (right; simp; done))) (hbd := (by first | assumption | rfl | omega | (left; simp; done) | (right; simp; done))) (hsl := (by first | assumption | rfl | omega | (left; simp; done) | (right; simp; done))) (hsb := (by first | assumption | rfl | omega | (left; simp; done) | (right; simp; done)))) ?_)
                rintro _ _ _ _ ⟨rfl, rfl, rfl⟩
                show XL _ _ _ _ _ _ _ (intsH 2 x10 f :: stepsD 2 81 x11 ss :: rowsD 2 22 x12 s :: intsH 2 x8 ar :: pairsD 2 115 x9 rs :: cellsH b4 [x10, x11, .int .i64 (p), x12] 61 :: cellsH b3 [x8, x9] 37 :: intsH 2 x5 f :: stepsD 2 81 x6 ss :: rowsD 2 22 x7 s :: cellsH b2 [fv, ssv, .int .i64 (p), sv] 56 :: cellsH b1 [arv, rsv] 27 :: L)
                refine XL.cons (XOp.notD (p := (f = f ∧ ss = ss) ∧ p = p ∧ s = s) rfl ?_)
                refine XL.nil ?_
                refine X.condD (p := ¬((f = f ∧ ss = ss) ∧ p = p ∧ s = s)) rfl (fun h5 => ?_) (fun h5 => ?_)
                · exact absurd (by first | rfl | exact ⟨rfl, rfl⟩ | exact ⟨⟨rfl, rfl⟩, rfl, rfl⟩ | simp) h5
                · refine X.skip ?_
                  refine X.seq ?_
                  refine X.region ?_
                  refine XL.cons (XOp.assign (.bool (true)) rfl ?_)
                  refine XL.nil ?_
                  refine X.ret (retEnd (L' := L) [.bool (true)] (.bool (true)) (.tmp rfl .nil) rfl (FLe.refl _) (FLe.trans (FLe.trans le3 le17) le22) (Sub.drop (Sub.drop (Sub.drop (Sub.drop (Sub.drop (Sub.drop (Sub.drop (Sub.drop (Sub.drop (Sub.drop (Sub.drop (Sub.drop (Sub.refl _))))))))))))) ?_)
                  exact ⟨rfl, rfl, rfl⟩
end Go.Proofs.Ytbooflphoaaoeaa
