/-
  Walks: substitutions that are right, loops; the statements LoopOk, CycleIn.
-/
import Derived.Test.YtacbenjncjcglaaGreatQhFt
import Derived.Test.YtacbenjncjcglaaGreatP11
set_option linter.unusedSimpArgs false
set_option linter.unusedVariables false
namespace Go.Proofs.YtacbenjncjcglaaGreat
open Go X M

/- impl.SubstOk -/
theorem SubstOk_spec {F : FH} {L : List HP} {arv : Value} {ar : List Int} (har : IntsF F arv ar) {sv : Value} {s : List (List Int)} (hs : RowsF F sv s) :
    Does Tryz.prog 46 [.agg #[arv], .agg #[sv]] F (L) (fun v F' L' => (.bool (substOk ar s) : Value) = v ∧ F = F' ∧ L = L') := by
  refine Does.of_X Tryz.func46 rfl rfl rfl ?_
  refine X.seq ?_
  refine X.region ?_
  refine XL.cons (XOp.box [arv] rfl rfl ?_)
  intro b1
  refine XL.cons (XOp.box [sv] rfl rfl ?_)
  intro b2
  refine XL.cons (XOp.assign (.bool (false)) rfl ?_)
  refine XL.nil ?_
  refine X.seq ?_
  refine X.seq ?_
  refine X.region ?_
  refine XL.cons (XOp.loadN [arv] Tryz.isAgg42 Tryz.sizeOf42 rfl rfl (Rd.ownN [_] rfl rfl) ?_)
  refine XL.cons (XOp.call (args := [.agg #[arv]]) Tryz.call89 rfl (SigOk_spec har) ?_)
  rintro _ _ _ _ ⟨rfl, rfl, rfl⟩
  refine XL.cons (XOp.notB (b := sigOk ar) rfl ?_)
  refine XL.cons (XOp.move (.bool (!(sigOk ar))) rfl ?_)
  by_cases h1 : (!(sigOk ar)) = true
  · refine XL.no (t := 10) rfl (congrArg Value.bool h1) ?_
    refine XL.no (t := 10) rfl (congrArg Value.bool h1) ?_
    refine XL.no (t := 10) rfl (congrArg Value.bool h1) ?_
    refine XL.no (t := 10) rfl (congrArg Value.bool h1) ?_
    refine XL.cons (XOp.pickT (.bool (true)) (congrArg Value.bool h1) rfl ?_)
    refine XL.nil ?_
    refine X.condT rfl ?_
    refine X.seq ?_
    refine X.region ?_
    refine XL.cons (XOp.assign (.bool (false)) rfl ?_)
    refine XL.nil ?_
    refine X.ret (thenQ_ret (retEnd (L' := L) [.bool (false)] (.bool (false)) (.tmp rfl .nil) rfl (FLe.refl _) (FLe.refl _) (Sub.drop (Sub.drop (Sub.refl _))) ?_))
    exact ⟨(congrArg Value.bool (substOk_false (fun h => by have := h.1; have := h.2.1; simp_all <;> omega))), rfl, rfl⟩
  · rw [Bool.not_eq_true] at h1
    refine XL.yes (t := 10) rfl (congrArg Value.bool h1) (XOp.fieldP (b := b2) (0) Tryz.runUnderlying48 rfl Tryz.sizeOf31 (by decide) rfl rfl ?_)
    refine XL.yes (t := 10) rfl (congrArg Value.bool h1) (XOp.load1 (v := sv) Tryz.isAgg31 rfl (Rd.own [] rfl rfl) ?_)
    refine XL.yes (t := 10) rfl (congrArg Value.bool h1) (XOp.lenS (v := sv) (n := (s).length) Tryz.runUnderlying31 rfl hs.slv ?_)
    refine XL.yes (t := 10) rfl (congrArg Value.bool h1) (XOp.gtr (a := (((s).length : Nat) : Int)) (b := 24) rfl rfl ?_)
    refine XL.cons (XOp.pickF (.bool (decide (((((s).length : Nat) : Int) : Int) > 24))) (congrArg Value.bool h1) rfl ?_)
    refine XL.nil ?_
    refine X.condD (p := ((((s).length : Nat) : Int) : Int) > 24) rfl (fun h2 => ?_) (fun h2 => ?_)
    · refine X.seq ?_
      refine X.region ?_
      refine XL.cons (XOp.assign (.bool (false)) rfl ?_)
      refine XL.nil ?_
      refine X.ret (thenQ_ret (retEnd (L' := L) [.bool (false)] (.bool (false)) (.tmp rfl .nil) rfl (FLe.refl _) (FLe.refl _) (Sub.drop (Sub.drop (Sub.refl _))) ?_))
      exact ⟨(congrArg Value.bool (substOk_false (fun h => by have := h.1; have := h.2.1; simp_all <;> omega))), rfl, rfl⟩
    · refine X.skip ?_
      refine X.seq ?_
      refine X.seq ?_
      refine X.region ?_
      refine XL.cons (XOp.fieldP (b := b2) (0) Tryz.runUnderlying48 rfl Tryz.sizeOf31 (by decide) rfl rfl ?_)
      refine XL.cons (XOp.load1 (v := sv) Tryz.isAgg31 rfl (Rd.own [] rfl rfl) ?_)
      refine XL.cons (XOp.lenS (v := sv) (n := (s).length) Tryz.runUnderlying31 rfl hs.slv ?_)
      refine XL.cons (XOp.move (.int .i64 (0)) rfl ?_)
      refine XL.nil ?_
      refine X.block ?_
      refine X.loop (α := Nat) (fun k => [(2, ptr b1 0), (17, sv), (18, .int .i64 ((((s).length : Nat) : Int))), (19, .int .i64 (((k : Nat) : Int)))]) (fun k => cellsH b2 [sv] 48 :: cellsH b1 [arv] 42 :: L) (fun k F' => F = F' ∧ (k ≤ s.length) ∧ (∀ i, i < k → s.getD i [] = [] ∨ termOk ar (s.getD i []) = true)) (fun k => s.length - k) 0 ⟨rfl, rfl, rfl, rfl, trivial⟩ (Sub.cons (Sub.cons (Sub.refl _))) ⟨rfl, (by (try dsimp only) <;> omega), (fun i hi => absurd hi (by omega))⟩ ?_
      rintro k rE _ _ ⟨rfl, hk, hall⟩
      show X _ _ _ _ (envs [(2, ptr b1 0), (17, sv), (18, .int .i64 ((((s).length : Nat) : Int))), (19, .int .i64 (((k : Nat) : Int)))] rE) _ (cellsH b2 [sv] 48 :: cellsH b1 [arv] 42 :: L)
      refine X.seq ?_
      refine X.region ?_
      refine XL.cons (XOp.lss (a := ((k : Nat) : Int)) (b := (((s).length : Nat) : Int)) rfl rfl ?_)
      refine XL.nil ?_
      refine X.seq ?_
      refine X.condD (p := (((k : Nat) : Int) : Int) < (((s).length : Nat) : Int)) rfl (fun h3 => ?_) (fun h3 => ?_)
      · refine X.skip ?_
        refine X.seq ?_
        refine X.block ?_
        refine X.seq ?_
        refine X.region ?_
        refine XL.cons (XOp.indexS (v := sv) (i := ((k : Nat) : Int)) (n := (s).length) k Tryz.runUnderlying31 Tryz.sizeOf22 rfl rfl rfl hs.slv (by omega) (Nat.mul_one _) ?_)
        obtain ⟨a1, ha1, hr1⟩ := hs.rd (i := k) (by omega)
        refine XL.cons (XOp.load1 (v := a1) Tryz.isAgg22 rfl (hr1 _) ?_)
        refine XL.cons (XOp.assign (a1) rfl ?_)
        refine XL.nil ?_
        refine X.seq ?_
        refine X.region ?_
        refine XL.cons (XOp.move (a1) rfl ?_)
        refine XL.cons (XOp.lenS (v := a1) (n := ((s.getD k [])).length) Tryz.runUnderlying22 rfl ha1.slv ?_)
        refine XL.cons (XOp.gtr (a := ((((s.getD k [])).length : Nat) : Int)) (b := 0) rfl rfl ?_)
        refine XL.cons (XOp.move (.bool (decide ((((((s.getD k [])).length : Nat) : Int) : Int) > 0))) rfl ?_)
        by_cases h4 : (((((s.getD k [])).length : Nat) : Int) : Int) > 0
        · refine XL.yes (t := 26) rfl (congrArg Value.bool (decide_eq_true h4)) (XOp.loadN [arv] Tryz.isAgg42 Tryz.sizeOf42 rfl rfl (Rd.ownN [_] rfl rfl) ?_)
          refine XL.yes (t := 26) rfl (congrArg Value.bool (decide_eq_true h4)) (XOp.move (a1) rfl ?_)
          refine XL.yes (t := 26) rfl (congrArg Value.bool (decide_eq_true h4)) (XOp.call (args := [.agg #[arv], a1]) Tryz.call74 rfl (TermOk_spec har ha1) ?_)
          rintro _ _ _ _ ⟨rfl, rfl, rfl⟩
          refine XL.yes (t := 26) rfl (congrArg Value.bool (decide_eq_true h4)) (XOp.notB (b := termOk ar ((s.getD k []))) rfl ?_)
          refine XL.cons (XOp.pickT (.bool (!(termOk ar ((s.getD k []))))) (congrArg Value.bool (decide_eq_true h4)) rfl ?_)
          refine XL.nil ?_
          refine X.cond (t := !(termOk ar ((s.getD k [])))) rfl (fun h5 => ?_) (fun h5 => ?_)
          · refine X.seq ?_
            refine X.region ?_
            refine XL.cons (XOp.assign (.bool (false)) rfl ?_)
            refine XL.nil ?_
            refine X.ret (blockQ_ret (thenQ_ret (thenQ_ret (blockQ_ret (thenQ_ret (retEnd (L' := L) [.bool (false)] (.bool (false)) (.tmp rfl .nil) rfl (FLe.refl _) (FLe.refl _) (Sub.drop (Sub.drop (Sub.refl _))) ?_))))))
            exact ⟨(congrArg Value.bool (substOk_false (fun h => by have h9 := h.2.2 k (by omega); rcases h9 with h9 | h9; (have := congrArg List.length h9; simp only [List.length_nil] at this; omega); simp_all))), rfl, rfl⟩
          · refine X.skip ?_
            refine X.region ?_
            refine XL.cons (XOp.addR (a := ((k : Nat) : Int)) (b := 1) (((k + 1 : Nat) : Int)) rfl rfl (by omega) (by omega) ?_)
            refine XL.cons (XOp.move (.int .i64 (((k + 1 : Nat) : Int))) rfl ?_)
            refine XL.nil ?_
            exact ⟨k + 1, _, FLe.refl _, (FLe.refl _), ⟨rfl, rfl, rfl, rfl, trivial⟩, (Sub.cons (Sub.cons (Sub.refl _))), ⟨rfl, (by (try dsimp only) <;> omega), (fun i hi => (Nat.lt_or_ge i k).elim (fun h => hall i h) (fun h => by obtain rfl : i = k := (by omega); first | exact .inr (by assumption) | exact .inl (len_nil (by assumption)) | (have := len_nil (by assumption); simp_all) | simp_all))⟩, (by omega)⟩
        · refine XL.no (t := 26) rfl (congrArg Value.bool (decide_eq_false h4)) ?_
          refine XL.no (t := 26) rfl (congrArg Value.bool (decide_eq_false h4)) ?_
          refine XL.no (t := 26) rfl (congrArg Value.bool (decide_eq_false h4)) ?_
          refine XL.no (t := 26) rfl (congrArg Value.bool (decide_eq_false h4)) ?_
          refine XL.cons (XOp.pickF (.bool (false)) (congrArg Value.bool (decide_eq_false h4)) rfl ?_)
          refine XL.nil ?_
          refine X.condF rfl ?_
          refine X.skip ?_
          refine X.region ?_
          refine XL.cons (XOp.addR (a := ((k : Nat) : Int)) (b := 1) (((k + 1 : Nat) : Int)) rfl rfl (by omega) (by omega) ?_)
          refine XL.cons (XOp.move (.int .i64 (((k + 1 : Nat) : Int))) rfl ?_)
          refine XL.nil ?_
          exact ⟨k + 1, _, FLe.refl _, (FLe.refl _), ⟨rfl, rfl, rfl, rfl, trivial⟩, (Sub.cons (Sub.cons (Sub.refl _))), ⟨rfl, (by (try dsimp only) <;> omega), (fun i hi => (Nat.lt_or_ge i k).elim (fun h => hall i h) (fun h => by obtain rfl : i = k := (by omega); first | exact .inr (by assumption) | exact .inl (len_nil (by assumption)) | (have := len_nil (by assumption); simp_all) | simp_all))⟩, (by omega)⟩
      · refine X.exit (thenQ_exit (thenQ_exit (blockQ_exit ?_)))
        refine X.seq ?_
        refine X.region ?_
        refine XL.cons (XOp.assign (.bool (true)) rfl ?_)
        refine XL.nil ?_
        refine X.ret (retEnd (L' := L) [.bool (true)] (.bool (true)) (.tmp rfl .nil) rfl (FLe.refl _) (FLe.refl _) (Sub.drop (Sub.drop (Sub.refl _))) ?_)
        exact ⟨(congrArg Value.bool (substOk_iff.2 ⟨by simp_all, by omega, fun i hi => hall i (by omega)⟩)), rfl, rfl⟩

/- spec.SubstOk -/
theorem sSubstOk_spec {F : FH} {L : List HP} {arv : Value} {ar : List Int} (har : IntsF F arv ar) {sv : Value} {s : List (List Int)} (hs : RowsF F sv s) (hla : ar.length ≤ 4000000) (hsl : s.length ≤ 4000000) (hsb : ∀ i, i < s.length → (s.getD i []).length ≤ 4000000) :
    Does Tryz.prog 38 [.agg #[arv], .agg #[sv]] F (L) (fun v F' L' => (.bool (substOk ar s) : Value) = v ∧ F = F' ∧ L = L') := by
  refine Does.of_X Tryz.func38 rfl rfl rfl ?_
  refine X.seq ?_
  refine X.region ?_
  refine XL.cons (XOp.box [arv] rfl rfl ?_)
  intro b1
  refine XL.cons (XOp.box [sv] rfl rfl ?_)
  intro b2
  refine XL.cons (XOp.assign (.bool (false)) rfl ?_)
  refine XL.nil ?_
  refine X.seq ?_
  refine X.seq ?_
  refine X.region ?_
  refine XL.cons (XOp.loadN [arv] Tryz.isAgg42 Tryz.sizeOf42 rfl rfl (Rd.ownN [_] rfl rfl) ?_)
  refine XL.cons (XOp.call (args := [.agg #[arv]]) Tryz.call84 rfl (sSigOk_spec har (hla := (by first | assumption | rfl | omega | (left; simp; done) | (right; simp; done)))) ?_)
  rintro _ _ _ _ ⟨rfl, rfl, rfl⟩
  refine XL.cons (XOp.notB (b := sigOk ar) rfl ?_)
  refine XL.cons (XOp.move (.bool (!(sigOk ar))) rfl ?_)
  by_cases h1 : (!(sigOk ar)) = true
  · refine XL.no (t := 9) rfl (congrArg Value.bool h1) ?_
    refine XL.no (t := 9) rfl (congrArg Value.bool h1) ?_
    refine XL.no (t := 9) rfl (congrArg Value.bool h1) ?_
    refine XL.no (t := 9) rfl (congrArg Value.bool h1) ?_
    refine XL.cons (XOp.pickT (.bool (true)) (congrArg Value.bool h1) rfl ?_)
    refine XL.nil ?_
    refine X.condT rfl ?_
    refine X.seq ?_
    refine X.region ?_
    refine XL.cons (XOp.assign (.bool (false)) rfl ?_)
    refine XL.nil ?_
    refine X.ret (thenQ_ret (retEnd (L' := L) [.bool (false)] (.bool (false)) (.tmp rfl .nil) rfl (FLe.refl _) (FLe.refl _) (Sub.drop (Sub.drop (Sub.refl _))) ?_))
    exact ⟨(congrArg Value.bool (substOk_false (fun h => by have := h.1; have := h.2.1; simp_all <;> omega))), rfl, rfl⟩
  · rw [Bool.not_eq_true] at h1
    refine XL.yes (t := 9) rfl (congrArg Value.bool h1) (XOp.fieldP (b := b2) (0) Tryz.runUnderlying48 rfl Tryz.sizeOf31 (by decide) rfl rfl ?_)
    refine XL.yes (t := 9) rfl (congrArg Value.bool h1) (XOp.load1 (v := sv) Tryz.isAgg31 rfl (Rd.own [] rfl rfl) ?_)
    refine XL.yes (t := 9) rfl (congrArg Value.bool h1) (XOp.lenS (v := sv) (n := (s).length) Tryz.runUnderlying31 rfl hs.slv ?_)
    refine XL.yes (t := 9) rfl (congrArg Value.bool h1) (XOp.gtr (a := (((s).length : Nat) : Int)) (b := 24) rfl rfl ?_)
    refine XL.cons (XOp.pickF (.bool (decide (((((s).length : Nat) : Int) : Int) > 24))) (congrArg Value.bool h1) rfl ?_)
    refine XL.nil ?_
    refine X.condD (p := ((((s).length : Nat) : Int) : Int) > 24) rfl (fun h2 => ?_) (fun h2 => ?_)
    · refine X.seq ?_
      refine X.region ?_
      refine XL.cons (XOp.assign (.bool (false)) rfl ?_)
      refine XL.nil ?_
      refine X.ret (thenQ_ret (retEnd (L' := L) [.bool (false)] (.bool (false)) (.tmp rfl .nil) rfl (FLe.refl _) (FLe.refl _) (Sub.drop (Sub.drop (Sub.refl _))) ?_))
      exact ⟨(congrArg Value.bool (substOk_false (fun h => by have := h.1; have := h.2.1; simp_all <;> omega))), rfl, rfl⟩
    · refine X.skip ?_
      refine X.seq ?_
      refine X.seq ?_
      refine X.region ?_
      refine XL.cons (XOp.assign (.int .i64 (0)) rfl ?_)
      refine XL.nil ?_
      refine X.block ?_
      refine X.loop (α := Nat) (fun k => [(2, ptr b1 0), (3, ptr b2 0), (5, .int .i64 (((k : Nat) : Int)))]) (fun k => cellsH b2 [sv] 48 :: cellsH b1 [arv] 42 :: L) (fun k F' => F = F' ∧ (k ≤ s.length) ∧ (∀ i, i < k → s.getD i [] = [] ∨ termOk ar (s.getD i []) = true)) (fun k => s.length - k) 0 ⟨rfl, rfl, rfl, trivial⟩ (Sub.cons (Sub.cons (Sub.refl _))) ⟨rfl, (by (try dsimp only) <;> omega), (fun i hi => absurd hi (by omega))⟩ ?_
      rintro k rE _ _ ⟨rfl, hk, hall⟩
      show X _ _ _ _ (envs [(2, ptr b1 0), (3, ptr b2 0), (5, .int .i64 (((k : Nat) : Int)))] rE) _ (cellsH b2 [sv] 48 :: cellsH b1 [arv] 42 :: L)
      have hsbk := hsb k
      refine X.seq ?_
      refine X.seq ?_
      refine X.region ?_
      refine XL.cons (XOp.move (.int .i64 (((k : Nat) : Int))) rfl ?_)
      refine XL.cons (XOp.fieldP (b := b2) (0) Tryz.runUnderlying48 rfl Tryz.sizeOf31 (by decide) rfl rfl ?_)
      refine XL.cons (XOp.load1 (v := sv) Tryz.isAgg31 rfl (Rd.own [] rfl rfl) ?_)
      refine XL.cons (XOp.lenS (v := sv) (n := (s).length) Tryz.runUnderlying31 rfl hs.slv ?_)
      refine XL.cons (XOp.lss (a := ((k : Nat) : Int)) (b := (((s).length : Nat) : Int)) rfl rfl ?_)
      refine XL.nil ?_
      refine X.condD (p := (((k : Nat) : Int) : Int) < (((s).length : Nat) : Int)) rfl (fun h3 => ?_) (fun h3 => ?_)
      · refine X.skip ?_
        refine X.seq ?_
        refine X.block ?_
        refine X.seq ?_
        obtain ⟨a1, ha1, hr1⟩ := hs.rd (i := k) (by omega)
        by_cases h4 : (((((s.getD k [])).length : Nat) : Int) : Int) > 0
        · refine X.draw [cellsH b2 [sv] 48, cellsH b1 [arv] 42] L 14 [[], [], [], [], [], [], [], [], [], [], [], [], [], []] [[], [0], [], [1, 2], [3], [4], [5], [6], [7], [7], [7, 9], [7], [7, 10, 11], [7, 12]] (phiL [fun us v => v = ptr b2 0, fun us v => v = sv, fun us v => v = (.int .i64 (((k : Nat) : Int)) : Value), fun us v => v = (.pointer (some (elemA sv (k))) : Value), fun us v => v = a1, fun us v => v = (.int .i64 (((((s.getD k [])).length : Nat) : Int)) : Value), fun us v => v = (.bool (decide ((((((s.getD k [])).length : Nat) : Int) : Int) > 0)) : Value), fun us v => v = (.bool (decide ((((((s.getD k [])).length : Nat) : Int) : Int) > 0)) : Value), fun us v => v = (.agg #[arv] : Value), fun us v => v = ptr b2 0, fun us v => v = sv, fun us v => v = (.int .i64 (((k : Nat) : Int)) : Value), fun us v => v = (.pointer (some (elemA sv (k))) : Value), fun us v => v = a1]) (ownL [fun us v => [], fun us v => [], fun us v => [], fun us v => [], fun us v => [], fun us v => [], fun us v => [], fun us v => [], fun us v => [], fun us v => [], fun us v => [], fun us v => [], fun us v => [], fun us v => []]) mixed rfl rfl (by kernel_rfl) ?_ ?_
          · refine stepsP.cons (fun vals R hpZ => ?_) ?_
            · refine XG.op (XOp.fieldP (b := b2) (0) Tryz.runUnderlying48 rfl Tryz.sizeOf31 (by decide) rfl rfl ?_)
              exact ⟨rfl, rfl, rfl⟩
            refine stepsP.cons (fun vals R hpZ => ?_) ?_
            · rw [(envs_of_sat (l := [(0, ptr b2 0)]) ⟨hpZ 0 (by decide), trivial⟩).symm]
              refine XG.op (XOp.load1 (v := sv) Tryz.isAgg31 rfl (Rd.own [] rfl rfl) ?_)
              exact ⟨rfl, rfl, rfl⟩
            refine stepsP.cons (fun vals R hpZ => ?_) ?_
            · refine XG.op (XOp.move (.int .i64 (((k : Nat) : Int))) rfl ?_)
              exact ⟨rfl, rfl, rfl⟩
            refine stepsP.cons (fun vals R hpZ => ?_) ?_
            · rw [(envs_of_sat (l := [(1, sv), (2, (.int .i64 (((k : Nat) : Int)) : Value))]) ⟨hpZ 1 (by decide), hpZ 2 (by decide), trivial⟩).symm]
              refine XG.op (XOp.indexS (v := sv) (i := ((k : Nat) : Int)) (n := (s).length) k Tryz.runUnderlying31 Tryz.sizeOf22 rfl rfl rfl hs.slv (by omega) (Nat.mul_one _) ?_)
              exact ⟨rfl, rfl, rfl⟩
            refine stepsP.cons (fun vals R hpZ => ?_) ?_
            · rw [(envs_of_sat (l := [(3, (.pointer (some (elemA sv (k))) : Value))]) ⟨hpZ 3 (by decide), trivial⟩).symm]
              refine XG.op (XOp.load1 (v := a1) Tryz.isAgg22 rfl (hr1 _) ?_)
              exact ⟨rfl, rfl, rfl⟩
            refine stepsP.cons (fun vals R hpZ => ?_) ?_
            · rw [(envs_of_sat (l := [(4, a1)]) ⟨hpZ 4 (by decide), trivial⟩).symm]
              refine XG.op (XOp.lenS (v := a1) (n := ((s.getD k [])).length) Tryz.runUnderlying22 rfl ha1.slv ?_)
              exact ⟨rfl, rfl, rfl⟩
            refine stepsP.cons (fun vals R hpZ => ?_) ?_
            · rw [(envs_of_sat (l := [(5, (.int .i64 (((((s.getD k [])).length : Nat) : Int)) : Value))]) ⟨hpZ 5 (by decide), trivial⟩).symm]
              refine XG.op (XOp.gtr (a := ((((s.getD k [])).length : Nat) : Int)) (b := 0) rfl rfl ?_)
              exact ⟨rfl, rfl, rfl⟩
            refine stepsP.cons (fun vals R hpZ => ?_) ?_
            · rw [(envs_of_sat (l := [(6, (.bool (decide ((((((s.getD k [])).length : Nat) : Int) : Int) > 0)) : Value))]) ⟨hpZ 6 (by decide), trivial⟩).symm]
              refine XG.op (XOp.move (.bool (decide ((((((s.getD k [])).length : Nat) : Int) : Int) > 0))) rfl ?_)
              exact ⟨rfl, rfl, rfl⟩
            refine stepsP.cons (fun vals R hpZ => ?_) ?_
            · rw [(envs_of_sat (l := [(7, (.bool (decide ((((((s.getD k [])).length : Nat) : Int) : Int) > 0)) : Value))]) ⟨hpZ 7 (by decide), trivial⟩).symm]
              refine XG.yes (t := 29) rfl (congrArg Value.bool (decide_eq_true h4)) (XOp.loadN [arv] Tryz.isAgg42 Tryz.sizeOf42 rfl rfl (Rd.ownN [_] rfl rfl) ?_)
              exact ⟨rfl, rfl, rfl⟩
            refine stepsP.cons (fun vals R hpZ => ?_) ?_
            · rw [(envs_of_sat (l := [(7, (.bool (decide ((((((s.getD k [])).length : Nat) : Int) : Int) > 0)) : Value))]) ⟨hpZ 7 (by decide), trivial⟩).symm]
              refine XG.yes (t := 29) rfl (congrArg Value.bool (decide_eq_true h4)) (XOp.fieldP (b := b2) (0) Tryz.runUnderlying48 rfl Tryz.sizeOf31 (by decide) rfl rfl ?_)
              exact ⟨rfl, rfl, rfl⟩
            refine stepsP.cons (fun vals R hpZ => ?_) ?_
            · rw [(envs_of_sat (l := [(7, (.bool (decide ((((((s.getD k [])).length : Nat) : Int) : Int) > 0)) : Value)), (9, ptr b2 0)]) ⟨hpZ 7 (by decide), hpZ 9 (by decide), trivial⟩).symm]
              refine XG.yes (t := 29) rfl (congrArg Value.bool (decide_eq_true h4)) (XOp.load1 (v := sv) Tryz.isAgg31 rfl (Rd.own [] rfl rfl) ?_)
              exact ⟨rfl, rfl, rfl⟩
            refine stepsP.cons (fun vals R hpZ => ?_) ?_
            · rw [(envs_of_sat (l := [(7, (.bool (decide ((((((s.getD k [])).length : Nat) : Int) : Int) > 0)) : Value))]) ⟨hpZ 7 (by decide), trivial⟩).symm]
              refine XG.yes (t := 29) rfl (congrArg Value.bool (decide_eq_true h4)) (XOp.move (.int .i64 (((k : Nat) : Int))) rfl ?_)
              exact ⟨rfl, rfl, rfl⟩
            refine stepsP.cons (fun vals R hpZ => ?_) ?_
            · rw [(envs_of_sat (l := [(7, (.bool (decide ((((((s.getD k [])).length : Nat) : Int) : Int) > 0)) : Value)), (10, sv), (11, (.int .i64 (((k : Nat) : Int)) : Value))]) ⟨hpZ 7 (by decide), hpZ 10 (by decide), hpZ 11 (by decide), trivial⟩).symm]
              refine XG.yes (t := 29) rfl (congrArg Value.bool (decide_eq_true h4)) (XOp.indexS (v := sv) (i := ((k : Nat) : Int)) (n := (s).length) k Tryz.runUnderlying31 Tryz.sizeOf22 rfl rfl rfl hs.slv (by omega) (Nat.mul_one _) ?_)
              exact ⟨rfl, rfl, rfl⟩
            refine stepsP.cons (fun vals R hpZ => ?_) ?_
            · rw [(envs_of_sat (l := [(7, (.bool (decide ((((((s.getD k [])).length : Nat) : Int) : Int) > 0)) : Value)), (12, (.pointer (some (elemA sv (k))) : Value))]) ⟨hpZ 7 (by decide), hpZ 12 (by decide), trivial⟩).symm]
              refine XG.yes (t := 29) rfl (congrArg Value.bool (decide_eq_true h4)) (XOp.load1 (v := a1) Tryz.isAgg22 rfl (hr1 _) ?_)
              exact ⟨rfl, rfl, rfl⟩
            exact stepsP.nil
          · intro vals hphi
            have e0 : vals 0 = ptr b2 0 := hphi 0 (by decide)
            have e1 : vals 1 = sv := hphi 1 (by decide)
            have e2 : vals 2 = (.int .i64 (((k : Nat) : Int)) : Value) := hphi 2 (by decide)
            have e3 : vals 3 = (.pointer (some (elemA sv (k))) : Value) := hphi 3 (by decide)
            have e4 : vals 4 = a1 := hphi 4 (by decide)
            have e5 : vals 5 = (.int .i64 (((((s.getD k [])).length : Nat) : Int)) : Value) := hphi 5 (by decide)
            have e6 : vals 6 = (.bool (decide ((((((s.getD k [])).length : Nat) : Int) : Int) > 0)) : Value) := hphi 6 (by decide)
            have e7 : vals 7 = (.bool (decide ((((((s.getD k [])).length : Nat) : Int) : Int) > 0)) : Value) := hphi 7 (by decide)
            have e8 : vals 8 = (.agg #[arv] : Value) := hphi 8 (by decide)
            have e9 : vals 9 = ptr b2 0 := hphi 9 (by decide)
            have e10 : vals 10 = sv := hphi 10 (by decide)
            have e11 : vals 11 = (.int .i64 (((k : Nat) : Int)) : Value) := hphi 11 (by decide)
            have e12 : vals 12 = (.pointer (some (elemA sv (k))) : Value) := hphi 12 (by decide)
            have e13 : vals 13 = a1 := hphi 13 (by decide)
            rw [(envs_of_sat (l := [(0, ptr b2 0), (1, sv), (2, (.int .i64 (((k : Nat) : Int)) : Value)), (3, (.pointer (some (elemA sv (k))) : Value)), (4, a1), (5, (.int .i64 (((((s.getD k [])).length : Nat) : Int)) : Value)), (6, (.bool (decide ((((((s.getD k [])).length : Nat) : Int) : Int) > 0)) : Value)), (7, (.bool (decide ((((((s.getD k [])).length : Nat) : Int) : Int) > 0)) : Value)), (8, (.agg #[arv] : Value)), (9, ptr b2 0), (10, sv), (11, (.int .i64 (((k : Nat) : Int)) : Value)), (12, (.pointer (some (elemA sv (k))) : Value)), (13, a1)]) ⟨e0, e1, e2, e3, e4, e5, e6, e7, e8, e9, e10, e11, e12, e13, trivial⟩).symm]
            show XL _ _ _ _ _ _ _ (cellsH b2 [sv] 48 :: cellsH b1 [arv] 42 :: L)
            refine XL.yes (t := 29) rfl (congrArg Value.bool (decide_eq_true h4)) (XOp.call (args := [.agg #[arv], a1]) Tryz.call85 rfl (sTermOk_spec har ha1 (hla := (by first | assumption | rfl | omega | (left; simp; done) | (right; simp; done))) (hlt := (by first | assumption | rfl | omega | (left; simp; done) | (right; simp; done)))) ?_)
            rintro _ _ _ _ ⟨rfl, rfl, rfl⟩
            refine XL.yes (t := 29) rfl (congrArg Value.bool (decide_eq_true h4)) (XOp.notB (b := termOk ar ((s.getD k []))) rfl ?_)
            refine XL.cons (XOp.pickT (.bool (!(termOk ar ((s.getD k []))))) (congrArg Value.bool (decide_eq_true h4)) rfl ?_)
            refine XL.nil ?_
            refine X.cond (t := !(termOk ar ((s.getD k [])))) rfl (fun h5 => ?_) (fun h5 => ?_)
            · refine X.seq ?_
              refine X.region ?_
              refine XL.cons (XOp.assign (.bool (false)) rfl ?_)
              refine XL.nil ?_
              refine X.ret (blockQ_ret (thenQ_ret (thenQ_ret (blockQ_ret (thenQ_ret (retEnd (L' := L) [.bool (false)] (.bool (false)) (.tmp rfl .nil) rfl (FLe.refl _) (FLe.refl _) (Sub.drop (Sub.drop (Sub.refl _))) ?_))))))
              exact ⟨(congrArg Value.bool (substOk_false (fun h => by have h9 := h.2.2 k (by omega); rcases h9 with h9 | h9; (have := congrArg List.length h9; simp only [List.length_nil] at this; omega); simp_all))), rfl, rfl⟩
            · refine X.skip ?_
              refine X.region ?_
              refine XL.cons (XOp.move (.int .i64 (((k : Nat) : Int))) rfl ?_)
              refine XL.cons (XOp.addR (a := ((k : Nat) : Int)) (b := 1) (((k + 1 : Nat) : Int)) rfl rfl (by omega) (by omega) ?_)
              refine XL.cons (XOp.assign (.int .i64 (((k + 1 : Nat) : Int))) rfl ?_)
              refine XL.nil ?_
              exact ⟨k + 1, _, FLe.refl _, (FLe.refl _), ⟨rfl, rfl, rfl, trivial⟩, (Sub.cons (Sub.cons (Sub.refl _))), ⟨rfl, (by (try dsimp only) <;> omega), (fun i hi => (Nat.lt_or_ge i k).elim (fun h => hall i h) (fun h => by obtain rfl : i = k := (by omega); first | exact .inr (by assumption) | exact .inl (len_nil (by assumption)) | (have := len_nil (by assumption); simp_all) | simp_all))⟩, (by omega)⟩
        · refine X.draw [cellsH b2 [sv] 48, cellsH b1 [arv] 42] L 14 [[], [], [], [], [], [], [], [], [], [], [], [], [], []] [[], [0], [], [1, 2], [3], [4], [5], [6], [7], [7], [7, 9], [7], [7, 10, 11], [7, 12]] (phiL [fun us v => v = ptr b2 0, fun us v => v = sv, fun us v => v = (.int .i64 (((k : Nat) : Int)) : Value), fun us v => v = (.pointer (some (elemA sv (k))) : Value), fun us v => v = a1, fun us v => v = (.int .i64 (((((s.getD k [])).length : Nat) : Int)) : Value), fun us v => v = (.bool (decide ((((((s.getD k [])).length : Nat) : Int) : Int) > 0)) : Value), fun us v => v = (.bool (decide ((((((s.getD k [])).length : Nat) : Int) : Int) > 0)) : Value), fun us v => v = undef, fun us v => v = undef, fun us v => v = undef, fun us v => v = undef, fun us v => v = undef, fun us v => v = undef]) (ownL [fun us v => [], fun us v => [], fun us v => [], fun us v => [], fun us v => [], fun us v => [], fun us v => [], fun us v => [], fun us v => [], fun us v => [], fun us v => [], fun us v => [], fun us v => [], fun us v => []]) mixed rfl rfl (by kernel_rfl) ?_ ?_
          · refine stepsP.cons (fun vals R hpZ => ?_) ?_
            · refine XG.op (XOp.fieldP (b := b2) (0) Tryz.runUnderlying48 rfl Tryz.sizeOf31 (by decide) rfl rfl ?_)
              exact ⟨rfl, rfl, rfl⟩
            refine stepsP.cons (fun vals R hpZ => ?_) ?_
            · rw [(envs_of_sat (l := [(0, ptr b2 0)]) ⟨hpZ 0 (by decide), trivial⟩).symm]
              refine XG.op (XOp.load1 (v := sv) Tryz.isAgg31 rfl (Rd.own [] rfl rfl) ?_)
              exact ⟨rfl, rfl, rfl⟩
            refine stepsP.cons (fun vals R hpZ => ?_) ?_
            · refine XG.op (XOp.move (.int .i64 (((k : Nat) : Int))) rfl ?_)
              exact ⟨rfl, rfl, rfl⟩
            refine stepsP.cons (fun vals R hpZ => ?_) ?_
            · rw [(envs_of_sat (l := [(1, sv), (2, (.int .i64 (((k : Nat) : Int)) : Value))]) ⟨hpZ 1 (by decide), hpZ 2 (by decide), trivial⟩).symm]
              refine XG.op (XOp.indexS (v := sv) (i := ((k : Nat) : Int)) (n := (s).length) k Tryz.runUnderlying31 Tryz.sizeOf22 rfl rfl rfl hs.slv (by omega) (Nat.mul_one _) ?_)
              exact ⟨rfl, rfl, rfl⟩
            refine stepsP.cons (fun vals R hpZ => ?_) ?_
            · rw [(envs_of_sat (l := [(3, (.pointer (some (elemA sv (k))) : Value))]) ⟨hpZ 3 (by decide), trivial⟩).symm]
              refine XG.op (XOp.load1 (v := a1) Tryz.isAgg22 rfl (hr1 _) ?_)
              exact ⟨rfl, rfl, rfl⟩
            refine stepsP.cons (fun vals R hpZ => ?_) ?_
            · rw [(envs_of_sat (l := [(4, a1)]) ⟨hpZ 4 (by decide), trivial⟩).symm]
              refine XG.op (XOp.lenS (v := a1) (n := ((s.getD k [])).length) Tryz.runUnderlying22 rfl ha1.slv ?_)
              exact ⟨rfl, rfl, rfl⟩
            refine stepsP.cons (fun vals R hpZ => ?_) ?_
            · rw [(envs_of_sat (l := [(5, (.int .i64 (((((s.getD k [])).length : Nat) : Int)) : Value))]) ⟨hpZ 5 (by decide), trivial⟩).symm]
              refine XG.op (XOp.gtr (a := ((((s.getD k [])).length : Nat) : Int)) (b := 0) rfl rfl ?_)
              exact ⟨rfl, rfl, rfl⟩
            refine stepsP.cons (fun vals R hpZ => ?_) ?_
            · rw [(envs_of_sat (l := [(6, (.bool (decide ((((((s.getD k [])).length : Nat) : Int) : Int) > 0)) : Value))]) ⟨hpZ 6 (by decide), trivial⟩).symm]
              refine XG.op (XOp.move (.bool (decide ((((((s.getD k [])).length : Nat) : Int) : Int) > 0))) rfl ?_)
              exact ⟨rfl, rfl, rfl⟩
            refine stepsP.cons (fun vals R hpZ => ?_) ?_
            · rw [(envs_of_sat (l := [(7, (.bool (decide ((((((s.getD k [])).length : Nat) : Int) : Int) > 0)) : Value))]) ⟨hpZ 7 (by decide), trivial⟩).symm]
              exact XG.no (t := 29) rfl (congrArg Value.bool (decide_eq_false h4)) ⟨rfl, rfl, rfl⟩
            refine stepsP.cons (fun vals R hpZ => ?_) ?_
            · rw [(envs_of_sat (l := [(7, (.bool (decide ((((((s.getD k [])).length : Nat) : Int) : Int) > 0)) : Value))]) ⟨hpZ 7 (by decide), trivial⟩).symm]
              exact XG.no (t := 29) rfl (congrArg Value.bool (decide_eq_false h4)) ⟨rfl, rfl, rfl⟩
            refine stepsP.cons (fun vals R hpZ => ?_) ?_
            · rw [(envs_of_sat (l := [(7, (.bool (decide ((((((s.getD k [])).length : Nat) : Int) : Int) > 0)) : Value)), (9, undef)]) ⟨hpZ 7 (by decide), hpZ 9 (by decide), trivial⟩).symm]
              exact XG.no (t := 29) rfl (congrArg Value.bool (decide_eq_false h4)) ⟨rfl, rfl, rfl⟩
            refine stepsP.cons (fun vals R hpZ => ?_) ?_
            · rw [(envs_of_sat (l := [(7, (.bool (decide ((((((s.getD k [])).length : Nat) : Int) : Int) > 0)) : Value))]) ⟨hpZ 7 (by decide), trivial⟩).symm]
              exact XG.no (t := 29) rfl (congrArg Value.bool (decide_eq_false h4)) ⟨rfl, rfl, rfl⟩
            refine stepsP.cons (fun vals R hpZ => ?_) ?_
            · rw [(envs_of_sat (l := [(7, (.bool (decide ((((((s.getD k [])).length : Nat) : Int) : Int) > 0)) : Value)), (10, undef), (11, undef)]) ⟨hpZ 7 (by decide), hpZ 10 (by decide), hpZ 11 (by decide), trivial⟩).symm]
              exact XG.no (t := 29) rfl (congrArg Value.bool (decide_eq_false h4)) ⟨rfl, rfl, rfl⟩
            refine stepsP.cons (fun vals R hpZ => ?_) ?_
            · rw [(envs_of_sat (l := [(7, (.bool (decide ((((((s.getD k [])).length : Nat) : Int) : Int) > 0)) : Value)), (12, undef)]) ⟨hpZ 7 (by decide), hpZ 12 (by decide), trivial⟩).symm]
              exact XG.no (t := 29) rfl (congrArg Value.bool (decide_eq_false h4)) ⟨rfl, rfl, rfl⟩
            exact stepsP.nil
          · intro vals hphi
            have e0 : vals 0 = ptr b2 0 := hphi 0 (by decide)
            have e1 : vals 1 = sv := hphi 1 (by decide)
            have e2 : vals 2 = (.int .i64 (((k : Nat) : Int)) : Value) := hphi 2 (by decide)
            have e3 : vals 3 = (.pointer (some (elemA sv (k))) : Value) := hphi 3 (by decide)
            have e4 : vals 4 = a1 := hphi 4 (by decide)
            have e5 : vals 5 = (.int .i64 (((((s.getD k [])).length : Nat) : Int)) : Value) := hphi 5 (by decide)
            have e6 : vals 6 = (.bool (decide ((((((s.getD k [])).length : Nat) : Int) : Int) > 0)) : Value) := hphi 6 (by decide)
            have e7 : vals 7 = (.bool (decide ((((((s.getD k [])).length : Nat) : Int) : Int) > 0)) : Value) := hphi 7 (by decide)
            have e8 : vals 8 = undef := hphi 8 (by decide)
            have e9 : vals 9 = undef := hphi 9 (by decide)
            have e10 : vals 10 = undef := hphi 10 (by decide)
            have e11 : vals 11 = undef := hphi 11 (by decide)
            have e12 : vals 12 = undef := hphi 12 (by decide)
            have e13 : vals 13 = undef := hphi 13 (by decide)
            rw [(envs_of_sat (l := [(0, ptr b2 0), (1, sv), (2, (.int .i64 (((k : Nat) : Int)) : Value)), (3, (.pointer (some (elemA sv (k))) : Value)), (4, a1), (5, (.int .i64 (((((s.getD k [])).length : Nat) : Int)) : Value)), (6, (.bool (decide ((((((s.getD k [])).length : Nat) : Int) : Int) > 0)) : Value)), (7, (.bool (decide ((((((s.getD k [])).length : Nat) : Int) : Int) > 0)) : Value)), (8, undef), (9, undef), (10, undef), (11, undef), (12, undef), (13, undef)]) ⟨e0, e1, e2, e3, e4, e5, e6, e7, e8, e9, e10, e11, e12, e13, trivial⟩).symm]
            show XL _ _ _ _ _ _ _ (cellsH b2 [sv] 48 :: cellsH b1 [arv] 42 :: L)
            refine XL.no (t := 29) rfl (congrArg Value.bool (decide_eq_false h4)) ?_
            refine XL.no (t := 29) rfl (congrArg Value.bool (decide_eq_false h4)) ?_
            refine XL.cons (XOp.pickF (.bool (false)) (congrArg Value.bool (decide_eq_false h4)) rfl ?_)
            refine XL.nil ?_
            refine X.condF rfl ?_
            refine X.skip ?_
            refine X.region ?_
            refine XL.cons (XOp.move (.int .i64 (((k : Nat) : Int))) rfl ?_)
            refine XL.cons (XOp.addR (a := ((k : Nat) : Int)) (b := 1) (((k + 1 : Nat) : Int)) rfl rfl (by omega) (by omega) ?_)
            refine XL.cons (XOp.assign (.int .i64 (((k + 1 : Nat) : Int))) rfl ?_)
            refine XL.nil ?_
            exact ⟨k + 1, _, FLe.refl _, (FLe.refl _), ⟨rfl, rfl, rfl, trivial⟩, (Sub.cons (Sub.cons (Sub.refl _))), ⟨rfl, (by (try dsimp only) <;> omega), (fun i hi => (Nat.lt_or_ge i k).elim (fun h => hall i h) (fun h => by obtain rfl : i = k := (by omega); first | exact .inr (by assumption) | exact .inl (len_nil (by assumption)) | (have := len_nil (by assumption); simp_all) | simp_all))⟩, (by omega)⟩
      · refine X.exit (thenQ_exit (thenQ_exit (blockQ_exit ?_)))
        refine X.seq ?_
        refine X.region ?_
        refine XL.cons (XOp.assign (.bool (true)) rfl ?_)
        refine XL.nil ?_
        refine X.ret (retEnd (L' := L) [.bool (true)] (.bool (true)) (.tmp rfl .nil) rfl (FLe.refl _) (FLe.refl _) (Sub.drop (Sub.drop (Sub.refl _))) ?_)
        exact ⟨(congrArg Value.bool (substOk_iff.2 ⟨by simp_all, by omega, fun i hi => hall i (by omega)⟩)), rfl, rfl⟩
end Go.Proofs.YtacbenjncjcglaaGreat
