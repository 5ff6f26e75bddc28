/-
  Walks: the statements' own helpers for steps; rewrite sequences.
-/
import Derived.Test.YtbooflphoaaoeaaGreatQiFr
import Derived.Test.YtbooflphoaaoeaaGreatP9
set_option linter.unusedSimpArgs false
set_option linter.unusedVariables false
namespace Go.Proofs.YtbooflphoaaoeaaGreat
open Go X M

/- laws.eqStep -/
theorem eqStep_spec {F : FH} {L : List HP} {i : Int} {j : Int} {av : Value} {a : List Int} (ha : IntsF F av a) {p : Int} {q : Int} {bv : Value} {b : List Int} (hb : IntsF F bv b) (hbd : a.length ≤ 9223372036854775807 ∨ b.length ≤ 9223372036854775807) :
    Does Tryz.prog 138 [.agg #[.int .i64 (i), .int .i64 (j), av], .agg #[.int .i64 (p), .int .i64 (q), bv]] F (L) (fun v F' L' => (.bool (decide ((i, j, a) = (p, q, b))) : Value) = v ∧ F = F' ∧ L = L') := by
  refine Does.of_X Tryz.func138 rfl rfl rfl ?_
  refine X.seq ?_
  refine X.region ?_
  refine XL.cons (XOp.box [.int .i64 (i), .int .i64 (j), av] rfl rfl ?_)
  intro b1
  refine XL.cons (XOp.box [.int .i64 (p), .int .i64 (q), bv] rfl rfl ?_)
  intro b2
  refine XL.cons (XOp.assign (.bool (false)) rfl ?_)
  refine XL.nil ?_
  refine X.seq ?_
  refine X.seq ?_
  refine X.region ?_
  refine XL.cons (XOp.fieldP (b := b1) (0) Tryz.runUnderlying133 rfl Tryz.sizeOf2 (by decide) rfl rfl ?_)
  refine XL.cons (XOp.load1 (v := .int .i64 (i)) Tryz.isAgg2 rfl (Rd.own [_] rfl rfl) ?_)
  refine XL.cons (XOp.fieldP (b := b2) (0) Tryz.runUnderlying133 rfl Tryz.sizeOf2 (by decide) rfl rfl ?_)
  refine XL.cons (XOp.load1 (v := .int .i64 (p)) Tryz.isAgg2 rfl (Rd.own [] rfl rfl) ?_)
  refine XL.cons (XOp.neq (a := i) (b := p) rfl rfl ?_)
  refine XL.nil ?_
  refine X.condD (p := (i : Int) ≠ p) rfl (fun h1 => ?_) (fun h1 => ?_)
  · refine X.seq ?_
    refine X.region ?_
    refine XL.cons (XOp.assign (.bool (false)) rfl ?_)
    refine XL.nil ?_
    refine X.ret (thenQ_ret (retEnd (L' := L) [.bool (false)] (.bool (false)) (.tmp rfl .nil) rfl (FLe.refl _) (FLe.refl _) (Sub.drop (Sub.drop (Sub.refl _))) ?_))
    exact ⟨(congrArg Value.bool (decide_eq_false (by intro e; simp_all))), rfl, rfl⟩
  · refine X.skip ?_
    refine X.seq ?_
    refine X.seq ?_
    refine X.region ?_
    refine XL.cons (XOp.fieldP (b := b1) (1) Tryz.runUnderlying133 rfl Tryz.sizeOf2 (by decide) rfl rfl ?_)
    refine XL.cons (XOp.load1 (v := .int .i64 (j)) Tryz.isAgg2 rfl (Rd.own [_] rfl rfl) ?_)
    refine XL.cons (XOp.fieldP (b := b2) (1) Tryz.runUnderlying133 rfl Tryz.sizeOf2 (by decide) rfl rfl ?_)
    refine XL.cons (XOp.load1 (v := .int .i64 (q)) Tryz.isAgg2 rfl (Rd.own [] rfl rfl) ?_)
    refine XL.cons (XOp.neq (a := j) (b := q) rfl rfl ?_)
    refine XL.nil ?_
    refine X.condD (p := (j : Int) ≠ q) rfl (fun h2 => ?_) (fun h2 => ?_)
    · refine X.seq ?_
      refine X.region ?_
      refine XL.cons (XOp.assign (.bool (false)) rfl ?_)
      refine XL.nil ?_
      refine X.ret (thenQ_ret (retEnd (L' := L) [.bool (false)] (.bool (false)) (.tmp rfl .nil) rfl (FLe.refl _) (FLe.refl _) (Sub.drop (Sub.drop (Sub.refl _))) ?_))
      exact ⟨(congrArg Value.bool (decide_eq_false (by intro e; simp_all))), rfl, rfl⟩
    · refine X.skip ?_
      refine X.seq ?_
      refine X.seq ?_
      refine X.region ?_
      refine XL.cons (XOp.fieldP (b := b1) (2) Tryz.runUnderlying133 rfl Tryz.sizeOf22 (by decide) rfl rfl ?_)
      refine XL.cons (XOp.load1 (v := av) Tryz.isAgg22 rfl (Rd.own [_] rfl rfl) ?_)
      refine XL.cons (XOp.fieldP (b := b2) (2) Tryz.runUnderlying133 rfl Tryz.sizeOf22 (by decide) rfl rfl ?_)
      refine XL.cons (XOp.load1 (v := bv) Tryz.isAgg22 rfl (Rd.own [] rfl rfl) ?_)
      refine XL.cons (XOp.call (args := [av, bv]) Tryz.call17 rfl (eqInt64S_spec ha hb (hbd := (by first | assumption | rfl | omega | (left; simp; done) | (right; simp; done)))) ?_)
      rintro _ _ _ _ ⟨rfl, rfl, rfl⟩
      refine XL.cons (XOp.notD (p := a = b) rfl ?_)
      refine XL.nil ?_
      refine X.condD (p := ¬(a = b)) rfl (fun h3 => ?_) (fun h3 => ?_)
      · refine X.seq ?_
        refine X.region ?_
        refine XL.cons (XOp.assign (.bool (false)) rfl ?_)
        refine XL.nil ?_
        refine X.ret (thenQ_ret (retEnd (L' := L) [.bool (false)] (.bool (false)) (.tmp rfl .nil) rfl (FLe.refl _) (FLe.refl _) (Sub.drop (Sub.drop (Sub.refl _))) ?_))
        exact ⟨(congrArg Value.bool (decide_eq_false (by intro e; simp_all))), rfl, rfl⟩
      · refine X.skip ?_
        refine X.seq ?_
        refine X.region ?_
        refine XL.cons (XOp.assign (.bool (true)) rfl ?_)
        refine XL.nil ?_
        refine X.ret (retEnd (L' := L) [.bool (true)] (.bool (true)) (.tmp rfl .nil) rfl (FLe.refl _) (FLe.refl _) (Sub.drop (Sub.drop (Sub.refl _))) ?_)
        exact ⟨(congrArg Value.bool (decide_eq_true (by simp_all))), rfl, rfl⟩

/- laws.eqStepS -/
theorem eqStepS_spec {F : FH} {L : List HP} {av : Value} {a : List StepT} (ha : StepsF F av a) {bv : Value} {b : List StepT} (hb : StepsF F bv b) (hal : a.length ≤ 9223372036854775807) (hbd : ∀ i, i < a.length → (a.getD i (0, 0, [])).2.2.length ≤ 9223372036854775807) :
    Does Tryz.prog 91 [av, bv] F (L) (fun v F' L' => (.bool (decide (a = b)) : Value) = v ∧ F = F' ∧ L = L') := by
  refine Does.of_X Tryz.func91 rfl rfl rfl ?_
  refine X.seq ?_
  refine X.region ?_
  refine XL.cons (XOp.assign (.bool (false)) rfl ?_)
  refine XL.nil ?_
  refine X.seq ?_
  refine X.seq ?_
  refine X.region ?_
  refine XL.cons (XOp.move (av) rfl ?_)
  refine XL.cons (XOp.lenS (v := av) (n := (a).length) Tryz.runUnderlying64 rfl ha.slv ?_)
  refine XL.cons (XOp.move (bv) rfl ?_)
  refine XL.cons (XOp.lenS (v := bv) (n := (b).length) Tryz.runUnderlying64 rfl hb.slv ?_)
  refine XL.cons (XOp.neq (a := (((a).length : Nat) : Int)) (b := (((b).length : Nat) : Int)) rfl rfl ?_)
  refine XL.nil ?_
  refine X.condD (p := ((((a).length : Nat) : Int) : Int) ≠ (((b).length : Nat) : Int)) rfl (fun h1 => ?_) (fun h1 => ?_)
  · refine X.seq ?_
    refine X.region ?_
    refine XL.cons (XOp.assign (.bool (false)) rfl ?_)
    refine XL.nil ?_
    refine X.ret (thenQ_ret (retEnd (L' := L) [.bool (false)] (.bool (false)) (.tmp rfl .nil) rfl (FLe.refl _) (FLe.refl _) (Sub.refl _) ?_))
    exact ⟨(congrArg Value.bool (decide_eq_false (fun e => by rw [e] at h1; omega))), rfl, rfl⟩
  · refine X.skip ?_
    refine X.seq ?_
    refine X.seq ?_
    refine X.region ?_
    refine XL.cons (XOp.assign (.int .i64 (0)) rfl ?_)
    refine XL.nil ?_
    refine X.block ?_
    refine X.loop (α := Nat) (fun k => [(0, av), (1, bv), (5, .int .i64 (((k : Nat) : Int)))]) (fun k => L) (fun k F' => F = F' ∧ (k ≤ a.length) ∧ (∀ i, i < k → a.getD i ((0 : Int), (0 : Int), ([] : List Int)) = b.getD i ((0 : Int), (0 : Int), ([] : List Int)))) (fun k => a.length - k) 0 ⟨rfl, rfl, rfl, trivial⟩ (Sub.refl _) ⟨rfl, (by (try dsimp only) <;> omega), (fun i hi => absurd hi (by omega))⟩ ?_
    rintro k rE _ _ ⟨rfl, hk, hall⟩
    show X _ _ _ _ (envs [(0, av), (1, bv), (5, .int .i64 (((k : Nat) : Int)))] rE) _ (L)
    have hbk := hbd k
    refine X.seq ?_
    refine X.seq ?_
    refine X.region ?_
    refine XL.cons (XOp.move (.int .i64 (((k : Nat) : Int))) rfl ?_)
    refine XL.cons (XOp.move (av) rfl ?_)
    refine XL.cons (XOp.lenS (v := av) (n := (a).length) Tryz.runUnderlying64 rfl ha.slv ?_)
    refine XL.cons (XOp.lss (a := ((k : Nat) : Int)) (b := (((a).length : Nat) : Int)) rfl rfl ?_)
    refine XL.nil ?_
    refine X.condD (p := (((k : Nat) : Int) : Int) < (((a).length : Nat) : Int)) rfl (fun h2 => ?_) (fun h2 => ?_)
    · refine X.skip ?_
      refine X.seq ?_
      refine X.block ?_
      refine X.seq ?_
      obtain ⟨a1, ha1, hr1, hr2, hr3⟩ := ha.rd (i := k) (by omega)
      obtain ⟨a2, ha2, hr4, hr5, hr6⟩ := hb.rd (i := k) (by omega)
      refine X.draw [] L 8 [[], [], [], [], [], [], [], []] [[], [], [0, 1], [2], [], [], [4, 5], [6]] (phiL [fun us v => v = av, fun us v => v = (.int .i64 (((k : Nat) : Int)) : Value), fun us v => v = (.pointer (some (elemA av (k * 3))) : Value), fun us v => v = (.agg #[.int .i64 ((a.getD k (0, 0, [])).1), .int .i64 ((a.getD k (0, 0, [])).2.1), a1] : Value), fun us v => v = bv, fun us v => v = (.int .i64 (((k : Nat) : Int)) : Value), fun us v => v = (.pointer (some (elemA bv (k * 3))) : Value), fun us v => v = (.agg #[.int .i64 ((b.getD k (0, 0, [])).1), .int .i64 ((b.getD k (0, 0, [])).2.1), a2] : Value)]) (ownL [fun us v => [], fun us v => [], fun us v => [], fun us v => [], fun us v => [], fun us v => [], fun us v => [], fun us v => []]) mixed rfl rfl (by kernel_rfl) ?_ ?_
      · refine stepsP.cons (fun vals R hpZ => ?_) ?_
        · refine XG.op (XOp.move (av) rfl ?_)
          exact ⟨rfl, rfl, rfl⟩
        refine stepsP.cons (fun vals R hpZ => ?_) ?_
        · refine XG.op (XOp.move (.int .i64 (((k : Nat) : Int))) rfl ?_)
          exact ⟨rfl, rfl, rfl⟩
        refine stepsP.cons (fun vals R hpZ => ?_) ?_
        · rw [(envs_of_sat (l := [(0, av), (1, (.int .i64 (((k : Nat) : Int)) : Value))]) ⟨hpZ 0 (by decide), hpZ 1 (by decide), trivial⟩).symm]
          refine XG.op (XOp.indexS (v := av) (i := ((k : Nat) : Int)) (n := (a).length) k Tryz.runUnderlying64 Tryz.sizeOf133 rfl rfl rfl ha.slv (by omega) rfl ?_)
          exact ⟨rfl, rfl, rfl⟩
        refine stepsP.cons (fun vals R hpZ => ?_) ?_
        · rw [(envs_of_sat (l := [(2, (.pointer (some (elemA av (k * 3))) : Value))]) ⟨hpZ 2 (by decide), trivial⟩).symm]
          refine XG.op (XOp.loadN [.int .i64 ((a.getD k (0, 0, [])).1), .int .i64 ((a.getD k (0, 0, [])).2.1), a1] Tryz.isAgg133 Tryz.sizeOf133 rfl rfl (Rd.three (hr1 _) (hr2 _) (hr3 _)) ?_)
          exact ⟨rfl, rfl, rfl⟩
        refine stepsP.cons (fun vals R hpZ => ?_) ?_
        · refine XG.op (XOp.move (bv) rfl ?_)
          exact ⟨rfl, rfl, rfl⟩
        refine stepsP.cons (fun vals R hpZ => ?_) ?_
        · refine XG.op (XOp.move (.int .i64 (((k : Nat) : Int))) rfl ?_)
          exact ⟨rfl, rfl, rfl⟩
        refine stepsP.cons (fun vals R hpZ => ?_) ?_
        · rw [(envs_of_sat (l := [(4, bv), (5, (.int .i64 (((k : Nat) : Int)) : Value))]) ⟨hpZ 4 (by decide), hpZ 5 (by decide), trivial⟩).symm]
          refine XG.op (XOp.indexS (v := bv) (i := ((k : Nat) : Int)) (n := (b).length) k Tryz.runUnderlying64 Tryz.sizeOf133 rfl rfl rfl hb.slv (by omega) rfl ?_)
          exact ⟨rfl, rfl, rfl⟩
        refine stepsP.cons (fun vals R hpZ => ?_) ?_
        · rw [(envs_of_sat (l := [(6, (.pointer (some (elemA bv (k * 3))) : Value))]) ⟨hpZ 6 (by decide), trivial⟩).symm]
          refine XG.op (XOp.loadN [.int .i64 ((b.getD k (0, 0, [])).1), .int .i64 ((b.getD k (0, 0, [])).2.1), a2] Tryz.isAgg133 Tryz.sizeOf133 rfl rfl (Rd.three (hr4 _) (hr5 _) (hr6 _)) ?_)
          exact ⟨rfl, rfl, rfl⟩
        exact stepsP.nil
      · intro vals hphi
        have e0 : vals 0 = av := hphi 0 (by decide)
        have e1 : vals 1 = (.int .i64 (((k : Nat) : Int)) : Value) := hphi 1 (by decide)
        have e2 : vals 2 = (.pointer (some (elemA av (k * 3))) : Value) := hphi 2 (by decide)
        have e3 : vals 3 = (.agg #[.int .i64 ((a.getD k (0, 0, [])).1), .int .i64 ((a.getD k (0, 0, [])).2.1), a1] : Value) := hphi 3 (by decide)
        have e4 : vals 4 = bv := hphi 4 (by decide)
        have e5 : vals 5 = (.int .i64 (((k : Nat) : Int)) : Value) := hphi 5 (by decide)
        have e6 : vals 6 = (.pointer (some (elemA bv (k * 3))) : Value) := hphi 6 (by decide)
        have e7 : vals 7 = (.agg #[.int .i64 ((b.getD k (0, 0, [])).1), .int .i64 ((b.getD k (0, 0, [])).2.1), a2] : Value) := hphi 7 (by decide)
        rw [(envs_of_sat (l := [(0, av), (1, (.int .i64 (((k : Nat) : Int)) : Value)), (2, (.pointer (some (elemA av (k * 3))) : Value)), (3, (.agg #[.int .i64 ((a.getD k (0, 0, [])).1), .int .i64 ((a.getD k (0, 0, [])).2.1), a1] : Value)), (4, bv), (5, (.int .i64 (((k : Nat) : Int)) : Value)), (6, (.pointer (some (elemA bv (k * 3))) : Value)), (7, (.agg #[.int .i64 ((b.getD k (0, 0, [])).1), .int .i64 ((b.getD k (0, 0, [])).2.1), a2] : Value))]) ⟨e0, e1, e2, e3, e4, e5, e6, e7, trivial⟩).symm]
        show XL _ _ _ _ _ _ _ (L)
        refine XL.cons (XOp.call (args := [.agg #[.int .i64 ((a.getD k (0, 0, [])).1), .int .i64 ((a.getD k (0, 0, [])).2.1), a1], .agg #[.int .i64 ((b.getD k (0, 0, [])).1), .int .i64 ((b.getD k (0, 0, [])).2.1), a2]]) Tryz.call138 rfl (eqStep_spec ha1 ha2 (hbd := (.inl (hbk (by omega))))) ?_)
        rintro _ _ _ _ ⟨rfl, rfl, rfl⟩
        refine XL.cons (XOp.notD (p := (((a.getD k (0, 0, [])).1), ((a.getD k (0, 0, [])).2.1), ((a.getD k (0, 0, [])).2.2)) = (((b.getD k (0, 0, [])).1), ((b.getD k (0, 0, [])).2.1), ((b.getD k (0, 0, [])).2.2))) rfl ?_)
        refine XL.nil ?_
        refine X.condD (p := ¬((((a.getD k (0, 0, [])).1), ((a.getD k (0, 0, [])).2.1), ((a.getD k (0, 0, [])).2.2)) = (((b.getD k (0, 0, [])).1), ((b.getD k (0, 0, [])).2.1), ((b.getD k (0, 0, [])).2.2)))) rfl (fun h3 => ?_) (fun h3 => ?_)
        · refine X.seq ?_
          refine X.region ?_
          refine XL.cons (XOp.assign (.bool (false)) rfl ?_)
          refine XL.nil ?_
          refine X.ret (blockQ_ret (thenQ_ret (thenQ_ret (blockQ_ret (thenQ_ret (retEnd (L' := L) [.bool (false)] (.bool (false)) (.tmp rfl .nil) rfl (FLe.refl _) (FLe.refl _) (Sub.refl _) ?_))))))
          exact ⟨(congrArg Value.bool (decide_eq_false (fun e => by subst e; simp at *))), rfl, rfl⟩
        · refine X.skip ?_
          refine X.region ?_
          refine XL.cons (XOp.move (.int .i64 (((k : Nat) : Int))) rfl ?_)
          refine XL.cons (XOp.addR (a := ((k : Nat) : Int)) (b := 1) (((k + 1 : Nat) : Int)) rfl rfl (by omega) (by omega) ?_)
          refine XL.cons (XOp.assign (.int .i64 (((k + 1 : Nat) : Int))) rfl ?_)
          refine XL.nil ?_
          exact ⟨k + 1, _, FLe.refl _, (FLe.refl _), ⟨rfl, rfl, rfl, trivial⟩, (Sub.refl _), ⟨rfl, (by (try dsimp only) <;> omega), (fun i hi => (Nat.lt_or_ge i k).elim (fun h => hall i h) (fun h => by obtain rfl : i = k := (by omega); first | assumption | exact Classical.not_not.1 (by assumption)))⟩, (by omega)⟩
    · refine X.exit (thenQ_exit (thenQ_exit (blockQ_exit ?_)))
      refine X.seq ?_
      refine X.region ?_
      refine XL.cons (XOp.assign (.bool (true)) rfl ?_)
      refine XL.nil ?_
      refine X.ret (retEnd (L' := L) [.bool (true)] (.bool (true)) (.tmp rfl .nil) rfl (FLe.refl _) (FLe.refl _) (Sub.refl _) ?_)
      exact ⟨(congrArg Value.bool (decide_eq_true (ext_any ((0 : Int), (0 : Int), ([] : List Int)) (by omega) (fun i hi => hall i (by omega))))), rfl, rfl⟩

/- laws.eqWalk -/
theorem eqWalk_spec {F : FH} {L : List HP} {fv : Value} {f : List Int} (hf : IntsF F fv f) {av : Value} {a : List StepT} (ha : StepsF F av a) {gv : Value} {g : List Int} (hg : IntsF F gv g) {bv : Value} {b : List StepT} (hb : StepsF F bv b) (hfl : f.length ≤ 9223372036854775807) (hal : a.length ≤ 9223372036854775807) (hbd : ∀ i, i < a.length → (a.getD i (0, 0, [])).2.2.length ≤ 9223372036854775807) :
    Does Tryz.prog 40 [.agg #[fv, av], .agg #[gv, bv]] F (L) (fun v F' L' => (.bool (decide (f = g ∧ a = b)) : Value) = v ∧ F = F' ∧ L = L') := by
  refine Does.of_X Tryz.func40 rfl rfl rfl ?_
  refine X.seq ?_
  refine X.region ?_
  refine XL.cons (XOp.box [fv, av] rfl rfl ?_)
  intro b1
  refine XL.cons (XOp.box [gv, bv] rfl rfl ?_)
  intro b2
  refine XL.cons (XOp.assign (.bool (false)) rfl ?_)
  refine XL.nil ?_
  refine X.seq ?_
  refine X.seq ?_
  refine X.region ?_
  refine XL.cons (XOp.fieldP (b := b1) (0) Tryz.runUnderlying66 rfl Tryz.sizeOf22 (by decide) rfl rfl ?_)
  refine XL.cons (XOp.load1 (v := fv) Tryz.isAgg22 rfl (Rd.own [_] rfl rfl) ?_)
  refine XL.cons (XOp.fieldP (b := b2) (0) Tryz.runUnderlying66 rfl Tryz.sizeOf22 (by decide) rfl rfl ?_)
  refine XL.cons (XOp.load1 (v := gv) Tryz.isAgg22 rfl (Rd.own [] rfl rfl) ?_)
  refine XL.cons (XOp.call (args := [fv, gv]) Tryz.call17 rfl (eqInt64S_spec hf hg (hbd := (.inl hfl))) ?_)
  rintro _ _ _ _ ⟨rfl, rfl, rfl⟩
  refine XL.cons (XOp.notD (p := f = g) rfl ?_)
  refine XL.nil ?_
  refine X.condD (p := ¬(f = g)) rfl (fun h1 => ?_) (fun h1 => ?_)
  · refine X.seq ?_
    refine X.region ?_
    refine XL.cons (XOp.assign (.bool (false)) rfl ?_)
    refine XL.nil ?_
    refine X.ret (thenQ_ret (retEnd (L' := L) [.bool (false)] (.bool (false)) (.tmp rfl .nil) rfl (FLe.refl _) (FLe.refl _) (Sub.drop (Sub.drop (Sub.refl _))) ?_))
    exact ⟨(congrArg Value.bool (decide_eq_false (by intro e; simp_all))), rfl, rfl⟩
  · refine X.skip ?_
    refine X.seq ?_
    refine X.seq ?_
    refine X.region ?_
    refine XL.cons (XOp.fieldP (b := b1) (1) Tryz.runUnderlying66 rfl Tryz.sizeOf64 (by decide) rfl rfl ?_)
    refine XL.cons (XOp.load1 (v := av) Tryz.isAgg64 rfl (Rd.own [_] rfl rfl) ?_)
    refine XL.cons (XOp.fieldP (b := b2) (1) Tryz.runUnderlying66 rfl Tryz.sizeOf64 (by decide) rfl rfl ?_)
    refine XL.cons (XOp.load1 (v := bv) Tryz.isAgg64 rfl (Rd.own [] rfl rfl) ?_)
    refine XL.cons (XOp.call (args := [av, bv]) Tryz.call91 rfl (eqStepS_spec ha hb (hal := (by first | assumption | rfl | omega | (left; simp; done) | (right; simp; done))) (hbd := (by first | assumption | rfl | omega | (left; simp; done) | (right; simp; done)))) ?_)
    rintro _ _ _ _ ⟨rfl, rfl, rfl⟩
    refine XL.cons (XOp.notD (p := a = b) rfl ?_)
    refine XL.nil ?_
    refine X.condD (p := ¬(a = b)) rfl (fun h2 => ?_) (fun h2 => ?_)
    · refine X.seq ?_
      refine X.region ?_
      refine XL.cons (XOp.assign (.bool (false)) rfl ?_)
      refine XL.nil ?_
      refine X.ret (thenQ_ret (retEnd (L' := L) [.bool (false)] (.bool (false)) (.tmp rfl .nil) rfl (FLe.refl _) (FLe.refl _) (Sub.drop (Sub.drop (Sub.refl _))) ?_))
      exact ⟨(congrArg Value.bool (decide_eq_false (by intro e; simp_all))), rfl, rfl⟩
    · refine X.skip ?_
      refine X.seq ?_
      refine X.region ?_
      refine XL.cons (XOp.assign (.bool (true)) rfl ?_)
      refine XL.nil ?_
      refine X.ret (retEnd (L' := L) [.bool (true)] (.bool (true)) (.tmp rfl .nil) rfl (FLe.refl _) (FLe.refl _) (Sub.drop (Sub.drop (Sub.refl _))) ?_)
      exact ⟨(congrArg Value.bool (decide_eq_true (by simp_all))), rfl, rfl⟩

/- laws.heldStepS -/
theorem heldStepS_spec {F : FH} {L : List HP} {xv : Value} {x : List StepT} (hx : StepsF F xv x) {z : Int} (hzb : 0 ≤ z ∧ z + ((x.flatMap flatStep).length : Int) ≤ 9000000000) (hxl : x.length ≤ 4000000) :
    Does Tryz.prog 93 [xv, .int .i64 (z)] F (L) (fun v F' L' => (.int .i64 (heldF (x.flatMap flatStep) z) : Value) = v ∧ F = F' ∧ L = L') := by
  refine Does.of_X Tryz.func93 rfl rfl rfl ?_
  refine X.seq ?_
  refine X.region ?_
  refine XL.cons (XOp.assign (.int .i64 (0)) rfl ?_)
  refine XL.nil ?_
  refine X.seq ?_
  refine X.seq ?_
  refine X.region ?_
  refine XL.cons (XOp.assign (.int .i64 (0)) rfl ?_)
  refine XL.nil ?_
  refine X.block ?_
  refine X.loop (α := Nat) (fun k => [(0, xv), (1, .int .i64 (heldF ((x.take k).flatMap flatStep) z)), (5, .int .i64 (((k : Nat) : Int)))]) (fun k => L) (fun k F' => F = F' ∧ (k ≤ x.length) ∧ (0 ≤ heldF ((x.take k).flatMap flatStep) z)) (fun k => x.length - k) 0 ⟨rfl, (show Value.int .i64 z = .int .i64 (heldF ((x.take 0).flatMap flatStep) z) from congrArg (Value.int .i64) (by simp [heldF_nil])), rfl, trivial⟩ (Sub.refl _) ⟨rfl, (by (try dsimp only) <;> omega), (by simp [heldF_nil]; omega)⟩ ?_
  rintro k rE _ _ ⟨rfl, hk, hnn⟩
  show X _ _ _ _ (envs [(0, xv), (1, .int .i64 (heldF ((x.take k).flatMap flatStep) z)), (5, .int .i64 (((k : Nat) : Int)))] rE) _ (L)
  have hhp := heldF_pos (a := (x.take k).flatMap flatStep) (k := z) (by omega)
  have htl := fun (h : k < x.length) => flat_take_le (f := flatStep) (l := x) ((0 : Int), (0 : Int), ([] : List Int)) h
  have hnx := fun (h : k < x.length) => held_next (f := flatStep) (l := x) (k := k) ((0 : Int), (0 : Int), ([] : List Int)) hzb.1 h (by omega)
  have hsx : k < x.length → (flatStep (x.getD k (0, 0, []))).length = (x.getD k (0, 0, [])).2.2.length + 1 + 1 := fun _ => rfl
  have hun : k < x.length → heldF (flatStep (x.getD k (0, 0, []))) (heldF ((x.take k).flatMap flatStep) z) = (if (x.getD k (0, 0, [])).1 = heldF ((x.take k).flatMap flatStep) z then (if (x.getD k (0, 0, [])).2.1 = heldF ((x.take k).flatMap flatStep) z + 1 then heldF (x.getD k (0, 0, [])).2.2 (heldF ((x.take k).flatMap flatStep) z + 1 + 1) else -1) else -1) := fun _ => by rw [show flatStep (x.getD k (0, 0, [])) = (x.getD k (0, 0, [])).1 :: (x.getD k (0, 0, [])).2.1 :: (x.getD k (0, 0, [])).2.2 from rfl, heldF_cons hnn, heldF_cons (by omega)]
  refine X.seq ?_
  refine X.seq ?_
  refine X.region ?_
  refine XL.cons (XOp.move (.int .i64 (((k : Nat) : Int))) rfl ?_)
  refine XL.cons (XOp.move (xv) rfl ?_)
  refine XL.cons (XOp.lenS (v := xv) (n := (x).length) Tryz.runUnderlying64 rfl hx.slv ?_)
  refine XL.cons (XOp.lss (a := ((k : Nat) : Int)) (b := (((x).length : Nat) : Int)) rfl rfl ?_)
  refine XL.nil ?_
  refine X.condD (p := (((k : Nat) : Int) : Int) < (((x).length : Nat) : Int)) rfl (fun h1 => ?_) (fun h1 => ?_)
  · refine X.skip ?_
    refine X.seq ?_
    refine X.block ?_
    refine X.seq ?_
    refine X.seq ?_
    refine X.region ?_
    refine XL.cons (XOp.move (xv) rfl ?_)
    refine XL.cons (XOp.move (.int .i64 (((k : Nat) : Int))) rfl ?_)
    refine XL.cons (XOp.indexS (v := xv) (i := ((k : Nat) : Int)) (n := (x).length) k Tryz.runUnderlying64 Tryz.sizeOf133 rfl rfl rfl hx.slv (by omega) rfl ?_)
    refine XL.cons (XOp.fieldE (v := xv) (k * 3) Tryz.runUnderlying133 rfl Tryz.sizeOf2 (by decide) rfl rfl ?_)
    obtain ⟨a1, ha1, hr1, hr2, hr3⟩ := hx.rd (i := k) (by omega)
    refine XL.cons (XOp.load1 (v := .int .i64 ((x.getD k (0, 0, [])).1)) Tryz.isAgg2 rfl (hr1 _) ?_)
    refine XL.cons (XOp.move (.int .i64 (heldF ((x.take k).flatMap flatStep) z)) rfl ?_)
    refine XL.cons (XOp.neq (a := (x.getD k (0, 0, [])).1) (b := heldF ((x.take k).flatMap flatStep) z) rfl rfl ?_)
    refine XL.nil ?_
    refine X.condD (p := ((x.getD k (0, 0, [])).1 : Int) ≠ heldF ((x.take k).flatMap flatStep) z) rfl (fun h2 => ?_) (fun h2 => ?_)
    · refine X.seq ?_
      refine X.region ?_
      refine XL.cons (XOp.assign (.int .i64 (-1)) rfl ?_)
      refine XL.nil ?_
      refine X.ret (thenQ_ret (blockQ_ret (thenQ_ret (thenQ_ret (blockQ_ret (thenQ_ret (retEnd (L' := L) [.int .i64 (-1)] (.int .i64 (-1)) (.tmp rfl .nil) rfl (FLe.refl _) (FLe.refl _) (Sub.refl _) ?_)))))))
      exact ⟨(congrArg (Value.int .i64) (by exact held_fail (k := k) ((0 : Int), (0 : Int), ([] : List Int)) hzb.1 (by omega) (by rw [hnx (by omega), hun (by omega), if_neg (by assumption)]; omega))), rfl, rfl⟩
    · refine X.skip ?_
      refine X.seq ?_
      refine X.region ?_
      refine XL.cons (XOp.move (.int .i64 (heldF ((x.take k).flatMap flatStep) z)) rfl ?_)
      refine XL.cons (XOp.addR (a := heldF ((x.take k).flatMap flatStep) z) (b := 1) ((heldF ((x.take k).flatMap flatStep) z) + 1) rfl rfl (by omega) (by omega) ?_)
      refine XL.cons (XOp.assign (.int .i64 ((heldF ((x.take k).flatMap flatStep) z) + 1)) rfl ?_)
      refine XL.nil ?_
      refine X.seq ?_
      refine X.seq ?_
      refine X.region ?_
      refine XL.cons (XOp.move (xv) rfl ?_)
      refine XL.cons (XOp.move (.int .i64 (((k : Nat) : Int))) rfl ?_)
      refine XL.cons (XOp.indexS (v := xv) (i := ((k : Nat) : Int)) (n := (x).length) k Tryz.runUnderlying64 Tryz.sizeOf133 rfl rfl rfl hx.slv (by omega) rfl ?_)
      refine XL.cons (XOp.fieldE (v := xv) (k * 3 + 1) Tryz.runUnderlying133 rfl Tryz.sizeOf2 (by decide) rfl rfl ?_)
      refine XL.cons (XOp.load1 (v := .int .i64 ((x.getD k (0, 0, [])).2.1)) Tryz.isAgg2 rfl (hr2 _) ?_)
      refine XL.cons (XOp.move (.int .i64 ((heldF ((x.take k).flatMap flatStep) z) + 1)) rfl ?_)
      refine XL.cons (XOp.neq (a := (x.getD k (0, 0, [])).2.1) (b := (heldF ((x.take k).flatMap flatStep) z) + 1) rfl rfl ?_)
      refine XL.nil ?_
      refine X.condD (p := ((x.getD k (0, 0, [])).2.1 : Int) ≠ (heldF ((x.take k).flatMap flatStep) z) + 1) rfl (fun h3 => ?_) (fun h3 => ?_)
      · refine X.seq ?_
        refine X.region ?_
        refine XL.cons (XOp.assign (.int .i64 (-1)) rfl ?_)
        refine XL.nil ?_
        refine X.ret (thenQ_ret (blockQ_ret (thenQ_ret (thenQ_ret (blockQ_ret (thenQ_ret (retEnd (L' := L) [.int .i64 (-1)] (.int .i64 (-1)) (.tmp rfl .nil) rfl (FLe.refl _) (FLe.refl _) (Sub.refl _) ?_)))))))
        exact ⟨(congrArg (Value.int .i64) (by exact held_fail (k := k) ((0 : Int), (0 : Int), ([] : List Int)) hzb.1 (by omega) (by rw [hnx (by omega), hun (by omega), if_pos (by first | assumption | exact Classical.not_not.1 (by assumption)), if_neg (by assumption)]; omega))), rfl, rfl⟩
      · refine X.skip ?_
        refine X.seq ?_
        refine X.region ?_
        refine XL.cons (XOp.move (.int .i64 ((heldF ((x.take k).flatMap flatStep) z) + 1)) rfl ?_)
        refine XL.cons (XOp.addR (a := (heldF ((x.take k).flatMap flatStep) z) + 1) (b := 1) (((heldF ((x.take k).flatMap flatStep) z) + 1) + 1) rfl rfl (by omega) (by omega) ?_)
        refine XL.cons (XOp.assign (.int .i64 (((heldF ((x.take k).flatMap flatStep) z) + 1) + 1)) rfl ?_)
        refine XL.nil ?_
        refine X.seq ?_
        refine X.region ?_
        refine XL.cons (XOp.move (xv) rfl ?_)
        refine XL.cons (XOp.move (.int .i64 (((k : Nat) : Int))) rfl ?_)
        refine XL.cons (XOp.indexS (v := xv) (i := ((k : Nat) : Int)) (n := (x).length) k Tryz.runUnderlying64 Tryz.sizeOf133 rfl rfl rfl hx.slv (by omega) rfl ?_)
        refine XL.cons (XOp.fieldE (v := xv) (k * 3 + 2) Tryz.runUnderlying133 rfl Tryz.sizeOf22 (by decide) rfl rfl ?_)
        refine XL.cons (XOp.load1 (v := a1) Tryz.isAgg22 rfl (hr3 _) ?_)
        refine XL.cons (XOp.move (.int .i64 (((heldF ((x.take k).flatMap flatStep) z) + 1) + 1)) rfl ?_)
        refine XL.cons (XOp.call (args := [a1, .int .i64 (((heldF ((x.take k).flatMap flatStep) z) + 1) + 1)]) Tryz.call33 rfl (heldInt64S_spec (z := ((heldF ((x.take k).flatMap flatStep) z) + 1) + 1) ha1 (hzb := (by first | assumption | rfl | omega | (left; simp; done) | (right; simp; done)))) ?_)
        rintro _ _ _ _ ⟨rfl, rfl, rfl⟩
        refine XL.cons (XOp.assign (.int .i64 (heldF ((x.getD k (0, 0, [])).2.2) (((heldF ((x.take k).flatMap flatStep) z) + 1) + 1))) rfl ?_)
        refine XL.nil ?_
        refine X.seq ?_
        refine X.region ?_
        refine XL.cons (XOp.move (.int .i64 (heldF ((x.getD k (0, 0, [])).2.2) (((heldF ((x.take k).flatMap flatStep) z) + 1) + 1))) rfl ?_)
        refine XL.cons (XOp.lss (a := heldF ((x.getD k (0, 0, [])).2.2) (((heldF ((x.take k).flatMap flatStep) z) + 1) + 1)) (b := 0) rfl rfl ?_)
        refine XL.nil ?_
        refine X.condD (p := (heldF ((x.getD k (0, 0, [])).2.2) (((heldF ((x.take k).flatMap flatStep) z) + 1) + 1) : Int) < 0) rfl (fun h4 => ?_) (fun h4 => ?_)
        · refine X.seq ?_
          refine X.region ?_
          refine XL.cons (XOp.assign (.int .i64 (-1)) rfl ?_)
          refine XL.nil ?_
          refine X.ret (blockQ_ret (thenQ_ret (thenQ_ret (blockQ_ret (thenQ_ret (retEnd (L' := L) [.int .i64 (-1)] (.int .i64 (-1)) (.tmp rfl .nil) rfl (FLe.refl _) (FLe.refl _) (Sub.refl _) ?_))))))
          exact ⟨(congrArg (Value.int .i64) (by exact held_fail (k := k) ((0 : Int), (0 : Int), ([] : List Int)) hzb.1 (by omega) (by rw [hnx (by omega), hun (by omega), if_pos (by first | assumption | exact Classical.not_not.1 (by assumption)), if_pos (by first | assumption | exact Classical.not_not.1 (by assumption))]; omega))), rfl, rfl⟩
        · refine X.skip ?_
          refine X.region ?_
          refine XL.cons (XOp.move (.int .i64 (((k : Nat) : Int))) rfl ?_)
          refine XL.cons (XOp.addR (a := ((k : Nat) : Int)) (b := 1) (((k + 1 : Nat) : Int)) rfl rfl (by omega) (by omega) ?_)
          refine XL.cons (XOp.assign (.int .i64 (((k + 1 : Nat) : Int))) rfl ?_)
          refine XL.nil ?_
          exact ⟨k + 1, _, FLe.refl _, (FLe.refl _), ⟨rfl, (congrArg (Value.int .i64) (by rw [hnx (by omega), hun (by omega), if_pos (by first | assumption | exact Classical.not_not.1 (by assumption)), if_pos (by first | assumption | exact Classical.not_not.1 (by assumption))])), rfl, trivial⟩, (Sub.refl _), ⟨rfl, (by (try dsimp only) <;> omega), (by (try dsimp only); rw [hnx (by omega), hun (by omega), if_pos (by first | assumption | exact Classical.not_not.1 (by assumption)), if_pos (by first | assumption | exact Classical.not_not.1 (by assumption))]; omega)⟩, (by omega)⟩
  · refine X.exit (thenQ_exit (thenQ_exit (blockQ_exit ?_)))
    refine X.seq ?_
    refine X.region ?_
    refine XL.cons (XOp.move (.int .i64 (heldF ((x.take k).flatMap flatStep) z)) rfl ?_)
    refine XL.cons (XOp.assign (.int .i64 (heldF ((x.take k).flatMap flatStep) z)) rfl ?_)
    refine XL.nil ?_
    refine X.ret (retEnd (L' := L) [.int .i64 (heldF ((x.take k).flatMap flatStep) z)] (.int .i64 (heldF ((x.take k).flatMap flatStep) z)) (.tmp rfl .nil) rfl (FLe.refl _) (FLe.refl _) (Sub.refl _) ?_)
    exact ⟨(congrArg (Value.int .i64) (by rw [List.take_of_length_le (by omega)])), rfl, rfl⟩

/- laws.heldWalk -/
theorem heldWalk_spec {F : FH} {L : List HP} {fv : Value} {f : List Int} (hf : IntsF F fv f) {xv : Value} {x : List StepT} (hx : StepsF F xv x) {z : Int} (hzb : 0 ≤ z ∧ z + ((f.length + (x.flatMap flatStep).length : Nat) : Int) ≤ 9000000000) (hxl : x.length ≤ 4000000) :
    Does Tryz.prog 42 [.agg #[fv, xv], .int .i64 (z)] F (L) (fun v F' L' => (.int .i64 (heldF (f ++ x.flatMap flatStep) z) : Value) = v ∧ F = F' ∧ L = L') := by
  refine Does.of_X Tryz.func42 rfl rfl rfl ?_
  have hh1 := heldF_range (xs := f) hzb.1
  refine X.seq ?_
  refine X.region ?_
  refine XL.cons (XOp.box [fv, xv] rfl rfl ?_)
  intro b1
  refine XL.cons (XOp.assign (.int .i64 (0)) rfl ?_)
  refine XL.nil ?_
  refine X.seq ?_
  refine X.region ?_
  refine XL.cons (XOp.fieldP (b := b1) (0) Tryz.runUnderlying66 rfl Tryz.sizeOf22 (by decide) rfl rfl ?_)
  refine XL.cons (XOp.load1 (v := fv) Tryz.isAgg22 rfl (Rd.own [] rfl rfl) ?_)
  refine XL.cons (XOp.move (.int .i64 (z)) rfl ?_)
  refine XL.cons (XOp.call (args := [fv, .int .i64 (z)]) Tryz.call33 rfl (heldInt64S_spec (z := z) hf (hzb := (by first | assumption | rfl | omega | (left; simp; done) | (right; simp; done)))) ?_)
  rintro _ _ _ _ ⟨rfl, rfl, rfl⟩
  refine XL.cons (XOp.assign (.int .i64 (heldF f z)) rfl ?_)
  refine XL.nil ?_
  refine X.seq ?_
  refine X.seq ?_
  refine X.region ?_
  refine XL.cons (XOp.move (.int .i64 (heldF f z)) rfl ?_)
  refine XL.cons (XOp.lss (a := heldF f z) (b := 0) rfl rfl ?_)
  refine XL.nil ?_
  refine X.condD (p := (heldF f z : Int) < 0) rfl (fun h1 => ?_) (fun h1 => ?_)
  · refine X.seq ?_
    refine X.region ?_
    refine XL.cons (XOp.assign (.int .i64 (-1)) rfl ?_)
    refine XL.nil ?_
    refine X.ret (thenQ_ret (retEnd (L' := L) [.int .i64 (-1)] (.int .i64 (-1)) (.tmp rfl .nil) rfl (FLe.refl _) (FLe.refl _) (Sub.drop (Sub.refl _)) ?_))
    exact ⟨(congrArg (Value.int .i64) (by rw [heldF_append hzb.1, if_pos (by omega)])), rfl, rfl⟩
  · refine X.skip ?_
    refine X.seq ?_
    refine X.region ?_
    refine XL.cons (XOp.fieldP (b := b1) (1) Tryz.runUnderlying66 rfl Tryz.sizeOf64 (by decide) rfl rfl ?_)
    refine XL.cons (XOp.load1 (v := xv) Tryz.isAgg64 rfl (Rd.own [] rfl rfl) ?_)
    refine XL.cons (XOp.move (.int .i64 (heldF f z)) rfl ?_)
    refine XL.cons (XOp.call (args := [xv, .int .i64 (heldF f z)]) Tryz.call93 rfl (heldStepS_spec (z := heldF f z) hx (hzb := (by first | assumption | rfl | omega | (left; simp; done) | (right; simp; done))) (hxl := (by first | assumption | rfl | omega | (left; simp; done) | (right; simp; done)))) ?_)
    rintro _ _ _ _ ⟨rfl, rfl, rfl⟩
    refine XL.cons (XOp.assign (.int .i64 (heldF (x.flatMap flatStep) (heldF f z))) rfl ?_)
    refine XL.nil ?_
    refine X.seq ?_
    refine X.seq ?_
    refine X.region ?_
    refine XL.cons (XOp.move (.int .i64 (heldF (x.flatMap flatStep) (heldF f z))) rfl ?_)
    refine XL.cons (XOp.lss (a := heldF (x.flatMap flatStep) (heldF f z)) (b := 0) rfl rfl ?_)
    refine XL.nil ?_
    refine X.condD (p := (heldF (x.flatMap flatStep) (heldF f z) : Int) < 0) rfl (fun h2 => ?_) (fun h2 => ?_)
    · refine X.seq ?_
      refine X.region ?_
      refine XL.cons (XOp.assign (.int .i64 (-1)) rfl ?_)
      refine XL.nil ?_
      refine X.ret (thenQ_ret (retEnd (L' := L) [.int .i64 (-1)] (.int .i64 (-1)) (.tmp rfl .nil) rfl (FLe.refl _) (FLe.refl _) (Sub.drop (Sub.refl _)) ?_))
      exact ⟨(congrArg (Value.int .i64) (by rw [heldF_append hzb.1, if_neg (by omega)]; have := (heldF_range (xs := x.flatMap flatStep) (k := heldF f z) (by omega)).1; omega)), rfl, rfl⟩
    · refine X.skip ?_
      refine X.seq ?_
      refine X.region ?_
      refine XL.cons (XOp.move (.int .i64 (heldF (x.flatMap flatStep) (heldF f z))) rfl ?_)
      refine XL.cons (XOp.assign (.int .i64 (heldF (x.flatMap flatStep) (heldF f z))) rfl ?_)
      refine XL.nil ?_
      refine X.ret (retEnd (L' := L) [.int .i64 (heldF (x.flatMap flatStep) (heldF f z))] (.int .i64 (heldF (x.flatMap flatStep) (heldF f z))) (.tmp rfl .nil) rfl (FLe.refl _) (FLe.refl _) (Sub.drop (Sub.refl _)) ?_)
      exact ⟨(congrArg (Value.int .i64) (by rw [heldF_append hzb.1, if_neg (by omega)])), rfl, rfl⟩
end Go.Proofs.YtbooflphoaaoeaaGreat
