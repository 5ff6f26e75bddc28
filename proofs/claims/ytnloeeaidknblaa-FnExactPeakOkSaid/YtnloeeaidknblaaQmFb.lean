/-
  Walks: small functions on lists of numbers.
-/
import Derived.Test.YtnloeeaidknblaaQmFa
import Derived.Test.YtnloeeaidknblaaX7
set_option linter.unusedSimpArgs false
set_option linter.unusedVariables false
namespace Go.Proofs.Ytnloeeaidknblaa
open Go X M

/- slices.Min[[]int64,int64] -/
theorem Min_spec {F : FH} {L : List HP} {xsv : Value} {xs : List Int} (hxs : IntsF F xsv xs) (h1 : 1 ≤ xs.length) (hbd : xs.length ≤ 4000000) :
    Does Try.prog 171 [xsv] F (L) (fun v F' L' => (.int .i64 (minL xs) : Value) = v ∧ F = F' ∧ L = L') := by
  refine Does.of_X Try.func171 rfl rfl rfl ?_
  refine X.seq ?_
  refine X.region ?_
  refine XL.cons (XOp.assign (.int .i64 (0)) rfl ?_)
  refine XL.nil ?_
  refine X.seq ?_
  refine X.seq ?_
  refine X.region ?_
  refine XL.cons (XOp.move (xsv) rfl ?_)
  refine XL.cons (XOp.lenS (v := xsv) (n := (xs).length) Try.runUnderlying22 rfl hxs.slv ?_)
  refine XL.cons (XOp.lss (a := (((xs).length : Nat) : Int)) (b := 1) rfl rfl ?_)
  refine XL.nil ?_
  refine X.condD (p := ((((xs).length : Nat) : Int) : Int) < 1) rfl (fun h1 => ?_) (fun h1 => ?_)
  · omega
  · refine X.skip ?_
    refine X.seq ?_
    refine X.region ?_
    refine XL.cons (XOp.move (xsv) rfl ?_)
    refine XL.cons (XOp.indexS (v := xsv) (i := 0) (n := (xs).length) 0 Try.runUnderlying22 Try.sizeOf2 rfl rfl rfl hxs.slv (by omega) (Nat.mul_one _) ?_)
    refine XL.cons (XOp.load1 (v := .int .i64 (xs.getD 0 0)) Try.isAgg2 rfl (hxs.rd (by omega)) ?_)
    refine XL.cons (XOp.assign (.int .i64 (xs.getD 0 0)) rfl ?_)
    refine XL.nil ?_
    refine X.seq ?_
    refine X.seq ?_
    refine X.region ?_
    refine XL.cons (XOp.assign (.int .i64 (1)) rfl ?_)
    refine XL.nil ?_
    refine X.block ?_
    refine X.loop (α := Nat) (fun k => [(0, xsv), (3, .int .i64 (minL (xs.take k))), (4, .int .i64 (((k : Nat) : Int)))]) (fun k => L) (fun k F' => F = F' ∧ (1 ≤ k ∧ k ≤ xs.length)) (fun k => xs.length - k) 1 ⟨rfl, (congrArg (Value.int .i64) (minL_take1 (xs := xs) (by omega)).symm), rfl, trivial⟩ (Sub.refl _) ⟨rfl, (by omega)⟩ ?_
    rintro k rE _ _ ⟨rfl, hk⟩
    show X _ _ _ _ (envs [(0, xsv), (3, .int .i64 (minL (xs.take k))), (4, .int .i64 (((k : Nat) : Int)))] rE) _ (L)
    refine X.seq ?_
    refine X.seq ?_
    refine X.region ?_
    refine XL.cons (XOp.move (.int .i64 (((k : Nat) : Int))) rfl ?_)
    refine XL.cons (XOp.move (xsv) rfl ?_)
    refine XL.cons (XOp.lenS (v := xsv) (n := (xs).length) Try.runUnderlying22 rfl hxs.slv ?_)
    refine XL.cons (XOp.lss (a := ((k : Nat) : Int)) (b := (((xs).length : Nat) : Int)) rfl rfl ?_)
    refine XL.nil ?_
    refine X.condD (p := (((k : Nat) : Int) : Int) < (((xs).length : Nat) : Int)) rfl (fun h2 => ?_) (fun h2 => ?_)
    · refine X.skip ?_
      refine X.seq ?_
      refine X.block ?_
      refine X.region ?_
      refine XL.cons (XOp.move (.int .i64 (minL (xs.take k))) rfl ?_)
      refine XL.cons (XOp.move (xsv) rfl ?_)
      refine XL.cons (XOp.move (.int .i64 (((k : Nat) : Int))) rfl ?_)
      refine XL.cons (XOp.indexS (v := xsv) (i := ((k : Nat) : Int)) (n := (xs).length) k Try.runUnderlying22 Try.sizeOf2 rfl rfl rfl hxs.slv (by omega) (Nat.mul_one _) ?_)
      refine XL.cons (XOp.load1 (v := .int .i64 (xs.getD k 0)) Try.isAgg2 rfl (hxs.rd (by omega)) ?_)
      refine XL.cons (XOp.min2R (a := minL (xs.take k)) (b := xs.getD k 0) (minL (xs.take (k + 1))) rfl rfl ((minL_step (by omega) (by omega)).symm) ?_)
      refine XL.cons (XOp.assign (.int .i64 (minL (xs.take (k + 1)))) rfl ?_)
      refine XL.nil ?_
      refine X.region ?_
      refine XL.cons (XOp.move (.int .i64 (((k : Nat) : Int))) rfl ?_)
      refine XL.cons (XOp.addR (a := ((k : Nat) : Int)) (b := 1) (((k + 1 : Nat) : Int)) rfl rfl (by omega) (by omega) ?_)
      refine XL.cons (XOp.assign (.int .i64 (((k + 1 : Nat) : Int))) rfl ?_)
      refine XL.nil ?_
      exact ⟨k + 1, _, FLe.refl _, (FLe.refl _), ⟨rfl, rfl, rfl, trivial⟩, (Sub.refl _), ⟨rfl, (by omega)⟩, (by omega)⟩
    · refine X.exit (thenQ_exit (thenQ_exit (blockQ_exit ?_)))
      refine X.seq ?_
      refine X.region ?_
      refine XL.cons (XOp.move (.int .i64 (minL (xs.take k))) rfl ?_)
      refine XL.cons (XOp.assign (.int .i64 (minL (xs.take k))) rfl ?_)
      refine XL.nil ?_
      refine X.ret (retEnd (L' := L) [.int .i64 (minL (xs.take k))] (.int .i64 (minL (xs.take k))) (.tmp rfl .nil) rfl (FLe.refl _) (FLe.refl _) (Sub.refl _) ?_)
      exact ⟨(congrArg (Value.int .i64) (by rw [minL_take_all (by omega)])), rfl, rfl⟩

/- slices.Equal[[]int64,int64] -/
theorem Equal_spec {F : FH} {L : List HP} {av : Value} {a : List Int} (ha : IntsF F av a) {bv : Value} {b : List Int} (hb : IntsF F bv b) (hbd : a.length ≤ 9223372036854775807 ∨ b.length ≤ 9223372036854775807) :
    Does Try.prog 122 [av, bv] F (L) (fun v F' L' => (.bool (decide (a = b)) : Value) = v ∧ F = F' ∧ L = L') := by
  refine Does.of_X Try.func122 rfl rfl rfl ?_
  refine X.seq ?_
  refine X.region ?_
  refine XL.cons (XOp.assign (.bool (false)) rfl ?_)
  refine XL.nil ?_
  refine X.seq ?_
  refine X.seq ?_
  refine X.region ?_
  refine XL.cons (XOp.move (av) rfl ?_)
  refine XL.cons (XOp.lenS (v := av) (n := (a).length) Try.runUnderlying22 rfl ha.slv ?_)
  refine XL.cons (XOp.move (bv) rfl ?_)
  refine XL.cons (XOp.lenS (v := bv) (n := (b).length) Try.runUnderlying22 rfl hb.slv ?_)
  refine XL.cons (XOp.neq (a := (((a).length : Nat) : Int)) (b := (((b).length : Nat) : Int)) rfl rfl ?_)
  refine XL.nil ?_
  refine X.condD (p := ((((a).length : Nat) : Int) : Int) ≠ (((b).length : Nat) : Int)) rfl (fun h1 => ?_) (fun h1 => ?_)
  · refine X.seq ?_
    refine X.region ?_
    refine XL.cons (XOp.assign (.bool (false)) rfl ?_)
    refine XL.nil ?_
    refine X.ret (thenQ_ret (retEnd (L' := L) [.bool (false)] (.bool (false)) (.tmp rfl .nil) rfl (FLe.refl _) (FLe.refl _) (Sub.refl _) ?_))
    exact ⟨(congrArg Value.bool (decide_eq_false (fun e => by rw [e] at h1; omega))), rfl, rfl⟩
  · refine X.skip ?_
    refine X.seq ?_
    refine X.seq ?_
    refine X.region ?_
    refine XL.cons (XOp.move (av) rfl ?_)
    refine XL.cons (XOp.lenS (v := av) (n := (a).length) Try.runUnderlying22 rfl ha.slv ?_)
    refine XL.cons (XOp.move (.int .i64 (0)) rfl ?_)
    refine XL.nil ?_
    refine X.block ?_
    refine X.loop (α := Nat) (fun k => [(0, av), (1, bv), (12, .int .i64 ((((a).length : Nat) : Int))), (13, .int .i64 (((k : Nat) : Int)))]) (fun k => L) (fun k F' => F = F' ∧ (k ≤ a.length) ∧ (∀ i, i < k → a.getD i 0 = b.getD i 0)) (fun k => a.length - k) 0 ⟨rfl, rfl, rfl, rfl, trivial⟩ (Sub.refl _) ⟨rfl, (by omega), (fun i hi => absurd hi (by omega))⟩ ?_
    rintro k rE _ _ ⟨rfl, hk, hall⟩
    show X _ _ _ _ (envs [(0, av), (1, bv), (12, .int .i64 ((((a).length : Nat) : Int))), (13, .int .i64 (((k : Nat) : Int)))] rE) _ (L)
    refine X.seq ?_
    refine X.region ?_
    refine XL.cons (XOp.lss (a := ((k : Nat) : Int)) (b := (((a).length : Nat) : Int)) rfl rfl ?_)
    refine XL.nil ?_
    refine X.seq ?_
    refine X.condD (p := (((k : Nat) : Int) : Int) < (((a).length : Nat) : Int)) rfl (fun h2 => ?_) (fun h2 => ?_)
    · refine X.skip ?_
      refine X.seq ?_
      refine X.block ?_
      refine X.seq ?_
      refine X.region ?_
      refine XL.cons (XOp.move (.int .i64 (((k : Nat) : Int))) rfl ?_)
      refine XL.cons (XOp.assign (.int .i64 (((k : Nat) : Int))) rfl ?_)
      refine XL.nil ?_
      refine X.seq ?_
      refine X.draw [] L 8 [[], [], [], [], [], [], [], []] [[], [], [0, 1], [2], [], [], [4, 5], [6]] (phiL [fun us v => v = av, fun us v => v = (.int .i64 (((k : Nat) : Int)) : Value), fun us v => v = (.pointer (some (elemA av (k))) : Value), fun us v => v = (.int .i64 (a.getD k 0) : Value), fun us v => v = bv, fun us v => v = (.int .i64 (((k : Nat) : Int)) : Value), fun us v => v = (.pointer (some (elemA bv (k))) : Value), fun us v => v = (.int .i64 (b.getD k 0) : Value)]) (ownL [fun us v => [], fun us v => [], fun us v => [], fun us v => [], fun us v => [], fun us v => [], fun us v => [], fun us v => []]) mixed rfl rfl (by kernel_rfl) ?_ ?_
      · refine stepsP.cons (fun vals R hpZ => ?_) ?_
        · refine XG.op (XOp.move (av) rfl ?_)
          exact ⟨rfl, rfl, rfl⟩
        refine stepsP.cons (fun vals R hpZ => ?_) ?_
        · refine XG.op (XOp.move (.int .i64 (((k : Nat) : Int))) rfl ?_)
          exact ⟨rfl, rfl, rfl⟩
        refine stepsP.cons (fun vals R hpZ => ?_) ?_
        · rw [(envs_of_sat (l := [(0, av), (1, (.int .i64 (((k : Nat) : Int)) : Value))]) ⟨hpZ 0 (by decide), hpZ 1 (by decide), trivial⟩).symm]
          refine XG.op (XOp.indexS (v := av) (i := ((k : Nat) : Int)) (n := (a).length) k Try.runUnderlying22 Try.sizeOf2 rfl rfl rfl ha.slv (by omega) (Nat.mul_one _) ?_)
          exact ⟨rfl, rfl, rfl⟩
        refine stepsP.cons (fun vals R hpZ => ?_) ?_
        · rw [(envs_of_sat (l := [(2, (.pointer (some (elemA av (k))) : Value))]) ⟨hpZ 2 (by decide), trivial⟩).symm]
          refine XG.op (XOp.load1 (v := .int .i64 (a.getD k 0)) Try.isAgg2 rfl (ha.rd (by omega)) ?_)
          exact ⟨rfl, rfl, rfl⟩
        refine stepsP.cons (fun vals R hpZ => ?_) ?_
        · refine XG.op (XOp.move (bv) rfl ?_)
          exact ⟨rfl, rfl, rfl⟩
        refine stepsP.cons (fun vals R hpZ => ?_) ?_
        · refine XG.op (XOp.move (.int .i64 (((k : Nat) : Int))) rfl ?_)
          exact ⟨rfl, rfl, rfl⟩
        refine stepsP.cons (fun vals R hpZ => ?_) ?_
        · rw [(envs_of_sat (l := [(4, bv), (5, (.int .i64 (((k : Nat) : Int)) : Value))]) ⟨hpZ 4 (by decide), hpZ 5 (by decide), trivial⟩).symm]
          refine XG.op (XOp.indexS (v := bv) (i := ((k : Nat) : Int)) (n := (b).length) k Try.runUnderlying22 Try.sizeOf2 rfl rfl rfl hb.slv (by omega) (Nat.mul_one _) ?_)
          exact ⟨rfl, rfl, rfl⟩
        refine stepsP.cons (fun vals R hpZ => ?_) ?_
        · rw [(envs_of_sat (l := [(6, (.pointer (some (elemA bv (k))) : Value))]) ⟨hpZ 6 (by decide), trivial⟩).symm]
          refine XG.op (XOp.load1 (v := .int .i64 (b.getD k 0)) Try.isAgg2 rfl (hb.rd (by omega)) ?_)
          exact ⟨rfl, rfl, rfl⟩
        exact stepsP.nil
      · intro vals hphi
        have e0 : vals 0 = av := hphi 0 (by decide)
        have e1 : vals 1 = (.int .i64 (((k : Nat) : Int)) : Value) := hphi 1 (by decide)
        have e2 : vals 2 = (.pointer (some (elemA av (k))) : Value) := hphi 2 (by decide)
        have e3 : vals 3 = (.int .i64 (a.getD k 0) : Value) := hphi 3 (by decide)
        have e4 : vals 4 = bv := hphi 4 (by decide)
        have e5 : vals 5 = (.int .i64 (((k : Nat) : Int)) : Value) := hphi 5 (by decide)
        have e6 : vals 6 = (.pointer (some (elemA bv (k))) : Value) := hphi 6 (by decide)
        have e7 : vals 7 = (.int .i64 (b.getD k 0) : Value) := hphi 7 (by decide)
        rw [(envs_of_sat (l := [(0, av), (1, (.int .i64 (((k : Nat) : Int)) : Value)), (2, (.pointer (some (elemA av (k))) : Value)), (3, (.int .i64 (a.getD k 0) : Value)), (4, bv), (5, (.int .i64 (((k : Nat) : Int)) : Value)), (6, (.pointer (some (elemA bv (k))) : Value)), (7, (.int .i64 (b.getD k 0) : Value))]) ⟨e0, e1, e2, e3, e4, e5, e6, e7, trivial⟩).symm]
        show XL _ _ _ _ _ _ _ (L)
        refine XL.cons (XOp.neq (a := a.getD k 0) (b := b.getD k 0) rfl rfl ?_)
        refine XL.nil ?_
        refine X.condD (p := (a.getD k 0 : Int) ≠ b.getD k 0) rfl (fun h3 => ?_) (fun h3 => ?_)
        · refine X.seq ?_
          refine X.region ?_
          refine XL.cons (XOp.assign (.bool (false)) rfl ?_)
          refine XL.nil ?_
          refine X.ret (blockQ_ret (thenQ_ret (thenQ_ret (blockQ_ret (thenQ_ret (retEnd (L' := L) [.bool (false)] (.bool (false)) (.tmp rfl .nil) rfl (FLe.refl _) (FLe.refl _) (Sub.refl _) ?_))))))
          exact ⟨(congrArg Value.bool (decide_eq_false (ne_of_getD (i := k) (by omega)))), rfl, rfl⟩
        · refine X.skip ?_
          refine X.region ?_
          refine XL.cons (XOp.addR (a := ((k : Nat) : Int)) (b := 1) (((k + 1 : Nat) : Int)) rfl rfl (by omega) (by omega) ?_)
          refine XL.cons (XOp.move (.int .i64 (((k + 1 : Nat) : Int))) rfl ?_)
          refine XL.nil ?_
          exact ⟨k + 1, _, FLe.refl _, (FLe.refl _), ⟨rfl, rfl, rfl, rfl, trivial⟩, (Sub.refl _), ⟨rfl, (by omega), (fun i hi => (Nat.lt_or_ge i k).elim (fun h => hall i h) (fun h => by obtain rfl : i = k := (by omega); omega))⟩, (by omega)⟩
    · refine X.exit (thenQ_exit (thenQ_exit (blockQ_exit ?_)))
      refine X.seq ?_
      refine X.region ?_
      refine XL.cons (XOp.assign (.bool (true)) rfl ?_)
      refine XL.nil ?_
      refine X.ret (retEnd (L' := L) [.bool (true)] (.bool (true)) (.tmp rfl .nil) rfl (FLe.refl _) (FLe.refl _) (Sub.refl _) ?_)
      exact ⟨(congrArg Value.bool (decide_eq_true (ext_getD (by omega) (fun i hi => hall i (by omega))))), rfl, rfl⟩

/- spec.SameTerm -/
theorem SameTerm_spec {F : FH} {L : List HP} {av : Value} {a : List Int} (ha : IntsF F av a) {bv : Value} {b : List Int} (hb : IntsF F bv b) (hbd : a.length ≤ 9223372036854775807 ∨ b.length ≤ 9223372036854775807) :
    Does Try.prog 60 [av, bv] F (L) (fun v F' L' => (.bool (decide (a = b)) : Value) = v ∧ F = F' ∧ L = L') := by
  refine Does.of_X Try.func60 rfl rfl rfl ?_
  refine X.seq ?_
  refine X.region ?_
  refine XL.cons (XOp.assign (.bool (false)) rfl ?_)
  refine XL.nil ?_
  refine X.seq ?_
  refine X.seq ?_
  refine X.region ?_
  refine XL.cons (XOp.move (av) rfl ?_)
  refine XL.cons (XOp.lenS (v := av) (n := (a).length) Try.runUnderlying22 rfl ha.slv ?_)
  refine XL.cons (XOp.move (bv) rfl ?_)
  refine XL.cons (XOp.lenS (v := bv) (n := (b).length) Try.runUnderlying22 rfl hb.slv ?_)
  refine XL.cons (XOp.neq (a := (((a).length : Nat) : Int)) (b := (((b).length : Nat) : Int)) rfl rfl ?_)
  refine XL.nil ?_
  refine X.condD (p := ((((a).length : Nat) : Int) : Int) ≠ (((b).length : Nat) : Int)) rfl (fun h1 => ?_) (fun h1 => ?_)
  · refine X.seq ?_
    refine X.region ?_
    refine XL.cons (XOp.assign (.bool (false)) rfl ?_)
    refine XL.nil ?_
    refine X.ret (thenQ_ret (retEnd (L' := L) [.bool (false)] (.bool (false)) (.tmp rfl .nil) rfl (FLe.refl _) (FLe.refl _) (Sub.refl _) ?_))
    exact ⟨(congrArg Value.bool (decide_eq_false (fun e => by rw [e] at h1; omega))), rfl, rfl⟩
  · refine X.skip ?_
    refine X.seq ?_
    refine X.seq ?_
    refine X.region ?_
    refine XL.cons (XOp.assign (.int .i64 (0)) rfl ?_)
    refine XL.nil ?_
    refine X.block ?_
    refine X.loop (α := Nat) (fun k => [(0, av), (1, bv), (5, .int .i64 (((k : Nat) : Int)))]) (fun k => L) (fun k F' => F = F' ∧ (k ≤ a.length) ∧ (∀ i, i < k → a.getD i 0 = b.getD i 0)) (fun k => a.length - k) 0 ⟨rfl, rfl, rfl, trivial⟩ (Sub.refl _) ⟨rfl, (by omega), (fun i hi => absurd hi (by omega))⟩ ?_
    rintro k rE _ _ ⟨rfl, hk, hall⟩
    show X _ _ _ _ (envs [(0, av), (1, bv), (5, .int .i64 (((k : Nat) : Int)))] rE) _ (L)
    refine X.seq ?_
    refine X.seq ?_
    refine X.region ?_
    refine XL.cons (XOp.move (.int .i64 (((k : Nat) : Int))) rfl ?_)
    refine XL.cons (XOp.move (av) rfl ?_)
    refine XL.cons (XOp.lenS (v := av) (n := (a).length) Try.runUnderlying22 rfl ha.slv ?_)
    refine XL.cons (XOp.lss (a := ((k : Nat) : Int)) (b := (((a).length : Nat) : Int)) rfl rfl ?_)
    refine XL.nil ?_
    refine X.condD (p := (((k : Nat) : Int) : Int) < (((a).length : Nat) : Int)) rfl (fun h2 => ?_) (fun h2 => ?_)
    · refine X.skip ?_
      refine X.seq ?_
      refine X.block ?_
      refine X.seq ?_
      refine X.draw [] L 8 [[], [], [], [], [], [], [], []] [[], [], [0, 1], [2], [], [], [4, 5], [6]] (phiL [fun us v => v = av, fun us v => v = (.int .i64 (((k : Nat) : Int)) : Value), fun us v => v = (.pointer (some (elemA av (k))) : Value), fun us v => v = (.int .i64 (a.getD k 0) : Value), fun us v => v = bv, fun us v => v = (.int .i64 (((k : Nat) : Int)) : Value), fun us v => v = (.pointer (some (elemA bv (k))) : Value), fun us v => v = (.int .i64 (b.getD k 0) : Value)]) (ownL [fun us v => [], fun us v => [], fun us v => [], fun us v => [], fun us v => [], fun us v => [], fun us v => [], fun us v => []]) mixed rfl rfl (by kernel_rfl) ?_ ?_
      · refine stepsP.cons (fun vals R hpZ => ?_) ?_
        · refine XG.op (XOp.move (av) rfl ?_)
          exact ⟨rfl, rfl, rfl⟩
        refine stepsP.cons (fun vals R hpZ => ?_) ?_
        · refine XG.op (XOp.move (.int .i64 (((k : Nat) : Int))) rfl ?_)
          exact ⟨rfl, rfl, rfl⟩
        refine stepsP.cons (fun vals R hpZ => ?_) ?_
        · rw [(envs_of_sat (l := [(0, av), (1, (.int .i64 (((k : Nat) : Int)) : Value))]) ⟨hpZ 0 (by decide), hpZ 1 (by decide), trivial⟩).symm]
          refine XG.op (XOp.indexS (v := av) (i := ((k : Nat) : Int)) (n := (a).length) k Try.runUnderlying22 Try.sizeOf2 rfl rfl rfl ha.slv (by omega) (Nat.mul_one _) ?_)
          exact ⟨rfl, rfl, rfl⟩
        refine stepsP.cons (fun vals R hpZ => ?_) ?_
        · rw [(envs_of_sat (l := [(2, (.pointer (some (elemA av (k))) : Value))]) ⟨hpZ 2 (by decide), trivial⟩).symm]
          refine XG.op (XOp.load1 (v := .int .i64 (a.getD k 0)) Try.isAgg2 rfl (ha.rd (by omega)) ?_)
          exact ⟨rfl, rfl, rfl⟩
        refine stepsP.cons (fun vals R hpZ => ?_) ?_
        · refine XG.op (XOp.move (bv) rfl ?_)
          exact ⟨rfl, rfl, rfl⟩
        refine stepsP.cons (fun vals R hpZ => ?_) ?_
        · refine XG.op (XOp.move (.int .i64 (((k : Nat) : Int))) rfl ?_)
          exact ⟨rfl, rfl, rfl⟩
        refine stepsP.cons (fun vals R hpZ => ?_) ?_
        · rw [(envs_of_sat (l := [(4, bv), (5, (.int .i64 (((k : Nat) : Int)) : Value))]) ⟨hpZ 4 (by decide), hpZ 5 (by decide), trivial⟩).symm]
          refine XG.op (XOp.indexS (v := bv) (i := ((k : Nat) : Int)) (n := (b).length) k Try.runUnderlying22 Try.sizeOf2 rfl rfl rfl hb.slv (by omega) (Nat.mul_one _) ?_)
          exact ⟨rfl, rfl, rfl⟩
        refine stepsP.cons (fun vals R hpZ => ?_) ?_
        · rw [(envs_of_sat (l := [(6, (.pointer (some (elemA bv (k))) : Value))]) ⟨hpZ 6 (by decide), trivial⟩).symm]
          refine XG.op (XOp.load1 (v := .int .i64 (b.getD k 0)) Try.isAgg2 rfl (hb.rd (by omega)) ?_)
          exact ⟨rfl, rfl, rfl⟩
        exact stepsP.nil
      · intro vals hphi
        have e0 : vals 0 = av := hphi 0 (by decide)
        have e1 : vals 1 = (.int .i64 (((k : Nat) : Int)) : Value) := hphi 1 (by decide)
        have e2 : vals 2 = (.pointer (some (elemA av (k))) : Value) := hphi 2 (by decide)
        have e3 : vals 3 = (.int .i64 (a.getD k 0) : Value) := hphi 3 (by decide)
        have e4 : vals 4 = bv := hphi 4 (by decide)
        have e5 : vals 5 = (.int .i64 (((k : Nat) : Int)) : Value) := hphi 5 (by decide)
        have e6 : vals 6 = (.pointer (some (elemA bv (k))) : Value) := hphi 6 (by decide)
        have e7 : vals 7 = (.int .i64 (b.getD k 0) : Value) := hphi 7 (by decide)
        rw [(envs_of_sat (l := [(0, av), (1, (.int .i64 (((k : Nat) : Int)) : Value)), (2, (.pointer (some (elemA av (k))) : Value)), (3, (.int .i64 (a.getD k 0) : Value)), (4, bv), (5, (.int .i64 (((k : Nat) : Int)) : Value)), (6, (.pointer (some (elemA bv (k))) : Value)), (7, (.int .i64 (b.getD k 0) : Value))]) ⟨e0, e1, e2, e3, e4, e5, e6, e7, trivial⟩).symm]
        show XL _ _ _ _ _ _ _ (L)
        refine XL.cons (XOp.neq (a := a.getD k 0) (b := b.getD k 0) rfl rfl ?_)
        refine XL.nil ?_
        refine X.condD (p := (a.getD k 0 : Int) ≠ b.getD k 0) rfl (fun h3 => ?_) (fun h3 => ?_)
        · refine X.seq ?_
          refine X.region ?_
          refine XL.cons (XOp.assign (.bool (false)) rfl ?_)
          refine XL.nil ?_
          refine X.ret (blockQ_ret (thenQ_ret (thenQ_ret (blockQ_ret (thenQ_ret (retEnd (L' := L) [.bool (false)] (.bool (false)) (.tmp rfl .nil) rfl (FLe.refl _) (FLe.refl _) (Sub.refl _) ?_))))))
          exact ⟨(congrArg Value.bool (decide_eq_false (ne_of_getD (i := k) (by omega)))), rfl, rfl⟩
        · refine X.skip ?_
          refine X.region ?_
          refine XL.cons (XOp.move (.int .i64 (((k : Nat) : Int))) rfl ?_)
          refine XL.cons (XOp.addR (a := ((k : Nat) : Int)) (b := 1) (((k + 1 : Nat) : Int)) rfl rfl (by omega) (by omega) ?_)
          refine XL.cons (XOp.assign (.int .i64 (((k + 1 : Nat) : Int))) rfl ?_)
          refine XL.nil ?_
          exact ⟨k + 1, _, FLe.refl _, (FLe.refl _), ⟨rfl, rfl, rfl, trivial⟩, (Sub.refl _), ⟨rfl, (by omega), (fun i hi => (Nat.lt_or_ge i k).elim (fun h => hall i h) (fun h => by obtain rfl : i = k := (by omega); omega))⟩, (by omega)⟩
    · refine X.exit (thenQ_exit (thenQ_exit (blockQ_exit ?_)))
      refine X.seq ?_
      refine X.region ?_
      refine XL.cons (XOp.assign (.bool (true)) rfl ?_)
      refine XL.nil ?_
      refine X.ret (retEnd (L' := L) [.bool (true)] (.bool (true)) (.tmp rfl .nil) rfl (FLe.refl _) (FLe.refl _) (Sub.refl _) ?_)
      exact ⟨(congrArg Value.bool (decide_eq_true (ext_getD (by omega) (fun i hi => hall i (by omega))))), rfl, rfl⟩

/- laws.eqInt64S -/
theorem eqInt64S_spec {F : FH} {L : List HP} {av : Value} {a : List Int} (ha : IntsF F av a) {bv : Value} {b : List Int} (hb : IntsF F bv b) (hbd : a.length ≤ 9223372036854775807 ∨ b.length ≤ 9223372036854775807) :
    Does Try.prog 22 [av, bv] F (L) (fun v F' L' => (.bool (decide (a = b)) : Value) = v ∧ F = F' ∧ L = L') := by
  refine Does.of_X Try.func22 rfl rfl rfl ?_
  refine X.seq ?_
  refine X.region ?_
  refine XL.cons (XOp.assign (.bool (false)) rfl ?_)
  refine XL.nil ?_
  refine X.seq ?_
  refine X.seq ?_
  refine X.region ?_
  refine XL.cons (XOp.move (av) rfl ?_)
  refine XL.cons (XOp.lenS (v := av) (n := (a).length) Try.runUnderlying22 rfl ha.slv ?_)
  refine XL.cons (XOp.move (bv) rfl ?_)
  refine XL.cons (XOp.lenS (v := bv) (n := (b).length) Try.runUnderlying22 rfl hb.slv ?_)
  refine XL.cons (XOp.neq (a := (((a).length : Nat) : Int)) (b := (((b).length : Nat) : Int)) rfl rfl ?_)
  refine XL.nil ?_
  refine X.condD (p := ((((a).length : Nat) : Int) : Int) ≠ (((b).length : Nat) : Int)) rfl (fun h1 => ?_) (fun h1 => ?_)
  · refine X.seq ?_
    refine X.region ?_
    refine XL.cons (XOp.assign (.bool (false)) rfl ?_)
    refine XL.nil ?_
    refine X.ret (thenQ_ret (retEnd (L' := L) [.bool (false)] (.bool (false)) (.tmp rfl .nil) rfl (FLe.refl _) (FLe.refl _) (Sub.refl _) ?_))
    exact ⟨(congrArg Value.bool (decide_eq_false (fun e => by rw [e] at h1; omega))), rfl, rfl⟩
  · refine X.skip ?_
    refine X.seq ?_
    refine X.seq ?_
    refine X.region ?_
    refine XL.cons (XOp.assign (.int .i64 (0)) rfl ?_)
    refine XL.nil ?_
    refine X.block ?_
    refine X.loop (α := Nat) (fun k => [(0, av), (1, bv), (5, .int .i64 (((k : Nat) : Int)))]) (fun k => L) (fun k F' => F = F' ∧ (k ≤ a.length) ∧ (∀ i, i < k → a.getD i 0 = b.getD i 0)) (fun k => a.length - k) 0 ⟨rfl, rfl, rfl, trivial⟩ (Sub.refl _) ⟨rfl, (by omega), (fun i hi => absurd hi (by omega))⟩ ?_
    rintro k rE _ _ ⟨rfl, hk, hall⟩
    show X _ _ _ _ (envs [(0, av), (1, bv), (5, .int .i64 (((k : Nat) : Int)))] rE) _ (L)
    refine X.seq ?_
    refine X.seq ?_
    refine X.region ?_
    refine XL.cons (XOp.move (.int .i64 (((k : Nat) : Int))) rfl ?_)
    refine XL.cons (XOp.move (av) rfl ?_)
    refine XL.cons (XOp.lenS (v := av) (n := (a).length) Try.runUnderlying22 rfl ha.slv ?_)
    refine XL.cons (XOp.lss (a := ((k : Nat) : Int)) (b := (((a).length : Nat) : Int)) rfl rfl ?_)
    refine XL.nil ?_
    refine X.condD (p := (((k : Nat) : Int) : Int) < (((a).length : Nat) : Int)) rfl (fun h2 => ?_) (fun h2 => ?_)
    · refine X.skip ?_
      refine X.seq ?_
      refine X.block ?_
      refine X.seq ?_
      refine X.draw [] L 8 [[], [], [], [], [], [], [], []] [[], [], [0, 1], [2], [], [], [4, 5], [6]] (phiL [fun us v => v = av, fun us v => v = (.int .i64 (((k : Nat) : Int)) : Value), fun us v => v = (.pointer (some (elemA av (k))) : Value), fun us v => v = (.int .i64 (a.getD k 0) : Value), fun us v => v = bv, fun us v => v = (.int .i64 (((k : Nat) : Int)) : Value), fun us v => v = (.pointer (some (elemA bv (k))) : Value), fun us v => v = (.int .i64 (b.getD k 0) : Value)]) (ownL [fun us v => [], fun us v => [], fun us v => [], fun us v => [], fun us v => [], fun us v => [], fun us v => [], fun us v => []]) mixed rfl rfl (by kernel_rfl) ?_ ?_
      · refine stepsP.cons (fun vals R hpZ => ?_) ?_
        · refine XG.op (XOp.move (av) rfl ?_)
          exact ⟨rfl, rfl, rfl⟩
        refine stepsP.cons (fun vals R hpZ => ?_) ?_
        · refine XG.op (XOp.move (.int .i64 (((k : Nat) : Int))) rfl ?_)
          exact ⟨rfl, rfl, rfl⟩
        refine stepsP.cons (fun vals R hpZ => ?_) ?_
        · rw [(envs_of_sat (l := [(0, av), (1, (.int .i64 (((k : Nat) : Int)) : Value))]) ⟨hpZ 0 (by decide), hpZ 1 (by decide), trivial⟩).symm]
          refine XG.op (XOp.indexS (v := av) (i := ((k : Nat) : Int)) (n := (a).length) k Try.runUnderlying22 Try.sizeOf2 rfl rfl rfl ha.slv (by omega) (Nat.mul_one _) ?_)
          exact ⟨rfl, rfl, rfl⟩
        refine stepsP.cons (fun vals R hpZ => ?_) ?_
        · rw [(envs_of_sat (l := [(2, (.pointer (some (elemA av (k))) : Value))]) ⟨hpZ 2 (by decide), trivial⟩).symm]
          refine XG.op (XOp.load1 (v := .int .i64 (a.getD k 0)) Try.isAgg2 rfl (ha.rd (by omega)) ?_)
          exact ⟨rfl, rfl, rfl⟩
        refine stepsP.cons (fun vals R hpZ => ?_) ?_
        · refine XG.op (XOp.move (bv) rfl ?_)
          exact ⟨rfl, rfl, rfl⟩
        refine stepsP.cons (fun vals R hpZ => ?_) ?_
        · refine XG.op (XOp.move (.int .i64 (((k : Nat) : Int))) rfl ?_)
          exact ⟨rfl, rfl, rfl⟩
        refine stepsP.cons (fun vals R hpZ => ?_) ?_
        · rw [(envs_of_sat (l := [(4, bv), (5, (.int .i64 (((k : Nat) : Int)) : Value))]) ⟨hpZ 4 (by decide), hpZ 5 (by decide), trivial⟩).symm]
          refine XG.op (XOp.indexS (v := bv) (i := ((k : Nat) : Int)) (n := (b).length) k Try.runUnderlying22 Try.sizeOf2 rfl rfl rfl hb.slv (by omega) (Nat.mul_one _) ?_)
          exact ⟨rfl, rfl, rfl⟩
        refine stepsP.cons (fun vals R hpZ => ?_) ?_
        · rw [(envs_of_sat (l := [(6, (.pointer (some (elemA bv (k))) : Value))]) ⟨hpZ 6 (by decide), trivial⟩).symm]
          refine XG.op (XOp.load1 (v := .int .i64 (b.getD k 0)) Try.isAgg2 rfl (hb.rd (by omega)) ?_)
          exact ⟨rfl, rfl, rfl⟩
        exact stepsP.nil
      · intro vals hphi
        have e0 : vals 0 = av := hphi 0 (by decide)
        have e1 : vals 1 = (.int .i64 (((k : Nat) : Int)) : Value) := hphi 1 (by decide)
        have e2 : vals 2 = (.pointer (some (elemA av (k))) : Value) := hphi 2 (by decide)
        have e3 : vals 3 = (.int .i64 (a.getD k 0) : Value) := hphi 3 (by decide)
        have e4 : vals 4 = bv := hphi 4 (by decide)
        have e5 : vals 5 = (.int .i64 (((k : Nat) : Int)) : Value) := hphi 5 (by decide)
        have e6 : vals 6 = (.pointer (some (elemA bv (k))) : Value) := hphi 6 (by decide)
        have e7 : vals 7 = (.int .i64 (b.getD k 0) : Value) := hphi 7 (by decide)
        rw [(envs_of_sat (l := [(0, av), (1, (.int .i64 (((k : Nat) : Int)) : Value)), (2, (.pointer (some (elemA av (k))) : Value)), (3, (.int .i64 (a.getD k 0) : Value)), (4, bv), (5, (.int .i64 (((k : Nat) : Int)) : Value)), (6, (.pointer (some (elemA bv (k))) : Value)), (7, (.int .i64 (b.getD k 0) : Value))]) ⟨e0, e1, e2, e3, e4, e5, e6, e7, trivial⟩).symm]
        show XL _ _ _ _ _ _ _ (L)
        refine XL.cons (XOp.neq (a := a.getD k 0) (b := b.getD k 0) rfl rfl ?_)
        refine XL.nil ?_
        refine X.condD (p := (a.getD k 0 : Int) ≠ b.getD k 0) rfl (fun h3 => ?_) (fun h3 => ?_)
        · refine X.seq ?_
          refine X.region ?_
          refine XL.cons (XOp.assign (.bool (false)) rfl ?_)
          refine XL.nil ?_
          refine X.ret (blockQ_ret (thenQ_ret (thenQ_ret (blockQ_ret (thenQ_ret (retEnd (L' := L) [.bool (false)] (.bool (false)) (.tmp rfl .nil) rfl (FLe.refl _) (FLe.refl _) (Sub.refl _) ?_))))))
          exact ⟨(congrArg Value.bool (decide_eq_false (ne_of_getD (i := k) (by omega)))), rfl, rfl⟩
        · refine X.skip ?_
          refine X.region ?_
          refine XL.cons (XOp.move (.int .i64 (((k : Nat) : Int))) rfl ?_)
          refine XL.cons (XOp.addR (a := ((k : Nat) : Int)) (b := 1) (((k + 1 : Nat) : Int)) rfl rfl (by omega) (by omega) ?_)
          refine XL.cons (XOp.assign (.int .i64 (((k + 1 : Nat) : Int))) rfl ?_)
          refine XL.nil ?_
          exact ⟨k + 1, _, FLe.refl _, (FLe.refl _), ⟨rfl, rfl, rfl, trivial⟩, (Sub.refl _), ⟨rfl, (by omega), (fun i hi => (Nat.lt_or_ge i k).elim (fun h => hall i h) (fun h => by obtain rfl : i = k := (by omega); omega))⟩, (by omega)⟩
    · refine X.exit (thenQ_exit (thenQ_exit (blockQ_exit ?_)))
      refine X.seq ?_
      refine X.region ?_
      refine XL.cons (XOp.assign (.bool (true)) rfl ?_)
      refine XL.nil ?_
      refine X.ret (retEnd (L' := L) [.bool (true)] (.bool (true)) (.tmp rfl .nil) rfl (FLe.refl _) (FLe.refl _) (Sub.refl _) ?_)
      exact ⟨(congrArg Value.bool (decide_eq_true (ext_getD (by omega) (fun i hi => hall i (by omega))))), rfl, rfl⟩

/- slices.Index[[]int64,int64] -/
theorem Index_spec {F : FH} {L : List HP} {xsv : Value} {xs : List Int} (hxs : IntsF F xsv xs) {n : Int} (hbd : xs.length ≤ 9223372036854775807) :
    Does Try.prog 188 [xsv, .int .i64 (n)] F (L) (fun v F' L' => (.int .i64 (indexZ xs n) : Value) = v ∧ F = F' ∧ L = L') := by
  refine Does.of_X Try.func188 rfl rfl rfl ?_
  refine X.seq ?_
  refine X.region ?_
  refine XL.cons (XOp.assign (.int .i64 (0)) rfl ?_)
  refine XL.nil ?_
  refine X.seq ?_
  refine X.seq ?_
  refine X.region ?_
  refine XL.cons (XOp.move (xsv) rfl ?_)
  refine XL.cons (XOp.lenS (v := xsv) (n := (xs).length) Try.runUnderlying22 rfl hxs.slv ?_)
  refine XL.cons (XOp.move (.int .i64 (0)) rfl ?_)
  refine XL.nil ?_
  refine X.block ?_
  refine X.loop (α := Nat) (fun k => [(0, xsv), (1, .int .i64 (n)), (7, .int .i64 ((((xs).length : Nat) : Int))), (8, .int .i64 (((k : Nat) : Int)))]) (fun k => L) (fun k F' => F = F' ∧ (k ≤ xs.length) ∧ (∀ i, i < k → xs.getD i 0 ≠ n)) (fun k => xs.length - k) 0 ⟨rfl, rfl, rfl, rfl, trivial⟩ (Sub.refl _) ⟨rfl, (by omega), (fun i hi => absurd hi (by omega))⟩ ?_
  rintro k rE _ _ ⟨rfl, hk, hall⟩
  show X _ _ _ _ (envs [(0, xsv), (1, .int .i64 (n)), (7, .int .i64 ((((xs).length : Nat) : Int))), (8, .int .i64 (((k : Nat) : Int)))] rE) _ (L)
  refine X.seq ?_
  refine X.region ?_
  refine XL.cons (XOp.lss (a := ((k : Nat) : Int)) (b := (((xs).length : Nat) : Int)) rfl rfl ?_)
  refine XL.nil ?_
  refine X.seq ?_
  refine X.condD (p := (((k : Nat) : Int) : Int) < (((xs).length : Nat) : Int)) rfl (fun h1 => ?_) (fun h1 => ?_)
  · refine X.skip ?_
    refine X.seq ?_
    refine X.block ?_
    refine X.seq ?_
    refine X.region ?_
    refine XL.cons (XOp.move (.int .i64 (((k : Nat) : Int))) rfl ?_)
    refine XL.cons (XOp.assign (.int .i64 (((k : Nat) : Int))) rfl ?_)
    refine XL.nil ?_
    refine X.seq ?_
    refine X.region ?_
    refine XL.cons (XOp.move (.int .i64 (n)) rfl ?_)
    refine XL.cons (XOp.move (xsv) rfl ?_)
    refine XL.cons (XOp.move (.int .i64 (((k : Nat) : Int))) rfl ?_)
    refine XL.cons (XOp.indexS (v := xsv) (i := ((k : Nat) : Int)) (n := (xs).length) k Try.runUnderlying22 Try.sizeOf2 rfl rfl rfl hxs.slv (by omega) (Nat.mul_one _) ?_)
    refine XL.cons (XOp.load1 (v := .int .i64 (xs.getD k 0)) Try.isAgg2 rfl (hxs.rd (by omega)) ?_)
    refine XL.cons (XOp.eql (a := n) (b := xs.getD k 0) rfl rfl ?_)
    refine XL.nil ?_
    refine X.condD (p := (n : Int) = xs.getD k 0) rfl (fun h2 => ?_) (fun h2 => ?_)
    · refine X.seq ?_
      refine X.region ?_
      refine XL.cons (XOp.move (.int .i64 (((k : Nat) : Int))) rfl ?_)
      refine XL.cons (XOp.assign (.int .i64 (((k : Nat) : Int))) rfl ?_)
      refine XL.nil ?_
      refine X.ret (blockQ_ret (thenQ_ret (thenQ_ret (blockQ_ret (thenQ_ret (retEnd (L' := L) [.int .i64 (((k : Nat) : Int))] (.int .i64 (((k : Nat) : Int))) (.tmp rfl .nil) rfl (FLe.refl _) (FLe.refl _) (Sub.refl _) ?_))))))
      exact ⟨(congrArg (Value.int .i64) (indexZ_some (by omega) (by omega) hall)), rfl, rfl⟩
    · refine X.skip ?_
      refine X.region ?_
      refine XL.cons (XOp.addR (a := ((k : Nat) : Int)) (b := 1) (((k + 1 : Nat) : Int)) rfl rfl (by omega) (by omega) ?_)
      refine XL.cons (XOp.move (.int .i64 (((k + 1 : Nat) : Int))) rfl ?_)
      refine XL.nil ?_
      exact ⟨k + 1, _, FLe.refl _, (FLe.refl _), ⟨rfl, rfl, rfl, rfl, trivial⟩, (Sub.refl _), ⟨rfl, (by omega), (fun i hi => (Nat.lt_or_ge i k).elim (fun h => hall i h) (fun h => by obtain rfl : i = k := (by omega); omega))⟩, (by omega)⟩
  · refine X.exit (thenQ_exit (thenQ_exit (blockQ_exit ?_)))
    refine X.seq ?_
    refine X.region ?_
    refine XL.cons (XOp.assign (.int .i64 (-1)) rfl ?_)
    refine XL.nil ?_
    refine X.ret (retEnd (L' := L) [.int .i64 (-1)] (.int .i64 (-1)) (.tmp rfl .nil) rfl (FLe.refl _) (FLe.refl _) (Sub.refl _) ?_)
    exact ⟨(congrArg (Value.int .i64) (indexZ_none (fun i hi => hall i (by omega)))), rfl, rfl⟩

/- slices.Contains[[]int64,int64] -/
theorem Contains_spec {F : FH} {L : List HP} {xsv : Value} {xs : List Int} (hxs : IntsF F xsv xs) {n : Int} (hbd : xs.length ≤ 9223372036854775807) :
    Does Try.prog 165 [xsv, .int .i64 (n)] F (L) (fun v F' L' => (.bool (decide (n ∈ xs)) : Value) = v ∧ F = F' ∧ L = L') := by
  refine Does.of_X Try.func165 rfl rfl rfl ?_
  refine X.seq ?_
  refine X.region ?_
  refine XL.cons (XOp.assign (.bool (false)) rfl ?_)
  refine XL.nil ?_
  refine X.seq ?_
  refine X.region ?_
  refine XL.cons (XOp.move (xsv) rfl ?_)
  refine XL.cons (XOp.move (.int .i64 (n)) rfl ?_)
  refine XL.cons (XOp.call (args := [xsv, .int .i64 (n)]) Try.call188 rfl (Index_spec (n := n) hxs (hbd := (by first | assumption | rfl | omega | (left; simp; done) | (right; simp; done)))) ?_)
  rintro _ _ _ _ ⟨rfl, rfl, rfl⟩
  refine XL.cons (XOp.geq (a := indexZ xs n) (b := 0) rfl rfl ?_)
  refine XL.cons (XOp.assign (.bool (decide ((indexZ xs n : Int) ≥ 0))) rfl ?_)
  refine XL.nil ?_
  refine X.ret (retEnd (L' := L) [.bool (decide ((indexZ xs n : Int) ≥ 0))] (.bool (decide ((indexZ xs n : Int) ≥ 0))) (.tmp rfl .nil) rfl (FLe.refl _) (FLe.refl _) (Sub.refl _) ?_)
  exact ⟨(congrArg Value.bool (decide_eq_decide.2 indexZ_mem.symm)), rfl, rfl⟩

/- spec.l1Has -/
theorem l1Has_spec {F : FH} {L : List HP} {xsv : Value} {xs : List Int} (hxs : IntsF F xsv xs) {n : Int} (hbd : xs.length ≤ 9223372036854775807) :
    Does Try.prog 161 [xsv, .int .i64 (n)] F (L) (fun v F' L' => (.bool (decide (n ∈ xs)) : Value) = v ∧ F = F' ∧ L = L') := by
  refine Does.of_X Try.func161 rfl rfl rfl ?_
  refine X.seq ?_
  refine X.region ?_
  refine XL.cons (XOp.assign (.bool (false)) rfl ?_)
  refine XL.nil ?_
  refine X.seq ?_
  refine X.seq ?_
  refine X.region ?_
  refine XL.cons (XOp.assign (.int .i64 (0)) rfl ?_)
  refine XL.nil ?_
  refine X.block ?_
  refine X.loop (α := Nat) (fun k => [(0, xsv), (1, .int .i64 (n)), (5, .int .i64 (((k : Nat) : Int)))]) (fun k => L) (fun k F' => F = F' ∧ (k ≤ xs.length) ∧ (∀ i, i < k → xs.getD i 0 ≠ n)) (fun k => xs.length - k) 0 ⟨rfl, rfl, rfl, trivial⟩ (Sub.refl _) ⟨rfl, (by omega), (fun i hi => absurd hi (by omega))⟩ ?_
  rintro k rE _ _ ⟨rfl, hk, hall⟩
  show X _ _ _ _ (envs [(0, xsv), (1, .int .i64 (n)), (5, .int .i64 (((k : Nat) : Int)))] rE) _ (L)
  refine X.seq ?_
  refine X.seq ?_
  refine X.region ?_
  refine XL.cons (XOp.move (.int .i64 (((k : Nat) : Int))) rfl ?_)
  refine XL.cons (XOp.move (xsv) rfl ?_)
  refine XL.cons (XOp.lenS (v := xsv) (n := (xs).length) Try.runUnderlying22 rfl hxs.slv ?_)
  refine XL.cons (XOp.lss (a := ((k : Nat) : Int)) (b := (((xs).length : Nat) : Int)) rfl rfl ?_)
  refine XL.nil ?_
  refine X.condD (p := (((k : Nat) : Int) : Int) < (((xs).length : Nat) : Int)) rfl (fun h1 => ?_) (fun h1 => ?_)
  · refine X.skip ?_
    refine X.seq ?_
    refine X.block ?_
    refine X.seq ?_
    refine X.region ?_
    refine XL.cons (XOp.move (xsv) rfl ?_)
    refine XL.cons (XOp.move (.int .i64 (((k : Nat) : Int))) rfl ?_)
    refine XL.cons (XOp.indexS (v := xsv) (i := ((k : Nat) : Int)) (n := (xs).length) k Try.runUnderlying22 Try.sizeOf2 rfl rfl rfl hxs.slv (by omega) (Nat.mul_one _) ?_)
    refine XL.cons (XOp.load1 (v := .int .i64 (xs.getD k 0)) Try.isAgg2 rfl (hxs.rd (by omega)) ?_)
    refine XL.cons (XOp.move (.int .i64 (n)) rfl ?_)
    refine XL.cons (XOp.eql (a := xs.getD k 0) (b := n) rfl rfl ?_)
    refine XL.nil ?_
    refine X.condD (p := (xs.getD k 0 : Int) = n) rfl (fun h2 => ?_) (fun h2 => ?_)
    · refine X.seq ?_
      refine X.region ?_
      refine XL.cons (XOp.assign (.bool (true)) rfl ?_)
      refine XL.nil ?_
      refine X.ret (blockQ_ret (thenQ_ret (thenQ_ret (blockQ_ret (thenQ_ret (retEnd (L' := L) [.bool (true)] (.bool (true)) (.tmp rfl .nil) rfl (FLe.refl _) (FLe.refl _) (Sub.refl _) ?_))))))
      exact ⟨(congrArg Value.bool (decide_eq_true (mem_of_getD (k := k) (by omega) (by omega)))), rfl, rfl⟩
    · refine X.skip ?_
      refine X.region ?_
      refine XL.cons (XOp.move (.int .i64 (((k : Nat) : Int))) rfl ?_)
      refine XL.cons (XOp.addR (a := ((k : Nat) : Int)) (b := 1) (((k + 1 : Nat) : Int)) rfl rfl (by omega) (by omega) ?_)
      refine XL.cons (XOp.assign (.int .i64 (((k + 1 : Nat) : Int))) rfl ?_)
      refine XL.nil ?_
      exact ⟨k + 1, _, FLe.refl _, (FLe.refl _), ⟨rfl, rfl, rfl, trivial⟩, (Sub.refl _), ⟨rfl, (by omega), (fun i hi => (Nat.lt_or_ge i k).elim (fun h => hall i h) (fun h => by obtain rfl : i = k := (by omega); omega))⟩, (by omega)⟩
  · refine X.exit (thenQ_exit (thenQ_exit (blockQ_exit ?_)))
    refine X.seq ?_
    refine X.region ?_
    refine XL.cons (XOp.assign (.bool (false)) rfl ?_)
    refine XL.nil ?_
    refine X.ret (retEnd (L' := L) [.bool (false)] (.bool (false)) (.tmp rfl .nil) rfl (FLe.refl _) (FLe.refl _) (Sub.refl _) ?_)
    exact ⟨(congrArg Value.bool (decide_eq_false (not_mem_of_getD (fun i hi => hall i (by omega))))), rfl, rfl⟩

/- spec.l1In -/
theorem l1In_spec {F : FH} {L : List HP} {n : Int} {a : Int} {b : Int} :
    Does Try.prog 58 [.int .i64 (n), .int .i64 (a), .int .i64 (b)] F (L) (fun v F' L' => (.bool (decide (a ≤ n ∧ n ≤ b)) : Value) = v ∧ F = F' ∧ L = L') := by
  refine Does.of_X Try.func58 rfl rfl rfl ?_
  refine X.seq ?_
  refine X.region ?_
  refine XL.cons (XOp.assign (.bool (false)) rfl ?_)
  refine XL.nil ?_
  refine X.seq ?_
  refine X.region ?_
  refine XL.cons (XOp.move (.int .i64 (n)) rfl ?_)
  refine XL.cons (XOp.move (.int .i64 (a)) rfl ?_)
  refine XL.cons (XOp.geq (a := n) (b := a) rfl rfl ?_)
  refine XL.cons (XOp.move (.bool (decide ((n : Int) ≥ a))) rfl ?_)
  by_cases h1 : (n : Int) ≥ a
  · refine XL.yes (t := 10) rfl (congrArg Value.bool (decide_eq_true h1)) (XOp.move (.int .i64 (n)) rfl ?_)
    refine XL.yes (t := 10) rfl (congrArg Value.bool (decide_eq_true h1)) (XOp.move (.int .i64 (b)) rfl ?_)
    refine XL.yes (t := 10) rfl (congrArg Value.bool (decide_eq_true h1)) (XOp.leq (a := n) (b := b) rfl rfl ?_)
    refine XL.cons (XOp.pickT (.bool (decide ((n : Int) ≤ b))) (congrArg Value.bool (decide_eq_true h1)) rfl ?_)
    refine XL.cons (XOp.assign (.bool (decide ((n : Int) ≤ b))) rfl ?_)
    refine XL.nil ?_
    refine X.ret (retEnd (L' := L) [.bool (decide ((n : Int) ≤ b))] (.bool (decide ((n : Int) ≤ b))) (.tmp rfl .nil) rfl (FLe.refl _) (FLe.refl _) (Sub.refl _) ?_)
    exact ⟨(congrArg Value.bool (decide_eq_decide.2 (by omega))), rfl, rfl⟩
  · refine XL.no (t := 10) rfl (congrArg Value.bool (decide_eq_false h1)) ?_
    refine XL.no (t := 10) rfl (congrArg Value.bool (decide_eq_false h1)) ?_
    refine XL.no (t := 10) rfl (congrArg Value.bool (decide_eq_false h1)) ?_
    refine XL.cons (XOp.pickF (.bool (false)) (congrArg Value.bool (decide_eq_false h1)) rfl ?_)
    refine XL.cons (XOp.assign (.bool (false)) rfl ?_)
    refine XL.nil ?_
    refine X.ret (retEnd (L' := L) [.bool (false)] (.bool (false)) (.tmp rfl .nil) rfl (FLe.refl _) (FLe.refl _) (Sub.refl _) ?_)
    exact ⟨(congrArg Value.bool (decide_eq_false (by omega))), rfl, rfl⟩

/- spec.l1There -/
theorem l1There_spec {F : FH} {L : List HP} {tv : Value} {t : List Int} (ht : IntsF F tv t) {n : Int} (hbd : t.length ≤ 9223372036854775807) :
    Does Try.prog 96 [tv, .int .i64 (n)] F (L) (fun v F' L' => (.bool (decide (0 ≤ n ∧ n < (t.length : Int))) : Value) = v ∧ F = F' ∧ L = L') := by
  refine Does.of_X Try.func96 rfl rfl rfl ?_
  refine X.seq ?_
  refine X.region ?_
  refine XL.cons (XOp.assign (.bool (false)) rfl ?_)
  refine XL.nil ?_
  refine X.seq ?_
  refine X.region ?_
  refine XL.cons (XOp.move (.int .i64 (n)) rfl ?_)
  refine XL.cons (XOp.move (tv) rfl ?_)
  refine XL.cons (XOp.lenS (v := tv) (n := (t).length) Try.runUnderlying22 rfl ht.slv ?_)
  refine XL.cons (XOp.subR (a := (((t).length : Nat) : Int)) (b := 1) (((((t).length : Nat) : Int)) - 1) rfl rfl (by omega) (by omega) ?_)
  refine XL.cons (XOp.call (args := [.int .i64 (n), .int .i64 (0), .int .i64 (((((t).length : Nat) : Int)) - 1)]) Try.call58 rfl (l1In_spec (n := n) (a := 0) (b := ((((t).length : Nat) : Int)) - 1)) ?_)
  rintro _ _ _ _ ⟨rfl, rfl, rfl⟩
  refine XL.cons (XOp.assign (.bool (decide (0 ≤ n ∧ n ≤ (((((t).length : Nat) : Int)) - 1)))) rfl ?_)
  refine XL.nil ?_
  refine X.ret (retEnd (L' := L) [.bool (decide (0 ≤ n ∧ n ≤ (((((t).length : Nat) : Int)) - 1)))] (.bool (decide (0 ≤ n ∧ n ≤ (((((t).length : Nat) : Int)) - 1)))) (.tmp rfl .nil) rfl (FLe.refl _) (FLe.refl _) (Sub.refl _) ?_)
  exact ⟨(congrArg Value.bool (decide_eq_decide.2 (by omega))), rfl, rfl⟩
end Go.Proofs.Ytnloeeaidknblaa
