/-
  Walks: signatures, where a term ends.
-/
import Derived.Test.YtnloeeaidknblaaX6
import Derived.Test.YtnloeeaidknblaaP1
import Derived.Test.YtnloeeaidknblaaProg
import Derived.KernelRfl
set_option linter.unusedSimpArgs false
set_option linter.unusedVariables false
namespace Go.Proofs.Ytnloeeaidknblaa
open Go X M

theorem mixed : Try.prog.follows .mixedOrders = true := by kernel_rfl

/- impl.arityAt -/
theorem arityAt_spec {F : FH} {L : List HP} {arv : Value} {ar : List Int} (har : IntsF F arv ar) {n : Int} (hn : n < (ar.length : Int)) :
    Does Try.prog 191 [.agg #[arv], .int .i64 (n)] F (L) (fun v F' L' => (.int .i64 (arity ar n) : Value) = v ∧ F = F' ∧ L = L') := by
  refine Does.of_X Try.func191 rfl rfl rfl ?_
  refine X.seq ?_
  refine X.region ?_
  refine XL.cons (XOp.box [arv] rfl rfl ?_)
  intro b1
  refine XL.cons (XOp.assign (.int .i64 (0)) rfl ?_)
  refine XL.nil ?_
  refine X.seq ?_
  refine X.seq ?_
  refine X.region ?_
  refine XL.cons (XOp.move (.int .i64 (n)) rfl ?_)
  refine XL.cons (XOp.lss (a := n) (b := 0) rfl rfl ?_)
  refine XL.nil ?_
  refine X.condD (p := (n : Int) < 0) rfl (fun h1 => ?_) (fun h1 => ?_)
  · refine X.seq ?_
    refine X.region ?_
    refine XL.cons (XOp.assign (.int .i64 (0)) rfl ?_)
    refine XL.nil ?_
    refine X.ret (thenQ_ret (retEnd (L' := L) [.int .i64 (0)] (.int .i64 (0)) (.tmp rfl .nil) rfl (FLe.refl _) (FLe.refl _) (Sub.drop (Sub.refl _)) ?_))
    exact ⟨(congrArg (Value.int .i64) (by simp [arity, *])), rfl, rfl⟩
  · refine X.skip ?_
    refine X.seq ?_
    refine X.region ?_
    refine XL.cons (XOp.fieldP (b := b1) (0) Try.runUnderlying33 rfl Try.sizeOf22 (by decide) rfl rfl ?_)
    refine XL.cons (XOp.load1 (v := arv) Try.isAgg22 rfl (Rd.own [] rfl rfl) ?_)
    refine XL.cons (XOp.move (.int .i64 (n)) rfl ?_)
    refine XL.cons (XOp.indexS (v := arv) (i := n) (n := (ar).length) ((n).toNat) Try.runUnderlying22 Try.sizeOf2 rfl rfl (by omega) har.slv (by omega) (Nat.mul_one _) ?_)
    refine XL.cons (XOp.load1 (v := .int .i64 (ar.getD ((n).toNat) 0)) Try.isAgg2 rfl (har.rd (by omega)) ?_)
    refine XL.cons (XOp.assign (.int .i64 (ar.getD ((n).toNat) 0)) rfl ?_)
    refine XL.nil ?_
    refine X.ret (retEnd (L' := L) [.int .i64 (ar.getD ((n).toNat) 0)] (.int .i64 (ar.getD ((n).toNat) 0)) (.tmp rfl .nil) rfl (FLe.refl _) (FLe.refl _) (Sub.drop (Sub.refl _)) ?_)
    exact ⟨(congrArg (Value.int .i64) (by simp [arity, *])), rfl, rfl⟩

/- impl.SigOk -/
theorem SigOk_spec {F : FH} {L : List HP} {arv : Value} {ar : List Int} (har : IntsF F arv ar) :
    Does Try.prog 118 [.agg #[arv]] F (L) (fun v F' L' => (.bool (sigOk ar) : Value) = v ∧ F = F' ∧ L = L') := by
  refine Does.of_X Try.func118 rfl rfl rfl ?_
  refine X.seq ?_
  refine X.region ?_
  refine XL.cons (XOp.box [arv] rfl rfl ?_)
  intro b1
  refine XL.cons (XOp.assign (.bool (false)) rfl ?_)
  refine XL.nil ?_
  refine X.seq ?_
  refine X.seq ?_
  refine X.region ?_
  refine XL.cons (XOp.fieldP (b := b1) (0) Try.runUnderlying33 rfl Try.sizeOf22 (by decide) rfl rfl ?_)
  refine XL.cons (XOp.load1 (v := arv) Try.isAgg22 rfl (Rd.own [] rfl rfl) ?_)
  refine XL.cons (XOp.lenS (v := arv) (n := (ar).length) Try.runUnderlying22 rfl har.slv ?_)
  refine XL.cons (XOp.lss (a := (((ar).length : Nat) : Int)) (b := 1) rfl rfl ?_)
  refine XL.cons (XOp.move (.bool (decide (((((ar).length : Nat) : Int) : Int) < 1))) rfl ?_)
  by_cases h1 : ((((ar).length : Nat) : Int) : Int) < 1
  · refine XL.no (t := 9) rfl (congrArg Value.bool (decide_eq_true h1)) ?_
    refine XL.no (t := 9) rfl (congrArg Value.bool (decide_eq_true h1)) ?_
    refine XL.no (t := 9) rfl (congrArg Value.bool (decide_eq_true h1)) ?_
    refine XL.no (t := 9) rfl (congrArg Value.bool (decide_eq_true h1)) ?_
    refine XL.cons (XOp.pickT (.bool (true)) (congrArg Value.bool (decide_eq_true h1)) rfl ?_)
    refine XL.nil ?_
    refine X.condT rfl ?_
    refine X.seq ?_
    refine X.region ?_
    refine XL.cons (XOp.assign (.bool (false)) rfl ?_)
    refine XL.nil ?_
    refine X.ret (thenQ_ret (retEnd (L' := L) [.bool (false)] (.bool (false)) (.tmp rfl .nil) rfl (FLe.refl _) (FLe.refl _) (Sub.drop (Sub.refl _)) ?_))
    exact ⟨(congrArg Value.bool (sigOk_short (by omega))), rfl, rfl⟩
  · refine XL.yes (t := 9) rfl (congrArg Value.bool (decide_eq_false h1)) (XOp.fieldP (b := b1) (0) Try.runUnderlying33 rfl Try.sizeOf22 (by decide) rfl rfl ?_)
    refine XL.yes (t := 9) rfl (congrArg Value.bool (decide_eq_false h1)) (XOp.load1 (v := arv) Try.isAgg22 rfl (Rd.own [] rfl rfl) ?_)
    refine XL.yes (t := 9) rfl (congrArg Value.bool (decide_eq_false h1)) (XOp.lenS (v := arv) (n := (ar).length) Try.runUnderlying22 rfl har.slv ?_)
    refine XL.yes (t := 9) rfl (congrArg Value.bool (decide_eq_false h1)) (XOp.gtr (a := (((ar).length : Nat) : Int)) (b := 8) rfl rfl ?_)
    refine XL.cons (XOp.pickF (.bool (decide (((((ar).length : Nat) : Int) : Int) > 8))) (congrArg Value.bool (decide_eq_false h1)) rfl ?_)
    refine XL.nil ?_
    refine X.condD (p := ((((ar).length : Nat) : Int) : Int) > 8) rfl (fun h2 => ?_) (fun h2 => ?_)
    · refine X.seq ?_
      refine X.region ?_
      refine XL.cons (XOp.assign (.bool (false)) rfl ?_)
      refine XL.nil ?_
      refine X.ret (thenQ_ret (retEnd (L' := L) [.bool (false)] (.bool (false)) (.tmp rfl .nil) rfl (FLe.refl _) (FLe.refl _) (Sub.drop (Sub.refl _)) ?_))
      exact ⟨(congrArg Value.bool (sigOk_short (by omega))), rfl, rfl⟩
    · refine X.skip ?_
      refine X.seq ?_
      refine X.seq ?_
      refine X.region ?_
      refine XL.cons (XOp.fieldP (b := b1) (0) Try.runUnderlying33 rfl Try.sizeOf22 (by decide) rfl rfl ?_)
      refine XL.cons (XOp.load1 (v := arv) Try.isAgg22 rfl (Rd.own [] rfl rfl) ?_)
      refine XL.cons (XOp.lenS (v := arv) (n := (ar).length) Try.runUnderlying22 rfl har.slv ?_)
      refine XL.cons (XOp.move (.int .i64 (0)) rfl ?_)
      refine XL.nil ?_
      refine X.block ?_
      refine X.loop (α := Nat) (fun k => [(16, arv), (17, .int .i64 ((((ar).length : Nat) : Int))), (18, .int .i64 (((k : Nat) : Int)))]) (fun k => cellsH b1 [arv] 33 :: L) (fun k F' => F = F' ∧ (k ≤ ar.length) ∧ (∀ i, i < k → 0 ≤ ar.getD i 0 ∧ ar.getD i 0 ≤ 3)) (fun k => ar.length - k) 0 ⟨rfl, rfl, rfl, trivial⟩ (Sub.cons (Sub.refl _)) ⟨rfl, (by omega), (fun i hi => absurd hi (by omega))⟩ ?_
      rintro k rE _ _ ⟨rfl, hk, hall⟩
      show X _ _ _ _ (envs [(16, arv), (17, .int .i64 ((((ar).length : Nat) : Int))), (18, .int .i64 (((k : Nat) : Int)))] rE) _ (cellsH b1 [arv] 33 :: L)
      refine X.seq ?_
      refine X.region ?_
      refine XL.cons (XOp.lss (a := ((k : Nat) : Int)) (b := (((ar).length : Nat) : Int)) rfl rfl ?_)
      refine XL.nil ?_
      refine X.seq ?_
      refine X.condD (p := (((k : Nat) : Int) : Int) < (((ar).length : Nat) : Int)) rfl (fun h3 => ?_) (fun h3 => ?_)
      · refine X.skip ?_
        refine X.seq ?_
        refine X.block ?_
        refine X.seq ?_
        refine X.region ?_
        refine XL.cons (XOp.indexS (v := arv) (i := ((k : Nat) : Int)) (n := (ar).length) k Try.runUnderlying22 Try.sizeOf2 rfl rfl rfl har.slv (by omega) (Nat.mul_one _) ?_)
        refine XL.cons (XOp.load1 (v := .int .i64 (ar.getD k 0)) Try.isAgg2 rfl (har.rd (by omega)) ?_)
        refine XL.cons (XOp.assign (.int .i64 (ar.getD k 0)) rfl ?_)
        refine XL.nil ?_
        refine X.seq ?_
        refine X.region ?_
        refine XL.cons (XOp.move (.int .i64 (ar.getD k 0)) rfl ?_)
        refine XL.cons (XOp.lss (a := ar.getD k 0) (b := 0) rfl rfl ?_)
        refine XL.cons (XOp.move (.bool (decide ((ar.getD k 0 : Int) < 0))) rfl ?_)
        by_cases h4 : (ar.getD k 0 : Int) < 0
        · refine XL.no (t := 24) rfl (congrArg Value.bool (decide_eq_true h4)) ?_
          refine XL.no (t := 24) rfl (congrArg Value.bool (decide_eq_true h4)) ?_
          refine XL.cons (XOp.pickT (.bool (true)) (congrArg Value.bool (decide_eq_true h4)) rfl ?_)
          refine XL.nil ?_
          refine X.condT rfl ?_
          refine X.seq ?_
          refine X.region ?_
          refine XL.cons (XOp.assign (.bool (false)) rfl ?_)
          refine XL.nil ?_
          refine X.ret (blockQ_ret (thenQ_ret (thenQ_ret (blockQ_ret (thenQ_ret (retEnd (L' := L) [.bool (false)] (.bool (false)) (.tmp rfl .nil) rfl (FLe.refl _) (FLe.refl _) (Sub.drop (Sub.refl _)) ?_))))))
          exact ⟨(congrArg Value.bool (sigOk_bad (i := k) (by omega) (by omega))), rfl, rfl⟩
        · refine XL.yes (t := 24) rfl (congrArg Value.bool (decide_eq_false h4)) (XOp.move (.int .i64 (ar.getD k 0)) rfl ?_)
          refine XL.yes (t := 24) rfl (congrArg Value.bool (decide_eq_false h4)) (XOp.gtr (a := ar.getD k 0) (b := 3) rfl rfl ?_)
          refine XL.cons (XOp.pickF (.bool (decide ((ar.getD k 0 : Int) > 3))) (congrArg Value.bool (decide_eq_false h4)) rfl ?_)
          refine XL.nil ?_
          refine X.condD (p := (ar.getD k 0 : Int) > 3) rfl (fun h5 => ?_) (fun h5 => ?_)
          · refine X.seq ?_
            refine X.region ?_
            refine XL.cons (XOp.assign (.bool (false)) rfl ?_)
            refine XL.nil ?_
            refine X.ret (blockQ_ret (thenQ_ret (thenQ_ret (blockQ_ret (thenQ_ret (retEnd (L' := L) [.bool (false)] (.bool (false)) (.tmp rfl .nil) rfl (FLe.refl _) (FLe.refl _) (Sub.drop (Sub.refl _)) ?_))))))
            exact ⟨(congrArg Value.bool (sigOk_bad (i := k) (by omega) (by omega))), rfl, rfl⟩
          · refine X.skip ?_
            refine X.region ?_
            refine XL.cons (XOp.addR (a := ((k : Nat) : Int)) (b := 1) (((k + 1 : Nat) : Int)) rfl rfl (by omega) (by omega) ?_)
            refine XL.cons (XOp.move (.int .i64 (((k + 1 : Nat) : Int))) rfl ?_)
            refine XL.nil ?_
            exact ⟨k + 1, _, FLe.refl _, (FLe.refl _), ⟨rfl, rfl, rfl, trivial⟩, (Sub.cons (Sub.refl _)), ⟨rfl, (by omega), (fun i hi => (Nat.lt_or_ge i k).elim (fun h => hall i h) (fun h => by obtain rfl : i = k := (by omega); omega))⟩, (by omega)⟩
      · refine X.exit (thenQ_exit (thenQ_exit (blockQ_exit ?_)))
        refine X.seq ?_
        refine X.region ?_
        refine XL.cons (XOp.assign (.bool (true)) rfl ?_)
        refine XL.nil ?_
        refine X.ret (retEnd (L' := L) [.bool (true)] (.bool (true)) (.tmp rfl .nil) rfl (FLe.refl _) (FLe.refl _) (Sub.drop (Sub.refl _)) ?_)
        exact ⟨(congrArg Value.bool (sigOk_of (by omega) (by omega) (fun i hi => hall i (by omega)))), rfl, rfl⟩

/- (*impl.cursor).next -/
theorem next_spec {F : FH} {L : List HP} {c p : Nat} {arv : Value} {ar : List Int} (har : IntsF F arv ar) {tv : Value} {t : List Int} (ht : IntsF F tv t) (hb : t.length ≤ 4000000) :
    Does Try.prog 203 [ptr c 0] F (cellsH c [arv, tv, .int .i64 (((p : Nat) : Int))] 222 :: L) (fun v F' L' => F = F' ∧ ((p < t.length ∧ t.getD p 0 < (ar.length : Int) ∧ (.int .i64 (arity ar (t.getD p 0)) : Value) = v ∧ cellsH c [arv, tv, .int .i64 ((p + 1 : Nat) : Int)] 222 :: L = L') ∨ (¬ (p < t.length ∧ t.getD p 0 < (ar.length : Int)) ∧ (.int .i64 (-1) : Value) = v ∧ cellsH c [arv, tv, .int .i64 (p : Int)] 222 :: L = L'))) := by
  refine Does.of_X Try.func203 rfl rfl rfl ?_
  refine X.seq ?_
  refine X.region ?_
  refine XL.cons (XOp.assign (.int .i64 (0)) rfl ?_)
  refine XL.nil ?_
  refine X.seq ?_
  refine X.seq ?_
  by_cases h1 : (((p : Nat) : Int) : Int) ≥ (((t).length : Nat) : Int)
  · refine X.draw [cellsH c [arv, tv, .int .i64 (((p : Nat) : Int))] 222] L 27 [[], [], [], [], [], [], [], [], [], [], [], [], [], [], [], [], [], [], [], [], [], [], [], [], [], [], []] [[], [0], [1], [2], [], [4], [5], [6], [7], [3, 8], [9], [10], [10, 11], [10, 12], [10, 13], [10], [10, 15], [10, 16], [10, 17], [10, 14, 18], [10, 19], [10], [10, 21], [10, 22], [10, 23], [10, 24], [10, 25]] (phiL [fun us v => v = ptr c 0, fun us v => v = ptr c 0, fun us v => v = ptr c 2, fun us v => v = (.int .i64 (((p : Nat) : Int)) : Value), fun us v => v = ptr c 0, fun us v => v = ptr c 0, fun us v => v = ptr c 1, fun us v => v = tv, fun us v => v = (.int .i64 ((((t).length : Nat) : Int)) : Value), fun us v => v = (.bool (decide ((((p : Nat) : Int) : Int) ≥ (((t).length : Nat) : Int))) : Value), fun us v => v = (.bool (decide ((((p : Nat) : Int) : Int) ≥ (((t).length : Nat) : Int))) : Value), fun us v => v = undef, fun us v => v = undef, fun us v => v = undef, fun us v => v = undef, fun us v => v = undef, fun us v => v = undef, fun us v => v = undef, fun us v => v = undef, fun us v => v = undef, fun us v => v = undef, fun us v => v = undef, fun us v => v = undef, fun us v => v = undef, fun us v => v = undef, fun us v => v = undef, fun us v => v = undef]) (ownL [fun us v => [], fun us v => [], fun us v => [], fun us v => [], fun us v => [], fun us v => [], fun us v => [], fun us v => [], fun us v => [], fun us v => [], fun us v => [], fun us v => [], fun us v => [], fun us v => [], fun us v => [], fun us v => [], fun us v => [], fun us v => [], fun us v => [], fun us v => [], fun us v => [], fun us v => [], fun us v => [], fun us v => [], fun us v => [], fun us v => [], fun us v => []]) mixed rfl rfl (by kernel_rfl) ?_ ?_
    · refine stepsP.cons (fun vals R hpZ => ?_) ?_
      · refine XG.op (XOp.move (ptr c 0) rfl ?_)
        exact ⟨rfl, rfl, rfl⟩
      refine stepsP.cons (fun vals R hpZ => ?_) ?_
      · rw [(envs_of_sat (l := [(0, ptr c 0)]) ⟨hpZ 0 (by decide), trivial⟩).symm]
        refine XG.op (XOp.nilCheck (a := ⟨c, 0, none⟩) rfl ?_)
        exact ⟨rfl, rfl, rfl⟩
      refine stepsP.cons (fun vals R hpZ => ?_) ?_
      · rw [(envs_of_sat (l := [(1, ptr c 0)]) ⟨hpZ 1 (by decide), trivial⟩).symm]
        refine XG.op (XOp.fieldP (b := c) (2) Try.runUnderlying222 rfl Try.sizeOf3 (by decide) rfl rfl ?_)
        exact ⟨rfl, rfl, rfl⟩
      refine stepsP.cons (fun vals R hpZ => ?_) ?_
      · rw [(envs_of_sat (l := [(2, ptr c 2)]) ⟨hpZ 2 (by decide), trivial⟩).symm]
        refine XG.op (XOp.load1 (v := .int .i64 (((p : Nat) : Int))) Try.isAgg3 rfl (Rd.own [] rfl rfl) ?_)
        exact ⟨rfl, rfl, rfl⟩
      refine stepsP.cons (fun vals R hpZ => ?_) ?_
      · refine XG.op (XOp.move (ptr c 0) rfl ?_)
        exact ⟨rfl, rfl, rfl⟩
      refine stepsP.cons (fun vals R hpZ => ?_) ?_
      · rw [(envs_of_sat (l := [(4, ptr c 0)]) ⟨hpZ 4 (by decide), trivial⟩).symm]
        refine XG.op (XOp.nilCheck (a := ⟨c, 0, none⟩) rfl ?_)
        exact ⟨rfl, rfl, rfl⟩
      refine stepsP.cons (fun vals R hpZ => ?_) ?_
      · rw [(envs_of_sat (l := [(5, ptr c 0)]) ⟨hpZ 5 (by decide), trivial⟩).symm]
        refine XG.op (XOp.fieldP (b := c) (1) Try.runUnderlying222 rfl Try.sizeOf22 (by decide) rfl rfl ?_)
        exact ⟨rfl, rfl, rfl⟩
      refine stepsP.cons (fun vals R hpZ => ?_) ?_
      · rw [(envs_of_sat (l := [(6, ptr c 1)]) ⟨hpZ 6 (by decide), trivial⟩).symm]
        refine XG.op (XOp.load1 (v := tv) Try.isAgg22 rfl (Rd.own [] rfl rfl) ?_)
        exact ⟨rfl, rfl, rfl⟩
      refine stepsP.cons (fun vals R hpZ => ?_) ?_
      · rw [(envs_of_sat (l := [(7, tv)]) ⟨hpZ 7 (by decide), trivial⟩).symm]
        refine XG.op (XOp.lenS (v := tv) (n := (t).length) Try.runUnderlying22 rfl ht.slv ?_)
        exact ⟨rfl, rfl, rfl⟩
      refine stepsP.cons (fun vals R hpZ => ?_) ?_
      · rw [(envs_of_sat (l := [(3, (.int .i64 (((p : Nat) : Int)) : Value)), (8, (.int .i64 ((((t).length : Nat) : Int)) : Value))]) ⟨hpZ 3 (by decide), hpZ 8 (by decide), trivial⟩).symm]
        refine XG.op (XOp.geq (a := ((p : Nat) : Int)) (b := (((t).length : Nat) : Int)) rfl rfl ?_)
        exact ⟨rfl, rfl, rfl⟩
      refine stepsP.cons (fun vals R hpZ => ?_) ?_
      · rw [(envs_of_sat (l := [(9, (.bool (decide ((((p : Nat) : Int) : Int) ≥ (((t).length : Nat) : Int))) : Value))]) ⟨hpZ 9 (by decide), trivial⟩).symm]
        refine XG.op (XOp.move (.bool (decide ((((p : Nat) : Int) : Int) ≥ (((t).length : Nat) : Int)))) rfl ?_)
        exact ⟨rfl, rfl, rfl⟩
      refine stepsP.cons (fun vals R hpZ => ?_) ?_
      · rw [(envs_of_sat (l := [(10, (.bool (decide ((((p : Nat) : Int) : Int) ≥ (((t).length : Nat) : Int))) : Value))]) ⟨hpZ 10 (by decide), trivial⟩).symm]
        exact XG.no (t := 13) rfl (congrArg Value.bool (decide_eq_true h1)) ⟨rfl, rfl, rfl⟩
      refine stepsP.cons (fun vals R hpZ => ?_) ?_
      · rw [(envs_of_sat (l := [(10, (.bool (decide ((((p : Nat) : Int) : Int) ≥ (((t).length : Nat) : Int))) : Value)), (11, undef)]) ⟨hpZ 10 (by decide), hpZ 11 (by decide), trivial⟩).symm]
        exact XG.no (t := 13) rfl (congrArg Value.bool (decide_eq_true h1)) ⟨rfl, rfl, rfl⟩
      refine stepsP.cons (fun vals R hpZ => ?_) ?_
      · rw [(envs_of_sat (l := [(10, (.bool (decide ((((p : Nat) : Int) : Int) ≥ (((t).length : Nat) : Int))) : Value)), (12, undef)]) ⟨hpZ 10 (by decide), hpZ 12 (by decide), trivial⟩).symm]
        exact XG.no (t := 13) rfl (congrArg Value.bool (decide_eq_true h1)) ⟨rfl, rfl, rfl⟩
      refine stepsP.cons (fun vals R hpZ => ?_) ?_
      · rw [(envs_of_sat (l := [(10, (.bool (decide ((((p : Nat) : Int) : Int) ≥ (((t).length : Nat) : Int))) : Value)), (13, undef)]) ⟨hpZ 10 (by decide), hpZ 13 (by decide), trivial⟩).symm]
        exact XG.no (t := 13) rfl (congrArg Value.bool (decide_eq_true h1)) ⟨rfl, rfl, rfl⟩
      refine stepsP.cons (fun vals R hpZ => ?_) ?_
      · rw [(envs_of_sat (l := [(10, (.bool (decide ((((p : Nat) : Int) : Int) ≥ (((t).length : Nat) : Int))) : Value))]) ⟨hpZ 10 (by decide), trivial⟩).symm]
        exact XG.no (t := 13) rfl (congrArg Value.bool (decide_eq_true h1)) ⟨rfl, rfl, rfl⟩
      refine stepsP.cons (fun vals R hpZ => ?_) ?_
      · rw [(envs_of_sat (l := [(10, (.bool (decide ((((p : Nat) : Int) : Int) ≥ (((t).length : Nat) : Int))) : Value)), (15, undef)]) ⟨hpZ 10 (by decide), hpZ 15 (by decide), trivial⟩).symm]
        exact XG.no (t := 13) rfl (congrArg Value.bool (decide_eq_true h1)) ⟨rfl, rfl, rfl⟩
      refine stepsP.cons (fun vals R hpZ => ?_) ?_
      · rw [(envs_of_sat (l := [(10, (.bool (decide ((((p : Nat) : Int) : Int) ≥ (((t).length : Nat) : Int))) : Value)), (16, undef)]) ⟨hpZ 10 (by decide), hpZ 16 (by decide), trivial⟩).symm]
        exact XG.no (t := 13) rfl (congrArg Value.bool (decide_eq_true h1)) ⟨rfl, rfl, rfl⟩
      refine stepsP.cons (fun vals R hpZ => ?_) ?_
      · rw [(envs_of_sat (l := [(10, (.bool (decide ((((p : Nat) : Int) : Int) ≥ (((t).length : Nat) : Int))) : Value)), (17, undef)]) ⟨hpZ 10 (by decide), hpZ 17 (by decide), trivial⟩).symm]
        exact XG.no (t := 13) rfl (congrArg Value.bool (decide_eq_true h1)) ⟨rfl, rfl, rfl⟩
      refine stepsP.cons (fun vals R hpZ => ?_) ?_
      · rw [(envs_of_sat (l := [(10, (.bool (decide ((((p : Nat) : Int) : Int) ≥ (((t).length : Nat) : Int))) : Value)), (14, undef), (18, undef)]) ⟨hpZ 10 (by decide), hpZ 14 (by decide), hpZ 18 (by decide), trivial⟩).symm]
        exact XG.no (t := 13) rfl (congrArg Value.bool (decide_eq_true h1)) ⟨rfl, rfl, rfl⟩
      refine stepsP.cons (fun vals R hpZ => ?_) ?_
      · rw [(envs_of_sat (l := [(10, (.bool (decide ((((p : Nat) : Int) : Int) ≥ (((t).length : Nat) : Int))) : Value)), (19, undef)]) ⟨hpZ 10 (by decide), hpZ 19 (by decide), trivial⟩).symm]
        exact XG.no (t := 13) rfl (congrArg Value.bool (decide_eq_true h1)) ⟨rfl, rfl, rfl⟩
      refine stepsP.cons (fun vals R hpZ => ?_) ?_
      · rw [(envs_of_sat (l := [(10, (.bool (decide ((((p : Nat) : Int) : Int) ≥ (((t).length : Nat) : Int))) : Value))]) ⟨hpZ 10 (by decide), trivial⟩).symm]
        exact XG.no (t := 13) rfl (congrArg Value.bool (decide_eq_true h1)) ⟨rfl, rfl, rfl⟩
      refine stepsP.cons (fun vals R hpZ => ?_) ?_
      · rw [(envs_of_sat (l := [(10, (.bool (decide ((((p : Nat) : Int) : Int) ≥ (((t).length : Nat) : Int))) : Value)), (21, undef)]) ⟨hpZ 10 (by decide), hpZ 21 (by decide), trivial⟩).symm]
        exact XG.no (t := 13) rfl (congrArg Value.bool (decide_eq_true h1)) ⟨rfl, rfl, rfl⟩
      refine stepsP.cons (fun vals R hpZ => ?_) ?_
      · rw [(envs_of_sat (l := [(10, (.bool (decide ((((p : Nat) : Int) : Int) ≥ (((t).length : Nat) : Int))) : Value)), (22, undef)]) ⟨hpZ 10 (by decide), hpZ 22 (by decide), trivial⟩).symm]
        exact XG.no (t := 13) rfl (congrArg Value.bool (decide_eq_true h1)) ⟨rfl, rfl, rfl⟩
      refine stepsP.cons (fun vals R hpZ => ?_) ?_
      · rw [(envs_of_sat (l := [(10, (.bool (decide ((((p : Nat) : Int) : Int) ≥ (((t).length : Nat) : Int))) : Value)), (23, undef)]) ⟨hpZ 10 (by decide), hpZ 23 (by decide), trivial⟩).symm]
        exact XG.no (t := 13) rfl (congrArg Value.bool (decide_eq_true h1)) ⟨rfl, rfl, rfl⟩
      refine stepsP.cons (fun vals R hpZ => ?_) ?_
      · rw [(envs_of_sat (l := [(10, (.bool (decide ((((p : Nat) : Int) : Int) ≥ (((t).length : Nat) : Int))) : Value)), (24, undef)]) ⟨hpZ 10 (by decide), hpZ 24 (by decide), trivial⟩).symm]
        exact XG.no (t := 13) rfl (congrArg Value.bool (decide_eq_true h1)) ⟨rfl, rfl, rfl⟩
      refine stepsP.cons (fun vals R hpZ => ?_) ?_
      · rw [(envs_of_sat (l := [(10, (.bool (decide ((((p : Nat) : Int) : Int) ≥ (((t).length : Nat) : Int))) : Value)), (25, undef)]) ⟨hpZ 10 (by decide), hpZ 25 (by decide), trivial⟩).symm]
        exact XG.no (t := 13) rfl (congrArg Value.bool (decide_eq_true h1)) ⟨rfl, rfl, rfl⟩
      exact stepsP.nil
    · intro vals hphi
      have e0 : vals 0 = ptr c 0 := hphi 0 (by decide)
      have e1 : vals 1 = ptr c 0 := hphi 1 (by decide)
      have e2 : vals 2 = ptr c 2 := hphi 2 (by decide)
      have e3 : vals 3 = (.int .i64 (((p : Nat) : Int)) : Value) := hphi 3 (by decide)
      have e4 : vals 4 = ptr c 0 := hphi 4 (by decide)
      have e5 : vals 5 = ptr c 0 := hphi 5 (by decide)
      have e6 : vals 6 = ptr c 1 := hphi 6 (by decide)
      have e7 : vals 7 = tv := hphi 7 (by decide)
      have e8 : vals 8 = (.int .i64 ((((t).length : Nat) : Int)) : Value) := hphi 8 (by decide)
      have e9 : vals 9 = (.bool (decide ((((p : Nat) : Int) : Int) ≥ (((t).length : Nat) : Int))) : Value) := hphi 9 (by decide)
      have e10 : vals 10 = (.bool (decide ((((p : Nat) : Int) : Int) ≥ (((t).length : Nat) : Int))) : Value) := hphi 10 (by decide)
      have e11 : vals 11 = undef := hphi 11 (by decide)
      have e12 : vals 12 = undef := hphi 12 (by decide)
      have e13 : vals 13 = undef := hphi 13 (by decide)
      have e14 : vals 14 = undef := hphi 14 (by decide)
      have e15 : vals 15 = undef := hphi 15 (by decide)
      have e16 : vals 16 = undef := hphi 16 (by decide)
      have e17 : vals 17 = undef := hphi 17 (by decide)
      have e18 : vals 18 = undef := hphi 18 (by decide)
      have e19 : vals 19 = undef := hphi 19 (by decide)
      have e20 : vals 20 = undef := hphi 20 (by decide)
      have e21 : vals 21 = undef := hphi 21 (by decide)
      have e22 : vals 22 = undef := hphi 22 (by decide)
      have e23 : vals 23 = undef := hphi 23 (by decide)
      have e24 : vals 24 = undef := hphi 24 (by decide)
      have e25 : vals 25 = undef := hphi 25 (by decide)
      have e26 : vals 26 = undef := hphi 26 (by decide)
      rw [(envs_of_sat (l := [(0, ptr c 0), (1, ptr c 0), (2, ptr c 2), (3, (.int .i64 (((p : Nat) : Int)) : Value)), (4, ptr c 0), (5, ptr c 0), (6, ptr c 1), (7, tv), (8, (.int .i64 ((((t).length : Nat) : Int)) : Value)), (9, (.bool (decide ((((p : Nat) : Int) : Int) ≥ (((t).length : Nat) : Int))) : Value)), (10, (.bool (decide ((((p : Nat) : Int) : Int) ≥ (((t).length : Nat) : Int))) : Value)), (11, undef), (12, undef), (13, undef), (14, undef), (15, undef), (16, undef), (17, undef), (18, undef), (19, undef), (20, undef), (21, undef), (22, undef), (23, undef), (24, undef), (25, undef), (26, undef)]) ⟨e0, e1, e2, e3, e4, e5, e6, e7, e8, e9, e10, e11, e12, e13, e14, e15, e16, e17, e18, e19, e20, e21, e22, e23, e24, e25, e26, trivial⟩).symm]
      show XL _ _ _ _ _ _ _ (cellsH c [arv, tv, .int .i64 (((p : Nat) : Int))] 222 :: L)
      refine XL.no (t := 13) rfl (congrArg Value.bool (decide_eq_true h1)) ?_
      refine XL.cons (XOp.pickT (.bool (true)) (congrArg Value.bool (decide_eq_true h1)) rfl ?_)
      refine XL.nil ?_
      refine X.condT rfl ?_
      refine X.seq ?_
      refine X.region ?_
      refine XL.cons (XOp.assign (.int .i64 (-1)) rfl ?_)
      refine XL.nil ?_
      refine X.ret (thenQ_ret (retEnd (L' := cellsH c [arv, tv, .int .i64 (((p : Nat) : Int))] 222 :: L) [.int .i64 (-1)] (.int .i64 (-1)) (.tmp rfl .nil) rfl (FLe.refl _) (FLe.refl _) (Sub.cons (Sub.refl _)) ?_))
      exact ⟨rfl, .inr ⟨by omega, rfl, rfl⟩⟩
  · refine X.draw [cellsH c [arv, tv, .int .i64 (((p : Nat) : Int))] 222] L 27 [[], [], [], [], [], [], [], [], [], [], [], [], [], [], [], [], [], [], [], [], [], [], [], [], [], [], []] [[], [0], [1], [2], [], [4], [5], [6], [7], [3, 8], [9], [10], [10, 11], [10, 12], [10, 13], [10], [10, 15], [10, 16], [10, 17], [10, 14, 18], [10, 19], [10], [10, 21], [10, 22], [10, 23], [10, 24], [10, 25]] (phiL [fun us v => v = ptr c 0, fun us v => v = ptr c 0, fun us v => v = ptr c 2, fun us v => v = (.int .i64 (((p : Nat) : Int)) : Value), fun us v => v = ptr c 0, fun us v => v = ptr c 0, fun us v => v = ptr c 1, fun us v => v = tv, fun us v => v = (.int .i64 ((((t).length : Nat) : Int)) : Value), fun us v => v = (.bool (decide ((((p : Nat) : Int) : Int) ≥ (((t).length : Nat) : Int))) : Value), fun us v => v = (.bool (decide ((((p : Nat) : Int) : Int) ≥ (((t).length : Nat) : Int))) : Value), fun us v => v = ptr c 0, fun us v => v = ptr c 0, fun us v => v = ptr c 1, fun us v => v = tv, fun us v => v = ptr c 0, fun us v => v = ptr c 0, fun us v => v = ptr c 2, fun us v => v = (.int .i64 (((p : Nat) : Int)) : Value), fun us v => v = (.pointer (some (elemA tv (p))) : Value), fun us v => v = (.int .i64 (t.getD p 0) : Value), fun us v => v = ptr c 0, fun us v => v = ptr c 0, fun us v => v = ptr c 0, fun us v => v = ptr c 0, fun us v => v = arv, fun us v => v = (.int .i64 ((((ar).length : Nat) : Int)) : Value)]) (ownL [fun us v => [], fun us v => [], fun us v => [], fun us v => [], fun us v => [], fun us v => [], fun us v => [], fun us v => [], fun us v => [], fun us v => [], fun us v => [], fun us v => [], fun us v => [], fun us v => [], fun us v => [], fun us v => [], fun us v => [], fun us v => [], fun us v => [], fun us v => [], fun us v => [], fun us v => [], fun us v => [], fun us v => [], fun us v => [], fun us v => [], fun us v => []]) mixed rfl rfl (by kernel_rfl) ?_ ?_
    · refine stepsP.cons (fun vals R hpZ => ?_) ?_
      · refine XG.op (XOp.move (ptr c 0) rfl ?_)
        exact ⟨rfl, rfl, rfl⟩
      refine stepsP.cons (fun vals R hpZ => ?_) ?_
      · rw [(envs_of_sat (l := [(0, ptr c 0)]) ⟨hpZ 0 (by decide), trivial⟩).symm]
        refine XG.op (XOp.nilCheck (a := ⟨c, 0, none⟩) rfl ?_)
        exact ⟨rfl, rfl, rfl⟩
      refine stepsP.cons (fun vals R hpZ => ?_) ?_
      · rw [(envs_of_sat (l := [(1, ptr c 0)]) ⟨hpZ 1 (by decide), trivial⟩).symm]
        refine XG.op (XOp.fieldP (b := c) (2) Try.runUnderlying222 rfl Try.sizeOf3 (by decide) rfl rfl ?_)
        exact ⟨rfl, rfl, rfl⟩
      refine stepsP.cons (fun vals R hpZ => ?_) ?_
      · rw [(envs_of_sat (l := [(2, ptr c 2)]) ⟨hpZ 2 (by decide), trivial⟩).symm]
        refine XG.op (XOp.load1 (v := .int .i64 (((p : Nat) : Int))) Try.isAgg3 rfl (Rd.own [] rfl rfl) ?_)
        exact ⟨rfl, rfl, rfl⟩
      refine stepsP.cons (fun vals R hpZ => ?_) ?_
      · refine XG.op (XOp.move (ptr c 0) rfl ?_)
        exact ⟨rfl, rfl, rfl⟩
      refine stepsP.cons (fun vals R hpZ => ?_) ?_
      · rw [(envs_of_sat (l := [(4, ptr c 0)]) ⟨hpZ 4 (by decide), trivial⟩).symm]
        refine XG.op (XOp.nilCheck (a := ⟨c, 0, none⟩) rfl ?_)
        exact ⟨rfl, rfl, rfl⟩
      refine stepsP.cons (fun vals R hpZ => ?_) ?_
      · rw [(envs_of_sat (l := [(5, ptr c 0)]) ⟨hpZ 5 (by decide), trivial⟩).symm]
        refine XG.op (XOp.fieldP (b := c) (1) Try.runUnderlying222 rfl Try.sizeOf22 (by decide) rfl rfl ?_)
        exact ⟨rfl, rfl, rfl⟩
      refine stepsP.cons (fun vals R hpZ => ?_) ?_
      · rw [(envs_of_sat (l := [(6, ptr c 1)]) ⟨hpZ 6 (by decide), trivial⟩).symm]
        refine XG.op (XOp.load1 (v := tv) Try.isAgg22 rfl (Rd.own [] rfl rfl) ?_)
        exact ⟨rfl, rfl, rfl⟩
      refine stepsP.cons (fun vals R hpZ => ?_) ?_
      · rw [(envs_of_sat (l := [(7, tv)]) ⟨hpZ 7 (by decide), trivial⟩).symm]
        refine XG.op (XOp.lenS (v := tv) (n := (t).length) Try.runUnderlying22 rfl ht.slv ?_)
        exact ⟨rfl, rfl, rfl⟩
      refine stepsP.cons (fun vals R hpZ => ?_) ?_
      · rw [(envs_of_sat (l := [(3, (.int .i64 (((p : Nat) : Int)) : Value)), (8, (.int .i64 ((((t).length : Nat) : Int)) : Value))]) ⟨hpZ 3 (by decide), hpZ 8 (by decide), trivial⟩).symm]
        refine XG.op (XOp.geq (a := ((p : Nat) : Int)) (b := (((t).length : Nat) : Int)) rfl rfl ?_)
        exact ⟨rfl, rfl, rfl⟩
      refine stepsP.cons (fun vals R hpZ => ?_) ?_
      · rw [(envs_of_sat (l := [(9, (.bool (decide ((((p : Nat) : Int) : Int) ≥ (((t).length : Nat) : Int))) : Value))]) ⟨hpZ 9 (by decide), trivial⟩).symm]
        refine XG.op (XOp.move (.bool (decide ((((p : Nat) : Int) : Int) ≥ (((t).length : Nat) : Int)))) rfl ?_)
        exact ⟨rfl, rfl, rfl⟩
      refine stepsP.cons (fun vals R hpZ => ?_) ?_
      · rw [(envs_of_sat (l := [(10, (.bool (decide ((((p : Nat) : Int) : Int) ≥ (((t).length : Nat) : Int))) : Value))]) ⟨hpZ 10 (by decide), trivial⟩).symm]
        refine XG.yes (t := 13) rfl (congrArg Value.bool (decide_eq_false h1)) (XOp.move (ptr c 0) rfl ?_)
        exact ⟨rfl, rfl, rfl⟩
      refine stepsP.cons (fun vals R hpZ => ?_) ?_
      · rw [(envs_of_sat (l := [(10, (.bool (decide ((((p : Nat) : Int) : Int) ≥ (((t).length : Nat) : Int))) : Value)), (11, ptr c 0)]) ⟨hpZ 10 (by decide), hpZ 11 (by decide), trivial⟩).symm]
        refine XG.yes (t := 13) rfl (congrArg Value.bool (decide_eq_false h1)) (XOp.nilCheck (a := ⟨c, 0, none⟩) rfl ?_)
        exact ⟨rfl, rfl, rfl⟩
      refine stepsP.cons (fun vals R hpZ => ?_) ?_
      · rw [(envs_of_sat (l := [(10, (.bool (decide ((((p : Nat) : Int) : Int) ≥ (((t).length : Nat) : Int))) : Value)), (12, ptr c 0)]) ⟨hpZ 10 (by decide), hpZ 12 (by decide), trivial⟩).symm]
        refine XG.yes (t := 13) rfl (congrArg Value.bool (decide_eq_false h1)) (XOp.fieldP (b := c) (1) Try.runUnderlying222 rfl Try.sizeOf22 (by decide) rfl rfl ?_)
        exact ⟨rfl, rfl, rfl⟩
      refine stepsP.cons (fun vals R hpZ => ?_) ?_
      · rw [(envs_of_sat (l := [(10, (.bool (decide ((((p : Nat) : Int) : Int) ≥ (((t).length : Nat) : Int))) : Value)), (13, ptr c 1)]) ⟨hpZ 10 (by decide), hpZ 13 (by decide), trivial⟩).symm]
        refine XG.yes (t := 13) rfl (congrArg Value.bool (decide_eq_false h1)) (XOp.load1 (v := tv) Try.isAgg22 rfl (Rd.own [] rfl rfl) ?_)
        exact ⟨rfl, rfl, rfl⟩
      refine stepsP.cons (fun vals R hpZ => ?_) ?_
      · rw [(envs_of_sat (l := [(10, (.bool (decide ((((p : Nat) : Int) : Int) ≥ (((t).length : Nat) : Int))) : Value))]) ⟨hpZ 10 (by decide), trivial⟩).symm]
        refine XG.yes (t := 13) rfl (congrArg Value.bool (decide_eq_false h1)) (XOp.move (ptr c 0) rfl ?_)
        exact ⟨rfl, rfl, rfl⟩
      refine stepsP.cons (fun vals R hpZ => ?_) ?_
      · rw [(envs_of_sat (l := [(10, (.bool (decide ((((p : Nat) : Int) : Int) ≥ (((t).length : Nat) : Int))) : Value)), (15, ptr c 0)]) ⟨hpZ 10 (by decide), hpZ 15 (by decide), trivial⟩).symm]
        refine XG.yes (t := 13) rfl (congrArg Value.bool (decide_eq_false h1)) (XOp.nilCheck (a := ⟨c, 0, none⟩) rfl ?_)
        exact ⟨rfl, rfl, rfl⟩
      refine stepsP.cons (fun vals R hpZ => ?_) ?_
      · rw [(envs_of_sat (l := [(10, (.bool (decide ((((p : Nat) : Int) : Int) ≥ (((t).length : Nat) : Int))) : Value)), (16, ptr c 0)]) ⟨hpZ 10 (by decide), hpZ 16 (by decide), trivial⟩).symm]
        refine XG.yes (t := 13) rfl (congrArg Value.bool (decide_eq_false h1)) (XOp.fieldP (b := c) (2) Try.runUnderlying222 rfl Try.sizeOf3 (by decide) rfl rfl ?_)
        exact ⟨rfl, rfl, rfl⟩
      refine stepsP.cons (fun vals R hpZ => ?_) ?_
      · rw [(envs_of_sat (l := [(10, (.bool (decide ((((p : Nat) : Int) : Int) ≥ (((t).length : Nat) : Int))) : Value)), (17, ptr c 2)]) ⟨hpZ 10 (by decide), hpZ 17 (by decide), trivial⟩).symm]
        refine XG.yes (t := 13) rfl (congrArg Value.bool (decide_eq_false h1)) (XOp.load1 (v := .int .i64 (((p : Nat) : Int))) Try.isAgg3 rfl (Rd.own [] rfl rfl) ?_)
        exact ⟨rfl, rfl, rfl⟩
      refine stepsP.cons (fun vals R hpZ => ?_) ?_
      · rw [(envs_of_sat (l := [(10, (.bool (decide ((((p : Nat) : Int) : Int) ≥ (((t).length : Nat) : Int))) : Value)), (14, tv), (18, (.int .i64 (((p : Nat) : Int)) : Value))]) ⟨hpZ 10 (by decide), hpZ 14 (by decide), hpZ 18 (by decide), trivial⟩).symm]
        refine XG.yes (t := 13) rfl (congrArg Value.bool (decide_eq_false h1)) (XOp.indexS (v := tv) (i := ((p : Nat) : Int)) (n := (t).length) p Try.runUnderlying22 Try.sizeOf2 rfl rfl rfl ht.slv (by omega) (Nat.mul_one _) ?_)
        exact ⟨rfl, rfl, rfl⟩
      refine stepsP.cons (fun vals R hpZ => ?_) ?_
      · rw [(envs_of_sat (l := [(10, (.bool (decide ((((p : Nat) : Int) : Int) ≥ (((t).length : Nat) : Int))) : Value)), (19, (.pointer (some (elemA tv (p))) : Value))]) ⟨hpZ 10 (by decide), hpZ 19 (by decide), trivial⟩).symm]
        refine XG.yes (t := 13) rfl (congrArg Value.bool (decide_eq_false h1)) (XOp.load1 (v := .int .i64 (t.getD p 0)) Try.isAgg2 rfl (ht.rd (by omega)) ?_)
        exact ⟨rfl, rfl, rfl⟩
      refine stepsP.cons (fun vals R hpZ => ?_) ?_
      · rw [(envs_of_sat (l := [(10, (.bool (decide ((((p : Nat) : Int) : Int) ≥ (((t).length : Nat) : Int))) : Value))]) ⟨hpZ 10 (by decide), trivial⟩).symm]
        refine XG.yes (t := 13) rfl (congrArg Value.bool (decide_eq_false h1)) (XOp.move (ptr c 0) rfl ?_)
        exact ⟨rfl, rfl, rfl⟩
      refine stepsP.cons (fun vals R hpZ => ?_) ?_
      · rw [(envs_of_sat (l := [(10, (.bool (decide ((((p : Nat) : Int) : Int) ≥ (((t).length : Nat) : Int))) : Value)), (21, ptr c 0)]) ⟨hpZ 10 (by decide), hpZ 21 (by decide), trivial⟩).symm]
        refine XG.yes (t := 13) rfl (congrArg Value.bool (decide_eq_false h1)) (XOp.nilCheck (a := ⟨c, 0, none⟩) rfl ?_)
        exact ⟨rfl, rfl, rfl⟩
      refine stepsP.cons (fun vals R hpZ => ?_) ?_
      · rw [(envs_of_sat (l := [(10, (.bool (decide ((((p : Nat) : Int) : Int) ≥ (((t).length : Nat) : Int))) : Value)), (22, ptr c 0)]) ⟨hpZ 10 (by decide), hpZ 22 (by decide), trivial⟩).symm]
        refine XG.yes (t := 13) rfl (congrArg Value.bool (decide_eq_false h1)) (XOp.fieldP (b := c) (0) Try.runUnderlying222 rfl Try.sizeOf33 (by decide) rfl rfl ?_)
        exact ⟨rfl, rfl, rfl⟩
      refine stepsP.cons (fun vals R hpZ => ?_) ?_
      · rw [(envs_of_sat (l := [(10, (.bool (decide ((((p : Nat) : Int) : Int) ≥ (((t).length : Nat) : Int))) : Value)), (23, ptr c 0)]) ⟨hpZ 10 (by decide), hpZ 23 (by decide), trivial⟩).symm]
        refine XG.yes (t := 13) rfl (congrArg Value.bool (decide_eq_false h1)) (XOp.fieldP (b := c) (0) Try.runUnderlying33 rfl Try.sizeOf22 (by decide) rfl rfl ?_)
        exact ⟨rfl, rfl, rfl⟩
      refine stepsP.cons (fun vals R hpZ => ?_) ?_
      · rw [(envs_of_sat (l := [(10, (.bool (decide ((((p : Nat) : Int) : Int) ≥ (((t).length : Nat) : Int))) : Value)), (24, ptr c 0)]) ⟨hpZ 10 (by decide), hpZ 24 (by decide), trivial⟩).symm]
        refine XG.yes (t := 13) rfl (congrArg Value.bool (decide_eq_false h1)) (XOp.load1 (v := arv) Try.isAgg22 rfl (Rd.own [] rfl rfl) ?_)
        exact ⟨rfl, rfl, rfl⟩
      refine stepsP.cons (fun vals R hpZ => ?_) ?_
      · rw [(envs_of_sat (l := [(10, (.bool (decide ((((p : Nat) : Int) : Int) ≥ (((t).length : Nat) : Int))) : Value)), (25, arv)]) ⟨hpZ 10 (by decide), hpZ 25 (by decide), trivial⟩).symm]
        refine XG.yes (t := 13) rfl (congrArg Value.bool (decide_eq_false h1)) (XOp.lenS (v := arv) (n := (ar).length) Try.runUnderlying22 rfl har.slv ?_)
        exact ⟨rfl, rfl, rfl⟩
      exact stepsP.nil
    · intro vals hphi
      have e0 : vals 0 = ptr c 0 := hphi 0 (by decide)
      have e1 : vals 1 = ptr c 0 := hphi 1 (by decide)
      have e2 : vals 2 = ptr c 2 := hphi 2 (by decide)
      have e3 : vals 3 = (.int .i64 (((p : Nat) : Int)) : Value) := hphi 3 (by decide)
      have e4 : vals 4 = ptr c 0 := hphi 4 (by decide)
      have e5 : vals 5 = ptr c 0 := hphi 5 (by decide)
      have e6 : vals 6 = ptr c 1 := hphi 6 (by decide)
      have e7 : vals 7 = tv := hphi 7 (by decide)
      have e8 : vals 8 = (.int .i64 ((((t).length : Nat) : Int)) : Value) := hphi 8 (by decide)
      have e9 : vals 9 = (.bool (decide ((((p : Nat) : Int) : Int) ≥ (((t).length : Nat) : Int))) : Value) := hphi 9 (by decide)
      have e10 : vals 10 = (.bool (decide ((((p : Nat) : Int) : Int) ≥ (((t).length : Nat) : Int))) : Value) := hphi 10 (by decide)
      have e11 : vals 11 = ptr c 0 := hphi 11 (by decide)
      have e12 : vals 12 = ptr c 0 := hphi 12 (by decide)
      have e13 : vals 13 = ptr c 1 := hphi 13 (by decide)
      have e14 : vals 14 = tv := hphi 14 (by decide)
      have e15 : vals 15 = ptr c 0 := hphi 15 (by decide)
      have e16 : vals 16 = ptr c 0 := hphi 16 (by decide)
      have e17 : vals 17 = ptr c 2 := hphi 17 (by decide)
      have e18 : vals 18 = (.int .i64 (((p : Nat) : Int)) : Value) := hphi 18 (by decide)
      have e19 : vals 19 = (.pointer (some (elemA tv (p))) : Value) := hphi 19 (by decide)
      have e20 : vals 20 = (.int .i64 (t.getD p 0) : Value) := hphi 20 (by decide)
      have e21 : vals 21 = ptr c 0 := hphi 21 (by decide)
      have e22 : vals 22 = ptr c 0 := hphi 22 (by decide)
      have e23 : vals 23 = ptr c 0 := hphi 23 (by decide)
      have e24 : vals 24 = ptr c 0 := hphi 24 (by decide)
      have e25 : vals 25 = arv := hphi 25 (by decide)
      have e26 : vals 26 = (.int .i64 ((((ar).length : Nat) : Int)) : Value) := hphi 26 (by decide)
      rw [(envs_of_sat (l := [(0, ptr c 0), (1, ptr c 0), (2, ptr c 2), (3, (.int .i64 (((p : Nat) : Int)) : Value)), (4, ptr c 0), (5, ptr c 0), (6, ptr c 1), (7, tv), (8, (.int .i64 ((((t).length : Nat) : Int)) : Value)), (9, (.bool (decide ((((p : Nat) : Int) : Int) ≥ (((t).length : Nat) : Int))) : Value)), (10, (.bool (decide ((((p : Nat) : Int) : Int) ≥ (((t).length : Nat) : Int))) : Value)), (11, ptr c 0), (12, ptr c 0), (13, ptr c 1), (14, tv), (15, ptr c 0), (16, ptr c 0), (17, ptr c 2), (18, (.int .i64 (((p : Nat) : Int)) : Value)), (19, (.pointer (some (elemA tv (p))) : Value)), (20, (.int .i64 (t.getD p 0) : Value)), (21, ptr c 0), (22, ptr c 0), (23, ptr c 0), (24, ptr c 0), (25, arv), (26, (.int .i64 ((((ar).length : Nat) : Int)) : Value))]) ⟨e0, e1, e2, e3, e4, e5, e6, e7, e8, e9, e10, e11, e12, e13, e14, e15, e16, e17, e18, e19, e20, e21, e22, e23, e24, e25, e26, trivial⟩).symm]
      show XL _ _ _ _ _ _ _ (cellsH c [arv, tv, .int .i64 (((p : Nat) : Int))] 222 :: L)
      refine XL.yes (t := 13) rfl (congrArg Value.bool (decide_eq_false h1)) (XOp.geq (a := t.getD p 0) (b := (((ar).length : Nat) : Int)) rfl rfl ?_)
      refine XL.cons (XOp.pickF (.bool (decide ((t.getD p 0 : Int) ≥ (((ar).length : Nat) : Int)))) (congrArg Value.bool (decide_eq_false h1)) rfl ?_)
      refine XL.nil ?_
      refine X.condD (p := (t.getD p 0 : Int) ≥ (((ar).length : Nat) : Int)) rfl (fun h2 => ?_) (fun h2 => ?_)
      · refine X.seq ?_
        refine X.region ?_
        refine XL.cons (XOp.assign (.int .i64 (-1)) rfl ?_)
        refine XL.nil ?_
        refine X.ret (thenQ_ret (retEnd (L' := cellsH c [arv, tv, .int .i64 (((p : Nat) : Int))] 222 :: L) [.int .i64 (-1)] (.int .i64 (-1)) (.tmp rfl .nil) rfl (FLe.refl _) (FLe.refl _) (Sub.cons (Sub.refl _)) ?_))
        exact ⟨rfl, .inr ⟨by omega, rfl, rfl⟩⟩
      · refine X.skip ?_
        refine X.seq ?_
        refine X.region ?_
        refine XL.cons (XOp.move (ptr c 0) rfl ?_)
        refine XL.cons (XOp.nilCheck (a := ⟨c, 0, none⟩) rfl ?_)
        refine XL.cons (XOp.fieldP (b := c) (2) Try.runUnderlying222 rfl Try.sizeOf3 (by decide) rfl rfl ?_)
        refine XL.cons (XOp.load1 (v := .int .i64 (((p : Nat) : Int))) Try.isAgg3 rfl (Rd.own [] rfl rfl) ?_)
        refine XL.cons (XOp.addR (a := ((p : Nat) : Int)) (b := 1) (((p + 1 : Nat) : Int)) rfl rfl (by omega) (by omega) ?_)
        refine XL.cons (XOp.nilCheck (a := ⟨c, 0, none⟩) rfl ?_)
        refine XL.cons (XOp.fieldP (b := c) (2) Try.runUnderlying222 rfl Try.sizeOf3 (by decide) rfl rfl ?_)
        refine XL.cons (XOp.store1 (v := .int .i64 (((p + 1 : Nat) : Int))) [] _ [arv, tv, .int .i64 (((p + 1 : Nat) : Int))] Try.sizeOf3 rfl rfl rfl rfl rfl rfl ?_)
        refine XL.nil ?_
        refine X.seq ?_
        refine X.draw [cellsH c [arv, tv, .int .i64 (((p + 1 : Nat) : Int))] 222] L 15 [[], [], [], [], [], [], [], [], [], [], [], [], [], [], []] [[], [0], [1], [2], [], [4], [5], [6], [], [8], [9], [10], [11], [7, 12], [13]] (phiL [fun us v => v = ptr c 0, fun us v => v = ptr c 0, fun us v => v = ptr c 0, fun us v => v = (.agg #[arv] : Value), fun us v => v = ptr c 0, fun us v => v = ptr c 0, fun us v => v = ptr c 1, fun us v => v = tv, fun us v => v = ptr c 0, fun us v => v = ptr c 0, fun us v => v = ptr c 2, fun us v => v = (.int .i64 (((p + 1 : Nat) : Int)) : Value), fun us v => v = (.int .i64 (((p : Nat) : Int)) : Value), fun us v => v = (.pointer (some (elemA tv (p))) : Value), fun us v => v = (.int .i64 (t.getD p 0) : Value)]) (ownL [fun us v => [], fun us v => [], fun us v => [], fun us v => [], fun us v => [], fun us v => [], fun us v => [], fun us v => [], fun us v => [], fun us v => [], fun us v => [], fun us v => [], fun us v => [], fun us v => [], fun us v => []]) mixed rfl rfl (by kernel_rfl) ?_ ?_
        · refine stepsP.cons (fun vals R hpZ => ?_) ?_
          · refine XG.op (XOp.move (ptr c 0) rfl ?_)
            exact ⟨rfl, rfl, rfl⟩
          refine stepsP.cons (fun vals R hpZ => ?_) ?_
          · rw [(envs_of_sat (l := [(0, ptr c 0)]) ⟨hpZ 0 (by decide), trivial⟩).symm]
            refine XG.op (XOp.nilCheck (a := ⟨c, 0, none⟩) rfl ?_)
            exact ⟨rfl, rfl, rfl⟩
          refine stepsP.cons (fun vals R hpZ => ?_) ?_
          · rw [(envs_of_sat (l := [(1, ptr c 0)]) ⟨hpZ 1 (by decide), trivial⟩).symm]
            refine XG.op (XOp.fieldP (b := c) (0) Try.runUnderlying222 rfl Try.sizeOf33 (by decide) rfl rfl ?_)
            exact ⟨rfl, rfl, rfl⟩
          refine stepsP.cons (fun vals R hpZ => ?_) ?_
          · rw [(envs_of_sat (l := [(2, ptr c 0)]) ⟨hpZ 2 (by decide), trivial⟩).symm]
            refine XG.op (XOp.loadN [arv] Try.isAgg33 Try.sizeOf33 rfl rfl (Rd.ownN [] rfl rfl) ?_)
            exact ⟨rfl, rfl, rfl⟩
          refine stepsP.cons (fun vals R hpZ => ?_) ?_
          · refine XG.op (XOp.move (ptr c 0) rfl ?_)
            exact ⟨rfl, rfl, rfl⟩
          refine stepsP.cons (fun vals R hpZ => ?_) ?_
          · rw [(envs_of_sat (l := [(4, ptr c 0)]) ⟨hpZ 4 (by decide), trivial⟩).symm]
            refine XG.op (XOp.nilCheck (a := ⟨c, 0, none⟩) rfl ?_)
            exact ⟨rfl, rfl, rfl⟩
          refine stepsP.cons (fun vals R hpZ => ?_) ?_
          · rw [(envs_of_sat (l := [(5, ptr c 0)]) ⟨hpZ 5 (by decide), trivial⟩).symm]
            refine XG.op (XOp.fieldP (b := c) (1) Try.runUnderlying222 rfl Try.sizeOf22 (by decide) rfl rfl ?_)
            exact ⟨rfl, rfl, rfl⟩
          refine stepsP.cons (fun vals R hpZ => ?_) ?_
          · rw [(envs_of_sat (l := [(6, ptr c 1)]) ⟨hpZ 6 (by decide), trivial⟩).symm]
            refine XG.op (XOp.load1 (v := tv) Try.isAgg22 rfl (Rd.own [] rfl rfl) ?_)
            exact ⟨rfl, rfl, rfl⟩
          refine stepsP.cons (fun vals R hpZ => ?_) ?_
          · refine XG.op (XOp.move (ptr c 0) rfl ?_)
            exact ⟨rfl, rfl, rfl⟩
          refine stepsP.cons (fun vals R hpZ => ?_) ?_
          · rw [(envs_of_sat (l := [(8, ptr c 0)]) ⟨hpZ 8 (by decide), trivial⟩).symm]
            refine XG.op (XOp.nilCheck (a := ⟨c, 0, none⟩) rfl ?_)
            exact ⟨rfl, rfl, rfl⟩
          refine stepsP.cons (fun vals R hpZ => ?_) ?_
          · rw [(envs_of_sat (l := [(9, ptr c 0)]) ⟨hpZ 9 (by decide), trivial⟩).symm]
            refine XG.op (XOp.fieldP (b := c) (2) Try.runUnderlying222 rfl Try.sizeOf3 (by decide) rfl rfl ?_)
            exact ⟨rfl, rfl, rfl⟩
          refine stepsP.cons (fun vals R hpZ => ?_) ?_
          · rw [(envs_of_sat (l := [(10, ptr c 2)]) ⟨hpZ 10 (by decide), trivial⟩).symm]
            refine XG.op (XOp.load1 (v := .int .i64 (((p + 1 : Nat) : Int))) Try.isAgg3 rfl (Rd.own [] rfl rfl) ?_)
            exact ⟨rfl, rfl, rfl⟩
          refine stepsP.cons (fun vals R hpZ => ?_) ?_
          · rw [(envs_of_sat (l := [(11, (.int .i64 (((p + 1 : Nat) : Int)) : Value))]) ⟨hpZ 11 (by decide), trivial⟩).symm]
            refine XG.op (XOp.subR (a := ((p + 1 : Nat) : Int)) (b := 1) (((p : Nat) : Int)) rfl rfl (by omega) (by omega) ?_)
            exact ⟨rfl, rfl, rfl⟩
          refine stepsP.cons (fun vals R hpZ => ?_) ?_
          · rw [(envs_of_sat (l := [(7, tv), (12, (.int .i64 (((p : Nat) : Int)) : Value))]) ⟨hpZ 7 (by decide), hpZ 12 (by decide), trivial⟩).symm]
            refine XG.op (XOp.indexS (v := tv) (i := ((p : Nat) : Int)) (n := (t).length) p Try.runUnderlying22 Try.sizeOf2 rfl rfl rfl ht.slv (by omega) (Nat.mul_one _) ?_)
            exact ⟨rfl, rfl, rfl⟩
          refine stepsP.cons (fun vals R hpZ => ?_) ?_
          · rw [(envs_of_sat (l := [(13, (.pointer (some (elemA tv (p))) : Value))]) ⟨hpZ 13 (by decide), trivial⟩).symm]
            refine XG.op (XOp.load1 (v := .int .i64 (t.getD p 0)) Try.isAgg2 rfl (ht.rd (by omega)) ?_)
            exact ⟨rfl, rfl, rfl⟩
          exact stepsP.nil
        · intro vals hphi
          have e0 : vals 0 = ptr c 0 := hphi 0 (by decide)
          have e1 : vals 1 = ptr c 0 := hphi 1 (by decide)
          have e2 : vals 2 = ptr c 0 := hphi 2 (by decide)
          have e3 : vals 3 = (.agg #[arv] : Value) := hphi 3 (by decide)
          have e4 : vals 4 = ptr c 0 := hphi 4 (by decide)
          have e5 : vals 5 = ptr c 0 := hphi 5 (by decide)
          have e6 : vals 6 = ptr c 1 := hphi 6 (by decide)
          have e7 : vals 7 = tv := hphi 7 (by decide)
          have e8 : vals 8 = ptr c 0 := hphi 8 (by decide)
          have e9 : vals 9 = ptr c 0 := hphi 9 (by decide)
          have e10 : vals 10 = ptr c 2 := hphi 10 (by decide)
          have e11 : vals 11 = (.int .i64 (((p + 1 : Nat) : Int)) : Value) := hphi 11 (by decide)
          have e12 : vals 12 = (.int .i64 (((p : Nat) : Int)) : Value) := hphi 12 (by decide)
          have e13 : vals 13 = (.pointer (some (elemA tv (p))) : Value) := hphi 13 (by decide)
          have e14 : vals 14 = (.int .i64 (t.getD p 0) : Value) := hphi 14 (by decide)
          rw [(envs_of_sat (l := [(0, ptr c 0), (1, ptr c 0), (2, ptr c 0), (3, (.agg #[arv] : Value)), (4, ptr c 0), (5, ptr c 0), (6, ptr c 1), (7, tv), (8, ptr c 0), (9, ptr c 0), (10, ptr c 2), (11, (.int .i64 (((p + 1 : Nat) : Int)) : Value)), (12, (.int .i64 (((p : Nat) : Int)) : Value)), (13, (.pointer (some (elemA tv (p))) : Value)), (14, (.int .i64 (t.getD p 0) : Value))]) ⟨e0, e1, e2, e3, e4, e5, e6, e7, e8, e9, e10, e11, e12, e13, e14, trivial⟩).symm]
          show XL _ _ _ _ _ _ _ (cellsH c [arv, tv, .int .i64 (((p + 1 : Nat) : Int))] 222 :: L)
          refine XL.cons (XOp.call (args := [.agg #[arv], .int .i64 (t.getD p 0)]) Try.call191 rfl (arityAt_spec (n := t.getD p 0) har (hn := (by first | assumption | rfl | omega | (left; simp; done) | (right; simp; done)))) ?_)
          rintro _ _ _ _ ⟨rfl, rfl, rfl⟩
          refine XL.cons (XOp.assign (.int .i64 (arity ar (t.getD p 0))) rfl ?_)
          refine XL.nil ?_
          refine X.ret (retEnd (L' := cellsH c [arv, tv, .int .i64 (((p + 1 : Nat) : Int))] 222 :: L) [.int .i64 (arity ar (t.getD p 0))] (.int .i64 (arity ar (t.getD p 0))) (.tmp rfl .nil) rfl (FLe.refl _) (FLe.refl _) (Sub.cons (Sub.refl _)) ?_)
          exact ⟨rfl, .inl ⟨by omega, by omega, rfl, rfl⟩⟩

/- (*impl.cursor).skip -/
theorem skip_spec {F : FH} {L : List HP} {c p0 : Nat} {arv : Value} {ar : List Int} (har : IntsF F arv ar) {tv : Value} {t : List Int} (ht : IntsF F tv t) (hb : t.length ≤ 4000000) (hs : sigOk ar = true) (hp : p0 ≤ t.length) :
    Does Try.prog 181 [ptr c 0] F (cellsH c [arv, tv, .int .i64 (((p0 : Nat) : Int))] 222 :: L) (fun v F' L' => F = F' ∧ ∃ q : Nat, (.bool (endGo ar (t.drop p0) 1).isSome : Value) = v ∧ (∀ e, endGo ar (t.drop p0) 1 = some e → q = p0 + e) ∧ cellsH c [arv, tv, .int .i64 (q : Int)] 222 :: L = L') := by
  refine Does.of_X Try.func181 rfl rfl rfl ?_
  refine X.seq ?_
  refine X.region ?_
  refine XL.cons (XOp.assign (.bool (false)) rfl ?_)
  refine XL.nil ?_
  refine X.seq ?_
  refine X.seq ?_
  refine X.region ?_
  refine XL.cons (XOp.assign (.int .i64 (1)) rfl ?_)
  refine XL.nil ?_
  refine X.block ?_
  refine X.loop (α := Nat × Nat) (fun xQ => [(0, ptr c 0), (3, .int .i64 (((xQ.1 : Nat) : Int)))]) (fun xQ => cellsH c [arv, tv, .int .i64 (((xQ.2 : Nat) : Int))] 222 :: L) (fun xQ F' => F = F' ∧ (endGo ar (t.drop p0) 1 = (endGo ar (t.drop xQ.2) xQ.1).map (· + (xQ.2 - p0))) ∧ (p0 ≤ xQ.2 ∧ xQ.2 ≤ t.length) ∧ (xQ.1 ≤ 1 + 3 * xQ.2)) (fun xQ => t.length - xQ.2) (1, p0) ⟨rfl, rfl, trivial⟩ (Sub.cons (Sub.refl _)) ⟨rfl, (by simp), (by omega), (by omega)⟩ ?_
  rintro ⟨k, p⟩ rE _ _ ⟨rfl, hi, h1, h2⟩
  show X _ _ _ _ (envs [(0, ptr c 0), (3, .int .i64 (((k : Nat) : Int)))] rE) _ (cellsH c [arv, tv, .int .i64 (((p : Nat) : Int))] 222 :: L)
  dsimp only at hi h1 h2
  refine X.seq ?_
  refine X.seq ?_
  refine X.region ?_
  refine XL.cons (XOp.move (.int .i64 (((k : Nat) : Int))) rfl ?_)
  refine XL.cons (XOp.gtr (a := ((k : Nat) : Int)) (b := 0) rfl rfl ?_)
  refine XL.nil ?_
  refine X.condD (p := (((k : Nat) : Int) : Int) > 0) rfl (fun h1 => ?_) (fun h1 => ?_)
  · refine X.skip ?_
    refine X.seq ?_
    refine X.block ?_
    refine X.seq ?_
    refine X.region ?_
    refine XL.cons (XOp.move (ptr c 0) rfl ?_)
    refine XL.cons (XOp.call (args := [ptr c 0]) Try.call203 rfl (next_spec (p := p) har ht (by omega)) ?_)
    rintro _ _ _ _ ⟨rfl, ⟨hn1a, hn1b, rfl, rfl⟩ | ⟨hn1c, rfl, rfl⟩⟩
    · have hA := arity_le hs hn1b
      refine XL.cons (XOp.assign (.int .i64 (arity ar ((t).getD p 0))) rfl ?_)
      refine XL.nil ?_
      refine X.seq ?_
      refine X.seq ?_
      refine X.region ?_
      refine XL.cons (XOp.move (.int .i64 (arity ar ((t).getD p 0))) rfl ?_)
      refine XL.cons (XOp.lss (a := arity ar ((t).getD p 0)) (b := 0) rfl rfl ?_)
      refine XL.nil ?_
      refine X.condD (p := (arity ar ((t).getD p 0) : Int) < 0) rfl (fun h2 => ?_) (fun h2 => ?_)
      · omega
      · refine X.skip ?_
        refine X.region ?_
        refine XL.cons (XOp.move (.int .i64 (((k : Nat) : Int))) rfl ?_)
        refine XL.cons (XOp.move (.int .i64 (arity ar ((t).getD p 0))) rfl ?_)
        refine XL.cons (XOp.addR (a := ((k : Nat) : Int)) (b := arity ar ((t).getD p 0)) (((k + (arity ar (t.getD p 0)).toNat : Nat) : Int)) rfl rfl (by omega) (by omega) ?_)
        refine XL.cons (XOp.assign (.int .i64 (((k + (arity ar (t.getD p 0)).toNat : Nat) : Int))) rfl ?_)
        refine XL.nil ?_
        refine X.region ?_
        refine XL.cons (XOp.move (.int .i64 (((k + (arity ar (t.getD p 0)).toNat : Nat) : Int))) rfl ?_)
        refine XL.cons (XOp.subR (a := ((k + (arity ar (t.getD p 0)).toNat : Nat) : Int)) (b := 1) (((k - 1 + (arity ar (t.getD p 0)).toNat : Nat) : Int)) rfl rfl (by omega) (by omega) ?_)
        refine XL.cons (XOp.assign (.int .i64 (((k - 1 + (arity ar (t.getD p 0)).toNat : Nat) : Int))) rfl ?_)
        refine XL.nil ?_
        exact ⟨(k - 1 + (arity ar (t.getD p 0)).toNat, p + 1), _, FLe.refl _, (FLe.refl _), ⟨rfl, rfl, trivial⟩, (Sub.cons (Sub.refl _)), ⟨rfl, (by rw [hi, endGo_step (by omega) (by omega) (by omega), Option.map_map]; congr 1; funext e; simp; omega), (by omega), (by omega)⟩, (by omega)⟩
    · refine XL.cons (XOp.assign (.int .i64 (-1)) rfl ?_)
      refine XL.nil ?_
      refine X.seq ?_
      refine X.seq ?_
      refine X.region ?_
      refine XL.cons (XOp.move (.int .i64 (-1)) rfl ?_)
      refine XL.cons (XOp.lss (a := -1) (b := 0) rfl rfl ?_)
      refine XL.nil ?_
      refine X.condT rfl ?_
      refine X.seq ?_
      refine X.region ?_
      refine XL.cons (XOp.assign (.bool (false)) rfl ?_)
      refine XL.nil ?_
      refine X.ret (thenQ_ret (blockQ_ret (thenQ_ret (thenQ_ret (blockQ_ret (thenQ_ret (retEnd (L' := cellsH c [arv, tv, .int .i64 (((p : Nat) : Int))] 222 :: L) [.bool (false)] (.bool (false)) (.tmp rfl .nil) rfl (FLe.refl _) (FLe.refl _) (Sub.cons (Sub.refl _)) ?_)))))))
      have hz : endGo ar (t.drop p0) 1 = none := by rw [hi, endGo_none (by omega) (by omega)]; rfl
      refine ⟨rfl, p, ?_, ?_, rfl⟩
      · rw [hz]; rfl
      · intro e he; rw [hz] at he; cases he
  · refine X.exit (thenQ_exit (thenQ_exit (blockQ_exit ?_)))
    refine X.seq ?_
    refine X.region ?_
    refine XL.cons (XOp.assign (.bool (true)) rfl ?_)
    refine XL.nil ?_
    refine X.ret (retEnd (L' := cellsH c [arv, tv, .int .i64 (((p : Nat) : Int))] 222 :: L) [.bool (true)] (.bool (true)) (.tmp rfl .nil) rfl (FLe.refl _) (FLe.refl _) (Sub.cons (Sub.refl _)) ?_)
    obtain rfl : k = 0 := by omega
    have hz : endGo ar (t.drop p0) 1 = some (p - p0) := by rw [hi]; simp [endGo]
    refine ⟨rfl, p, ?_, ?_, rfl⟩
    · rw [hz]; rfl
    · intro e he; rw [hz] at he; cases he; omega

/- impl.endAt -/
theorem endAt_spec {F : FH} {L : List HP} {arv : Value} {ar : List Int} (har : IntsF F arv ar) {tv : Value} {t : List Int} (ht : IntsF F tv t) {p : Nat} (hs : sigOk ar = true) (hb : t.length ≤ 4000000) (hp : p ≤ t.length) :
    Does Try.prog 139 [.agg #[arv], tv, .int .i64 (((p : Nat) : Int))] F (L) (fun v F' L' => (.int .i64 (endZ ar t p) : Value) = v ∧ F = F' ∧ L = L') := by
  refine Does.of_X Try.func139 rfl rfl rfl ?_
  refine X.seq ?_
  refine X.region ?_
  refine XL.cons (XOp.box [arv] rfl rfl ?_)
  intro b1
  refine XL.cons (XOp.assign (.int .i64 (0)) rfl ?_)
  refine XL.nil ?_
  refine X.seq ?_
  refine X.region ?_
  refine XL.cons (XOp.loadN [arv] Try.isAgg33 Try.sizeOf33 rfl rfl (Rd.ownN [] rfl rfl) ?_)
  refine XL.cons (XOp.move (tv) rfl ?_)
  refine XL.cons (XOp.move (.int .i64 (((p : Nat) : Int))) rfl ?_)
  refine XL.cons (XOp.build [arv, tv, .int .i64 (((p : Nat) : Int))] [(.slice none 0 0), (.slice none 0 0), .int .i64 (0)] [(0, 1), (1, 1), (2, 1)] [(0, [arv]), (1, [tv]), (2, [.int .i64 (((p : Nat) : Int))])] Try.runUnderlying222 Try.zeroValue222 rfl (.cons rfl Try.sizeOf33 (.cons rfl Try.sizeOf22 (.cons rfl Try.sizeOf3 PlacesAre.nil))) rfl (.cons rfl (.cons (cells_one (IntsF.isSl ht)) (.cons rfl CellsAre.nil))) ?_)
  refine XL.cons (XOp.alloc [(.slice none 0 0), (.slice none 0 0), .int .i64 (0)] Try.zeroValue222 rfl ?_)
  intro b2
  refine XL.cons (XOp.storeN (vs := [arv, tv, .int .i64 (((p : Nat) : Int))]) [] _ [arv, tv, .int .i64 (((p : Nat) : Int))] Try.sizeOf222 rfl rfl rfl (ones_cons (one_sl (IntsF.isSl har)) (ones_cons (one_sl (IntsF.isSl ht)) (ones_cons rfl ones_nil))) rfl rfl rfl ?_)
  refine XL.nil ?_
  refine X.seq ?_
  refine X.seq ?_
  refine X.region ?_
  refine XL.cons (XOp.call (args := [ptr b2 0]) Try.call181 rfl (skip_spec (p0 := p) har ht (by omega) hs (by omega)) ?_)
  rintro _ _ _ _ ⟨rfl, q1, rfl, hq1, rfl⟩
  refine XL.cons (XOp.notB (b := (endGo ar (t.drop p) 1).isSome) rfl ?_)
  refine XL.nil ?_
  refine X.cond (t := !((endGo ar (t.drop p) 1).isSome)) rfl (fun h1 => ?_) (fun h1 => ?_)
  · refine X.seq ?_
    refine X.region ?_
    refine XL.cons (XOp.assign (.int .i64 (-1)) rfl ?_)
    refine XL.nil ?_
    refine X.ret (thenQ_ret (retEnd (L' := L) [.int .i64 (-1)] (.int .i64 (-1)) (.tmp rfl .nil) rfl (FLe.refl _) (FLe.refl _) (Sub.drop (Sub.drop (Sub.refl _))) ?_))
    exact ⟨(congrArg (Value.int .i64) (endZ_none (by rw [Bool.eq_false_iff] at *; simpa using h1))), rfl, rfl⟩
  · refine X.skip ?_
    refine X.seq ?_
    refine X.region ?_
    refine XL.cons (XOp.fieldP (b := b2) (2) Try.runUnderlying222 rfl Try.sizeOf3 (by decide) rfl rfl ?_)
    refine XL.cons (XOp.load1 (v := .int .i64 (((q1 : Nat) : Int))) Try.isAgg3 rfl (Rd.own [] rfl rfl) ?_)
    refine XL.cons (XOp.assign (.int .i64 (((q1 : Nat) : Int))) rfl ?_)
    refine XL.nil ?_
    refine X.ret (retEnd (L' := L) [.int .i64 (((q1 : Nat) : Int))] (.int .i64 (((q1 : Nat) : Int))) (.tmp rfl .nil) rfl (FLe.refl _) (FLe.refl _) (Sub.drop (Sub.drop (Sub.refl _))) ?_)
    exact ⟨(congrArg (Value.int .i64) (endZ_some hq1 (by simpa using h1))), rfl, rfl⟩
end Go.Proofs.Ytnloeeaidknblaa
