/-
  Walks, one after the other (part 1).
-/
import Derived.Test.YtmaaifhmhclhdaaGreatQGL1
import Derived.Test.YtmaaifhmhclhdaaGreatProg
import Derived.KernelRfl
set_option linter.unusedSimpArgs false
set_option linter.unusedVariables false
namespace Go.Proofs.YtmaaifhmhclhdaaGreat
open Go X M Tryz

theorem mixed : prog.follows .mixedOrders = true := by kernel_rfl

/- impl.arityAt -/
theorem arityAt_spec {F : FH} {L : List HP} {arv : Value} {ar : List Int} (har : IntsF F arv ar) {n : Int} (hn : n < (ar.length : Int)) :
    Does prog 210 [.agg #[arv], .int .i64 (n)] F (L) (fun v F' L' => (.int .i64 (arity ar n) : Value) = v ∧ F = F' ∧ L = L') := by
 refine Does.of_X func210 rfl rfl rfl ?_
 refine X.seq (X.region ?_)
 refine cX (XOp.box [arv] rfl rfl ?_)
 intro b1
 refine XL.as (.int .i64 (0)) rfl ?_
 refine XL.nil (X.seq (X.seq (X.region ?_)))
 refine XL.mv (.int .i64 (n)) rfl ?_
 refine cX (XOp.lss (a := n) (b := 0) rfl rfl ?_)
 refine XL.nil ?_
 refine X.condD (p := (n : Int) < 0) rfl (fun h1 => ?_) (fun h1 => ?_)
 ·refine X.seq (X.region ?_)
  refine XL.as (.int .i64 (0)) rfl ?_
  refine XL.nil ?_
  refine X.ret (thenQ_ret (retEnd (L' := L) [.int .i64 (0)] (.int .i64 (0)) (.tmp rfl .nil) rfl rF rF (sD sR) ?_))
  exact ⟨(vI (by simp [arity, *])), rfl, rfl⟩
 refine X.skip (X.seq (X.region ?_))
 refine cX (XOp.fieldP (b := b1) (0) runUnderlying26 rfl sizeOf24 (by decide) rfl rfl ?_)
 refine cX (XOp.load1 (v := arv) isAgg24 rfl (Rd.own [] rfl rfl) ?_)
 refine XL.mv (.int .i64 (n)) rfl ?_
 refine cX (XOp.indexS (v := arv) (i := n) (n := (ar).length) ((n).toNat) runUnderlying24 sizeOf2 rfl rfl (by omega) har.slv (by omega) (Nat.mul_one _) ?_)
 refine cX (XOp.load1 (v := .int .i64 (ar.getD ((n).toNat) 0)) isAgg2 rfl (har.rd (by omega)) ?_)
 refine XL.as (.int .i64 (ar.getD ((n).toNat) 0)) rfl ?_
 refine XL.nil ?_
 refine X.ret (retEnd (L' := L) [.int .i64 (ar.getD ((n).toNat) 0)] (.int .i64 (ar.getD ((n).toNat) 0)) (.tmp rfl .nil) rfl rF rF (sD sR) ?_)
 exact ⟨(vI (by simp [arity, *])), rfl, rfl⟩

/- impl.SigOk -/
theorem SigOk_spec {F : FH} {L : List HP} {arv : Value} {ar : List Int} (har : IntsF F arv ar) :
    Does prog 114 [.agg #[arv]] F (L) (fun v F' L' => (.bool (sigOk ar) : Value) = v ∧ F = F' ∧ L = L') := by
 refine Does.of_X func114 rfl rfl rfl ?_
 refine X.seq (X.region ?_)
 refine cX (XOp.box [arv] rfl rfl ?_)
 intro b1
 refine XL.as (.bool (false)) rfl ?_
 refine XL.nil (X.seq (X.seq (X.region ?_)))
 refine cX (XOp.fieldP (b := b1) (0) runUnderlying26 rfl sizeOf24 (by decide) rfl rfl ?_)
 refine cX (XOp.load1 (v := arv) isAgg24 rfl (Rd.own [] rfl rfl) ?_)
 refine cX (XOp.lenS (v := arv) (n := (ar).length) runUnderlying24 rfl har.slv ?_)
 refine cX (XOp.lss (a := (ar.length : Int)) (b := 1) rfl rfl ?_)
 refine XL.mv (.bool (decide (((ar.length : Int) : Int) < 1))) rfl ?_
 by_cases h1 : ((ar.length : Int) : Int) < 1
 ·refine XL.no (t := 9) rfl (vT h1) ?_
  refine XL.no (t := 9) rfl (vT h1) ?_
  refine XL.no (t := 9) rfl (vT h1) ?_
  refine XL.no (t := 9) rfl (vT h1) ?_
  refine cX (XOp.pickT (.bool (true)) (vT h1) rfl ?_)
  refine XL.nil ?_
  refine X.condT rfl ?_
  refine X.seq (X.region ?_)
  refine XL.as (.bool (false)) rfl ?_
  refine XL.nil ?_
  refine X.ret (thenQ_ret (retEnd (L' := L) [.bool (false)] (.bool (false)) (.tmp rfl .nil) rfl rF rF (sD sR) ?_))
  exact ⟨(vB (sigOk_short (by omega))), rfl, rfl⟩
 refine XL.yes (t := 9) rfl (vF h1) (XOp.fieldP (b := b1) (0) runUnderlying26 rfl sizeOf24 (by decide) rfl rfl ?_)
 refine XL.yes (t := 9) rfl (vF h1) (XOp.load1 (v := arv) isAgg24 rfl (Rd.own [] rfl rfl) ?_)
 refine XL.yes (t := 9) rfl (vF h1) (XOp.lenS (v := arv) (n := (ar).length) runUnderlying24 rfl har.slv ?_)
 refine XL.yes (t := 9) rfl (vF h1) (XOp.gtr (a := (ar.length : Int)) (b := 8) rfl rfl ?_)
 refine cX (XOp.pickF (.bool (decide (((ar.length : Int) : Int) > 8))) (vF h1) rfl ?_)
 refine XL.nil ?_
 refine X.condD (p := ((ar.length : Int) : Int) > 8) rfl (fun h2 => ?_) (fun h2 => ?_)
 ·refine X.seq (X.region ?_)
  refine XL.as (.bool (false)) rfl ?_
  refine XL.nil ?_
  refine X.ret (thenQ_ret (retEnd (L' := L) [.bool (false)] (.bool (false)) (.tmp rfl .nil) rfl rF rF (sD sR) ?_))
  exact ⟨(vB (sigOk_short (by omega))), rfl, rfl⟩
 refine X.skip (X.seq (X.seq (X.region ?_)))
 refine cX (XOp.fieldP (b := b1) (0) runUnderlying26 rfl sizeOf24 (by decide) rfl rfl ?_)
 refine cX (XOp.load1 (v := arv) isAgg24 rfl (Rd.own [] rfl rfl) ?_)
 refine cX (XOp.lenS (v := arv) (n := (ar).length) runUnderlying24 rfl har.slv ?_)
 refine XL.mv (.int .i64 (0)) rfl ?_
 refine XL.nil (X.block ?_)
 refine X.loop (α := Nat) (fun k => [(16, arv), (17, .int .i64 ((ar.length : Int))), (18, .int .i64 ((k : Int)))]) (fun k => cellsH b1 [arv] 26 :: L) (fun k F' => F = F' ∧ (k ≤ ar.length) ∧ (∀ i, i < k → 0 ≤ ar.getD i 0 ∧ ar.getD i 0 ≤ 3)) (fun k => ar.length - k) 0 ⟨rfl, rfl, rfl, trivial⟩ (sC sR) ⟨rfl, (by omega), (fun i hi => absurd hi (by omega))⟩ ?_
 rintro k rE _ _ ⟨rfl, hk, hall⟩
 show X _ _ _ _ (envs [(16, arv), (17, .int .i64 ((ar.length : Int))), (18, .int .i64 ((k : Int)))] rE) _ (cellsH b1 [arv] 26 :: L)
 refine X.seq (X.region ?_)
 refine cX (XOp.lss (a := (k : Int)) (b := (ar.length : Int)) rfl rfl ?_)
 refine XL.nil (X.seq ?_)
 refine X.condD (p := (k : Int) < (ar.length : Int)) rfl (fun h3 => ?_) (fun h3 => ?_)
 ·refine X.skip (X.seq (X.block (X.seq (X.region ?_))))
  refine cX (XOp.indexS (v := arv) (i := (k : Int)) (n := (ar).length) k runUnderlying24 sizeOf2 rfl rfl rfl har.slv (by omega) (Nat.mul_one _) ?_)
  refine cX (XOp.load1 (v := .int .i64 (ar.getD k 0)) isAgg2 rfl (har.rd (by omega)) ?_)
  refine XL.as (.int .i64 (ar.getD k 0)) rfl ?_
  refine XL.nil (X.seq (X.region ?_))
  refine XL.mv (.int .i64 (ar.getD k 0)) rfl ?_
  refine cX (XOp.lss (a := ar.getD k 0) (b := 0) rfl rfl ?_)
  refine XL.mv (.bool (decide ((ar.getD k 0 : Int) < 0))) rfl ?_
  by_cases h4 : (ar.getD k 0 : Int) < 0
  ·refine XL.no (t := 24) rfl (vT h4) ?_
   refine XL.no (t := 24) rfl (vT h4) ?_
   refine cX (XOp.pickT (.bool (true)) (vT h4) rfl ?_)
   refine XL.nil ?_
   refine X.condT rfl ?_
   refine X.seq (X.region ?_)
   refine XL.as (.bool (false)) rfl ?_
   refine XL.nil ?_
   refine X.ret (blockQ_ret (thenQ_ret (thenQ_ret (blockQ_ret (thenQ_ret (retEnd (L' := L) [.bool (false)] (.bool (false)) (.tmp rfl .nil) rfl rF rF (sD sR) ?_))))))
   exact ⟨(vB (sigOk_bad (i := k) (by omega) (by omega))), rfl, rfl⟩
  refine XL.yes (t := 24) rfl (vF h4) (XOp.move (.int .i64 (ar.getD k 0)) rfl ?_)
  refine XL.yes (t := 24) rfl (vF h4) (XOp.gtr (a := ar.getD k 0) (b := 3) rfl rfl ?_)
  refine cX (XOp.pickF (.bool (decide ((ar.getD k 0 : Int) > 3))) (vF h4) rfl ?_)
  refine XL.nil ?_
  refine X.condD (p := (ar.getD k 0 : Int) > 3) rfl (fun h5 => ?_) (fun h5 => ?_)
  ·refine X.seq (X.region ?_)
   refine XL.as (.bool (false)) rfl ?_
   refine XL.nil ?_
   refine X.ret (blockQ_ret (thenQ_ret (thenQ_ret (blockQ_ret (thenQ_ret (retEnd (L' := L) [.bool (false)] (.bool (false)) (.tmp rfl .nil) rfl rF rF (sD sR) ?_))))))
   exact ⟨(vB (sigOk_bad (i := k) (by omega) (by omega))), rfl, rfl⟩
  refine X.skip (X.region ?_)
  refine cX (XOp.addR (a := (k : Int)) (b := 1) (((k + 1 : Nat) : Int)) rfl rfl (by omega) (by omega) ?_)
  refine XL.mv (.int .i64 (((k + 1 : Nat) : Int))) rfl ?_
  refine XL.nil ?_
  exact ⟨k + 1, _, FLe.refl _, rF, ⟨rfl, rfl, rfl, trivial⟩, (sC sR), ⟨rfl, (by omega), (fun i hi => (Nat.lt_or_ge i k).elim (fun h => hall i h) (fun h => by obtain rfl : i = k := (by omega); omega))⟩, (by omega)⟩
 refine X.exit (thenQ_exit (thenQ_exit (blockQ_exit ?_)))
 refine X.seq (X.region ?_)
 refine XL.as (.bool (true)) rfl ?_
 refine XL.nil ?_
 refine X.ret (retEnd (L' := L) [.bool (true)] (.bool (true)) (.tmp rfl .nil) rfl rF rF (sD sR) ?_)
 exact ⟨(vB (sigOk_of (by omega) (by omega) (fun i hi => hall i (by omega)))), rfl, rfl⟩

/- (*impl.cursor).next -/
theorem next_spec {F : FH} {L : List HP} {c p : Nat} {arv : Value} {ar : List Int} (har : IntsF F arv ar) {tv : Value} {t : List Int} (ht : IntsF F tv t) (hb : t.length ≤ 4000000) :
    Does prog 200 [ptr c 0] F (cellsH c [arv, tv, .int .i64 ((p : Int))] 197 :: L) (fun v F' L' => F = F' ∧ ((p < t.length ∧ t.getD p 0 < (ar.length : Int) ∧ (.int .i64 (arity ar (t.getD p 0)) : Value) = v ∧ cellsH c [arv, tv, .int .i64 ((p + 1 : Nat) : Int)] 197 :: L = L') ∨ (¬ (p < t.length ∧ t.getD p 0 < (ar.length : Int)) ∧ (.int .i64 (-1) : Value) = v ∧ cellsH c [arv, tv, .int .i64 (p : Int)] 197 :: L = L'))) := by
 refine Does.of_X func200 rfl rfl rfl ?_
 refine X.seq (X.region ?_)
 refine XL.as (.int .i64 (0)) rfl ?_
 refine XL.nil (X.seq (X.seq ?_))
 by_cases h1 : (p : Int) ≥ (t.length : Int)
 ·refine X.draw [cellsH c [arv, tv, .int .i64 ((p : Int))] 197] L 27 [[], [], [], [], [], [], [], [], [], [], [], [], [], [], [], [], [], [], [], [], [], [], [], [], [], [], []] [[], [0], [1], [2], [], [4], [5], [6], [7], [3, 8], [9], [10], [10, 11], [10, 12], [10, 13], [10], [10, 15], [10, 16], [10, 17], [10, 14, 18], [10, 19], [10], [10, 21], [10, 22], [10, 23], [10, 24], [10, 25]] (phiL [fun us v => v = ptr c 0, fun us v => v = ptr c 0, fun us v => v = ptr c 2, fun us v => v = (.int .i64 ((p : Int)) : Value), fun us v => v = ptr c 0, fun us v => v = ptr c 0, fun us v => v = ptr c 1, fun us v => v = tv, fun us v => v = (.int .i64 ((t.length : Int)) : Value), fun us v => v = (.bool (decide ((p : Int) ≥ (t.length : Int))) : Value), fun us v => v = (.bool (decide ((p : Int) ≥ (t.length : Int))) : Value), fun us v => v = undef, fun us v => v = undef, fun us v => v = undef, fun us v => v = undef, fun us v => v = undef, fun us v => v = undef, fun us v => v = undef, fun us v => v = undef, fun us v => v = undef, fun us v => v = undef, fun us v => v = undef, fun us v => v = undef, fun us v => v = undef, fun us v => v = undef, fun us v => v = undef, fun us v => v = undef]) (ownL [fun us v => [], fun us v => [], fun us v => [], fun us v => [], fun us v => [], fun us v => [], fun us v => [], fun us v => [], fun us v => [], fun us v => [], fun us v => [], fun us v => [], fun us v => [], fun us v => [], fun us v => [], fun us v => [], fun us v => [], fun us v => [], fun us v => [], fun us v => [], fun us v => [], fun us v => [], fun us v => [], fun us v => [], fun us v => [], fun us v => [], fun us v => []]) mixed rfl rfl (by kernel_rfl) ?_ ?_
  ·refine pC (fun vals R hpZ => ?_) ?_
   ·refine XG.op (XOp.move (ptr c 0) rfl ?_)
    exact ⟨rfl, rfl, rfl⟩
   refine pC (fun vals R hpZ => ?_) ?_
   ·rw [eS (l := [(0, ptr c 0)]) ⟨hpZ 0 (by decide), trivial⟩]
    refine XG.op (XOp.nilCheck (a := ⟨c, 0, none⟩) rfl ?_)
    exact ⟨rfl, rfl, rfl⟩
   refine pC (fun vals R hpZ => ?_) ?_
   ·rw [eS (l := [(1, ptr c 0)]) ⟨hpZ 1 (by decide), trivial⟩]
    refine XG.op (XOp.fieldP (b := c) (2) runUnderlying197 rfl sizeOf3 (by decide) rfl rfl ?_)
    exact ⟨rfl, rfl, rfl⟩
   refine pC (fun vals R hpZ => ?_) ?_
   ·rw [eS (l := [(2, ptr c 2)]) ⟨hpZ 2 (by decide), trivial⟩]
    refine XG.op (XOp.load1 (v := .int .i64 ((p : Int))) isAgg3 rfl (Rd.own [] rfl rfl) ?_)
    exact ⟨rfl, rfl, rfl⟩
   refine pC (fun vals R hpZ => ?_) ?_
   ·refine XG.op (XOp.move (ptr c 0) rfl ?_)
    exact ⟨rfl, rfl, rfl⟩
   refine pC (fun vals R hpZ => ?_) ?_
   ·rw [eS (l := [(4, ptr c 0)]) ⟨hpZ 4 (by decide), trivial⟩]
    refine XG.op (XOp.nilCheck (a := ⟨c, 0, none⟩) rfl ?_)
    exact ⟨rfl, rfl, rfl⟩
   refine pC (fun vals R hpZ => ?_) ?_
   ·rw [eS (l := [(5, ptr c 0)]) ⟨hpZ 5 (by decide), trivial⟩]
    refine XG.op (XOp.fieldP (b := c) (1) runUnderlying197 rfl sizeOf24 (by decide) rfl rfl ?_)
    exact ⟨rfl, rfl, rfl⟩
   refine pC (fun vals R hpZ => ?_) ?_
   ·rw [eS (l := [(6, ptr c 1)]) ⟨hpZ 6 (by decide), trivial⟩]
    refine XG.op (XOp.load1 (v := tv) isAgg24 rfl (Rd.own [] rfl rfl) ?_)
    exact ⟨rfl, rfl, rfl⟩
   refine pC (fun vals R hpZ => ?_) ?_
   ·rw [eS (l := [(7, tv)]) ⟨hpZ 7 (by decide), trivial⟩]
    refine XG.op (XOp.lenS (v := tv) (n := (t).length) runUnderlying24 rfl ht.slv ?_)
    exact ⟨rfl, rfl, rfl⟩
   refine pC (fun vals R hpZ => ?_) ?_
   ·rw [eS (l := [(3, (.int .i64 ((p : Int)) : Value)), (8, (.int .i64 ((t.length : Int)) : Value))]) ⟨hpZ 3 (by decide), hpZ 8 (by decide), trivial⟩]
    refine XG.op (XOp.geq (a := (p : Int)) (b := (t.length : Int)) rfl rfl ?_)
    exact ⟨rfl, rfl, rfl⟩
   refine pC (fun vals R hpZ => ?_) ?_
   ·rw [eS (l := [(9, (.bool (decide ((p : Int) ≥ (t.length : Int))) : Value))]) ⟨hpZ 9 (by decide), trivial⟩]
    refine XG.op (XOp.move (.bool (decide ((p : Int) ≥ (t.length : Int)))) rfl ?_)
    exact ⟨rfl, rfl, rfl⟩
   refine pC (fun vals R hpZ => ?_) ?_
   ·rw [eS (l := [(10, (.bool (decide ((p : Int) ≥ (t.length : Int))) : Value))]) ⟨hpZ 10 (by decide), trivial⟩]
    exact XG.no (t := 13) rfl (vT h1) ⟨rfl, rfl, rfl⟩
   refine pC (fun vals R hpZ => ?_) ?_
   ·rw [eS (l := [(10, (.bool (decide ((p : Int) ≥ (t.length : Int))) : Value)), (11, undef)]) ⟨hpZ 10 (by decide), hpZ 11 (by decide), trivial⟩]
    exact XG.no (t := 13) rfl (vT h1) ⟨rfl, rfl, rfl⟩
   refine pC (fun vals R hpZ => ?_) ?_
   ·rw [eS (l := [(10, (.bool (decide ((p : Int) ≥ (t.length : Int))) : Value)), (12, undef)]) ⟨hpZ 10 (by decide), hpZ 12 (by decide), trivial⟩]
    exact XG.no (t := 13) rfl (vT h1) ⟨rfl, rfl, rfl⟩
   refine pC (fun vals R hpZ => ?_) ?_
   ·rw [eS (l := [(10, (.bool (decide ((p : Int) ≥ (t.length : Int))) : Value)), (13, undef)]) ⟨hpZ 10 (by decide), hpZ 13 (by decide), trivial⟩]
    exact XG.no (t := 13) rfl (vT h1) ⟨rfl, rfl, rfl⟩
   refine pC (fun vals R hpZ => ?_) ?_
   ·rw [eS (l := [(10, (.bool (decide ((p : Int) ≥ (t.length : Int))) : Value))]) ⟨hpZ 10 (by decide), trivial⟩]
    exact XG.no (t := 13) rfl (vT h1) ⟨rfl, rfl, rfl⟩
   refine pC (fun vals R hpZ => ?_) ?_
   ·rw [eS (l := [(10, (.bool (decide ((p : Int) ≥ (t.length : Int))) : Value)), (15, undef)]) ⟨hpZ 10 (by decide), hpZ 15 (by decide), trivial⟩]
    exact XG.no (t := 13) rfl (vT h1) ⟨rfl, rfl, rfl⟩
   refine pC (fun vals R hpZ => ?_) ?_
   ·rw [eS (l := [(10, (.bool (decide ((p : Int) ≥ (t.length : Int))) : Value)), (16, undef)]) ⟨hpZ 10 (by decide), hpZ 16 (by decide), trivial⟩]
    exact XG.no (t := 13) rfl (vT h1) ⟨rfl, rfl, rfl⟩
   refine pC (fun vals R hpZ => ?_) ?_
   ·rw [eS (l := [(10, (.bool (decide ((p : Int) ≥ (t.length : Int))) : Value)), (17, undef)]) ⟨hpZ 10 (by decide), hpZ 17 (by decide), trivial⟩]
    exact XG.no (t := 13) rfl (vT h1) ⟨rfl, rfl, rfl⟩
   refine pC (fun vals R hpZ => ?_) ?_
   ·rw [eS (l := [(10, (.bool (decide ((p : Int) ≥ (t.length : Int))) : Value)), (14, undef), (18, undef)]) ⟨hpZ 10 (by decide), hpZ 14 (by decide), hpZ 18 (by decide), trivial⟩]
    exact XG.no (t := 13) rfl (vT h1) ⟨rfl, rfl, rfl⟩
   refine pC (fun vals R hpZ => ?_) ?_
   ·rw [eS (l := [(10, (.bool (decide ((p : Int) ≥ (t.length : Int))) : Value)), (19, undef)]) ⟨hpZ 10 (by decide), hpZ 19 (by decide), trivial⟩]
    exact XG.no (t := 13) rfl (vT h1) ⟨rfl, rfl, rfl⟩
   refine pC (fun vals R hpZ => ?_) ?_
   ·rw [eS (l := [(10, (.bool (decide ((p : Int) ≥ (t.length : Int))) : Value))]) ⟨hpZ 10 (by decide), trivial⟩]
    exact XG.no (t := 13) rfl (vT h1) ⟨rfl, rfl, rfl⟩
   refine pC (fun vals R hpZ => ?_) ?_
   ·rw [eS (l := [(10, (.bool (decide ((p : Int) ≥ (t.length : Int))) : Value)), (21, undef)]) ⟨hpZ 10 (by decide), hpZ 21 (by decide), trivial⟩]
    exact XG.no (t := 13) rfl (vT h1) ⟨rfl, rfl, rfl⟩
   refine pC (fun vals R hpZ => ?_) ?_
   ·rw [eS (l := [(10, (.bool (decide ((p : Int) ≥ (t.length : Int))) : Value)), (22, undef)]) ⟨hpZ 10 (by decide), hpZ 22 (by decide), trivial⟩]
    exact XG.no (t := 13) rfl (vT h1) ⟨rfl, rfl, rfl⟩
   refine pC (fun vals R hpZ => ?_) ?_
   ·rw [eS (l := [(10, (.bool (decide ((p : Int) ≥ (t.length : Int))) : Value)), (23, undef)]) ⟨hpZ 10 (by decide), hpZ 23 (by decide), trivial⟩]
    exact XG.no (t := 13) rfl (vT h1) ⟨rfl, rfl, rfl⟩
   refine pC (fun vals R hpZ => ?_) ?_
   ·rw [eS (l := [(10, (.bool (decide ((p : Int) ≥ (t.length : Int))) : Value)), (24, undef)]) ⟨hpZ 10 (by decide), hpZ 24 (by decide), trivial⟩]
    exact XG.no (t := 13) rfl (vT h1) ⟨rfl, rfl, rfl⟩
   refine pC (fun vals R hpZ => ?_) ?_
   ·rw [eS (l := [(10, (.bool (decide ((p : Int) ≥ (t.length : Int))) : Value)), (25, undef)]) ⟨hpZ 10 (by decide), hpZ 25 (by decide), trivial⟩]
    exact XG.no (t := 13) rfl (vT h1) ⟨rfl, rfl, rfl⟩
   exact stepsP.nil
  intro vals hphi
  rw [eS (l := [(10, (.bool (decide ((p : Int) ≥ (t.length : Int))) : Value)), (20, undef), (26, undef)]) ⟨(hphi 10 (by decide)), (hphi 20 (by decide)), (hphi 26 (by decide)), trivial⟩]
  show XL _ _ _ _ _ _ _ (cellsH c [arv, tv, .int .i64 ((p : Int))] 197 :: L)
  refine XL.no (t := 13) rfl (vT h1) ?_
  refine cX (XOp.pickT (.bool (true)) (vT h1) rfl ?_)
  refine XL.nil ?_
  refine X.condT rfl ?_
  refine X.seq (X.region ?_)
  refine XL.as (.int .i64 (-1)) rfl ?_
  refine XL.nil ?_
  refine X.ret (thenQ_ret (retEnd (L' := cellsH c [arv, tv, .int .i64 ((p : Int))] 197 :: L) [.int .i64 (-1)] (.int .i64 (-1)) (.tmp rfl .nil) rfl rF rF (sC sR) ?_))
  exact ⟨rfl, .inr ⟨by omega, rfl, rfl⟩⟩
 refine X.draw [cellsH c [arv, tv, .int .i64 ((p : Int))] 197] L 27 [[], [], [], [], [], [], [], [], [], [], [], [], [], [], [], [], [], [], [], [], [], [], [], [], [], [], []] [[], [0], [1], [2], [], [4], [5], [6], [7], [3, 8], [9], [10], [10, 11], [10, 12], [10, 13], [10], [10, 15], [10, 16], [10, 17], [10, 14, 18], [10, 19], [10], [10, 21], [10, 22], [10, 23], [10, 24], [10, 25]] (phiL [fun us v => v = ptr c 0, fun us v => v = ptr c 0, fun us v => v = ptr c 2, fun us v => v = (.int .i64 ((p : Int)) : Value), fun us v => v = ptr c 0, fun us v => v = ptr c 0, fun us v => v = ptr c 1, fun us v => v = tv, fun us v => v = (.int .i64 ((t.length : Int)) : Value), fun us v => v = (.bool (decide ((p : Int) ≥ (t.length : Int))) : Value), fun us v => v = (.bool (decide ((p : Int) ≥ (t.length : Int))) : Value), fun us v => v = ptr c 0, fun us v => v = ptr c 0, fun us v => v = ptr c 1, fun us v => v = tv, fun us v => v = ptr c 0, fun us v => v = ptr c 0, fun us v => v = ptr c 2, fun us v => v = (.int .i64 ((p : Int)) : Value), fun us v => v = (.pointer (some (elemA tv (p))) : Value), fun us v => v = (.int .i64 (t.getD p 0) : Value), fun us v => v = ptr c 0, fun us v => v = ptr c 0, fun us v => v = ptr c 0, fun us v => v = ptr c 0, fun us v => v = arv, fun us v => v = (.int .i64 ((ar.length : Int)) : Value)]) (ownL [fun us v => [], fun us v => [], fun us v => [], fun us v => [], fun us v => [], fun us v => [], fun us v => [], fun us v => [], fun us v => [], fun us v => [], fun us v => [], fun us v => [], fun us v => [], fun us v => [], fun us v => [], fun us v => [], fun us v => [], fun us v => [], fun us v => [], fun us v => [], fun us v => [], fun us v => [], fun us v => [], fun us v => [], fun us v => [], fun us v => [], fun us v => []]) mixed rfl rfl (by kernel_rfl) ?_ ?_
 ·refine pC (fun vals R hpZ => ?_) ?_
  ·refine XG.op (XOp.move (ptr c 0) rfl ?_)
   exact ⟨rfl, rfl, rfl⟩
  refine pC (fun vals R hpZ => ?_) ?_
  ·rw [eS (l := [(0, ptr c 0)]) ⟨hpZ 0 (by decide), trivial⟩]
   refine XG.op (XOp.nilCheck (a := ⟨c, 0, none⟩) rfl ?_)
   exact ⟨rfl, rfl, rfl⟩
  refine pC (fun vals R hpZ => ?_) ?_
  ·rw [eS (l := [(1, ptr c 0)]) ⟨hpZ 1 (by decide), trivial⟩]
   refine XG.op (XOp.fieldP (b := c) (2) runUnderlying197 rfl sizeOf3 (by decide) rfl rfl ?_)
   exact ⟨rfl, rfl, rfl⟩
  refine pC (fun vals R hpZ => ?_) ?_
  ·rw [eS (l := [(2, ptr c 2)]) ⟨hpZ 2 (by decide), trivial⟩]
   refine XG.op (XOp.load1 (v := .int .i64 ((p : Int))) isAgg3 rfl (Rd.own [] rfl rfl) ?_)
   exact ⟨rfl, rfl, rfl⟩
  refine pC (fun vals R hpZ => ?_) ?_
  ·refine XG.op (XOp.move (ptr c 0) rfl ?_)
   exact ⟨rfl, rfl, rfl⟩
  refine pC (fun vals R hpZ => ?_) ?_
  ·rw [eS (l := [(4, ptr c 0)]) ⟨hpZ 4 (by decide), trivial⟩]
   refine XG.op (XOp.nilCheck (a := ⟨c, 0, none⟩) rfl ?_)
   exact ⟨rfl, rfl, rfl⟩
  refine pC (fun vals R hpZ => ?_) ?_
  ·rw [eS (l := [(5, ptr c 0)]) ⟨hpZ 5 (by decide), trivial⟩]
   refine XG.op (XOp.fieldP (b := c) (1) runUnderlying197 rfl sizeOf24 (by decide) rfl rfl ?_)
   exact ⟨rfl, rfl, rfl⟩
  refine pC (fun vals R hpZ => ?_) ?_
  ·rw [eS (l := [(6, ptr c 1)]) ⟨hpZ 6 (by decide), trivial⟩]
   refine XG.op (XOp.load1 (v := tv) isAgg24 rfl (Rd.own [] rfl rfl) ?_)
   exact ⟨rfl, rfl, rfl⟩
  refine pC (fun vals R hpZ => ?_) ?_
  ·rw [eS (l := [(7, tv)]) ⟨hpZ 7 (by decide), trivial⟩]
   refine XG.op (XOp.lenS (v := tv) (n := (t).length) runUnderlying24 rfl ht.slv ?_)
   exact ⟨rfl, rfl, rfl⟩
  refine pC (fun vals R hpZ => ?_) ?_
  ·rw [eS (l := [(3, (.int .i64 ((p : Int)) : Value)), (8, (.int .i64 ((t.length : Int)) : Value))]) ⟨hpZ 3 (by decide), hpZ 8 (by decide), trivial⟩]
   refine XG.op (XOp.geq (a := (p : Int)) (b := (t.length : Int)) rfl rfl ?_)
   exact ⟨rfl, rfl, rfl⟩
  refine pC (fun vals R hpZ => ?_) ?_
  ·rw [eS (l := [(9, (.bool (decide ((p : Int) ≥ (t.length : Int))) : Value))]) ⟨hpZ 9 (by decide), trivial⟩]
   refine XG.op (XOp.move (.bool (decide ((p : Int) ≥ (t.length : Int)))) rfl ?_)
   exact ⟨rfl, rfl, rfl⟩
  refine pC (fun vals R hpZ => ?_) ?_
  ·rw [eS (l := [(10, (.bool (decide ((p : Int) ≥ (t.length : Int))) : Value))]) ⟨hpZ 10 (by decide), trivial⟩]
   refine XG.yes (t := 13) rfl (vF h1) (XOp.move (ptr c 0) rfl ?_)
   exact ⟨rfl, rfl, rfl⟩
  refine pC (fun vals R hpZ => ?_) ?_
  ·rw [eS (l := [(10, (.bool (decide ((p : Int) ≥ (t.length : Int))) : Value)), (11, ptr c 0)]) ⟨hpZ 10 (by decide), hpZ 11 (by decide), trivial⟩]
   refine XG.yes (t := 13) rfl (vF h1) (XOp.nilCheck (a := ⟨c, 0, none⟩) rfl ?_)
   exact ⟨rfl, rfl, rfl⟩
  refine pC (fun vals R hpZ => ?_) ?_
  ·rw [eS (l := [(10, (.bool (decide ((p : Int) ≥ (t.length : Int))) : Value)), (12, ptr c 0)]) ⟨hpZ 10 (by decide), hpZ 12 (by decide), trivial⟩]
   refine XG.yes (t := 13) rfl (vF h1) (XOp.fieldP (b := c) (1) runUnderlying197 rfl sizeOf24 (by decide) rfl rfl ?_)
   exact ⟨rfl, rfl, rfl⟩
  refine pC (fun vals R hpZ => ?_) ?_
  ·rw [eS (l := [(10, (.bool (decide ((p : Int) ≥ (t.length : Int))) : Value)), (13, ptr c 1)]) ⟨hpZ 10 (by decide), hpZ 13 (by decide), trivial⟩]
   refine XG.yes (t := 13) rfl (vF h1) (XOp.load1 (v := tv) isAgg24 rfl (Rd.own [] rfl rfl) ?_)
   exact ⟨rfl, rfl, rfl⟩
  refine pC (fun vals R hpZ => ?_) ?_
  ·rw [eS (l := [(10, (.bool (decide ((p : Int) ≥ (t.length : Int))) : Value))]) ⟨hpZ 10 (by decide), trivial⟩]
   refine XG.yes (t := 13) rfl (vF h1) (XOp.move (ptr c 0) rfl ?_)
   exact ⟨rfl, rfl, rfl⟩
  refine pC (fun vals R hpZ => ?_) ?_
  ·rw [eS (l := [(10, (.bool (decide ((p : Int) ≥ (t.length : Int))) : Value)), (15, ptr c 0)]) ⟨hpZ 10 (by decide), hpZ 15 (by decide), trivial⟩]
   refine XG.yes (t := 13) rfl (vF h1) (XOp.nilCheck (a := ⟨c, 0, none⟩) rfl ?_)
   exact ⟨rfl, rfl, rfl⟩
  refine pC (fun vals R hpZ => ?_) ?_
  ·rw [eS (l := [(10, (.bool (decide ((p : Int) ≥ (t.length : Int))) : Value)), (16, ptr c 0)]) ⟨hpZ 10 (by decide), hpZ 16 (by decide), trivial⟩]
   refine XG.yes (t := 13) rfl (vF h1) (XOp.fieldP (b := c) (2) runUnderlying197 rfl sizeOf3 (by decide) rfl rfl ?_)
   exact ⟨rfl, rfl, rfl⟩
  refine pC (fun vals R hpZ => ?_) ?_
  ·rw [eS (l := [(10, (.bool (decide ((p : Int) ≥ (t.length : Int))) : Value)), (17, ptr c 2)]) ⟨hpZ 10 (by decide), hpZ 17 (by decide), trivial⟩]
   refine XG.yes (t := 13) rfl (vF h1) (XOp.load1 (v := .int .i64 ((p : Int))) isAgg3 rfl (Rd.own [] rfl rfl) ?_)
   exact ⟨rfl, rfl, rfl⟩
  refine pC (fun vals R hpZ => ?_) ?_
  ·rw [eS (l := [(10, (.bool (decide ((p : Int) ≥ (t.length : Int))) : Value)), (14, tv), (18, (.int .i64 ((p : Int)) : Value))]) ⟨hpZ 10 (by decide), hpZ 14 (by decide), hpZ 18 (by decide), trivial⟩]
   refine XG.yes (t := 13) rfl (vF h1) (XOp.indexS (v := tv) (i := (p : Int)) (n := (t).length) p runUnderlying24 sizeOf2 rfl rfl rfl ht.slv (by omega) (Nat.mul_one _) ?_)
   exact ⟨rfl, rfl, rfl⟩
  refine pC (fun vals R hpZ => ?_) ?_
  ·rw [eS (l := [(10, (.bool (decide ((p : Int) ≥ (t.length : Int))) : Value)), (19, (.pointer (some (elemA tv (p))) : Value))]) ⟨hpZ 10 (by decide), hpZ 19 (by decide), trivial⟩]
   refine XG.yes (t := 13) rfl (vF h1) (XOp.load1 (v := .int .i64 (t.getD p 0)) isAgg2 rfl (ht.rd (by omega)) ?_)
   exact ⟨rfl, rfl, rfl⟩
  refine pC (fun vals R hpZ => ?_) ?_
  ·rw [eS (l := [(10, (.bool (decide ((p : Int) ≥ (t.length : Int))) : Value))]) ⟨hpZ 10 (by decide), trivial⟩]
   refine XG.yes (t := 13) rfl (vF h1) (XOp.move (ptr c 0) rfl ?_)
   exact ⟨rfl, rfl, rfl⟩
  refine pC (fun vals R hpZ => ?_) ?_
  ·rw [eS (l := [(10, (.bool (decide ((p : Int) ≥ (t.length : Int))) : Value)), (21, ptr c 0)]) ⟨hpZ 10 (by decide), hpZ 21 (by decide), trivial⟩]
   refine XG.yes (t := 13) rfl (vF h1) (XOp.nilCheck (a := ⟨c, 0, none⟩) rfl ?_)
   exact ⟨rfl, rfl, rfl⟩
  refine pC (fun vals R hpZ => ?_) ?_
  ·rw [eS (l := [(10, (.bool (decide ((p : Int) ≥ (t.length : Int))) : Value)), (22, ptr c 0)]) ⟨hpZ 10 (by decide), hpZ 22 (by decide), trivial⟩]
   refine XG.yes (t := 13) rfl (vF h1) (XOp.fieldP (b := c) (0) runUnderlying197 rfl sizeOf26 (by decide) rfl rfl ?_)
   exact ⟨rfl, rfl, rfl⟩
  refine pC (fun vals R hpZ => ?_) ?_
  ·rw [eS (l := [(10, (.bool (decide ((p : Int) ≥ (t.length : Int))) : Value)), (23, ptr c 0)]) ⟨hpZ 10 (by decide), hpZ 23 (by decide), trivial⟩]
   refine XG.yes (t := 13) rfl (vF h1) (XOp.fieldP (b := c) (0) runUnderlying26 rfl sizeOf24 (by decide) rfl rfl ?_)
   exact ⟨rfl, rfl, rfl⟩
  refine pC (fun vals R hpZ => ?_) ?_
  ·rw [eS (l := [(10, (.bool (decide ((p : Int) ≥ (t.length : Int))) : Value)), (24, ptr c 0)]) ⟨hpZ 10 (by decide), hpZ 24 (by decide), trivial⟩]
   refine XG.yes (t := 13) rfl (vF h1) (XOp.load1 (v := arv) isAgg24 rfl (Rd.own [] rfl rfl) ?_)
   exact ⟨rfl, rfl, rfl⟩
  refine pC (fun vals R hpZ => ?_) ?_
  ·rw [eS (l := [(10, (.bool (decide ((p : Int) ≥ (t.length : Int))) : Value)), (25, arv)]) ⟨hpZ 10 (by decide), hpZ 25 (by decide), trivial⟩]
   refine XG.yes (t := 13) rfl (vF h1) (XOp.lenS (v := arv) (n := (ar).length) runUnderlying24 rfl har.slv ?_)
   exact ⟨rfl, rfl, rfl⟩
  exact stepsP.nil
 intro vals hphi
 rw [eS (l := [(10, (.bool (decide ((p : Int) ≥ (t.length : Int))) : Value)), (20, (.int .i64 (t.getD p 0) : Value)), (26, (.int .i64 ((ar.length : Int)) : Value))]) ⟨(hphi 10 (by decide)), (hphi 20 (by decide)), (hphi 26 (by decide)), trivial⟩]
 show XL _ _ _ _ _ _ _ (cellsH c [arv, tv, .int .i64 ((p : Int))] 197 :: L)
 refine XL.yes (t := 13) rfl (vF h1) (XOp.geq (a := t.getD p 0) (b := (ar.length : Int)) rfl rfl ?_)
 refine cX (XOp.pickF (.bool (decide ((t.getD p 0 : Int) ≥ (ar.length : Int)))) (vF h1) rfl ?_)
 refine XL.nil ?_
 refine X.condD (p := (t.getD p 0 : Int) ≥ (ar.length : Int)) rfl (fun h2 => ?_) (fun h2 => ?_)
 ·refine X.seq (X.region ?_)
  refine XL.as (.int .i64 (-1)) rfl ?_
  refine XL.nil ?_
  refine X.ret (thenQ_ret (retEnd (L' := cellsH c [arv, tv, .int .i64 ((p : Int))] 197 :: L) [.int .i64 (-1)] (.int .i64 (-1)) (.tmp rfl .nil) rfl rF rF (sC sR) ?_))
  exact ⟨rfl, .inr ⟨by omega, rfl, rfl⟩⟩
 refine X.skip (X.seq (X.region ?_))
 refine XL.mv (ptr c 0) rfl ?_
 refine cX (XOp.nilCheck (a := ⟨c, 0, none⟩) rfl ?_)
 refine cX (XOp.fieldP (b := c) (2) runUnderlying197 rfl sizeOf3 (by decide) rfl rfl ?_)
 refine cX (XOp.load1 (v := .int .i64 ((p : Int))) isAgg3 rfl (Rd.own [] rfl rfl) ?_)
 refine cX (XOp.addR (a := (p : Int)) (b := 1) (((p + 1 : Nat) : Int)) rfl rfl (by omega) (by omega) ?_)
 refine cX (XOp.nilCheck (a := ⟨c, 0, none⟩) rfl ?_)
 refine cX (XOp.fieldP (b := c) (2) runUnderlying197 rfl sizeOf3 (by decide) rfl rfl ?_)
 refine cX (XOp.store1 (v := .int .i64 (((p + 1 : Nat) : Int))) [] _ [arv, tv, .int .i64 (((p + 1 : Nat) : Int))] sizeOf3 rfl rfl rfl rfl rfl rfl ?_)
 refine XL.nil (X.seq ?_)
 refine X.draw [cellsH c [arv, tv, .int .i64 (((p + 1 : Nat) : Int))] 197] L 15 [[], [], [], [], [], [], [], [], [], [], [], [], [], [], []] [[], [0], [1], [2], [], [4], [5], [6], [], [8], [9], [10], [11], [7, 12], [13]] (phiL [fun us v => v = ptr c 0, fun us v => v = ptr c 0, fun us v => v = ptr c 0, fun us v => v = (.agg #[arv] : Value), fun us v => v = ptr c 0, fun us v => v = ptr c 0, fun us v => v = ptr c 1, fun us v => v = tv, fun us v => v = ptr c 0, fun us v => v = ptr c 0, fun us v => v = ptr c 2, fun us v => v = (.int .i64 (((p + 1 : Nat) : Int)) : Value), fun us v => v = (.int .i64 ((p : Int)) : Value), fun us v => v = (.pointer (some (elemA tv (p))) : Value), fun us v => v = (.int .i64 (t.getD p 0) : Value)]) (ownL [fun us v => [], fun us v => [], fun us v => [], fun us v => [], fun us v => [], fun us v => [], fun us v => [], fun us v => [], fun us v => [], fun us v => [], fun us v => [], fun us v => [], fun us v => [], fun us v => [], fun us v => []]) mixed rfl rfl (by kernel_rfl) ?_ ?_
 ·refine pC (fun vals R hpZ => ?_) ?_
  ·refine XG.op (XOp.move (ptr c 0) rfl ?_)
   exact ⟨rfl, rfl, rfl⟩
  refine pC (fun vals R hpZ => ?_) ?_
  ·rw [eS (l := [(0, ptr c 0)]) ⟨hpZ 0 (by decide), trivial⟩]
   refine XG.op (XOp.nilCheck (a := ⟨c, 0, none⟩) rfl ?_)
   exact ⟨rfl, rfl, rfl⟩
  refine pC (fun vals R hpZ => ?_) ?_
  ·rw [eS (l := [(1, ptr c 0)]) ⟨hpZ 1 (by decide), trivial⟩]
   refine XG.op (XOp.fieldP (b := c) (0) runUnderlying197 rfl sizeOf26 (by decide) rfl rfl ?_)
   exact ⟨rfl, rfl, rfl⟩
  refine pC (fun vals R hpZ => ?_) ?_
  ·rw [eS (l := [(2, ptr c 0)]) ⟨hpZ 2 (by decide), trivial⟩]
   refine XG.op (XOp.loadN [arv] isAgg26 sizeOf26 rfl rfl (Rd.ownN [] rfl rfl) ?_)
   exact ⟨rfl, rfl, rfl⟩
  refine pC (fun vals R hpZ => ?_) ?_
  ·refine XG.op (XOp.move (ptr c 0) rfl ?_)
   exact ⟨rfl, rfl, rfl⟩
  refine pC (fun vals R hpZ => ?_) ?_
  ·rw [eS (l := [(4, ptr c 0)]) ⟨hpZ 4 (by decide), trivial⟩]
   refine XG.op (XOp.nilCheck (a := ⟨c, 0, none⟩) rfl ?_)
   exact ⟨rfl, rfl, rfl⟩
  refine pC (fun vals R hpZ => ?_) ?_
  ·rw [eS (l := [(5, ptr c 0)]) ⟨hpZ 5 (by decide), trivial⟩]
   refine XG.op (XOp.fieldP (b := c) (1) runUnderlying197 rfl sizeOf24 (by decide) rfl rfl ?_)
   exact ⟨rfl, rfl, rfl⟩
  refine pC (fun vals R hpZ => ?_) ?_
  ·rw [eS (l := [(6, ptr c 1)]) ⟨hpZ 6 (by decide), trivial⟩]
   refine XG.op (XOp.load1 (v := tv) isAgg24 rfl (Rd.own [] rfl rfl) ?_)
   exact ⟨rfl, rfl, rfl⟩
  refine pC (fun vals R hpZ => ?_) ?_
  ·refine XG.op (XOp.move (ptr c 0) rfl ?_)
   exact ⟨rfl, rfl, rfl⟩
  refine pC (fun vals R hpZ => ?_) ?_
  ·rw [eS (l := [(8, ptr c 0)]) ⟨hpZ 8 (by decide), trivial⟩]
   refine XG.op (XOp.nilCheck (a := ⟨c, 0, none⟩) rfl ?_)
   exact ⟨rfl, rfl, rfl⟩
  refine pC (fun vals R hpZ => ?_) ?_
  ·rw [eS (l := [(9, ptr c 0)]) ⟨hpZ 9 (by decide), trivial⟩]
   refine XG.op (XOp.fieldP (b := c) (2) runUnderlying197 rfl sizeOf3 (by decide) rfl rfl ?_)
   exact ⟨rfl, rfl, rfl⟩
  refine pC (fun vals R hpZ => ?_) ?_
  ·rw [eS (l := [(10, ptr c 2)]) ⟨hpZ 10 (by decide), trivial⟩]
   refine XG.op (XOp.load1 (v := .int .i64 (((p + 1 : Nat) : Int))) isAgg3 rfl (Rd.own [] rfl rfl) ?_)
   exact ⟨rfl, rfl, rfl⟩
  refine pC (fun vals R hpZ => ?_) ?_
  ·rw [eS (l := [(11, (.int .i64 (((p + 1 : Nat) : Int)) : Value))]) ⟨hpZ 11 (by decide), trivial⟩]
   refine XG.op (XOp.subR (a := ((p + 1 : Nat) : Int)) (b := 1) ((p : Int)) rfl rfl (by omega) (by omega) ?_)
   exact ⟨rfl, rfl, rfl⟩
  refine pC (fun vals R hpZ => ?_) ?_
  ·rw [eS (l := [(7, tv), (12, (.int .i64 ((p : Int)) : Value))]) ⟨hpZ 7 (by decide), hpZ 12 (by decide), trivial⟩]
   refine XG.op (XOp.indexS (v := tv) (i := (p : Int)) (n := (t).length) p runUnderlying24 sizeOf2 rfl rfl rfl ht.slv (by omega) (Nat.mul_one _) ?_)
   exact ⟨rfl, rfl, rfl⟩
  refine pC (fun vals R hpZ => ?_) ?_
  ·rw [eS (l := [(13, (.pointer (some (elemA tv (p))) : Value))]) ⟨hpZ 13 (by decide), trivial⟩]
   refine XG.op (XOp.load1 (v := .int .i64 (t.getD p 0)) isAgg2 rfl (ht.rd (by omega)) ?_)
   exact ⟨rfl, rfl, rfl⟩
  exact stepsP.nil
 intro vals hphi
 rw [eS (l := [(3, (.agg #[arv] : Value)), (14, (.int .i64 (t.getD p 0) : Value))]) ⟨(hphi 3 (by decide)), (hphi 14 (by decide)), trivial⟩]
 show XL _ _ _ _ _ _ _ (cellsH c [arv, tv, .int .i64 (((p + 1 : Nat) : Int))] 197 :: L)
 refine cX (XOp.call (args := [.agg #[arv], .int .i64 (t.getD p 0)]) call210 rfl (arityAt_spec (n := t.getD p 0) har (hn := (by first | assumption | rfl | omega | simp))) ?_)
 rintro _ _ _ _ ⟨rfl, rfl, rfl⟩
 refine XL.as (.int .i64 (arity ar (t.getD p 0))) rfl ?_
 refine XL.nil ?_
 refine X.ret (retEnd (L' := cellsH c [arv, tv, .int .i64 (((p + 1 : Nat) : Int))] 197 :: L) [.int .i64 (arity ar (t.getD p 0))] (.int .i64 (arity ar (t.getD p 0))) (.tmp rfl .nil) rfl rF rF (sC sR) ?_)
 exact ⟨rfl, .inl ⟨by omega, by omega, rfl, rfl⟩⟩

/- (*impl.cursor).skip -/
theorem skip_spec {F : FH} {L : List HP} {c p0 : Nat} {arv : Value} {ar : List Int} (har : IntsF F arv ar) {tv : Value} {t : List Int} (ht : IntsF F tv t) (hb : t.length ≤ 4000000) (hs : sigOk ar = true) (hp : p0 ≤ t.length) :
    Does prog 172 [ptr c 0] F (cellsH c [arv, tv, .int .i64 ((p0 : Int))] 197 :: L) (fun v F' L' => F = F' ∧ ∃ q : Nat, (.bool (endGo ar (t.drop p0) 1).isSome : Value) = v ∧ (∀ e, endGo ar (t.drop p0) 1 = some e → q = p0 + e) ∧ cellsH c [arv, tv, .int .i64 (q : Int)] 197 :: L = L') := by
 refine Does.of_X func172 rfl rfl rfl ?_
 refine X.seq (X.region ?_)
 refine XL.as (.bool (false)) rfl ?_
 refine XL.nil (X.seq (X.seq (X.region ?_)))
 refine XL.as (.int .i64 (1)) rfl ?_
 refine XL.nil (X.block ?_)
 refine X.loop (α := Nat × Nat) (fun xQ => [(0, ptr c 0), (3, .int .i64 (((xQ.1 : Nat) : Int)))]) (fun xQ => cellsH c [arv, tv, .int .i64 (((xQ.2 : Nat) : Int))] 197 :: L) (fun xQ F' => F = F' ∧ (endGo ar (t.drop p0) 1 = (endGo ar (t.drop xQ.2) xQ.1).map (· + (xQ.2 - p0))) ∧ (p0 ≤ xQ.2 ∧ xQ.2 ≤ t.length) ∧ (xQ.1 ≤ 1 + 3 * xQ.2)) (fun xQ => t.length - xQ.2) (1, p0) ⟨rfl, rfl, trivial⟩ (sC sR) ⟨rfl, (by simp), (by omega), (by omega)⟩ ?_
 rintro ⟨k, p⟩ rE _ _ ⟨rfl, hi, h1, h2⟩
 show X _ _ _ _ (envs [(0, ptr c 0), (3, .int .i64 ((k : Int)))] rE) _ (cellsH c [arv, tv, .int .i64 ((p : Int))] 197 :: L)
 dsimp only at hi h1 h2
 refine X.seq (X.seq (X.region ?_))
 refine XL.mv (.int .i64 ((k : Int))) rfl ?_
 refine cX (XOp.gtr (a := (k : Int)) (b := 0) rfl rfl ?_)
 refine XL.nil ?_
 refine X.condD (p := (k : Int) > 0) rfl (fun h1 => ?_) (fun h1 => ?_)
 ·refine X.skip (X.seq (X.block (X.seq (X.region ?_))))
  refine XL.mv (ptr c 0) rfl ?_
  refine cX (XOp.call (args := [ptr c 0]) call200 rfl (next_spec (p := p) har ht (by omega)) ?_)
  rintro _ _ _ _ ⟨rfl, ⟨hn1a, hn1b, rfl, rfl⟩ | ⟨hn1c, rfl, rfl⟩⟩
  ·have hA := arity_le hs hn1b
   refine XL.as (.int .i64 (arity ar ((t).getD p 0))) rfl ?_
   refine XL.nil (X.seq (X.seq (X.region ?_)))
   refine XL.mv (.int .i64 (arity ar ((t).getD p 0))) rfl ?_
   refine cX (XOp.lss (a := arity ar ((t).getD p 0)) (b := 0) rfl rfl ?_)
   refine XL.nil ?_
   refine X.condD (p := (arity ar ((t).getD p 0) : Int) < 0) rfl (fun h2 => ?_) (fun h2 => ?_)
   ·omega
   refine X.skip (X.region ?_)
   refine XL.mv (.int .i64 ((k : Int))) rfl ?_
   refine XL.mv (.int .i64 (arity ar ((t).getD p 0))) rfl ?_
   refine cX (XOp.addR (a := (k : Int)) (b := arity ar ((t).getD p 0)) (((k + (arity ar (t.getD p 0)).toNat : Nat) : Int)) rfl rfl (by omega) (by omega) ?_)
   refine XL.as (.int .i64 (((k + (arity ar (t.getD p 0)).toNat : Nat) : Int))) rfl ?_
   refine XL.nil (X.region ?_)
   refine XL.mv (.int .i64 (((k + (arity ar (t.getD p 0)).toNat : Nat) : Int))) rfl ?_
   refine cX (XOp.subR (a := ((k + (arity ar (t.getD p 0)).toNat : Nat) : Int)) (b := 1) (((k - 1 + (arity ar (t.getD p 0)).toNat : Nat) : Int)) rfl rfl (by omega) (by omega) ?_)
   refine XL.as (.int .i64 (((k - 1 + (arity ar (t.getD p 0)).toNat : Nat) : Int))) rfl ?_
   refine XL.nil ?_
   exact ⟨(k - 1 + (arity ar (t.getD p 0)).toNat, p + 1), _, FLe.refl _, rF, ⟨rfl, rfl, trivial⟩, (sC sR), ⟨rfl, (by rw [hi, endGo_step (by omega) (by omega) (by omega), Option.map_map]; congr 1; funext e; simp; omega), (by omega), (by omega)⟩, (by omega)⟩
  refine XL.as (.int .i64 (-1)) rfl ?_
  refine XL.nil (X.seq (X.seq (X.region ?_)))
  refine XL.mv (.int .i64 (-1)) rfl ?_
  refine cX (XOp.lss (a := -1) (b := 0) rfl rfl ?_)
  refine XL.nil ?_
  refine X.condT rfl ?_
  refine X.seq (X.region ?_)
  refine XL.as (.bool (false)) rfl ?_
  refine XL.nil ?_
  refine X.ret (thenQ_ret (blockQ_ret (thenQ_ret (thenQ_ret (blockQ_ret (thenQ_ret (retEnd (L' := cellsH c [arv, tv, .int .i64 ((p : Int))] 197 :: L) [.bool (false)] (.bool (false)) (.tmp rfl .nil) rfl rF rF (sC sR) ?_)))))))
  have hz : endGo ar (t.drop p0) 1 = none := by rw [hi, endGo_none (by omega) (by omega)]; rfl
  refine ⟨rfl, p, ?_, ?_, rfl⟩
  · rw [hz]; rfl
  · intro e he; rw [hz] at he; cases he
 refine X.exit (thenQ_exit (thenQ_exit (blockQ_exit ?_)))
 refine X.seq (X.region ?_)
 refine XL.as (.bool (true)) rfl ?_
 refine XL.nil ?_
 refine X.ret (retEnd (L' := cellsH c [arv, tv, .int .i64 ((p : Int))] 197 :: L) [.bool (true)] (.bool (true)) (.tmp rfl .nil) rfl rF rF (sC sR) ?_)
 obtain rfl : k = 0 := by omega
 have hz : endGo ar (t.drop p0) 1 = some (p - p0) := by rw [hi]; simp [endGo]
 refine ⟨rfl, p, ?_, ?_, rfl⟩
 · rw [hz]; rfl
 · intro e he; rw [hz] at he; cases he; omega

/- impl.endAt -/
theorem endAt_spec {F : FH} {L : List HP} {arv : Value} {ar : List Int} (har : IntsF F arv ar) {tv : Value} {t : List Int} (ht : IntsF F tv t) {p : Nat} (hs : sigOk ar = true) (hb : t.length ≤ 4000000) (hp : p ≤ t.length) :
    Does prog 118 [.agg #[arv], tv, .int .i64 ((p : Int))] F (L) (fun v F' L' => (.int .i64 (endZ ar t p) : Value) = v ∧ F = F' ∧ L = L') := by
 refine Does.of_X func118 rfl rfl rfl ?_
 refine X.seq (X.region ?_)
 refine cX (XOp.box [arv] rfl rfl ?_)
 intro b1
 refine XL.as (.int .i64 (0)) rfl ?_
 refine XL.nil (X.seq (X.region ?_))
 refine cX (XOp.loadN [arv] isAgg26 sizeOf26 rfl rfl (Rd.ownN [] rfl rfl) ?_)
 refine XL.mv (tv) rfl ?_
 refine XL.mv (.int .i64 ((p : Int))) rfl ?_
 refine cX (XOp.build [arv, tv, .int .i64 ((p : Int))] [(.slice none 0 0), (.slice none 0 0), .int .i64 (0)] [(0, 1), (1, 1), (2, 1)] [(0, [arv]), (1, [tv]), (2, [.int .i64 ((p : Int))])] runUnderlying197 zeroValue197 rfl (.cons rfl sizeOf26 (.cons rfl sizeOf24 (.cons rfl sizeOf3 PlacesAre.nil))) rfl (.cons rfl (.cons (cells_one (IntsF.isSl ht)) (.cons rfl CellsAre.nil))) ?_)
 refine cX (XOp.alloc [(.slice none 0 0), (.slice none 0 0), .int .i64 (0)] zeroValue197 rfl ?_)
 intro b2
 refine cX (XOp.storeN (vs := [arv, tv, .int .i64 ((p : Int))]) [] _ [arv, tv, .int .i64 ((p : Int))] sizeOf197 rfl rfl rfl (ones_cons (one_sl (IntsF.isSl har)) (ones_cons (one_sl (IntsF.isSl ht)) (ones_cons rfl ones_nil))) rfl rfl rfl ?_)
 refine XL.nil (X.seq (X.seq (X.region ?_)))
 refine cX (XOp.call (args := [ptr b2 0]) call172 rfl (skip_spec (p0 := p) har ht (by omega) hs (by omega)) ?_)
 rintro _ _ _ _ ⟨rfl, q1, rfl, hq1, rfl⟩
 refine cX (XOp.notB (b := (endGo ar (t.drop p) 1).isSome) rfl ?_)
 refine XL.nil ?_
 refine X.cond (t := !((endGo ar (t.drop p) 1).isSome)) rfl (fun h1 => ?_) (fun h1 => ?_)
 ·refine X.seq (X.region ?_)
  refine XL.as (.int .i64 (-1)) rfl ?_
  refine XL.nil ?_
  refine X.ret (thenQ_ret (retEnd (L' := L) [.int .i64 (-1)] (.int .i64 (-1)) (.tmp rfl .nil) rfl rF rF (sD (sD sR)) ?_))
  exact ⟨(vI (endZ_none (by rw [Bool.eq_false_iff] at *; simpa using h1))), rfl, rfl⟩
 refine X.skip (X.seq (X.region ?_))
 refine cX (XOp.fieldP (b := b2) (2) runUnderlying197 rfl sizeOf3 (by decide) rfl rfl ?_)
 refine cX (XOp.load1 (v := .int .i64 ((q1 : Int))) isAgg3 rfl (Rd.own [] rfl rfl) ?_)
 refine XL.as (.int .i64 ((q1 : Int))) rfl ?_
 refine XL.nil ?_
 refine X.ret (retEnd (L' := L) [.int .i64 ((q1 : Int))] (.int .i64 ((q1 : Int))) (.tmp rfl .nil) rfl rF rF (sD (sD sR)) ?_)
 exact ⟨(vI (endZ_some hq1 (by simpa using h1))), rfl, rfl⟩
end Go.Proofs.YtmaaifhmhclhdaaGreat
set_option linter.unusedSimpArgs false
set_option linter.unusedVariables false
namespace Go.Proofs.YtmaaifhmhclhdaaGreat
open Go X M Tryz

/- slices.Min[[]int64,int64] -/
theorem Min_spec {F : FH} {L : List HP} {xsv : Value} {xs : List Int} (hxs : IntsF F xsv xs) (h1 : 1 ≤ xs.length) (hbd : xs.length ≤ 4000000) :
    Does prog 117 [xsv] F (L) (fun v F' L' => (.int .i64 (minL xs) : Value) = v ∧ F = F' ∧ L = L') := by
 refine Does.of_X func117 rfl rfl rfl ?_
 refine X.seq (X.region ?_)
 refine XL.as (.int .i64 (0)) rfl ?_
 refine XL.nil (X.seq (X.seq (X.region ?_)))
 refine XL.mv (xsv) rfl ?_
 refine cX (XOp.lenS (v := xsv) (n := (xs).length) runUnderlying24 rfl hxs.slv ?_)
 refine cX (XOp.lss (a := (xs.length : Int)) (b := 1) rfl rfl ?_)
 refine XL.nil ?_
 refine X.condD (p := ((xs.length : Int) : Int) < 1) rfl (fun h1 => ?_) (fun h1 => ?_)
 ·omega
 refine X.skip (X.seq (X.region ?_))
 refine XL.mv (xsv) rfl ?_
 refine cX (XOp.indexS (v := xsv) (i := 0) (n := (xs).length) 0 runUnderlying24 sizeOf2 rfl rfl rfl hxs.slv (by omega) (Nat.mul_one _) ?_)
 refine cX (XOp.load1 (v := .int .i64 (xs.getD 0 0)) isAgg2 rfl (hxs.rd (by omega)) ?_)
 refine XL.as (.int .i64 (xs.getD 0 0)) rfl ?_
 refine XL.nil (X.seq (X.seq (X.region ?_)))
 refine XL.as (.int .i64 (1)) rfl ?_
 refine XL.nil (X.block ?_)
 refine X.loop (α := Nat) (fun k => [(0, xsv), (3, .int .i64 (minL (xs.take k))), (4, .int .i64 ((k : Int)))]) (fun k => L) (fun k F' => F = F' ∧ (1 ≤ k ∧ k ≤ xs.length)) (fun k => xs.length - k) 1 ⟨rfl, (vI (minL_take1 (xs := xs) (by omega)).symm), rfl, trivial⟩ sR ⟨rfl, (by omega)⟩ ?_
 rintro k rE _ _ ⟨rfl, hk⟩
 show X _ _ _ _ (envs [(0, xsv), (3, .int .i64 (minL (xs.take k))), (4, .int .i64 ((k : Int)))] rE) _ (L)
 refine X.seq (X.seq (X.region ?_))
 refine XL.mv (.int .i64 ((k : Int))) rfl ?_
 refine XL.mv (xsv) rfl ?_
 refine cX (XOp.lenS (v := xsv) (n := (xs).length) runUnderlying24 rfl hxs.slv ?_)
 refine cX (XOp.lss (a := (k : Int)) (b := (xs.length : Int)) rfl rfl ?_)
 refine XL.nil ?_
 refine X.condD (p := (k : Int) < (xs.length : Int)) rfl (fun h2 => ?_) (fun h2 => ?_)
 ·refine X.skip (X.seq (X.block (X.region ?_)))
  refine XL.mv (.int .i64 (minL (xs.take k))) rfl ?_
  refine XL.mv (xsv) rfl ?_
  refine XL.mv (.int .i64 ((k : Int))) rfl ?_
  refine cX (XOp.indexS (v := xsv) (i := (k : Int)) (n := (xs).length) k runUnderlying24 sizeOf2 rfl rfl rfl hxs.slv (by omega) (Nat.mul_one _) ?_)
  refine cX (XOp.load1 (v := .int .i64 (xs.getD k 0)) isAgg2 rfl (hxs.rd (by omega)) ?_)
  refine cX (XOp.min2R (a := minL (xs.take k)) (b := xs.getD k 0) (minL (xs.take (k + 1))) rfl rfl ((minL_step (by omega) (by omega)).symm) ?_)
  refine XL.as (.int .i64 (minL (xs.take (k + 1)))) rfl ?_
  refine XL.nil (X.region ?_)
  refine XL.mv (.int .i64 ((k : Int))) rfl ?_
  refine cX (XOp.addR (a := (k : Int)) (b := 1) (((k + 1 : Nat) : Int)) rfl rfl (by omega) (by omega) ?_)
  refine XL.as (.int .i64 (((k + 1 : Nat) : Int))) rfl ?_
  refine XL.nil ?_
  exact ⟨k + 1, _, FLe.refl _, rF, ⟨rfl, rfl, rfl, trivial⟩, sR, ⟨rfl, (by omega)⟩, (by omega)⟩
 refine X.exit (thenQ_exit (thenQ_exit (blockQ_exit ?_)))
 refine X.seq (X.region ?_)
 refine XL.mv (.int .i64 (minL (xs.take k))) rfl ?_
 refine XL.as (.int .i64 (minL (xs.take k))) rfl ?_
 refine XL.nil ?_
 refine X.ret (retEnd (L' := L) [.int .i64 (minL (xs.take k))] (.int .i64 (minL (xs.take k))) (.tmp rfl .nil) rfl rF rF sR ?_)
 exact ⟨(vI (by rw [minL_take_all (by omega)])), rfl, rfl⟩

/- slices.Equal[[]int64,int64] -/
theorem Equal_spec {F : FH} {L : List HP} {av : Value} {a : List Int} (ha : IntsF F av a) {bv : Value} {b : List Int} (hb : IntsF F bv b) (hbd : a.length ≤ 9223372036854775807 ∨ b.length ≤ 9223372036854775807) :
    Does prog 62 [av, bv] F (L) (fun v F' L' => (.bool (decide (a = b)) : Value) = v ∧ F = F' ∧ L = L') := by
 refine Does.of_X func62 rfl rfl rfl ?_
 refine X.seq (X.region ?_)
 refine XL.as (.bool (false)) rfl ?_
 refine XL.nil (X.seq (X.seq (X.region ?_)))
 refine XL.mv (av) rfl ?_
 refine cX (XOp.lenS (v := av) (n := (a).length) runUnderlying24 rfl ha.slv ?_)
 refine XL.mv (bv) rfl ?_
 refine cX (XOp.lenS (v := bv) (n := (b).length) runUnderlying24 rfl hb.slv ?_)
 refine cX (XOp.neq (a := (a.length : Int)) (b := (b.length : Int)) rfl rfl ?_)
 refine XL.nil ?_
 refine X.condD (p := ((a.length : Int) : Int) ≠ (b.length : Int)) rfl (fun h1 => ?_) (fun h1 => ?_)
 ·refine X.seq (X.region ?_)
  refine XL.as (.bool (false)) rfl ?_
  refine XL.nil ?_
  refine X.ret (thenQ_ret (retEnd (L' := L) [.bool (false)] (.bool (false)) (.tmp rfl .nil) rfl rF rF sR ?_))
  exact ⟨(vB (decide_eq_false (fun e => by rw [e] at h1; omega))), rfl, rfl⟩
 refine X.skip (X.seq (X.seq (X.region ?_)))
 refine XL.mv (av) rfl ?_
 refine cX (XOp.lenS (v := av) (n := (a).length) runUnderlying24 rfl ha.slv ?_)
 refine XL.mv (.int .i64 (0)) rfl ?_
 refine XL.nil (X.block ?_)
 refine X.loop (α := Nat) (fun k => [(0, av), (1, bv), (12, .int .i64 ((a.length : Int))), (13, .int .i64 ((k : Int)))]) (fun k => L) (fun k F' => F = F' ∧ (k ≤ a.length) ∧ (∀ i, i < k → a.getD i 0 = b.getD i 0)) (fun k => a.length - k) 0 ⟨rfl, rfl, rfl, rfl, trivial⟩ sR ⟨rfl, (by omega), (fun i hi => absurd hi (by omega))⟩ ?_
 rintro k rE _ _ ⟨rfl, hk, hall⟩
 show X _ _ _ _ (envs [(0, av), (1, bv), (12, .int .i64 ((a.length : Int))), (13, .int .i64 ((k : Int)))] rE) _ (L)
 refine X.seq (X.region ?_)
 refine cX (XOp.lss (a := (k : Int)) (b := (a.length : Int)) rfl rfl ?_)
 refine XL.nil (X.seq ?_)
 refine X.condD (p := (k : Int) < (a.length : Int)) rfl (fun h2 => ?_) (fun h2 => ?_)
 ·refine X.skip (X.seq (X.block (X.seq (X.region ?_))))
  refine XL.mv (.int .i64 ((k : Int))) rfl ?_
  refine XL.as (.int .i64 ((k : Int))) rfl ?_
  refine XL.nil (X.seq ?_)
  refine X.draw [] L 8 [[], [], [], [], [], [], [], []] [[], [], [0, 1], [2], [], [], [4, 5], [6]] (phiL [fun us v => v = av, fun us v => v = (.int .i64 ((k : Int)) : Value), fun us v => v = (.pointer (some (elemA av (k))) : Value), fun us v => v = (.int .i64 (a.getD k 0) : Value), fun us v => v = bv, fun us v => v = (.int .i64 ((k : Int)) : Value), fun us v => v = (.pointer (some (elemA bv (k))) : Value), fun us v => v = (.int .i64 (b.getD k 0) : Value)]) (ownL [fun us v => [], fun us v => [], fun us v => [], fun us v => [], fun us v => [], fun us v => [], fun us v => [], fun us v => []]) mixed rfl rfl (by kernel_rfl) ?_ ?_
  ·refine pC (fun vals R hpZ => ?_) ?_
   ·refine XG.op (XOp.move (av) rfl ?_)
    exact ⟨rfl, rfl, rfl⟩
   refine pC (fun vals R hpZ => ?_) ?_
   ·refine XG.op (XOp.move (.int .i64 ((k : Int))) rfl ?_)
    exact ⟨rfl, rfl, rfl⟩
   refine pC (fun vals R hpZ => ?_) ?_
   ·rw [eS (l := [(0, av), (1, (.int .i64 ((k : Int)) : Value))]) ⟨hpZ 0 (by decide), hpZ 1 (by decide), trivial⟩]
    refine XG.op (XOp.indexS (v := av) (i := (k : Int)) (n := (a).length) k runUnderlying24 sizeOf2 rfl rfl rfl ha.slv (by omega) (Nat.mul_one _) ?_)
    exact ⟨rfl, rfl, rfl⟩
   refine pC (fun vals R hpZ => ?_) ?_
   ·rw [eS (l := [(2, (.pointer (some (elemA av (k))) : Value))]) ⟨hpZ 2 (by decide), trivial⟩]
    refine XG.op (XOp.load1 (v := .int .i64 (a.getD k 0)) isAgg2 rfl (ha.rd (by omega)) ?_)
    exact ⟨rfl, rfl, rfl⟩
   refine pC (fun vals R hpZ => ?_) ?_
   ·refine XG.op (XOp.move (bv) rfl ?_)
    exact ⟨rfl, rfl, rfl⟩
   refine pC (fun vals R hpZ => ?_) ?_
   ·refine XG.op (XOp.move (.int .i64 ((k : Int))) rfl ?_)
    exact ⟨rfl, rfl, rfl⟩
   refine pC (fun vals R hpZ => ?_) ?_
   ·rw [eS (l := [(4, bv), (5, (.int .i64 ((k : Int)) : Value))]) ⟨hpZ 4 (by decide), hpZ 5 (by decide), trivial⟩]
    refine XG.op (XOp.indexS (v := bv) (i := (k : Int)) (n := (b).length) k runUnderlying24 sizeOf2 rfl rfl rfl hb.slv (by omega) (Nat.mul_one _) ?_)
    exact ⟨rfl, rfl, rfl⟩
   refine pC (fun vals R hpZ => ?_) ?_
   ·rw [eS (l := [(6, (.pointer (some (elemA bv (k))) : Value))]) ⟨hpZ 6 (by decide), trivial⟩]
    refine XG.op (XOp.load1 (v := .int .i64 (b.getD k 0)) isAgg2 rfl (hb.rd (by omega)) ?_)
    exact ⟨rfl, rfl, rfl⟩
   exact stepsP.nil
  intro vals hphi
  rw [eS (l := [(3, (.int .i64 (a.getD k 0) : Value)), (7, (.int .i64 (b.getD k 0) : Value))]) ⟨(hphi 3 (by decide)), (hphi 7 (by decide)), trivial⟩]
  show XL _ _ _ _ _ _ _ (L)
  refine cX (XOp.neq (a := a.getD k 0) (b := b.getD k 0) rfl rfl ?_)
  refine XL.nil ?_
  refine X.condD (p := (a.getD k 0 : Int) ≠ b.getD k 0) rfl (fun h3 => ?_) (fun h3 => ?_)
  ·refine X.seq (X.region ?_)
   refine XL.as (.bool (false)) rfl ?_
   refine XL.nil ?_
   refine X.ret (blockQ_ret (thenQ_ret (thenQ_ret (blockQ_ret (thenQ_ret (retEnd (L' := L) [.bool (false)] (.bool (false)) (.tmp rfl .nil) rfl rF rF sR ?_))))))
   exact ⟨(vB (decide_eq_false (ne_of_getD (i := k) (by omega)))), rfl, rfl⟩
  refine X.skip (X.region ?_)
  refine cX (XOp.addR (a := (k : Int)) (b := 1) (((k + 1 : Nat) : Int)) rfl rfl (by omega) (by omega) ?_)
  refine XL.mv (.int .i64 (((k + 1 : Nat) : Int))) rfl ?_
  refine XL.nil ?_
  exact ⟨k + 1, _, FLe.refl _, rF, ⟨rfl, rfl, rfl, rfl, trivial⟩, sR, ⟨rfl, (by omega), (fun i hi => (Nat.lt_or_ge i k).elim (fun h => hall i h) (fun h => by obtain rfl : i = k := (by omega); omega))⟩, (by omega)⟩
 refine X.exit (thenQ_exit (thenQ_exit (blockQ_exit ?_)))
 refine X.seq (X.region ?_)
 refine XL.as (.bool (true)) rfl ?_
 refine XL.nil ?_
 refine X.ret (retEnd (L' := L) [.bool (true)] (.bool (true)) (.tmp rfl .nil) rfl rF rF sR ?_)
 exact ⟨(vB (decide_eq_true (ext_getD (by omega) (fun i hi => hall i (by omega))))), rfl, rfl⟩

/- spec.SameTerm -/
theorem SameTerm_spec {F : FH} {L : List HP} {av : Value} {a : List Int} (ha : IntsF F av a) {bv : Value} {b : List Int} (hb : IntsF F bv b) (hbd : a.length ≤ 9223372036854775807 ∨ b.length ≤ 9223372036854775807) :
    Does prog 34 [av, bv] F (L) (fun v F' L' => (.bool (decide (a = b)) : Value) = v ∧ F = F' ∧ L = L') := by
 refine Does.of_X func34 rfl rfl rfl ?_
 refine X.seq (X.region ?_)
 refine XL.as (.bool (false)) rfl ?_
 refine XL.nil (X.seq (X.seq (X.region ?_)))
 refine XL.mv (av) rfl ?_
 refine cX (XOp.lenS (v := av) (n := (a).length) runUnderlying24 rfl ha.slv ?_)
 refine XL.mv (bv) rfl ?_
 refine cX (XOp.lenS (v := bv) (n := (b).length) runUnderlying24 rfl hb.slv ?_)
 refine cX (XOp.neq (a := (a.length : Int)) (b := (b.length : Int)) rfl rfl ?_)
 refine XL.nil ?_
 refine X.condD (p := ((a.length : Int) : Int) ≠ (b.length : Int)) rfl (fun h1 => ?_) (fun h1 => ?_)
 ·refine X.seq (X.region ?_)
  refine XL.as (.bool (false)) rfl ?_
  refine XL.nil ?_
  refine X.ret (thenQ_ret (retEnd (L' := L) [.bool (false)] (.bool (false)) (.tmp rfl .nil) rfl rF rF sR ?_))
  exact ⟨(vB (decide_eq_false (fun e => by rw [e] at h1; omega))), rfl, rfl⟩
 refine X.skip (X.seq (X.seq (X.region ?_)))
 refine XL.as (.int .i64 (0)) rfl ?_
 refine XL.nil (X.block ?_)
 refine X.loop (α := Nat) (fun k => [(0, av), (1, bv), (5, .int .i64 ((k : Int)))]) (fun k => L) (fun k F' => F = F' ∧ (k ≤ a.length) ∧ (∀ i, i < k → a.getD i 0 = b.getD i 0)) (fun k => a.length - k) 0 ⟨rfl, rfl, rfl, trivial⟩ sR ⟨rfl, (by omega), (fun i hi => absurd hi (by omega))⟩ ?_
 rintro k rE _ _ ⟨rfl, hk, hall⟩
 show X _ _ _ _ (envs [(0, av), (1, bv), (5, .int .i64 ((k : Int)))] rE) _ (L)
 refine X.seq (X.seq (X.region ?_))
 refine XL.mv (.int .i64 ((k : Int))) rfl ?_
 refine XL.mv (av) rfl ?_
 refine cX (XOp.lenS (v := av) (n := (a).length) runUnderlying24 rfl ha.slv ?_)
 refine cX (XOp.lss (a := (k : Int)) (b := (a.length : Int)) rfl rfl ?_)
 refine XL.nil ?_
 refine X.condD (p := (k : Int) < (a.length : Int)) rfl (fun h2 => ?_) (fun h2 => ?_)
 ·refine X.skip (X.seq (X.block (X.seq ?_)))
  refine X.draw [] L 8 [[], [], [], [], [], [], [], []] [[], [], [0, 1], [2], [], [], [4, 5], [6]] (phiL [fun us v => v = av, fun us v => v = (.int .i64 ((k : Int)) : Value), fun us v => v = (.pointer (some (elemA av (k))) : Value), fun us v => v = (.int .i64 (a.getD k 0) : Value), fun us v => v = bv, fun us v => v = (.int .i64 ((k : Int)) : Value), fun us v => v = (.pointer (some (elemA bv (k))) : Value), fun us v => v = (.int .i64 (b.getD k 0) : Value)]) (ownL [fun us v => [], fun us v => [], fun us v => [], fun us v => [], fun us v => [], fun us v => [], fun us v => [], fun us v => []]) mixed rfl rfl (by kernel_rfl) ?_ ?_
  ·refine pC (fun vals R hpZ => ?_) ?_
   ·refine XG.op (XOp.move (av) rfl ?_)
    exact ⟨rfl, rfl, rfl⟩
   refine pC (fun vals R hpZ => ?_) ?_
   ·refine XG.op (XOp.move (.int .i64 ((k : Int))) rfl ?_)
    exact ⟨rfl, rfl, rfl⟩
   refine pC (fun vals R hpZ => ?_) ?_
   ·rw [eS (l := [(0, av), (1, (.int .i64 ((k : Int)) : Value))]) ⟨hpZ 0 (by decide), hpZ 1 (by decide), trivial⟩]
    refine XG.op (XOp.indexS (v := av) (i := (k : Int)) (n := (a).length) k runUnderlying24 sizeOf2 rfl rfl rfl ha.slv (by omega) (Nat.mul_one _) ?_)
    exact ⟨rfl, rfl, rfl⟩
   refine pC (fun vals R hpZ => ?_) ?_
   ·rw [eS (l := [(2, (.pointer (some (elemA av (k))) : Value))]) ⟨hpZ 2 (by decide), trivial⟩]
    refine XG.op (XOp.load1 (v := .int .i64 (a.getD k 0)) isAgg2 rfl (ha.rd (by omega)) ?_)
    exact ⟨rfl, rfl, rfl⟩
   refine pC (fun vals R hpZ => ?_) ?_
   ·refine XG.op (XOp.move (bv) rfl ?_)
    exact ⟨rfl, rfl, rfl⟩
   refine pC (fun vals R hpZ => ?_) ?_
   ·refine XG.op (XOp.move (.int .i64 ((k : Int))) rfl ?_)
    exact ⟨rfl, rfl, rfl⟩
   refine pC (fun vals R hpZ => ?_) ?_
   ·rw [eS (l := [(4, bv), (5, (.int .i64 ((k : Int)) : Value))]) ⟨hpZ 4 (by decide), hpZ 5 (by decide), trivial⟩]
    refine XG.op (XOp.indexS (v := bv) (i := (k : Int)) (n := (b).length) k runUnderlying24 sizeOf2 rfl rfl rfl hb.slv (by omega) (Nat.mul_one _) ?_)
    exact ⟨rfl, rfl, rfl⟩
   refine pC (fun vals R hpZ => ?_) ?_
   ·rw [eS (l := [(6, (.pointer (some (elemA bv (k))) : Value))]) ⟨hpZ 6 (by decide), trivial⟩]
    refine XG.op (XOp.load1 (v := .int .i64 (b.getD k 0)) isAgg2 rfl (hb.rd (by omega)) ?_)
    exact ⟨rfl, rfl, rfl⟩
   exact stepsP.nil
  intro vals hphi
  rw [eS (l := [(3, (.int .i64 (a.getD k 0) : Value)), (7, (.int .i64 (b.getD k 0) : Value))]) ⟨(hphi 3 (by decide)), (hphi 7 (by decide)), trivial⟩]
  show XL _ _ _ _ _ _ _ (L)
  refine cX (XOp.neq (a := a.getD k 0) (b := b.getD k 0) rfl rfl ?_)
  refine XL.nil ?_
  refine X.condD (p := (a.getD k 0 : Int) ≠ b.getD k 0) rfl (fun h3 => ?_) (fun h3 => ?_)
  ·refine X.seq (X.region ?_)
   refine XL.as (.bool (false)) rfl ?_
   refine XL.nil ?_
   refine X.ret (blockQ_ret (thenQ_ret (thenQ_ret (blockQ_ret (thenQ_ret (retEnd (L' := L) [.bool (false)] (.bool (false)) (.tmp rfl .nil) rfl rF rF sR ?_))))))
   exact ⟨(vB (decide_eq_false (ne_of_getD (i := k) (by omega)))), rfl, rfl⟩
  refine X.skip (X.region ?_)
  refine XL.mv (.int .i64 ((k : Int))) rfl ?_
  refine cX (XOp.addR (a := (k : Int)) (b := 1) (((k + 1 : Nat) : Int)) rfl rfl (by omega) (by omega) ?_)
  refine XL.as (.int .i64 (((k + 1 : Nat) : Int))) rfl ?_
  refine XL.nil ?_
  exact ⟨k + 1, _, FLe.refl _, rF, ⟨rfl, rfl, rfl, trivial⟩, sR, ⟨rfl, (by omega), (fun i hi => (Nat.lt_or_ge i k).elim (fun h => hall i h) (fun h => by obtain rfl : i = k := (by omega); omega))⟩, (by omega)⟩
 refine X.exit (thenQ_exit (thenQ_exit (blockQ_exit ?_)))
 refine X.seq (X.region ?_)
 refine XL.as (.bool (true)) rfl ?_
 refine XL.nil ?_
 refine X.ret (retEnd (L' := L) [.bool (true)] (.bool (true)) (.tmp rfl .nil) rfl rF rF sR ?_)
 exact ⟨(vB (decide_eq_true (ext_getD (by omega) (fun i hi => hall i (by omega))))), rfl, rfl⟩

/- laws.likeInts -/
theorem likeInts_spec {F : FH} {L : List HP} {av : Value} {a : List Int} (ha : IntsF F av a) {bv : Value} {b : List Int} (hb : IntsF F bv b) (hbd : a.length ≤ 9223372036854775807 ∨ b.length ≤ 9223372036854775807) :
    Does prog 43 [av, bv] F (L) (fun v F' L' => (.bool (decide (a = b)) : Value) = v ∧ F = F' ∧ L = L') := by
 refine Does.of_X func43 rfl rfl rfl ?_
 refine X.seq (X.region ?_)
 refine XL.as (.bool (false)) rfl ?_
 refine XL.nil (X.seq (X.seq (X.region ?_)))
 refine XL.mv (av) rfl ?_
 refine cX (XOp.lenS (v := av) (n := (a).length) runUnderlying24 rfl ha.slv ?_)
 refine XL.mv (bv) rfl ?_
 refine cX (XOp.lenS (v := bv) (n := (b).length) runUnderlying24 rfl hb.slv ?_)
 refine cX (XOp.neq (a := (a.length : Int)) (b := (b.length : Int)) rfl rfl ?_)
 refine XL.nil ?_
 refine X.condD (p := ((a.length : Int) : Int) ≠ (b.length : Int)) rfl (fun h1 => ?_) (fun h1 => ?_)
 ·refine X.seq (X.region ?_)
  refine XL.as (.bool (false)) rfl ?_
  refine XL.nil ?_
  refine X.ret (thenQ_ret (retEnd (L' := L) [.bool (false)] (.bool (false)) (.tmp rfl .nil) rfl rF rF sR ?_))
  exact ⟨(vB (decide_eq_false (fun e => by rw [e] at h1; omega))), rfl, rfl⟩
 refine X.skip (X.seq (X.seq (X.region ?_)))
 refine XL.as (.int .i64 (0)) rfl ?_
 refine XL.nil (X.block ?_)
 refine X.loop (α := Nat) (fun k => [(0, av), (1, bv), (5, .int .i64 ((k : Int)))]) (fun k => L) (fun k F' => F = F' ∧ (k ≤ a.length) ∧ (∀ i, i < k → a.getD i 0 = b.getD i 0)) (fun k => a.length - k) 0 ⟨rfl, rfl, rfl, trivial⟩ sR ⟨rfl, (by omega), (fun i hi => absurd hi (by omega))⟩ ?_
 rintro k rE _ _ ⟨rfl, hk, hall⟩
 show X _ _ _ _ (envs [(0, av), (1, bv), (5, .int .i64 ((k : Int)))] rE) _ (L)
 refine X.seq (X.seq (X.region ?_))
 refine XL.mv (.int .i64 ((k : Int))) rfl ?_
 refine XL.mv (av) rfl ?_
 refine cX (XOp.lenS (v := av) (n := (a).length) runUnderlying24 rfl ha.slv ?_)
 refine cX (XOp.lss (a := (k : Int)) (b := (a.length : Int)) rfl rfl ?_)
 refine XL.nil ?_
 refine X.condD (p := (k : Int) < (a.length : Int)) rfl (fun h2 => ?_) (fun h2 => ?_)
 ·refine X.skip (X.seq (X.block (X.seq ?_)))
  refine X.draw [] L 8 [[], [], [], [], [], [], [], []] [[], [], [0, 1], [2], [], [], [4, 5], [6]] (phiL [fun us v => v = av, fun us v => v = (.int .i64 ((k : Int)) : Value), fun us v => v = (.pointer (some (elemA av (k))) : Value), fun us v => v = (.int .i64 (a.getD k 0) : Value), fun us v => v = bv, fun us v => v = (.int .i64 ((k : Int)) : Value), fun us v => v = (.pointer (some (elemA bv (k))) : Value), fun us v => v = (.int .i64 (b.getD k 0) : Value)]) (ownL [fun us v => [], fun us v => [], fun us v => [], fun us v => [], fun us v => [], fun us v => [], fun us v => [], fun us v => []]) mixed rfl rfl (by kernel_rfl) ?_ ?_
  ·refine pC (fun vals R hpZ => ?_) ?_
   ·refine XG.op (XOp.move (av) rfl ?_)
    exact ⟨rfl, rfl, rfl⟩
   refine pC (fun vals R hpZ => ?_) ?_
   ·refine XG.op (XOp.move (.int .i64 ((k : Int))) rfl ?_)
    exact ⟨rfl, rfl, rfl⟩
   refine pC (fun vals R hpZ => ?_) ?_
   ·rw [eS (l := [(0, av), (1, (.int .i64 ((k : Int)) : Value))]) ⟨hpZ 0 (by decide), hpZ 1 (by decide), trivial⟩]
    refine XG.op (XOp.indexS (v := av) (i := (k : Int)) (n := (a).length) k runUnderlying24 sizeOf2 rfl rfl rfl ha.slv (by omega) (Nat.mul_one _) ?_)
    exact ⟨rfl, rfl, rfl⟩
   refine pC (fun vals R hpZ => ?_) ?_
   ·rw [eS (l := [(2, (.pointer (some (elemA av (k))) : Value))]) ⟨hpZ 2 (by decide), trivial⟩]
    refine XG.op (XOp.load1 (v := .int .i64 (a.getD k 0)) isAgg2 rfl (ha.rd (by omega)) ?_)
    exact ⟨rfl, rfl, rfl⟩
   refine pC (fun vals R hpZ => ?_) ?_
   ·refine XG.op (XOp.move (bv) rfl ?_)
    exact ⟨rfl, rfl, rfl⟩
   refine pC (fun vals R hpZ => ?_) ?_
   ·refine XG.op (XOp.move (.int .i64 ((k : Int))) rfl ?_)
    exact ⟨rfl, rfl, rfl⟩
   refine pC (fun vals R hpZ => ?_) ?_
   ·rw [eS (l := [(4, bv), (5, (.int .i64 ((k : Int)) : Value))]) ⟨hpZ 4 (by decide), hpZ 5 (by decide), trivial⟩]
    refine XG.op (XOp.indexS (v := bv) (i := (k : Int)) (n := (b).length) k runUnderlying24 sizeOf2 rfl rfl rfl hb.slv (by omega) (Nat.mul_one _) ?_)
    exact ⟨rfl, rfl, rfl⟩
   refine pC (fun vals R hpZ => ?_) ?_
   ·rw [eS (l := [(6, (.pointer (some (elemA bv (k))) : Value))]) ⟨hpZ 6 (by decide), trivial⟩]
    refine XG.op (XOp.load1 (v := .int .i64 (b.getD k 0)) isAgg2 rfl (hb.rd (by omega)) ?_)
    exact ⟨rfl, rfl, rfl⟩
   exact stepsP.nil
  intro vals hphi
  rw [eS (l := [(3, (.int .i64 (a.getD k 0) : Value)), (7, (.int .i64 (b.getD k 0) : Value))]) ⟨(hphi 3 (by decide)), (hphi 7 (by decide)), trivial⟩]
  show XL _ _ _ _ _ _ _ (L)
  refine cX (XOp.neq (a := a.getD k 0) (b := b.getD k 0) rfl rfl ?_)
  refine XL.nil ?_
  refine X.condD (p := (a.getD k 0 : Int) ≠ b.getD k 0) rfl (fun h3 => ?_) (fun h3 => ?_)
  ·refine X.seq (X.region ?_)
   refine XL.as (.bool (false)) rfl ?_
   refine XL.nil ?_
   refine X.ret (blockQ_ret (thenQ_ret (thenQ_ret (blockQ_ret (thenQ_ret (retEnd (L' := L) [.bool (false)] (.bool (false)) (.tmp rfl .nil) rfl rF rF sR ?_))))))
   exact ⟨(vB (decide_eq_false (ne_of_getD (i := k) (by omega)))), rfl, rfl⟩
  refine X.skip (X.region ?_)
  refine XL.mv (.int .i64 ((k : Int))) rfl ?_
  refine cX (XOp.addR (a := (k : Int)) (b := 1) (((k + 1 : Nat) : Int)) rfl rfl (by omega) (by omega) ?_)
  refine XL.as (.int .i64 (((k + 1 : Nat) : Int))) rfl ?_
  refine XL.nil ?_
  exact ⟨k + 1, _, FLe.refl _, rF, ⟨rfl, rfl, rfl, trivial⟩, sR, ⟨rfl, (by omega), (fun i hi => (Nat.lt_or_ge i k).elim (fun h => hall i h) (fun h => by obtain rfl : i = k := (by omega); omega))⟩, (by omega)⟩
 refine X.exit (thenQ_exit (thenQ_exit (blockQ_exit ?_)))
 refine X.seq (X.region ?_)
 refine XL.as (.bool (true)) rfl ?_
 refine XL.nil ?_
 refine X.ret (retEnd (L' := L) [.bool (true)] (.bool (true)) (.tmp rfl .nil) rfl rF rF sR ?_)
 exact ⟨(vB (decide_eq_true (ext_getD (by omega) (fun i hi => hall i (by omega))))), rfl, rfl⟩

/- slices.Index[[]int64,int64] -/
theorem Index_spec {F : FH} {L : List HP} {xsv : Value} {xs : List Int} (hxs : IntsF F xsv xs) {n : Int} (hbd : xs.length ≤ 9223372036854775807) :
    Does prog 199 [xsv, .int .i64 (n)] F (L) (fun v F' L' => (.int .i64 (indexZ xs n) : Value) = v ∧ F = F' ∧ L = L') := by
 refine Does.of_X func199 rfl rfl rfl ?_
 refine X.seq (X.region ?_)
 refine XL.as (.int .i64 (0)) rfl ?_
 refine XL.nil (X.seq (X.seq (X.region ?_)))
 refine XL.mv (xsv) rfl ?_
 refine cX (XOp.lenS (v := xsv) (n := (xs).length) runUnderlying24 rfl hxs.slv ?_)
 refine XL.mv (.int .i64 (0)) rfl ?_
 refine XL.nil (X.block ?_)
 refine X.loop (α := Nat) (fun k => [(0, xsv), (1, .int .i64 (n)), (7, .int .i64 ((xs.length : Int))), (8, .int .i64 ((k : Int)))]) (fun k => L) (fun k F' => F = F' ∧ (k ≤ xs.length) ∧ (∀ i, i < k → xs.getD i 0 ≠ n)) (fun k => xs.length - k) 0 ⟨rfl, rfl, rfl, rfl, trivial⟩ sR ⟨rfl, (by omega), (fun i hi => absurd hi (by omega))⟩ ?_
 rintro k rE _ _ ⟨rfl, hk, hall⟩
 show X _ _ _ _ (envs [(0, xsv), (1, .int .i64 (n)), (7, .int .i64 ((xs.length : Int))), (8, .int .i64 ((k : Int)))] rE) _ (L)
 refine X.seq (X.region ?_)
 refine cX (XOp.lss (a := (k : Int)) (b := (xs.length : Int)) rfl rfl ?_)
 refine XL.nil (X.seq ?_)
 refine X.condD (p := (k : Int) < (xs.length : Int)) rfl (fun h1 => ?_) (fun h1 => ?_)
 ·refine X.skip (X.seq (X.block (X.seq (X.region ?_))))
  refine XL.mv (.int .i64 ((k : Int))) rfl ?_
  refine XL.as (.int .i64 ((k : Int))) rfl ?_
  refine XL.nil (X.seq (X.region ?_))
  refine XL.mv (.int .i64 (n)) rfl ?_
  refine XL.mv (xsv) rfl ?_
  refine XL.mv (.int .i64 ((k : Int))) rfl ?_
  refine cX (XOp.indexS (v := xsv) (i := (k : Int)) (n := (xs).length) k runUnderlying24 sizeOf2 rfl rfl rfl hxs.slv (by omega) (Nat.mul_one _) ?_)
  refine cX (XOp.load1 (v := .int .i64 (xs.getD k 0)) isAgg2 rfl (hxs.rd (by omega)) ?_)
  refine cX (XOp.eql (a := n) (b := xs.getD k 0) rfl rfl ?_)
  refine XL.nil ?_
  refine X.condD (p := (n : Int) = xs.getD k 0) rfl (fun h2 => ?_) (fun h2 => ?_)
  ·refine X.seq (X.region ?_)
   refine XL.mv (.int .i64 ((k : Int))) rfl ?_
   refine XL.as (.int .i64 ((k : Int))) rfl ?_
   refine XL.nil ?_
   refine X.ret (blockQ_ret (thenQ_ret (thenQ_ret (blockQ_ret (thenQ_ret (retEnd (L' := L) [.int .i64 ((k : Int))] (.int .i64 ((k : Int))) (.tmp rfl .nil) rfl rF rF sR ?_))))))
   exact ⟨(vI (indexZ_some (by omega) (by omega) hall)), rfl, rfl⟩
  refine X.skip (X.region ?_)
  refine cX (XOp.addR (a := (k : Int)) (b := 1) (((k + 1 : Nat) : Int)) rfl rfl (by omega) (by omega) ?_)
  refine XL.mv (.int .i64 (((k + 1 : Nat) : Int))) rfl ?_
  refine XL.nil ?_
  exact ⟨k + 1, _, FLe.refl _, rF, ⟨rfl, rfl, rfl, rfl, trivial⟩, sR, ⟨rfl, (by omega), (fun i hi => (Nat.lt_or_ge i k).elim (fun h => hall i h) (fun h => by obtain rfl : i = k := (by omega); omega))⟩, (by omega)⟩
 refine X.exit (thenQ_exit (thenQ_exit (blockQ_exit ?_)))
 refine X.seq (X.region ?_)
 refine XL.as (.int .i64 (-1)) rfl ?_
 refine XL.nil ?_
 refine X.ret (retEnd (L' := L) [.int .i64 (-1)] (.int .i64 (-1)) (.tmp rfl .nil) rfl rF rF sR ?_)
 exact ⟨(vI (indexZ_none (fun i hi => hall i (by omega)))), rfl, rfl⟩

/- slices.Contains[[]int64,int64] -/
theorem Contains_spec {F : FH} {L : List HP} {xsv : Value} {xs : List Int} (hxs : IntsF F xsv xs) {n : Int} (hbd : xs.length ≤ 9223372036854775807) :
    Does prog 170 [xsv, .int .i64 (n)] F (L) (fun v F' L' => (.bool (decide (n ∈ xs)) : Value) = v ∧ F = F' ∧ L = L') := by
 refine Does.of_X func170 rfl rfl rfl ?_
 refine X.seq (X.region ?_)
 refine XL.as (.bool (false)) rfl ?_
 refine XL.nil (X.seq (X.region ?_))
 refine XL.mv (xsv) rfl ?_
 refine XL.mv (.int .i64 (n)) rfl ?_
 refine cX (XOp.call (args := [xsv, .int .i64 (n)]) call199 rfl (Index_spec (n := n) hxs (hbd := (by first | assumption | rfl | omega | simp))) ?_)
 rintro _ _ _ _ ⟨rfl, rfl, rfl⟩
 refine cX (XOp.geq (a := indexZ xs n) (b := 0) rfl rfl ?_)
 refine XL.as (.bool (decide ((indexZ xs n : Int) ≥ 0))) rfl ?_
 refine XL.nil ?_
 refine X.ret (retEnd (L' := L) [.bool (decide ((indexZ xs n : Int) ≥ 0))] (.bool (decide ((indexZ xs n : Int) ≥ 0))) (.tmp rfl .nil) rfl rF rF sR ?_)
 exact ⟨(vB (decide_eq_decide.2 indexZ_mem.symm)), rfl, rfl⟩

/- spec.l1Has -/
theorem l1Has_spec {F : FH} {L : List HP} {xsv : Value} {xs : List Int} (hxs : IntsF F xsv xs) {n : Int} (hbd : xs.length ≤ 9223372036854775807) :
    Does prog 193 [xsv, .int .i64 (n)] F (L) (fun v F' L' => (.bool (decide (n ∈ xs)) : Value) = v ∧ F = F' ∧ L = L') := by
 refine Does.of_X func193 rfl rfl rfl ?_
 refine X.seq (X.region ?_)
 refine XL.as (.bool (false)) rfl ?_
 refine XL.nil (X.seq (X.seq (X.region ?_)))
 refine XL.as (.int .i64 (0)) rfl ?_
 refine XL.nil (X.block ?_)
 refine X.loop (α := Nat) (fun k => [(0, xsv), (1, .int .i64 (n)), (5, .int .i64 ((k : Int)))]) (fun k => L) (fun k F' => F = F' ∧ (k ≤ xs.length) ∧ (∀ i, i < k → xs.getD i 0 ≠ n)) (fun k => xs.length - k) 0 ⟨rfl, rfl, rfl, trivial⟩ sR ⟨rfl, (by omega), (fun i hi => absurd hi (by omega))⟩ ?_
 rintro k rE _ _ ⟨rfl, hk, hall⟩
 show X _ _ _ _ (envs [(0, xsv), (1, .int .i64 (n)), (5, .int .i64 ((k : Int)))] rE) _ (L)
 refine X.seq (X.seq (X.region ?_))
 refine XL.mv (.int .i64 ((k : Int))) rfl ?_
 refine XL.mv (xsv) rfl ?_
 refine cX (XOp.lenS (v := xsv) (n := (xs).length) runUnderlying24 rfl hxs.slv ?_)
 refine cX (XOp.lss (a := (k : Int)) (b := (xs.length : Int)) rfl rfl ?_)
 refine XL.nil ?_
 refine X.condD (p := (k : Int) < (xs.length : Int)) rfl (fun h1 => ?_) (fun h1 => ?_)
 ·refine X.skip (X.seq (X.block (X.seq (X.region ?_))))
  refine XL.mv (xsv) rfl ?_
  refine XL.mv (.int .i64 ((k : Int))) rfl ?_
  refine cX (XOp.indexS (v := xsv) (i := (k : Int)) (n := (xs).length) k runUnderlying24 sizeOf2 rfl rfl rfl hxs.slv (by omega) (Nat.mul_one _) ?_)
  refine cX (XOp.load1 (v := .int .i64 (xs.getD k 0)) isAgg2 rfl (hxs.rd (by omega)) ?_)
  refine XL.mv (.int .i64 (n)) rfl ?_
  refine cX (XOp.eql (a := xs.getD k 0) (b := n) rfl rfl ?_)
  refine XL.nil ?_
  refine X.condD (p := (xs.getD k 0 : Int) = n) rfl (fun h2 => ?_) (fun h2 => ?_)
  ·refine X.seq (X.region ?_)
   refine XL.as (.bool (true)) rfl ?_
   refine XL.nil ?_
   refine X.ret (blockQ_ret (thenQ_ret (thenQ_ret (blockQ_ret (thenQ_ret (retEnd (L' := L) [.bool (true)] (.bool (true)) (.tmp rfl .nil) rfl rF rF sR ?_))))))
   exact ⟨(vB (decide_eq_true (mem_of_getD (k := k) (by omega) (by omega)))), rfl, rfl⟩
  refine X.skip (X.region ?_)
  refine XL.mv (.int .i64 ((k : Int))) rfl ?_
  refine cX (XOp.addR (a := (k : Int)) (b := 1) (((k + 1 : Nat) : Int)) rfl rfl (by omega) (by omega) ?_)
  refine XL.as (.int .i64 (((k + 1 : Nat) : Int))) rfl ?_
  refine XL.nil ?_
  exact ⟨k + 1, _, FLe.refl _, rF, ⟨rfl, rfl, rfl, trivial⟩, sR, ⟨rfl, (by omega), (fun i hi => (Nat.lt_or_ge i k).elim (fun h => hall i h) (fun h => by obtain rfl : i = k := (by omega); omega))⟩, (by omega)⟩
 refine X.exit (thenQ_exit (thenQ_exit (blockQ_exit ?_)))
 refine X.seq (X.region ?_)
 refine XL.as (.bool (false)) rfl ?_
 refine XL.nil ?_
 refine X.ret (retEnd (L' := L) [.bool (false)] (.bool (false)) (.tmp rfl .nil) rfl rF rF sR ?_)
 exact ⟨(vB (decide_eq_false (not_mem_of_getD (fun i hi => hall i (by omega))))), rfl, rfl⟩

/- spec.l1In -/
theorem l1In_spec {F : FH} {L : List HP} {n : Int} {a : Int} {b : Int} :
    Does prog 51 [.int .i64 (n), .int .i64 (a), .int .i64 (b)] F (L) (fun v F' L' => (.bool (decide (a ≤ n ∧ n ≤ b)) : Value) = v ∧ F = F' ∧ L = L') := by
 refine Does.of_X func51 rfl rfl rfl ?_
 refine X.seq (X.region ?_)
 refine XL.as (.bool (false)) rfl ?_
 refine XL.nil (X.seq (X.region ?_))
 refine XL.mv (.int .i64 (n)) rfl ?_
 refine XL.mv (.int .i64 (a)) rfl ?_
 refine cX (XOp.geq (a := n) (b := a) rfl rfl ?_)
 refine XL.mv (.bool (decide ((n : Int) ≥ a))) rfl ?_
 by_cases h1 : (n : Int) ≥ a
 ·refine XL.yes (t := 10) rfl (vT h1) (XOp.move (.int .i64 (n)) rfl ?_)
  refine XL.yes (t := 10) rfl (vT h1) (XOp.move (.int .i64 (b)) rfl ?_)
  refine XL.yes (t := 10) rfl (vT h1) (XOp.leq (a := n) (b := b) rfl rfl ?_)
  refine cX (XOp.pickT (.bool (decide ((n : Int) ≤ b))) (vT h1) rfl ?_)
  refine XL.as (.bool (decide ((n : Int) ≤ b))) rfl ?_
  refine XL.nil ?_
  refine X.ret (retEnd (L' := L) [.bool (decide ((n : Int) ≤ b))] (.bool (decide ((n : Int) ≤ b))) (.tmp rfl .nil) rfl rF rF sR ?_)
  exact ⟨(vB (decide_eq_decide.2 (by omega))), rfl, rfl⟩
 refine XL.no (t := 10) rfl (vF h1) ?_
 refine XL.no (t := 10) rfl (vF h1) ?_
 refine XL.no (t := 10) rfl (vF h1) ?_
 refine cX (XOp.pickF (.bool (false)) (vF h1) rfl ?_)
 refine XL.as (.bool (false)) rfl ?_
 refine XL.nil ?_
 refine X.ret (retEnd (L' := L) [.bool (false)] (.bool (false)) (.tmp rfl .nil) rfl rF rF sR ?_)
 exact ⟨(vB (decide_eq_false (by omega))), rfl, rfl⟩
end Go.Proofs.YtmaaifhmhclhdaaGreat
set_option linter.unusedSimpArgs false
set_option linter.unusedVariables false
namespace Go.Proofs.YtmaaifhmhclhdaaGreat
open Go X M Tryz

/- spec.l1Arity -/
theorem l1Arity_spec {F : FH} {L : List HP} {arv : Value} {ar : List Int} (har : IntsF F arv ar) {n : Int} (hla : ar.length ≤ 4000000) :
    Does prog 187 [.agg #[arv], .int .i64 (n)] F (L) (fun v F' L' => (.int .i64 (sArity ar n) : Value) = v ∧ F = F' ∧ L = L') := by
 refine Does.of_X func187 rfl rfl rfl ?_
 refine X.seq (X.region ?_)
 refine cX (XOp.box [arv] rfl rfl ?_)
 intro b1
 refine XL.as (.int .i64 (0)) rfl ?_
 refine XL.nil (X.seq (X.block (X.seq (X.region ?_))))
 refine XL.mv (.int .i64 (n)) rfl ?_
 refine cX (XOp.call (args := [.int .i64 (n), .int .i64 (-24), .int .i64 (-1)]) call51 rfl (l1In_spec (n := n) (a := -24) (b := -1)) ?_)
 rintro _ _ _ _ ⟨rfl, rfl, rfl⟩
 refine XL.as (.bool (decide ((-24) ≤ n ∧ n ≤ (-1)))) rfl ?_
 refine XL.nil ?_
 refine X.condD (p := (-24) ≤ n ∧ n ≤ (-1)) rfl (fun h1 => ?_) (fun h1 => ?_)
 ·refine X.seq (X.region ?_)
  refine XL.as (.int .i64 (0)) rfl ?_
  refine XL.nil ?_
  refine X.ret (blockQ_ret (thenQ_ret (retEnd (L' := L) [.int .i64 (0)] (.int .i64 (0)) (.tmp rfl .nil) rfl rF rF (sD sR) ?_)))
  exact ⟨(vI (by unfold sArity; split <;> (try split) <;> first | rfl | omega)), rfl, rfl⟩
 refine X.seq (X.region ?_)
 refine XL.mv (.int .i64 (n)) rfl ?_
 refine cX (XOp.fieldP (b := b1) (0) runUnderlying26 rfl sizeOf24 (by decide) rfl rfl ?_)
 refine cX (XOp.load1 (v := arv) isAgg24 rfl (Rd.own [] rfl rfl) ?_)
 refine cX (XOp.lenS (v := arv) (n := (ar).length) runUnderlying24 rfl har.slv ?_)
 refine cX (XOp.subR (a := (ar.length : Int)) (b := 1) (((ar.length : Int)) - 1) rfl rfl (by omega) (by omega) ?_)
 refine cX (XOp.call (args := [.int .i64 (n), .int .i64 (0), .int .i64 (((ar.length : Int)) - 1)]) call51 rfl (l1In_spec (n := n) (a := 0) (b := ((ar.length : Int)) - 1)) ?_)
 rintro _ _ _ _ ⟨rfl, rfl, rfl⟩
 refine XL.as (.bool (decide (0 ≤ n ∧ n ≤ (((ar.length : Int)) - 1)))) rfl ?_
 refine XL.nil ?_
 refine X.condD (p := 0 ≤ n ∧ n ≤ (((ar.length : Int)) - 1)) rfl (fun h2 => ?_) (fun h2 => ?_)
 ·refine X.seq (X.region ?_)
  refine cX (XOp.fieldP (b := b1) (0) runUnderlying26 rfl sizeOf24 (by decide) rfl rfl ?_)
  refine cX (XOp.load1 (v := arv) isAgg24 rfl (Rd.own [] rfl rfl) ?_)
  refine XL.mv (.int .i64 (n)) rfl ?_
  refine cX (XOp.indexS (v := arv) (i := n) (n := (ar).length) ((n).toNat) runUnderlying24 sizeOf2 rfl rfl (by omega) har.slv (by omega) (Nat.mul_one _) ?_)
  refine cX (XOp.load1 (v := .int .i64 (ar.getD ((n).toNat) 0)) isAgg2 rfl (har.rd (by omega)) ?_)
  refine XL.as (.int .i64 (ar.getD ((n).toNat) 0)) rfl ?_
  refine XL.nil ?_
  refine X.ret (blockQ_ret (thenQ_ret (retEnd (L' := L) [.int .i64 (ar.getD ((n).toNat) 0)] (.int .i64 (ar.getD ((n).toNat) 0)) (.tmp rfl .nil) rfl rF rF (sD sR) ?_)))
  exact ⟨(vI (by unfold sArity; split <;> (try split) <;> first | rfl | omega)), rfl, rfl⟩
 refine X.skip (X.seq (X.region ?_))
 refine XL.as (.int .i64 (-1)) rfl ?_
 refine XL.nil ?_
 refine X.ret (retEnd (L' := L) [.int .i64 (-1)] (.int .i64 (-1)) (.tmp rfl .nil) rfl rF rF (sD sR) ?_)
 exact ⟨(vI (by unfold sArity; split <;> (try split) <;> first | rfl | omega)), rfl, rfl⟩

/- spec.SigOk -/
theorem sSigOk_spec {F : FH} {L : List HP} {arv : Value} {ar : List Int} (har : IntsF F arv ar) (hla : ar.length ≤ 4000000) :
    Does prog 141 [.agg #[arv]] F (L) (fun v F' L' => (.bool (sigOk ar) : Value) = v ∧ F = F' ∧ L = L') := by
 refine Does.of_X func141 rfl rfl rfl ?_
 refine X.seq (X.region ?_)
 refine cX (XOp.box [arv] rfl rfl ?_)
 intro b1
 refine XL.as (.bool (false)) rfl ?_
 refine XL.nil (X.seq (X.seq (X.region ?_)))
 refine cX (XOp.fieldP (b := b1) (0) runUnderlying26 rfl sizeOf24 (by decide) rfl rfl ?_)
 refine cX (XOp.load1 (v := arv) isAgg24 rfl (Rd.own [] rfl rfl) ?_)
 refine cX (XOp.lenS (v := arv) (n := (ar).length) runUnderlying24 rfl har.slv ?_)
 refine cX (XOp.call (args := [.int .i64 ((ar.length : Int)), .int .i64 (1), .int .i64 (8)]) call51 rfl (l1In_spec (n := (ar.length : Int)) (a := 1) (b := 8)) ?_)
 rintro _ _ _ _ ⟨rfl, rfl, rfl⟩
 refine cX (XOp.notD (p := 1 ≤ ((ar.length : Int)) ∧ ((ar.length : Int)) ≤ 8) rfl ?_)
 refine XL.nil ?_
 refine X.condD (p := ¬(1 ≤ ((ar.length : Int)) ∧ ((ar.length : Int)) ≤ 8)) rfl (fun h1 => ?_) (fun h1 => ?_)
 ·refine X.seq (X.region ?_)
  refine XL.as (.bool (false)) rfl ?_
  refine XL.nil ?_
  refine X.ret (thenQ_ret (retEnd (L' := L) [.bool (false)] (.bool (false)) (.tmp rfl .nil) rfl rF rF (sD sR) ?_))
  exact ⟨(vB (sigOk_short (by omega))), rfl, rfl⟩
 refine X.skip (X.seq (X.seq (X.region ?_)))
 refine XL.as (.int .i64 (0)) rfl ?_
 refine XL.nil (X.block ?_)
 refine X.loop (α := Nat) (fun k => [(1, ptr b1 0), (3, .int .i64 ((k : Int)))]) (fun k => cellsH b1 [arv] 26 :: L) (fun k F' => F = F' ∧ (k ≤ ar.length) ∧ (∀ i, i < k → 0 ≤ ar.getD i 0 ∧ ar.getD i 0 ≤ 3)) (fun k => ar.length - k) 0 ⟨rfl, rfl, trivial⟩ (sC sR) ⟨rfl, (by omega), (fun i hi => absurd hi (by omega))⟩ ?_
 rintro k rE _ _ ⟨rfl, hk, hall⟩
 show X _ _ _ _ (envs [(1, ptr b1 0), (3, .int .i64 ((k : Int)))] rE) _ (cellsH b1 [arv] 26 :: L)
 refine X.seq (X.seq (X.region ?_))
 refine XL.mv (.int .i64 ((k : Int))) rfl ?_
 refine cX (XOp.fieldP (b := b1) (0) runUnderlying26 rfl sizeOf24 (by decide) rfl rfl ?_)
 refine cX (XOp.load1 (v := arv) isAgg24 rfl (Rd.own [] rfl rfl) ?_)
 refine cX (XOp.lenS (v := arv) (n := (ar).length) runUnderlying24 rfl har.slv ?_)
 refine cX (XOp.lss (a := (k : Int)) (b := (ar.length : Int)) rfl rfl ?_)
 refine XL.nil ?_
 refine X.condD (p := (k : Int) < (ar.length : Int)) rfl (fun h2 => ?_) (fun h2 => ?_)
 ·refine X.skip (X.seq (X.block (X.seq (X.region ?_))))
  refine cX (XOp.fieldP (b := b1) (0) runUnderlying26 rfl sizeOf24 (by decide) rfl rfl ?_)
  refine cX (XOp.load1 (v := arv) isAgg24 rfl (Rd.own [] rfl rfl) ?_)
  refine XL.mv (.int .i64 ((k : Int))) rfl ?_
  refine cX (XOp.indexS (v := arv) (i := (k : Int)) (n := (ar).length) k runUnderlying24 sizeOf2 rfl rfl rfl har.slv (by omega) (Nat.mul_one _) ?_)
  refine cX (XOp.load1 (v := .int .i64 (ar.getD k 0)) isAgg2 rfl (har.rd (by omega)) ?_)
  refine cX (XOp.call (args := [.int .i64 (ar.getD k 0), .int .i64 (0), .int .i64 (3)]) call51 rfl (l1In_spec (n := ar.getD k 0) (a := 0) (b := 3)) ?_)
  rintro _ _ _ _ ⟨rfl, rfl, rfl⟩
  refine cX (XOp.notD (p := 0 ≤ (ar.getD k 0) ∧ (ar.getD k 0) ≤ 3) rfl ?_)
  refine XL.nil ?_
  refine X.condD (p := ¬(0 ≤ (ar.getD k 0) ∧ (ar.getD k 0) ≤ 3)) rfl (fun h3 => ?_) (fun h3 => ?_)
  ·refine X.seq (X.region ?_)
   refine XL.as (.bool (false)) rfl ?_
   refine XL.nil ?_
   refine X.ret (blockQ_ret (thenQ_ret (thenQ_ret (blockQ_ret (thenQ_ret (retEnd (L' := L) [.bool (false)] (.bool (false)) (.tmp rfl .nil) rfl rF rF (sD sR) ?_))))))
   exact ⟨(vB (sigOk_bad (i := k) (by omega) (by omega))), rfl, rfl⟩
  refine X.skip (X.region ?_)
  refine XL.mv (.int .i64 ((k : Int))) rfl ?_
  refine cX (XOp.addR (a := (k : Int)) (b := 1) (((k + 1 : Nat) : Int)) rfl rfl (by omega) (by omega) ?_)
  refine XL.as (.int .i64 (((k + 1 : Nat) : Int))) rfl ?_
  refine XL.nil ?_
  exact ⟨k + 1, _, FLe.refl _, rF, ⟨rfl, rfl, trivial⟩, (sC sR), ⟨rfl, (by omega), (fun i hi => (Nat.lt_or_ge i k).elim (fun h => hall i h) (fun h => by obtain rfl : i = k := (by omega); omega))⟩, (by omega)⟩
 refine X.exit (thenQ_exit (thenQ_exit (blockQ_exit ?_)))
 refine X.seq (X.region ?_)
 refine XL.as (.bool (true)) rfl ?_
 refine XL.nil ?_
 refine X.ret (retEnd (L' := L) [.bool (true)] (.bool (true)) (.tmp rfl .nil) rfl rF rF (sD sR) ?_)
 exact ⟨(vB (sigOk_of (by omega) (by omega) (fun i hi => hall i (by omega)))), rfl, rfl⟩

/- spec.l1End -/
theorem l1End_spec {F : FH} {L : List HP} {arv : Value} {ar : List Int} (har : IntsF F arv ar) {tv : Value} {t : List Int} (ht : IntsF F tv t) {p0 : Nat} (hs : sigOk ar = true) (hlt : t.length ≤ 4000000) (hp : p0 ≤ t.length) :
    Does prog 143 [.agg #[arv], tv, .int .i64 ((p0 : Int))] F (L) (fun v F' L' => (.int .i64 (sEndZ ar t p0) : Value) = v ∧ F = F' ∧ L = L') := by
 refine Does.of_X func143 rfl rfl rfl ?_
 have hsl := sigOk_spec hs
 refine X.seq (X.region ?_)
 refine cX (XOp.box [arv] rfl rfl ?_)
 intro b1
 refine XL.as (.int .i64 (0)) rfl ?_
 refine XL.nil (X.seq (X.region ?_))
 refine XL.as (.int .i64 (1)) rfl ?_
 refine XL.nil (X.seq (X.seq (X.region ?_)))
 refine XL.mv (.int .i64 ((p0 : Int))) rfl ?_
 refine XL.as (.int .i64 ((p0 : Int))) rfl ?_
 refine XL.nil (X.block ?_)
 refine X.loop (α := Nat × Nat) (fun xQ => [(1, tv), (3, ptr b1 0), (7, .int .i64 (((xQ.1 : Nat) : Int))), (8, .int .i64 (((xQ.2 : Nat) : Int)))]) (fun xQ => cellsH b1 [arv] 26 :: L) (fun xQ F' => F = F' ∧ (sEndGo ar (t.drop p0) 1 = (sEndGo ar (t.drop xQ.2) xQ.1).map (· + (xQ.2 - p0))) ∧ (p0 ≤ xQ.2 ∧ xQ.2 ≤ t.length) ∧ (1 ≤ xQ.1 ∧ xQ.1 ≤ 1 + 3 * xQ.2)) (fun xQ => t.length - xQ.2) (1, p0) ⟨rfl, rfl, rfl, rfl, trivial⟩ (sC sR) ⟨rfl, (by simp), (by omega), (by omega)⟩ ?_
 rintro ⟨k, p⟩ rE _ _ ⟨rfl, hi, h1, h2⟩
 show X _ _ _ _ (envs [(1, tv), (3, ptr b1 0), (7, .int .i64 ((k : Int))), (8, .int .i64 ((p : Int)))] rE) _ (cellsH b1 [arv] 26 :: L)
 dsimp only at hi h1 h2
 refine X.seq (X.seq (X.region ?_))
 refine XL.mv (.int .i64 ((p : Int))) rfl ?_
 refine XL.mv (tv) rfl ?_
 refine cX (XOp.lenS (v := tv) (n := (t).length) runUnderlying24 rfl ht.slv ?_)
 refine cX (XOp.lss (a := (p : Int)) (b := (t.length : Int)) rfl rfl ?_)
 refine XL.nil ?_
 refine X.condD (p := (p : Int) < (t.length : Int)) rfl (fun h1 => ?_) (fun h1 => ?_)
 ·refine X.skip (X.seq (X.block (X.seq ?_)))
  refine X.draw [cellsH b1 [arv] 26] L 5 [[], [], [], [], []] [[], [], [], [1, 2], [3]] (phiL [fun us v => v = (.agg #[arv] : Value), fun us v => v = tv, fun us v => v = (.int .i64 ((p : Int)) : Value), fun us v => v = (.pointer (some (elemA tv (p))) : Value), fun us v => v = (.int .i64 (t.getD p 0) : Value)]) (ownL [fun us v => [], fun us v => [], fun us v => [], fun us v => [], fun us v => []]) mixed rfl rfl (by kernel_rfl) ?_ ?_
  ·refine pC (fun vals R hpZ => ?_) ?_
   ·refine XG.op (XOp.loadN [arv] isAgg26 sizeOf26 rfl rfl (Rd.ownN [] rfl rfl) ?_)
    exact ⟨rfl, rfl, rfl⟩
   refine pC (fun vals R hpZ => ?_) ?_
   ·refine XG.op (XOp.move (tv) rfl ?_)
    exact ⟨rfl, rfl, rfl⟩
   refine pC (fun vals R hpZ => ?_) ?_
   ·refine XG.op (XOp.move (.int .i64 ((p : Int))) rfl ?_)
    exact ⟨rfl, rfl, rfl⟩
   refine pC (fun vals R hpZ => ?_) ?_
   ·rw [eS (l := [(1, tv), (2, (.int .i64 ((p : Int)) : Value))]) ⟨hpZ 1 (by decide), hpZ 2 (by decide), trivial⟩]
    refine XG.op (XOp.indexS (v := tv) (i := (p : Int)) (n := (t).length) p runUnderlying24 sizeOf2 rfl rfl rfl ht.slv (by omega) (Nat.mul_one _) ?_)
    exact ⟨rfl, rfl, rfl⟩
   refine pC (fun vals R hpZ => ?_) ?_
   ·rw [eS (l := [(3, (.pointer (some (elemA tv (p))) : Value))]) ⟨hpZ 3 (by decide), trivial⟩]
    refine XG.op (XOp.load1 (v := .int .i64 (t.getD p 0)) isAgg2 rfl (ht.rd (by omega)) ?_)
    exact ⟨rfl, rfl, rfl⟩
   exact stepsP.nil
  intro vals hphi
  rw [eS (l := [(0, (.agg #[arv] : Value)), (4, (.int .i64 (t.getD p 0) : Value))]) ⟨(hphi 0 (by decide)), (hphi 4 (by decide)), trivial⟩]
  show XL _ _ _ _ _ _ _ (cellsH b1 [arv] 26 :: L)
  refine cX (XOp.call (args := [.agg #[arv], .int .i64 (t.getD p 0)]) call187 rfl (l1Arity_spec (n := t.getD p 0) har (hla := (by first | assumption | rfl | omega | simp))) ?_)
  rintro _ _ _ _ ⟨rfl, rfl, rfl⟩
  refine XL.as (.int .i64 (sArity ar (t.getD p 0))) rfl ?_
  refine XL.nil (X.seq (X.seq (X.region ?_)))
  refine XL.mv (.int .i64 (sArity ar (t.getD p 0))) rfl ?_
  refine cX (XOp.lss (a := sArity ar (t.getD p 0)) (b := 0) rfl rfl ?_)
  refine XL.nil ?_
  refine X.condD (p := (sArity ar (t.getD p 0) : Int) < 0) rfl (fun h2 => ?_) (fun h2 => ?_)
  ·rw [sArity_neg hs] at h2
   refine X.seq (X.region ?_)
   refine XL.as (.int .i64 (-1)) rfl ?_
   refine XL.nil ?_
   refine X.ret (thenQ_ret (blockQ_ret (thenQ_ret (thenQ_ret (blockQ_ret (thenQ_ret (retEnd (L' := L) [.int .i64 (-1)] (.int .i64 (-1)) (.tmp rfl .nil) rfl rF rF (sD sR) ?_)))))))
   exact ⟨(vI (by unfold sEndZ; rw [hi, sEndGo_none (by omega) (by omega)]; rfl)), rfl, rfl⟩
  have hA : -24 ≤ t.getD p 0 ∧ t.getD p 0 < ar.length := by rw [sArity_neg hs] at h2; omega
  have hB := arity_le hs hA.2
  have hC := sArity_eq hA
  refine X.skip (X.seq (X.region ?_))
  refine XL.mv (.int .i64 ((k : Int))) rfl ?_
  refine XL.mv (.int .i64 (sArity ar (t.getD p 0))) rfl ?_
  refine cX (XOp.addR (a := (k : Int)) (b := sArity ar (t.getD p 0)) (((k + (arity ar (t.getD p 0)).toNat : Nat) : Int)) rfl rfl (by omega) (by omega) ?_)
  refine cX (XOp.subR (a := ((k + (arity ar (t.getD p 0)).toNat : Nat) : Int)) (b := 1) (((k - 1 + (arity ar (t.getD p 0)).toNat : Nat) : Int)) rfl rfl (by omega) (by omega) ?_)
  refine XL.as (.int .i64 (((k - 1 + (arity ar (t.getD p 0)).toNat : Nat) : Int))) rfl ?_
  refine XL.nil (X.seq (X.region ?_))
  refine XL.mv (.int .i64 (((k - 1 + (arity ar (t.getD p 0)).toNat : Nat) : Int))) rfl ?_
  refine cX (XOp.eql (a := ((k - 1 + (arity ar (t.getD p 0)).toNat : Nat) : Int)) (b := 0) rfl rfl ?_)
  refine XL.nil ?_
  refine X.condD (p := (((k - 1 + (arity ar (t.getD p 0)).toNat : Nat) : Int) : Int) = 0) rfl (fun h3 => ?_) (fun h3 => ?_)
  ·refine X.seq (X.region ?_)
   refine XL.mv (.int .i64 ((p : Int))) rfl ?_
   refine cX (XOp.addR (a := (p : Int)) (b := 1) (((p + 1 : Nat) : Int)) rfl rfl (by omega) (by omega) ?_)
   refine XL.as (.int .i64 (((p + 1 : Nat) : Int))) rfl ?_
   refine XL.nil ?_
   refine X.ret (blockQ_ret (thenQ_ret (thenQ_ret (blockQ_ret (thenQ_ret (retEnd (L' := L) [.int .i64 (((p + 1 : Nat) : Int))] (.int .i64 (((p + 1 : Nat) : Int))) (.tmp rfl .nil) rfl rF rF (sD sR) ?_))))))
   exact ⟨(vI (by have hz := sEndGo_step (ar := ar) (t := t) (p := p) (k := k) (by omega) (by omega) hA; rw [show k - 1 + (arity ar (t.getD p 0)).toNat = 0 from by omega] at hz; unfold sEndZ; rw [hi, hz]; simp [sEndGo]; omega)), rfl, rfl⟩
  refine X.skip (X.region ?_)
  refine XL.mv (.int .i64 ((p : Int))) rfl ?_
  refine cX (XOp.addR (a := (p : Int)) (b := 1) (((p + 1 : Nat) : Int)) rfl rfl (by omega) (by omega) ?_)
  refine XL.as (.int .i64 (((p + 1 : Nat) : Int))) rfl ?_
  refine XL.nil ?_
  exact ⟨(k - 1 + (arity ar (t.getD p 0)).toNat, p + 1), _, FLe.refl _, rF, ⟨rfl, rfl, rfl, rfl, trivial⟩, (sC sR), ⟨rfl, (by rw [hi, sEndGo_step (by omega) (by omega) (by omega), Option.map_map]; congr 1; funext e; simp; omega), (by omega), (by omega)⟩, (by omega)⟩
 refine X.exit (thenQ_exit (thenQ_exit (blockQ_exit ?_)))
 refine X.seq (X.region ?_)
 refine XL.as (.int .i64 (-1)) rfl ?_
 refine XL.nil ?_
 refine X.ret (retEnd (L' := L) [.int .i64 (-1)] (.int .i64 (-1)) (.tmp rfl .nil) rfl rF rF (sD sR) ?_)
 exact ⟨(vI (by unfold sEndZ; rw [hi, sEndGo_none (by omega) (by omega)]; rfl)), rfl, rfl⟩

/- impl.TermOk -/
theorem TermOk_spec {F : FH} {L : List HP} {arv : Value} {ar : List Int} (har : IntsF F arv ar) {tv : Value} {t : List Int} (ht : IntsF F tv t) :
    Does prog 58 [.agg #[arv], tv] F (L) (fun v F' L' => (.bool (termOk ar t) : Value) = v ∧ F = F' ∧ L = L') := by
 refine Does.of_X func58 rfl rfl rfl ?_
 refine X.seq (X.region ?_)
 refine cX (XOp.box [arv] rfl rfl ?_)
 intro b1
 refine XL.as (.bool (false)) rfl ?_
 refine XL.nil (X.seq (X.region ?_))
 refine cX (XOp.loadN [arv] isAgg26 sizeOf26 rfl rfl (Rd.ownN [] rfl rfl) ?_)
 refine cX (XOp.call (args := [.agg #[arv]]) call114 rfl (SigOk_spec har) ?_)
 rintro _ _ _ _ ⟨rfl, rfl, rfl⟩
 refine XL.mv (.bool (sigOk ar)) rfl ?_
 by_cases h1 : (sigOk ar) = true
 ·refine XL.yes (t := 7) rfl (vB h1) (XOp.move (tv) rfl ?_)
  refine XL.yes (t := 7) rfl (vB h1) (XOp.lenS (v := tv) (n := (t).length) runUnderlying24 rfl ht.slv ?_)
  refine XL.yes (t := 7) rfl (vB h1) (XOp.gtr (a := (t.length : Int)) (b := 0) rfl rfl ?_)
  refine cX (XOp.pickT (.bool (decide (((t.length : Int) : Int) > 0))) (vB h1) rfl ?_)
  refine XL.mv (.bool (decide (((t.length : Int) : Int) > 0))) rfl ?_
  by_cases h2 : ((t.length : Int) : Int) > 0
  ·refine XL.yes (t := 12) rfl (vT h2) (XOp.move (tv) rfl ?_)
   refine XL.yes (t := 12) rfl (vT h2) (XOp.lenS (v := tv) (n := (t).length) runUnderlying24 rfl ht.slv ?_)
   refine XL.yes (t := 12) rfl (vT h2) (XOp.leq (a := (t.length : Int)) (b := 60) rfl rfl ?_)
   refine cX (XOp.pickT (.bool (decide (((t.length : Int) : Int) ≤ 60))) (vT h2) rfl ?_)
   refine XL.mv (.bool (decide (((t.length : Int) : Int) ≤ 60))) rfl ?_
   by_cases h3 : ((t.length : Int) : Int) ≤ 60
   ·refine XL.yes (t := 17) rfl (vT h3) (XOp.move (tv) rfl ?_)
    refine XL.yes (t := 17) rfl (vT h3) (XOp.call (args := [tv]) call117 rfl (Min_spec ht (h1 := (by first | assumption | rfl | omega | simp)) (hbd := (by first | assumption | rfl | omega | simp))) ?_)
    rintro _ _ _ _ ⟨rfl, rfl, rfl⟩
    refine XL.yes (t := 17) rfl (vT h3) (XOp.geq (a := minL t) (b := -24) rfl rfl ?_)
    refine cX (XOp.pickT (.bool (decide ((minL t : Int) ≥ -24))) (vT h3) rfl ?_)
    refine XL.mv (.bool (decide ((minL t : Int) ≥ -24))) rfl ?_
    by_cases h4 : (minL t : Int) ≥ -24
    ·refine XL.yes (t := 22) rfl (vT h4) (XOp.loadN [arv] isAgg26 sizeOf26 rfl rfl (Rd.ownN [] rfl rfl) ?_)
     refine XL.yes (t := 22) rfl (vT h4) (XOp.move (tv) rfl ?_)
     refine XL.yes (t := 22) rfl (vT h4) (XOp.call (args := [.agg #[arv], tv, .int .i64 ((0 : Nat) : Int)]) call118 rfl (endAt_spec (p := 0) har ht (hs := (by first | assumption | rfl | omega | simp)) (hb := (by first | assumption | rfl | omega | simp)) (hp := (by first | assumption | rfl | omega | simp))) ?_)
     rintro _ _ _ _ ⟨rfl, rfl, rfl⟩
     refine XL.yes (t := 22) rfl (vT h4) (XOp.move (tv) rfl ?_)
     refine XL.yes (t := 22) rfl (vT h4) (XOp.lenS (v := tv) (n := (t).length) runUnderlying24 rfl ht.slv ?_)
     refine XL.yes (t := 22) rfl (vT h4) (XOp.eql (a := endZ ar t 0) (b := (t.length : Int)) rfl rfl ?_)
     refine cX (XOp.pickT (.bool (decide ((endZ ar t 0 : Int) = (t.length : Int)))) (vT h4) rfl ?_)
     refine XL.as (.bool (decide ((endZ ar t 0 : Int) = (t.length : Int)))) rfl ?_
     refine XL.nil ?_
     refine X.ret (retEnd (L' := L) [.bool (decide ((endZ ar t 0 : Int) = (t.length : Int)))] (.bool (decide ((endZ ar t 0 : Int) = (t.length : Int)))) (.tmp rfl .nil) rfl rF rF (sD sR) ?_)
     exact ⟨(vB (termOk_of (by assumption) (by omega) (by omega) (by omega))), rfl, rfl⟩
    refine XL.no (t := 22) rfl (vF h4) ?_
    refine XL.no (t := 22) rfl (vF h4) ?_
    refine XL.no (t := 22) rfl (vF h4) ?_
    refine XL.no (t := 22) rfl (vF h4) ?_
    refine XL.no (t := 22) rfl (vF h4) ?_
    refine XL.no (t := 22) rfl (vF h4) ?_
    refine cX (XOp.pickF (.bool (false)) (vF h4) rfl ?_)
    refine XL.as (.bool (false)) rfl ?_
    refine XL.nil ?_
    refine X.ret (retEnd (L' := L) [.bool (false)] (.bool (false)) (.tmp rfl .nil) rfl rF rF (sD sR) ?_)
    exact ⟨(vB (by first | (refine termOk_nosig ?_; assumption) | (refine termOk_short ?_; omega) | (refine termOk_min ?_ ?_ <;> omega))), rfl, rfl⟩
   refine XL.no (t := 17) rfl (vF h3) ?_
   refine XL.no (t := 17) rfl (vF h3) ?_
   refine XL.no (t := 17) rfl (vF h3) ?_
   refine cX (XOp.pickF (.bool (false)) (vF h3) rfl ?_)
   refine XL.mv (.bool (false)) rfl ?_
   refine XL.no (t := 22) rfl rfl ?_
   refine XL.no (t := 22) rfl rfl ?_
   refine XL.no (t := 22) rfl rfl ?_
   refine XL.no (t := 22) rfl rfl ?_
   refine XL.no (t := 22) rfl rfl ?_
   refine XL.no (t := 22) rfl rfl ?_
   refine cX (XOp.pickF (.bool (false)) rfl rfl ?_)
   refine XL.as (.bool (false)) rfl ?_
   refine XL.nil ?_
   refine X.ret (retEnd (L' := L) [.bool (false)] (.bool (false)) (.tmp rfl .nil) rfl rF rF (sD sR) ?_)
   exact ⟨(vB (by first | (refine termOk_nosig ?_; assumption) | (refine termOk_short ?_; omega) | (refine termOk_min ?_ ?_ <;> omega))), rfl, rfl⟩
  refine XL.no (t := 12) rfl (vF h2) ?_
  refine XL.no (t := 12) rfl (vF h2) ?_
  refine XL.no (t := 12) rfl (vF h2) ?_
  refine cX (XOp.pickF (.bool (false)) (vF h2) rfl ?_)
  refine XL.mv (.bool (false)) rfl ?_
  refine XL.no (t := 17) rfl rfl ?_
  refine XL.no (t := 17) rfl rfl ?_
  refine XL.no (t := 17) rfl rfl ?_
  refine cX (XOp.pickF (.bool (false)) rfl rfl ?_)
  refine XL.mv (.bool (false)) rfl ?_
  refine XL.no (t := 22) rfl rfl ?_
  refine XL.no (t := 22) rfl rfl ?_
  refine XL.no (t := 22) rfl rfl ?_
  refine XL.no (t := 22) rfl rfl ?_
  refine XL.no (t := 22) rfl rfl ?_
  refine XL.no (t := 22) rfl rfl ?_
  refine cX (XOp.pickF (.bool (false)) rfl rfl ?_)
  refine XL.as (.bool (false)) rfl ?_
  refine XL.nil ?_
  refine X.ret (retEnd (L' := L) [.bool (false)] (.bool (false)) (.tmp rfl .nil) rfl rF rF (sD sR) ?_)
  exact ⟨(vB (by first | (refine termOk_nosig ?_; assumption) | (refine termOk_short ?_; omega) | (refine termOk_min ?_ ?_ <;> omega))), rfl, rfl⟩
 rw [Bool.not_eq_true] at h1
 refine XL.no (t := 7) rfl (vB h1) ?_
 refine XL.no (t := 7) rfl (vB h1) ?_
 refine XL.no (t := 7) rfl (vB h1) ?_
 refine cX (XOp.pickF (.bool (false)) (vB h1) rfl ?_)
 refine XL.mv (.bool (false)) rfl ?_
 refine XL.no (t := 12) rfl rfl ?_
 refine XL.no (t := 12) rfl rfl ?_
 refine XL.no (t := 12) rfl rfl ?_
 refine cX (XOp.pickF (.bool (false)) rfl rfl ?_)
 refine XL.mv (.bool (false)) rfl ?_
 refine XL.no (t := 17) rfl rfl ?_
 refine XL.no (t := 17) rfl rfl ?_
 refine XL.no (t := 17) rfl rfl ?_
 refine cX (XOp.pickF (.bool (false)) rfl rfl ?_)
 refine XL.mv (.bool (false)) rfl ?_
 refine XL.no (t := 22) rfl rfl ?_
 refine XL.no (t := 22) rfl rfl ?_
 refine XL.no (t := 22) rfl rfl ?_
 refine XL.no (t := 22) rfl rfl ?_
 refine XL.no (t := 22) rfl rfl ?_
 refine XL.no (t := 22) rfl rfl ?_
 refine cX (XOp.pickF (.bool (false)) rfl rfl ?_)
 refine XL.as (.bool (false)) rfl ?_
 refine XL.nil ?_
 refine X.ret (retEnd (L' := L) [.bool (false)] (.bool (false)) (.tmp rfl .nil) rfl rF rF (sD sR) ?_)
 exact ⟨(vB (by first | (refine termOk_nosig ?_; assumption) | (refine termOk_short ?_; omega) | (refine termOk_min ?_ ?_ <;> omega))), rfl, rfl⟩

/- impl.posOk -/
theorem posOk_spec {F : FH} {L : List HP} {arv : Value} {ar : List Int} (har : IntsF F arv ar) {tv : Value} {t : List Int} (ht : IntsF F tv t) {n : Int} :
    Does prog 137 [.agg #[arv], tv, .int .i64 (n)] F (L) (fun v F' L' => (.bool (posOk ar t n) : Value) = v ∧ F = F' ∧ L = L') := by
 refine Does.of_X func137 rfl rfl rfl ?_
 refine X.seq (X.region ?_)
 refine cX (XOp.box [arv] rfl rfl ?_)
 intro b1
 refine XL.as (.bool (false)) rfl ?_
 refine XL.nil (X.seq (X.region ?_))
 refine cX (XOp.loadN [arv] isAgg26 sizeOf26 rfl rfl (Rd.ownN [] rfl rfl) ?_)
 refine XL.mv (tv) rfl ?_
 refine cX (XOp.call (args := [.agg #[arv], tv]) call58 rfl (TermOk_spec har ht) ?_)
 rintro _ _ _ _ ⟨rfl, rfl, rfl⟩
 refine XL.mv (.bool (termOk ar t)) rfl ?_
 by_cases h1 : (termOk ar t) = true
 ·refine XL.yes (t := 10) rfl (vB h1) (XOp.move (.int .i64 (n)) rfl ?_)
  refine XL.yes (t := 10) rfl (vB h1) (XOp.geq (a := n) (b := 0) rfl rfl ?_)
  refine cX (XOp.pickT (.bool (decide ((n : Int) ≥ 0))) (vB h1) rfl ?_)
  refine XL.mv (.bool (decide ((n : Int) ≥ 0))) rfl ?_
  by_cases h2 : (n : Int) ≥ 0
  ·refine XL.yes (t := 14) rfl (vT h2) (XOp.move (.int .i64 (n)) rfl ?_)
   refine XL.yes (t := 14) rfl (vT h2) (XOp.move (tv) rfl ?_)
   refine XL.yes (t := 14) rfl (vT h2) (XOp.lenS (v := tv) (n := (t).length) runUnderlying24 rfl ht.slv ?_)
   refine XL.yes (t := 14) rfl (vT h2) (XOp.lss (a := n) (b := (t.length : Int)) rfl rfl ?_)
   refine cX (XOp.pickT (.bool (decide ((n : Int) < (t.length : Int)))) (vT h2) rfl ?_)
   refine XL.as (.bool (decide ((n : Int) < (t.length : Int)))) rfl ?_
   refine XL.nil ?_
   refine X.ret (retEnd (L' := L) [.bool (decide ((n : Int) < (t.length : Int)))] (.bool (decide ((n : Int) < (t.length : Int)))) (.tmp rfl .nil) rfl rF rF (sD sR) ?_)
   exact ⟨((by unfold posOk; congr 1; rw [h1, Bool.true_and]; exact decide_eq_decide.2 (by omega))), rfl, rfl⟩
  refine XL.no (t := 14) rfl (vF h2) ?_
  refine XL.no (t := 14) rfl (vF h2) ?_
  refine XL.no (t := 14) rfl (vF h2) ?_
  refine XL.no (t := 14) rfl (vF h2) ?_
  refine cX (XOp.pickF (.bool (false)) (vF h2) rfl ?_)
  refine XL.as (.bool (false)) rfl ?_
  refine XL.nil ?_
  refine X.ret (retEnd (L' := L) [.bool (false)] (.bool (false)) (.tmp rfl .nil) rfl rF rF (sD sR) ?_)
  exact ⟨((by unfold posOk; simp_all <;> omega)), rfl, rfl⟩
 rw [Bool.not_eq_true] at h1
 refine XL.no (t := 10) rfl (vB h1) ?_
 refine XL.no (t := 10) rfl (vB h1) ?_
 refine cX (XOp.pickF (.bool (false)) (vB h1) rfl ?_)
 refine XL.mv (.bool (false)) rfl ?_
 refine XL.no (t := 14) rfl rfl ?_
 refine XL.no (t := 14) rfl rfl ?_
 refine XL.no (t := 14) rfl rfl ?_
 refine XL.no (t := 14) rfl rfl ?_
 refine cX (XOp.pickF (.bool (false)) rfl rfl ?_)
 refine XL.as (.bool (false)) rfl ?_
 refine XL.nil ?_
 refine X.ret (retEnd (L' := L) [.bool (false)] (.bool (false)) (.tmp rfl .nil) rfl rF rF (sD sR) ?_)
 exact ⟨((by unfold posOk; simp_all <;> omega)), rfl, rfl⟩

/- spec.TermOk -/
theorem sTermOk_spec {F : FH} {L : List HP} {arv : Value} {ar : List Int} (har : IntsF F arv ar) {tv : Value} {t : List Int} (ht : IntsF F tv t) (hla : ar.length ≤ 4000000) (hlt : t.length ≤ 4000000) :
    Does prog 82 [.agg #[arv], tv] F (L) (fun v F' L' => (.bool (termOk ar t) : Value) = v ∧ F = F' ∧ L = L') := by
 refine Does.of_X func82 rfl rfl rfl ?_
 refine X.seq (X.region ?_)
 refine cX (XOp.box [arv] rfl rfl ?_)
 intro b1
 refine XL.as (.bool (false)) rfl ?_
 refine XL.nil (X.seq (X.region ?_))
 refine cX (XOp.loadN [arv] isAgg26 sizeOf26 rfl rfl (Rd.ownN [] rfl rfl) ?_)
 refine cX (XOp.call (args := [.agg #[arv]]) call141 rfl (sSigOk_spec har (hla := (by first | assumption | rfl | omega | simp))) ?_)
 rintro _ _ _ _ ⟨rfl, rfl, rfl⟩
 refine XL.mv (.bool (sigOk ar)) rfl ?_
 by_cases h1 : (sigOk ar) = true
 ·refine XL.yes (t := 7) rfl (vB h1) (XOp.move (tv) rfl ?_)
  refine XL.yes (t := 7) rfl (vB h1) (XOp.lenS (v := tv) (n := (t).length) runUnderlying24 rfl ht.slv ?_)
  refine XL.yes (t := 7) rfl (vB h1) (XOp.call (args := [.int .i64 ((t.length : Int)), .int .i64 (1), .int .i64 (60)]) call51 rfl (l1In_spec (n := (t.length : Int)) (a := 1) (b := 60)) ?_)
  rintro _ _ _ _ ⟨rfl, rfl, rfl⟩
  refine cX (XOp.pickT (.bool (decide (1 ≤ ((t.length : Int)) ∧ ((t.length : Int)) ≤ 60))) (vB h1) rfl ?_)
  refine XL.mv (.bool (decide (1 ≤ ((t.length : Int)) ∧ ((t.length : Int)) ≤ 60))) rfl ?_
  by_cases h2 : 1 ≤ ((t.length : Int)) ∧ ((t.length : Int)) ≤ 60
  ·refine XL.yes (t := 12) rfl (vT h2) (XOp.loadN [arv] isAgg26 sizeOf26 rfl rfl (Rd.ownN [] rfl rfl) ?_)
   refine XL.yes (t := 12) rfl (vT h2) (XOp.move (tv) rfl ?_)
   refine XL.yes (t := 12) rfl (vT h2) (XOp.call (args := [.agg #[arv], tv, .int .i64 ((0 : Nat) : Int)]) call143 rfl (l1End_spec (p0 := 0) har ht (hs := (by first | assumption | rfl | omega | simp)) (hlt := (by first | assumption | rfl | omega | simp)) (hp := (by first | assumption | rfl | omega | simp))) ?_)
   rintro _ _ _ _ ⟨rfl, rfl, rfl⟩
   refine XL.yes (t := 12) rfl (vT h2) (XOp.move (tv) rfl ?_)
   refine XL.yes (t := 12) rfl (vT h2) (XOp.lenS (v := tv) (n := (t).length) runUnderlying24 rfl ht.slv ?_)
   refine XL.yes (t := 12) rfl (vT h2) (XOp.eql (a := sEndZ ar t 0) (b := (t.length : Int)) rfl rfl ?_)
   refine cX (XOp.pickT (.bool (decide ((sEndZ ar t 0 : Int) = (t.length : Int)))) (vT h2) rfl ?_)
   refine XL.as (.bool (decide ((sEndZ ar t 0 : Int) = (t.length : Int)))) rfl ?_
   refine XL.nil ?_
   refine X.ret (retEnd (L' := L) [.bool (decide ((sEndZ ar t 0 : Int) = (t.length : Int)))] (.bool (decide ((sEndZ ar t 0 : Int) = (t.length : Int)))) (.tmp rfl .nil) rfl rF rF (sD sR) ?_)
   exact ⟨(vB (termOk_s (by assumption) (by omega))), rfl, rfl⟩
  refine XL.no (t := 12) rfl (vF h2) ?_
  refine XL.no (t := 12) rfl (vF h2) ?_
  refine XL.no (t := 12) rfl (vF h2) ?_
  refine XL.no (t := 12) rfl (vF h2) ?_
  refine XL.no (t := 12) rfl (vF h2) ?_
  refine XL.no (t := 12) rfl (vF h2) ?_
  refine cX (XOp.pickF (.bool (false)) (vF h2) rfl ?_)
  refine XL.as (.bool (false)) rfl ?_
  refine XL.nil ?_
  refine X.ret (retEnd (L' := L) [.bool (false)] (.bool (false)) (.tmp rfl .nil) rfl rF rF (sD sR) ?_)
  exact ⟨(vB (by first | (refine termOk_nosig ?_; assumption) | (refine termOk_short ?_; omega))), rfl, rfl⟩
 rw [Bool.not_eq_true] at h1
 refine XL.no (t := 7) rfl (vB h1) ?_
 refine XL.no (t := 7) rfl (vB h1) ?_
 refine XL.no (t := 7) rfl (vB h1) ?_
 refine cX (XOp.pickF (.bool (false)) (vB h1) rfl ?_)
 refine XL.mv (.bool (false)) rfl ?_
 refine XL.no (t := 12) rfl rfl ?_
 refine XL.no (t := 12) rfl rfl ?_
 refine XL.no (t := 12) rfl rfl ?_
 refine XL.no (t := 12) rfl rfl ?_
 refine XL.no (t := 12) rfl rfl ?_
 refine XL.no (t := 12) rfl rfl ?_
 refine cX (XOp.pickF (.bool (false)) rfl rfl ?_)
 refine XL.as (.bool (false)) rfl ?_
 refine XL.nil ?_
 refine X.ret (retEnd (L' := L) [.bool (false)] (.bool (false)) (.tmp rfl .nil) rfl rF rF (sD sR) ?_)
 exact ⟨(vB (by first | (refine termOk_nosig ?_; assumption) | (refine termOk_short ?_; omega))), rfl, rfl⟩

theorem endAt_ok {F : FH} {L : List HP} {p : Nat} {arv : Value} {ar : List Int} (har : IntsF F arv ar) {tv : Value} {t : List Int} (ht : IntsF F tv t) (ho : termOk ar t = true) (hp : p < t.length) :
    Does prog 118 [.agg #[arv], tv, .int .i64 (p : Int)] F L (fun v F' L' => (.int .i64 ((endN ar t p : Nat) : Int) : Value) = v ∧ F = F' ∧ L = L') := by
  have hl := termOk_len ho
  have h := endAt_spec (F := F) (L := L) (p := p) har ht (termOk_sig ho) (by omega) (by omega)
  rw [endZ_endN ho hp] at h
  exact h

theorem l1End_ok {F : FH} {L : List HP} {p : Nat} {arv : Value} {ar : List Int} (har : IntsF F arv ar) {tv : Value} {t : List Int} (ht : IntsF F tv t) (ho : termOk ar t = true) (hp : p < t.length) :
    Does prog 143 [.agg #[arv], tv, .int .i64 (p : Int)] F L (fun v F' L' => (.int .i64 ((endN ar t p : Nat) : Int) : Value) = v ∧ F = F' ∧ L = L') := by
  have hl := termOk_len ho
  have h := l1End_spec (F := F) (L := L) (p0 := p) har ht (termOk_sig ho) (by omega) (by omega)
  rw [sEndZ_endN ho hp] at h
  exact h

end Go.Proofs.YtmaaifhmhclhdaaGreat
set_option linter.unusedSimpArgs false
set_option linter.unusedVariables false
namespace Go.Proofs.YtmaaifhmhclhdaaGreat
open Go X M Tryz

/- impl.inside -/
theorem inside_spec {F : FH} {L : List HP} {arv : Value} {ar : List Int} (har : IntsF F arv ar) {tv : Value} {t : List Int} (ht : IntsF F tv t) {p : Nat} {q : Int} (ho : termOk ar t = true) (hp : p < t.length) :
    Does prog 209 [.agg #[arv], tv, .int .i64 ((p : Int)), .int .i64 (q)] F (L) (fun v F' L' => (.bool (decide ((p : Int) ≤ q ∧ q < (endN ar t p : Int))) : Value) = v ∧ F = F' ∧ L = L') := by
 refine Does.of_X func209 rfl rfl rfl ?_
 have hsl := sigOk_spec (termOk_sig ho)
 have htl := termOk_len ho
 have hsig := termOk_sig ho
 refine X.seq (X.region ?_)
 refine cX (XOp.box [arv] rfl rfl ?_)
 intro b1
 refine XL.as (.bool (false)) rfl ?_
 refine XL.nil (X.seq (X.region ?_))
 refine XL.mv (.int .i64 (q)) rfl ?_
 refine XL.mv (.int .i64 ((p : Int))) rfl ?_
 refine cX (XOp.geq (a := q) (b := (p : Int)) rfl rfl ?_)
 refine XL.mv (.bool (decide ((q : Int) ≥ (p : Int)))) rfl ?_
 by_cases h1 : (q : Int) ≥ (p : Int)
 ·refine XL.yes (t := 12) rfl (vT h1) (XOp.move (.int .i64 (q)) rfl ?_)
  refine XL.yes (t := 12) rfl (vT h1) (XOp.loadN [arv] isAgg26 sizeOf26 rfl rfl (Rd.ownN [] rfl rfl) ?_)
  refine XL.yes (t := 12) rfl (vT h1) (XOp.move (tv) rfl ?_)
  refine XL.yes (t := 12) rfl (vT h1) (XOp.move (.int .i64 ((p : Int))) rfl ?_)
  refine XL.yes (t := 12) rfl (vT h1) (XOp.call (args := [.agg #[arv], tv, .int .i64 (p : Int)]) call118 rfl (endAt_ok (p := p) har ht (ho := (by first | assumption | rfl | omega | (left; simp; done) | (right; simp; done))) (hp := (by first | assumption | rfl | omega | (left; simp; done) | (right; simp; done)))) ?_)
  rintro _ _ _ _ ⟨rfl, rfl, rfl⟩
  refine XL.yes (t := 12) rfl (vT h1) (XOp.lss (a := q) (b := ((endN ar t p : Nat) : Int)) rfl rfl ?_)
  refine cX (XOp.pickT (.bool (decide ((q : Int) < ((endN ar t p : Nat) : Int)))) (vT h1) rfl ?_)
  refine XL.as (.bool (decide ((q : Int) < ((endN ar t p : Nat) : Int)))) rfl ?_
  refine XL.nil ?_
  refine X.ret (retEnd (L' := L) [.bool (decide ((q : Int) < ((endN ar t p : Nat) : Int)))] (.bool (decide ((q : Int) < ((endN ar t p : Nat) : Int)))) (.tmp rfl .nil) rfl rF rF (sD sR) ?_)
  exact ⟨(vB (decide_eq_decide.2 (by omega))), rfl, rfl⟩
 refine XL.no (t := 12) rfl (vF h1) ?_
 refine XL.no (t := 12) rfl (vF h1) ?_
 refine XL.no (t := 12) rfl (vF h1) ?_
 refine XL.no (t := 12) rfl (vF h1) ?_
 refine XL.no (t := 12) rfl (vF h1) ?_
 refine XL.no (t := 12) rfl (vF h1) ?_
 refine cX (XOp.pickF (.bool (false)) (vF h1) rfl ?_)
 refine XL.as (.bool (false)) rfl ?_
 refine XL.nil ?_
 refine X.ret (retEnd (L' := L) [.bool (false)] (.bool (false)) (.tmp rfl .nil) rfl rF rF (sD sR) ?_)
 exact ⟨(vB (decide_eq_false (by omega))), rfl, rfl⟩

/- impl.subAt -/
theorem subAt_spec {F : FH} {L : List HP} {arv : Value} {ar : List Int} (har : IntsF F arv ar) {tv : Value} {t : List Int} (ht : IntsF F tv t) {p : Nat} (ho : termOk ar t = true) (hp : p < t.length) (hnn : isNil tv = false) :
    Does prog 138 [.agg #[arv], tv, .int .i64 ((p : Int))] F (L) (fun v F' L' => F = F' ∧ L = L' ∧ IntsF F v (sub ar t p) ∧ isNil v = false) := by
 refine Does.of_X func138 rfl rfl rfl ?_
 have hsl := sigOk_spec (termOk_sig ho)
 have htl := termOk_len ho
 have hsig := termOk_sig ho
 have hee := endN_spec ho hp
 refine X.seq (X.region ?_)
 refine cX (XOp.box [arv] rfl rfl ?_)
 intro b1
 refine XL.as ((.slice none 0 0)) rfl ?_
 refine XL.nil (X.seq (X.region ?_))
 refine XL.mv (tv) rfl ?_
 refine XL.mv (.int .i64 ((p : Int))) rfl ?_
 refine cX (XOp.loadN [arv] isAgg26 sizeOf26 rfl rfl (Rd.ownN [] rfl rfl) ?_)
 refine XL.mv (tv) rfl ?_
 refine XL.mv (.int .i64 ((p : Int))) rfl ?_
 refine cX (XOp.call (args := [.agg #[arv], tv, .int .i64 (p : Int)]) call118 rfl (endAt_ok (p := p) har ht (ho := (by first | assumption | rfl | omega | (left; simp; done) | (right; simp; done))) (hp := (by first | assumption | rfl | omega | (left; simp; done) | (right; simp; done)))) ?_)
 rintro _ _ _ _ ⟨rfl, rfl, rfl⟩
 refine cX (XOp.sliceI p (endN ar t p) runUnderlying24 sizeOf2 rfl ht ⟨_, rfl⟩ ⟨_, rfl⟩ (by omega) (by omega) ?_)
 intro v1 hv1 hn1
 refine XL.as (v1) rfl ?_
 refine XL.nil ?_
 refine X.ret (retEnd (L' := L) [v1] (v1) (.tmp rfl .nil) rfl rF rF (sD sR) ?_)
 exact ⟨rfl, rfl, hv1, by rw [hn1]; exact hnn⟩

/- spec.l1Copy -/
theorem l1Copy_spec {F : FH} {L : List HP} {tv : Value} {t : List Int} (ht : IntsF F tv t) (hlt : t.length ≤ 4000000) :
    Does prog 52 [tv] F (L) (fun v F' L' => F = F' ∧ IsSl v ∧ intsH 2 v t :: L = L') := by
 refine Does.of_X func52 rfl rfl rfl ?_
 refine X.seq (X.region ?_)
 refine XL.as ((.slice none 0 0)) rfl ?_
 refine XL.nil (X.seq (X.region ?_))
 refine cX (XOp.buildSlice (s := 1) [] [.int .i64 (0)] [] runUnderlying24 sizeOf2 zeroValue2 rfl (by decide) rfl CellsAre.nil rfl ?_)
 intro v1 hv1
 refine XL.mv (tv) rfl ?_
 show XL _ _ _ _ _ _ _ (intsH 2 v1 ([] : List Int) :: L)
 refine cX (XOp.appendI [] _ runUnderlying24 typeInfo2 rfl rfl rfl rfl rfl rfl ht (by (try simp only [List.length_append, List.length_nil, List.length_cons, List.length_singleton, List.length_take, List.length_drop]); omega) ?_)
 intro v2 hs1 hn1 hm1
 refine XL.as (v2) rfl ?_
 refine XL.nil ?_
 refine X.ret (retEnd (L' := intsH 2 v2 (([] : List Int) ++ t) :: L) [v2] (v2) (.tmp rfl .nil) rfl rF rF (sC sR) ?_)
 refine ⟨rfl, hs1, ?_⟩
 have hxs : (t : List Int) = ([] : List Int) ++ t := by simp
 exact congrArg (fun z => intsH 2 _ z :: L) hxs

/- slices.Clone[[]int64,int64] -/
theorem Clone_spec {F : FH} {L : List HP} {tv : Value} {t : List Int} (ht : IntsF F tv t) (hlt : t.length ≤ 4000000) :
    Does prog 60 [tv] F (L) (fun v F' L' => F = F' ∧ IsSl v ∧ intsH 2 v t :: L = L') := by
 refine Does.of_X func60 rfl rfl rfl ?_
 refine X.seq (X.region ?_)
 refine XL.as ((.slice none 0 0)) rfl ?_
 refine XL.nil (X.seq (X.seq (X.region ?_)))
 refine XL.mv (tv) rfl ?_
 refine cX (XOp.eqNil (v := tv) runUnderlying24 rfl rfl (IntsF.isSl ht) ?_)
 refine XL.nil ?_
 refine X.cond (t := isNil tv) rfl (fun h1 => ?_) (fun h1 => ?_)
 ·refine X.seq (X.region ?_)
  refine XL.as ((.slice none 0 0)) rfl ?_
  refine XL.nil ?_
  refine X.ret (thenQ_ret (retEnd (L' := intsH 2 ((.slice none 0 0)) ([]) :: L) [(.slice none 0 0)] ((.slice none 0 0)) (.tmp rfl .nil) rfl rF rF (Sub.trans (intsH.addNil 2 none _) (sC sR)) ?_))
  refine ⟨rfl, ⟨_, _, _, rfl⟩, ?_⟩
  have hxs : (t : List Int) = [] := by exact nil_of_isNil ht h1
  exact congrArg (fun z => intsH 2 _ z :: L) hxs
 refine X.skip (X.seq (X.region ?_))
 refine cX (XOp.buildSlice (s := 1) [] [.int .i64 (0)] [] runUnderlying24 sizeOf2 zeroValue2 rfl (by decide) rfl CellsAre.nil rfl ?_)
 intro v1 hv1
 refine XL.mv (tv) rfl ?_
 show XL _ _ _ _ _ _ _ (intsH 2 v1 ([] : List Int) :: L)
 refine cX (XOp.appendI [] _ runUnderlying24 typeInfo2 rfl rfl rfl rfl rfl rfl ht (by (try simp only [List.length_append, List.length_nil, List.length_cons, List.length_singleton, List.length_take, List.length_drop]); omega) ?_)
 intro v2 hs1 hn1 hm1
 refine XL.as (v2) rfl ?_
 refine XL.nil ?_
 refine X.ret (retEnd (L' := intsH 2 v2 (([] : List Int) ++ t) :: L) [v2] (v2) (.tmp rfl .nil) rfl rF rF (sC sR) ?_)
 refine ⟨rfl, hs1, ?_⟩
 have hxs : (t : List Int) = ([] : List Int) ++ t := by simp
 exact congrArg (fun z => intsH 2 _ z :: L) hxs

/- spec.l1Sub -/
theorem l1Sub_spec {F : FH} {L : List HP} {arv : Value} {ar : List Int} (har : IntsF F arv ar) {tv : Value} {t : List Int} (ht : IntsF F tv t) {p : Nat} (ho : termOk ar t = true) (hp : p < t.length) :
    Does prog 110 [.agg #[arv], tv, .int .i64 ((p : Int))] F (L) (fun v F' L' => F = F' ∧ IsSl v ∧ intsH 2 v (sub ar t p) :: L = L') := by
 refine Does.of_X func110 rfl rfl rfl ?_
 have hsl := sigOk_spec (termOk_sig ho)
 have htl := termOk_len ho
 have hsig := termOk_sig ho
 have hee := endN_spec ho hp
 refine X.seq (X.region ?_)
 refine cX (XOp.box [arv] rfl rfl ?_)
 intro b1
 refine XL.as ((.slice none 0 0)) rfl ?_
 refine XL.nil (X.seq (X.region ?_))
 refine XL.mv (tv) rfl ?_
 refine XL.mv (.int .i64 ((p : Int))) rfl ?_
 refine cX (XOp.loadN [arv] isAgg26 sizeOf26 rfl rfl (Rd.ownN [] rfl rfl) ?_)
 refine XL.mv (tv) rfl ?_
 refine XL.mv (.int .i64 ((p : Int))) rfl ?_
 refine cX (XOp.call (args := [.agg #[arv], tv, .int .i64 (p : Int)]) call143 rfl (l1End_ok (p := p) har ht (ho := (by first | assumption | rfl | omega | (left; simp; done) | (right; simp; done))) (hp := (by first | assumption | rfl | omega | (left; simp; done) | (right; simp; done)))) ?_)
 rintro _ _ _ _ ⟨rfl, rfl, rfl⟩
 refine cX (XOp.sliceI p (endN ar t p) runUnderlying24 sizeOf2 rfl ht ⟨_, rfl⟩ ⟨_, rfl⟩ (by omega) (by omega) ?_)
 intro v1 hv1 hn1
 refine cX (XOp.call (args := [v1]) call52 rfl (l1Copy_spec hv1 (hlt := (by rw [List.length_take, List.length_drop]; omega))) ?_)
 rintro v2 _ _ _ ⟨rfl, hs1, rfl⟩
 refine XL.as (v2) rfl ?_
 refine XL.nil ?_
 refine X.ret (retEnd (L' := intsH 2 v2 (((((t.drop p).take ((endN ar t p) - p))))) :: L) [v2] (v2) (.tmp rfl .nil) rfl rF rF (sC (sD sR)) ?_)
 refine ⟨rfl, hs1, ?_⟩
 have hxs : (sub ar t p : List Int) = ((((t.drop p).take ((endN ar t p) - p)))) := rfl
 exact congrArg (fun z => intsH 2 _ z :: L) hxs

/- impl.RuleOk -/
theorem RuleOk_spec {F : FH} {L : List HP} {arv : Value} {ar : List Int} (har : IntsF F arv ar) {lv : Value} {l : List Int} (hl : IntsF F lv l) {rv : Value} {r : List Int} (hr : IntsF F rv r) :
    Does prog 115 [.agg #[arv], .agg #[lv, rv]] F (L) (fun v F' L' => (.bool (ruleOk ar l r) : Value) = v ∧ F = F' ∧ L = L') := by
 refine Does.of_X func115 rfl rfl rfl ?_
 refine X.seq (X.region ?_)
 refine cX (XOp.box [arv] rfl rfl ?_)
 intro b1
 refine cX (XOp.box [lv, rv] rfl rfl ?_)
 intro b2
 refine XL.as (.bool (false)) rfl ?_
 refine XL.nil (X.seq (X.seq (X.region ?_)))
 refine cX (XOp.loadN [arv] isAgg26 sizeOf26 rfl rfl (Rd.ownN [_] rfl rfl) ?_)
 refine cX (XOp.fieldP (b := b2) (0) runUnderlying117 rfl sizeOf24 (by decide) rfl rfl ?_)
 refine cX (XOp.load1 (v := lv) isAgg24 rfl (Rd.own [] rfl rfl) ?_)
 refine cX (XOp.call (args := [.agg #[arv], lv]) call58 rfl (TermOk_spec har hl) ?_)
 rintro _ _ _ _ ⟨rfl, rfl, rfl⟩
 refine cX (XOp.notB (b := termOk ar l) rfl ?_)
 refine XL.mv (.bool (!(termOk ar l))) rfl ?_
 by_cases h1 : (!(termOk ar l)) = true
 ·refine XL.no (t := 12) rfl (vB h1) ?_
  refine XL.no (t := 12) rfl (vB h1) ?_
  refine XL.no (t := 12) rfl (vB h1) ?_
  refine XL.no (t := 12) rfl (vB h1) ?_
  refine XL.no (t := 12) rfl (vB h1) ?_
  refine cX (XOp.pickT (.bool (true)) (vB h1) rfl ?_)
  refine XL.mv (.bool (true)) rfl ?_
  refine XL.no (t := 19) rfl rfl ?_
  refine XL.no (t := 19) rfl rfl ?_
  refine XL.no (t := 19) rfl rfl ?_
  refine XL.no (t := 19) rfl rfl ?_
  refine XL.no (t := 19) rfl rfl ?_
  refine cX (XOp.pickT (.bool (true)) rfl rfl ?_)
  refine XL.nil ?_
  refine X.condT rfl ?_
  refine X.seq (X.region ?_)
  refine XL.as (.bool (false)) rfl ?_
  refine XL.nil ?_
  refine X.ret (thenQ_ret (retEnd (L' := L) [.bool (false)] (.bool (false)) (.tmp rfl .nil) rfl rF rF (sD (sD sR)) ?_))
  exact ⟨(vB (ruleOk_false (fun h => by have := h.left; have := h.right; have := h.head; simp_all <;> omega))), rfl, rfl⟩
 rw [Bool.not_eq_true] at h1
 have hlo : termOk ar l = true := by simpa using h1
 have hl60 := termOk_len hlo
 refine XL.yes (t := 12) rfl (vB h1) (XOp.loadN [arv] isAgg26 sizeOf26 rfl rfl (Rd.ownN [_] rfl rfl) ?_)
 refine XL.yes (t := 12) rfl (vB h1) (XOp.fieldP (b := b2) (1) runUnderlying117 rfl sizeOf24 (by decide) rfl rfl ?_)
 refine XL.yes (t := 12) rfl (vB h1) (XOp.load1 (v := rv) isAgg24 rfl (Rd.own [] rfl rfl) ?_)
 refine XL.yes (t := 12) rfl (vB h1) (XOp.call (args := [.agg #[arv], rv]) call58 rfl (TermOk_spec har hr) ?_)
 rintro _ _ _ _ ⟨rfl, rfl, rfl⟩
 refine XL.yes (t := 12) rfl (vB h1) (XOp.notB (b := termOk ar r) rfl ?_)
 refine cX (XOp.pickF (.bool (!(termOk ar r))) (vB h1) rfl ?_)
 refine XL.mv (.bool (!(termOk ar r))) rfl ?_
 by_cases h2 : (!(termOk ar r)) = true
 ·refine XL.no (t := 19) rfl (vB h2) ?_
  refine XL.no (t := 19) rfl (vB h2) ?_
  refine XL.no (t := 19) rfl (vB h2) ?_
  refine XL.no (t := 19) rfl (vB h2) ?_
  refine XL.no (t := 19) rfl (vB h2) ?_
  refine cX (XOp.pickT (.bool (true)) (vB h2) rfl ?_)
  refine XL.nil ?_
  refine X.condT rfl ?_
  refine X.seq (X.region ?_)
  refine XL.as (.bool (false)) rfl ?_
  refine XL.nil ?_
  refine X.ret (thenQ_ret (retEnd (L' := L) [.bool (false)] (.bool (false)) (.tmp rfl .nil) rfl rF rF (sD (sD sR)) ?_))
  exact ⟨(vB (ruleOk_false (fun h => by have := h.left; have := h.right; have := h.head; simp_all <;> omega))), rfl, rfl⟩
 rw [Bool.not_eq_true] at h2
 have hro : termOk ar r = true := by simpa using h2
 have hr60 := termOk_len hro
 refine XL.yes (t := 19) rfl (vB h2) (XOp.fieldP (b := b2) (0) runUnderlying117 rfl sizeOf24 (by decide) rfl rfl ?_)
 refine XL.yes (t := 19) rfl (vB h2) (XOp.load1 (v := lv) isAgg24 rfl (Rd.own [] rfl rfl) ?_)
 refine XL.yes (t := 19) rfl (vB h2) (XOp.indexS (v := lv) (i := 0) (n := (l).length) 0 runUnderlying24 sizeOf2 rfl rfl rfl hl.slv (by omega) (Nat.mul_one _) ?_)
 refine XL.yes (t := 19) rfl (vB h2) (XOp.load1 (v := .int .i64 (l.getD 0 0)) isAgg2 rfl (hl.rd (by omega)) ?_)
 refine XL.yes (t := 19) rfl (vB h2) (XOp.lss (a := l.getD 0 0) (b := 0) rfl rfl ?_)
 refine cX (XOp.pickF (.bool (decide ((l.getD 0 0 : Int) < 0))) (vB h2) rfl ?_)
 refine XL.nil ?_
 refine X.condD (p := (l.getD 0 0 : Int) < 0) rfl (fun h3 => ?_) (fun h3 => ?_)
 ·refine X.seq (X.region ?_)
  refine XL.as (.bool (false)) rfl ?_
  refine XL.nil ?_
  refine X.ret (thenQ_ret (retEnd (L' := L) [.bool (false)] (.bool (false)) (.tmp rfl .nil) rfl rF rF (sD (sD sR)) ?_))
  exact ⟨(vB (ruleOk_false (fun h => by have := h.left; have := h.right; have := h.head; simp_all <;> omega))), rfl, rfl⟩
 refine X.skip (X.seq (X.seq (X.region ?_)))
 refine cX (XOp.fieldP (b := b2) (1) runUnderlying117 rfl sizeOf24 (by decide) rfl rfl ?_)
 refine cX (XOp.load1 (v := rv) isAgg24 rfl (Rd.own [] rfl rfl) ?_)
 refine cX (XOp.lenS (v := rv) (n := (r).length) runUnderlying24 rfl hr.slv ?_)
 refine XL.mv (.int .i64 (0)) rfl ?_
 refine XL.nil (X.block ?_)
 refine X.loop (α := Nat) (fun k => [(3, ptr b2 0), (27, rv), (28, .int .i64 ((r.length : Int))), (29, .int .i64 ((k : Int)))]) (fun k => cellsH b2 [lv, rv] 117 :: cellsH b1 [arv] 26 :: L) (fun k F' => F = F' ∧ (k ≤ r.length) ∧ (∀ i, i < k → r.getD i 0 < 0 → r.getD i 0 ∈ l)) (fun k => r.length - k) 0 ⟨rfl, rfl, rfl, rfl, trivial⟩ (sC (sC sR)) ⟨rfl, (by omega), (fun i hi => absurd hi (by omega))⟩ ?_
 rintro k rE _ _ ⟨rfl, hk, hall⟩
 show X _ _ _ _ (envs [(3, ptr b2 0), (27, rv), (28, .int .i64 ((r.length : Int))), (29, .int .i64 ((k : Int)))] rE) _ (cellsH b2 [lv, rv] 117 :: cellsH b1 [arv] 26 :: L)
 refine X.seq (X.region ?_)
 refine cX (XOp.lss (a := (k : Int)) (b := (r.length : Int)) rfl rfl ?_)
 refine XL.nil (X.seq ?_)
 refine X.condD (p := (k : Int) < (r.length : Int)) rfl (fun h4 => ?_) (fun h4 => ?_)
 ·refine X.skip (X.seq (X.block (X.seq (X.region ?_))))
  refine cX (XOp.indexS (v := rv) (i := (k : Int)) (n := (r).length) k runUnderlying24 sizeOf2 rfl rfl rfl hr.slv (by omega) (Nat.mul_one _) ?_)
  refine cX (XOp.load1 (v := .int .i64 (r.getD k 0)) isAgg2 rfl (hr.rd (by omega)) ?_)
  refine XL.as (.int .i64 (r.getD k 0)) rfl ?_
  refine XL.nil (X.seq (X.region ?_))
  refine XL.mv (.int .i64 (r.getD k 0)) rfl ?_
  refine cX (XOp.lss (a := r.getD k 0) (b := 0) rfl rfl ?_)
  refine XL.mv (.bool (decide ((r.getD k 0 : Int) < 0))) rfl ?_
  by_cases h5 : (r.getD k 0 : Int) < 0
  ·refine XL.yes (t := 35) rfl (vT h5) (XOp.fieldP (b := b2) (0) runUnderlying117 rfl sizeOf24 (by decide) rfl rfl ?_)
   refine XL.yes (t := 35) rfl (vT h5) (XOp.load1 (v := lv) isAgg24 rfl (Rd.own [] rfl rfl) ?_)
   refine XL.yes (t := 35) rfl (vT h5) (XOp.move (.int .i64 (r.getD k 0)) rfl ?_)
   refine XL.yes (t := 35) rfl (vT h5) (XOp.call (args := [lv, .int .i64 (r.getD k 0)]) call170 rfl (Contains_spec (n := r.getD k 0) hl (hbd := (by first | assumption | rfl | omega | simp))) ?_)
   rintro _ _ _ _ ⟨rfl, rfl, rfl⟩
   refine XL.yes (t := 35) rfl (vT h5) (XOp.notD (p := (r.getD k 0) ∈ l) rfl ?_)
   refine cX (XOp.pickT (.bool (decide (¬((r.getD k 0) ∈ l)))) (vT h5) rfl ?_)
   refine XL.nil ?_
   refine X.condD (p := ¬((r.getD k 0) ∈ l)) rfl (fun h6 => ?_) (fun h6 => ?_)
   ·refine X.seq (X.region ?_)
    refine XL.as (.bool (false)) rfl ?_
    refine XL.nil ?_
    refine X.ret (blockQ_ret (thenQ_ret (thenQ_ret (blockQ_ret (thenQ_ret (retEnd (L' := L) [.bool (false)] (.bool (false)) (.tmp rfl .nil) rfl rF rF (sD (sD sR)) ?_))))))
    exact ⟨(vB (ruleOk_false (fun h => by have := h.vars (r.getD k 0) (mem_of_getD (k := k) (by omega) rfl); simp_all))), rfl, rfl⟩
   refine X.skip (X.region ?_)
   refine cX (XOp.addR (a := (k : Int)) (b := 1) (((k + 1 : Nat) : Int)) rfl rfl (by omega) (by omega) ?_)
   refine XL.mv (.int .i64 (((k + 1 : Nat) : Int))) rfl ?_
   refine XL.nil ?_
   exact ⟨k + 1, _, FLe.refl _, rF, ⟨rfl, rfl, rfl, rfl, trivial⟩, (sC (sC sR)), ⟨rfl, (by omega), (fun i hi h0 => (Nat.lt_or_ge i k).elim (fun h => hall i h h0) (fun h => by obtain rfl : i = k := (by omega); first | assumption | (exfalso; omega) | simp_all))⟩, (by omega)⟩
  refine XL.no (t := 35) rfl (vF h5) ?_
  refine XL.no (t := 35) rfl (vF h5) ?_
  refine XL.no (t := 35) rfl (vF h5) ?_
  refine XL.no (t := 35) rfl (vF h5) ?_
  refine XL.no (t := 35) rfl (vF h5) ?_
  refine cX (XOp.pickF (.bool (false)) (vF h5) rfl ?_)
  refine XL.nil ?_
  refine X.condF rfl ?_
  refine X.skip (X.region ?_)
  refine cX (XOp.addR (a := (k : Int)) (b := 1) (((k + 1 : Nat) : Int)) rfl rfl (by omega) (by omega) ?_)
  refine XL.mv (.int .i64 (((k + 1 : Nat) : Int))) rfl ?_
  refine XL.nil ?_
  exact ⟨k + 1, _, FLe.refl _, rF, ⟨rfl, rfl, rfl, rfl, trivial⟩, (sC (sC sR)), ⟨rfl, (by omega), (fun i hi h0 => (Nat.lt_or_ge i k).elim (fun h => hall i h h0) (fun h => by obtain rfl : i = k := (by omega); first | assumption | (exfalso; omega) | simp_all))⟩, (by omega)⟩
 refine X.exit (thenQ_exit (thenQ_exit (blockQ_exit ?_)))
 refine X.seq (X.region ?_)
 refine XL.as (.bool (true)) rfl ?_
 refine XL.nil ?_
 refine X.ret (retEnd (L' := L) [.bool (true)] (.bool (true)) (.tmp rfl .nil) rfl rF rF (sD (sD sR)) ?_)
 exact ⟨(vB (ruleOk_iff.2 ⟨hlo, hro, by omega, fun n hn h0 => by obtain ⟨i, hi, rfl⟩ := List.getElem_of_mem hn; have := hall i (by omega); simp [List.getD, hi] at this; exact this h0⟩)), rfl, rfl⟩
end Go.Proofs.YtmaaifhmhclhdaaGreat
set_option linter.unusedSimpArgs false
set_option linter.unusedVariables false
namespace Go.Proofs.YtmaaifhmhclhdaaGreat
open Go X M Tryz

/- impl.SystemOk -/
theorem SystemOk_spec {F : FH} {L : List HP} {arv : Value} {ar : List Int} (har : IntsF F arv ar) {rsv : Value} {rs : List (List Int × List Int)} (hrs : PairsF F rsv rs) :
    Does prog 56 [.agg #[arv, rsv]] F (L) (fun v F' L' => (.bool (sysOk ar rs) : Value) = v ∧ F = F' ∧ L = L') := by
 refine Does.of_X func56 rfl rfl rfl ?_
 refine X.seq (X.region ?_)
 refine cX (XOp.box [arv, rsv] rfl rfl ?_)
 intro b1
 refine XL.as (.bool (false)) rfl ?_
 refine XL.nil (X.seq (X.seq (X.region ?_)))
 refine cX (XOp.fieldP (b := b1) (0) runUnderlying29 rfl sizeOf26 (by decide) rfl rfl ?_)
 refine cX (XOp.loadN [arv] isAgg26 sizeOf26 rfl rfl (Rd.ownN [] rfl rfl) ?_)
 refine cX (XOp.call (args := [.agg #[arv]]) call114 rfl (SigOk_spec har) ?_)
 rintro _ _ _ _ ⟨rfl, rfl, rfl⟩
 refine cX (XOp.notB (b := sigOk ar) rfl ?_)
 refine XL.mv (.bool (!(sigOk ar))) rfl ?_
 by_cases h1 : (!(sigOk ar)) = true
 ·refine XL.no (t := 9) rfl (vB h1) ?_
  refine XL.no (t := 9) rfl (vB h1) ?_
  refine XL.no (t := 9) rfl (vB h1) ?_
  refine XL.no (t := 9) rfl (vB h1) ?_
  refine cX (XOp.pickT (.bool (true)) (vB h1) rfl ?_)
  refine XL.nil ?_
  refine X.condT rfl ?_
  refine X.seq (X.region ?_)
  refine XL.as (.bool (false)) rfl ?_
  refine XL.nil ?_
  refine X.ret (thenQ_ret (retEnd (L' := L) [.bool (false)] (.bool (false)) (.tmp rfl .nil) rfl rF rF (sD sR) ?_))
  exact ⟨(vB (sysOk_false (fun h => by have := h.1; have := h.2.1; simp_all <;> omega))), rfl, rfl⟩
 rw [Bool.not_eq_true] at h1
 refine XL.yes (t := 9) rfl (vB h1) (XOp.fieldP (b := b1) (1) runUnderlying29 rfl sizeOf27 (by decide) rfl rfl ?_)
 refine XL.yes (t := 9) rfl (vB h1) (XOp.load1 (v := rsv) isAgg27 rfl (Rd.own [] rfl rfl) ?_)
 refine XL.yes (t := 9) rfl (vB h1) (XOp.lenS (v := rsv) (n := (rs).length) runUnderlying27 rfl hrs.slv ?_)
 refine XL.yes (t := 9) rfl (vB h1) (XOp.gtr (a := (rs.length : Int)) (b := 12) rfl rfl ?_)
 refine cX (XOp.pickF (.bool (decide (((rs.length : Int) : Int) > 12))) (vB h1) rfl ?_)
 refine XL.nil ?_
 refine X.condD (p := ((rs.length : Int) : Int) > 12) rfl (fun h2 => ?_) (fun h2 => ?_)
 ·refine X.seq (X.region ?_)
  refine XL.as (.bool (false)) rfl ?_
  refine XL.nil ?_
  refine X.ret (thenQ_ret (retEnd (L' := L) [.bool (false)] (.bool (false)) (.tmp rfl .nil) rfl rF rF (sD sR) ?_))
  exact ⟨(vB (sysOk_false (fun h => by have := h.1; have := h.2.1; simp_all <;> omega))), rfl, rfl⟩
 refine X.skip (X.seq (X.seq (X.region ?_)))
 refine cX (XOp.fieldP (b := b1) (1) runUnderlying29 rfl sizeOf27 (by decide) rfl rfl ?_)
 refine cX (XOp.load1 (v := rsv) isAgg27 rfl (Rd.own [] rfl rfl) ?_)
 refine cX (XOp.lenS (v := rsv) (n := (rs).length) runUnderlying27 rfl hrs.slv ?_)
 refine XL.mv (.int .i64 (0)) rfl ?_
 refine XL.nil (X.block ?_)
 refine X.loop (α := Nat) (fun k => [(1, ptr b1 0), (16, rsv), (17, .int .i64 ((rs.length : Int))), (18, .int .i64 ((k : Int)))]) (fun k => cellsH b1 [arv, rsv] 29 :: L) (fun k F' => F = F' ∧ (k ≤ rs.length) ∧ (∀ i, i < k → ruleOk ar (rs.getD i ([], [])).1 (rs.getD i ([], [])).2 = true)) (fun k => rs.length - k) 0 ⟨rfl, rfl, rfl, rfl, trivial⟩ (sC sR) ⟨rfl, (by omega), (fun i hi => absurd hi (by omega))⟩ ?_
 rintro k rE _ _ ⟨rfl, hk, hall⟩
 show X _ _ _ _ (envs [(1, ptr b1 0), (16, rsv), (17, .int .i64 ((rs.length : Int))), (18, .int .i64 ((k : Int)))] rE) _ (cellsH b1 [arv, rsv] 29 :: L)
 refine X.seq (X.region ?_)
 refine cX (XOp.lss (a := (k : Int)) (b := (rs.length : Int)) rfl rfl ?_)
 refine XL.nil (X.seq ?_)
 refine X.condD (p := (k : Int) < (rs.length : Int)) rfl (fun h3 => ?_) (fun h3 => ?_)
 ·refine X.skip (X.seq (X.block (X.seq (X.region ?_))))
  refine cX (XOp.indexS (v := rsv) (i := (k : Int)) (n := (rs).length) k runUnderlying27 sizeOf117 rfl rfl rfl hrs.slv (by omega) rfl ?_)
  obtain ⟨a1, a2, ha1, ha2, hr1, hr2⟩ := hrs.rd (i := k) (by omega)
  refine cX (XOp.loadN [a1, a2] isAgg117 sizeOf117 rfl rfl (Rd.two (hr1 _) (hr2 _)) ?_)
  refine cX (XOp.alloc [(.slice none 0 0), (.slice none 0 0)] zeroValue117 rfl ?_)
  intro b2
  refine cX (XOp.storeN (vs := [a1, a2]) [] _ [a1, a2] sizeOf117 rfl rfl rfl (ones_cons (one_sl (IntsF.isSl ha1)) (ones_cons (one_sl (IntsF.isSl ha2)) ones_nil)) rfl rfl rfl ?_)
  refine XL.nil (X.seq (X.region ?_))
  refine cX (XOp.fieldP (b := b1) (0) runUnderlying29 rfl sizeOf26 (by decide) rfl rfl ?_)
  refine cX (XOp.loadN [arv] isAgg26 sizeOf26 rfl rfl (Rd.ownN [_] rfl rfl) ?_)
  refine cX (XOp.loadN [a1, a2] isAgg117 sizeOf117 rfl rfl (Rd.ownN [] rfl rfl) ?_)
  refine cX (XOp.call (args := [.agg #[arv], .agg #[a1, a2]]) call115 rfl (RuleOk_spec har ha1 ha2) ?_)
  rintro _ _ _ _ ⟨rfl, rfl, rfl⟩
  refine cX (XOp.notB (b := ruleOk ar ((rs.getD k ([], [])).1) ((rs.getD k ([], [])).2)) rfl ?_)
  refine XL.nil ?_
  refine X.cond (t := !(ruleOk ar ((rs.getD k ([], [])).1) ((rs.getD k ([], [])).2))) rfl (fun h4 => ?_) (fun h4 => ?_)
  ·refine X.seq (X.region ?_)
   refine XL.as (.bool (false)) rfl ?_
   refine XL.nil ?_
   refine X.ret (blockQ_ret (thenQ_ret (thenQ_ret (blockQ_ret (thenQ_ret (retEnd (L' := L) [.bool (false)] (.bool (false)) (.tmp rfl .nil) rfl rF rF (sD (sD sR)) ?_))))))
   exact ⟨(vB (sysOk_false (fun h => by have := h.2.2 k (by omega); simp_all))), rfl, rfl⟩
  refine X.skip (X.region ?_)
  refine cX (XOp.addR (a := (k : Int)) (b := 1) (((k + 1 : Nat) : Int)) rfl rfl (by omega) (by omega) ?_)
  refine XL.mv (.int .i64 (((k + 1 : Nat) : Int))) rfl ?_
  refine XL.nil ?_
  exact ⟨k + 1, _, FLe.refl _, rF, ⟨rfl, rfl, rfl, rfl, trivial⟩, (sD (sC sR)), ⟨rfl, (by omega), (fun i hi => (Nat.lt_or_ge i k).elim (fun h => hall i h) (fun h => by obtain rfl : i = k := (by omega); first | assumption | simp_all))⟩, (by omega)⟩
 refine X.exit (thenQ_exit (thenQ_exit (blockQ_exit ?_)))
 refine X.seq (X.region ?_)
 refine XL.as (.bool (true)) rfl ?_
 refine XL.nil ?_
 refine X.ret (retEnd (L' := L) [.bool (true)] (.bool (true)) (.tmp rfl .nil) rfl rF rF (sD sR) ?_)
 exact ⟨(vB (sysOk_iff.2 ⟨by first | assumption | simp_all, by omega, fun i hi => hall i (by omega)⟩)), rfl, rfl⟩

/- spec.RuleOk -/
theorem sRuleOk_spec {F : FH} {L : List HP} {arv : Value} {ar : List Int} (har : IntsF F arv ar) {lv : Value} {l : List Int} (hl : IntsF F lv l) {rv : Value} {r : List Int} (hr : IntsF F rv r) (hla : ar.length ≤ 4000000) (hlb : l.length ≤ 4000000) (hlc : r.length ≤ 4000000) :
    Does prog 152 [.agg #[arv], .agg #[lv, rv]] F (L) (fun v F' L' => (.bool (ruleOk ar l r) : Value) = v ∧ F = F' ∧ L = L') := by
 refine Does.of_X func152 rfl rfl rfl ?_
 refine X.seq (X.region ?_)
 refine cX (XOp.box [arv] rfl rfl ?_)
 intro b1
 refine cX (XOp.box [lv, rv] rfl rfl ?_)
 intro b2
 refine XL.as (.bool (false)) rfl ?_
 refine XL.nil (X.seq (X.seq (X.region ?_)))
 refine cX (XOp.loadN [arv] isAgg26 sizeOf26 rfl rfl (Rd.ownN [_] rfl rfl) ?_)
 refine cX (XOp.fieldP (b := b2) (0) runUnderlying117 rfl sizeOf24 (by decide) rfl rfl ?_)
 refine cX (XOp.load1 (v := lv) isAgg24 rfl (Rd.own [] rfl rfl) ?_)
 refine cX (XOp.call (args := [.agg #[arv], lv]) call82 rfl (sTermOk_spec har hl (hla := (by first | assumption | rfl | omega | simp)) (hlt := (by first | assumption | rfl | omega | simp))) ?_)
 rintro _ _ _ _ ⟨rfl, rfl, rfl⟩
 refine cX (XOp.notB (b := termOk ar l) rfl ?_)
 refine XL.mv (.bool (!(termOk ar l))) rfl ?_
 by_cases h1 : (!(termOk ar l)) = true
 ·refine XL.no (t := 11) rfl (vB h1) ?_
  refine XL.no (t := 11) rfl (vB h1) ?_
  refine XL.no (t := 11) rfl (vB h1) ?_
  refine XL.no (t := 11) rfl (vB h1) ?_
  refine XL.no (t := 11) rfl (vB h1) ?_
  refine cX (XOp.pickT (.bool (true)) (vB h1) rfl ?_)
  refine XL.mv (.bool (true)) rfl ?_
  refine XL.no (t := 18) rfl rfl ?_
  refine XL.no (t := 18) rfl rfl ?_
  refine XL.no (t := 18) rfl rfl ?_
  refine XL.no (t := 18) rfl rfl ?_
  refine XL.no (t := 18) rfl rfl ?_
  refine cX (XOp.pickT (.bool (true)) rfl rfl ?_)
  refine XL.nil ?_
  refine X.condT rfl ?_
  refine X.seq (X.region ?_)
  refine XL.as (.bool (false)) rfl ?_
  refine XL.nil ?_
  refine X.ret (thenQ_ret (retEnd (L' := L) [.bool (false)] (.bool (false)) (.tmp rfl .nil) rfl rF rF (sD (sD sR)) ?_))
  exact ⟨(vB (ruleOk_false (fun h => by have := h.left; have := h.right; have := h.head; simp_all <;> omega))), rfl, rfl⟩
 rw [Bool.not_eq_true] at h1
 have hlo : termOk ar l = true := by simpa using h1
 have hl60 := termOk_len hlo
 refine XL.yes (t := 11) rfl (vB h1) (XOp.loadN [arv] isAgg26 sizeOf26 rfl rfl (Rd.ownN [_] rfl rfl) ?_)
 refine XL.yes (t := 11) rfl (vB h1) (XOp.fieldP (b := b2) (1) runUnderlying117 rfl sizeOf24 (by decide) rfl rfl ?_)
 refine XL.yes (t := 11) rfl (vB h1) (XOp.load1 (v := rv) isAgg24 rfl (Rd.own [] rfl rfl) ?_)
 refine XL.yes (t := 11) rfl (vB h1) (XOp.call (args := [.agg #[arv], rv]) call82 rfl (sTermOk_spec har hr (hla := (by first | assumption | rfl | omega | simp)) (hlt := (by first | assumption | rfl | omega | simp))) ?_)
 rintro _ _ _ _ ⟨rfl, rfl, rfl⟩
 refine XL.yes (t := 11) rfl (vB h1) (XOp.notB (b := termOk ar r) rfl ?_)
 refine cX (XOp.pickF (.bool (!(termOk ar r))) (vB h1) rfl ?_)
 refine XL.mv (.bool (!(termOk ar r))) rfl ?_
 by_cases h2 : (!(termOk ar r)) = true
 ·refine XL.no (t := 18) rfl (vB h2) ?_
  refine XL.no (t := 18) rfl (vB h2) ?_
  refine XL.no (t := 18) rfl (vB h2) ?_
  refine XL.no (t := 18) rfl (vB h2) ?_
  refine XL.no (t := 18) rfl (vB h2) ?_
  refine cX (XOp.pickT (.bool (true)) (vB h2) rfl ?_)
  refine XL.nil ?_
  refine X.condT rfl ?_
  refine X.seq (X.region ?_)
  refine XL.as (.bool (false)) rfl ?_
  refine XL.nil ?_
  refine X.ret (thenQ_ret (retEnd (L' := L) [.bool (false)] (.bool (false)) (.tmp rfl .nil) rfl rF rF (sD (sD sR)) ?_))
  exact ⟨(vB (ruleOk_false (fun h => by have := h.left; have := h.right; have := h.head; simp_all <;> omega))), rfl, rfl⟩
 rw [Bool.not_eq_true] at h2
 have hro : termOk ar r = true := by simpa using h2
 have hr60 := termOk_len hro
 refine XL.yes (t := 18) rfl (vB h2) (XOp.fieldP (b := b2) (0) runUnderlying117 rfl sizeOf24 (by decide) rfl rfl ?_)
 refine XL.yes (t := 18) rfl (vB h2) (XOp.load1 (v := lv) isAgg24 rfl (Rd.own [] rfl rfl) ?_)
 refine XL.yes (t := 18) rfl (vB h2) (XOp.indexS (v := lv) (i := 0) (n := (l).length) 0 runUnderlying24 sizeOf2 rfl rfl rfl hl.slv (by omega) (Nat.mul_one _) ?_)
 refine XL.yes (t := 18) rfl (vB h2) (XOp.load1 (v := .int .i64 (l.getD 0 0)) isAgg2 rfl (hl.rd (by omega)) ?_)
 refine XL.yes (t := 18) rfl (vB h2) (XOp.lss (a := l.getD 0 0) (b := 0) rfl rfl ?_)
 refine cX (XOp.pickF (.bool (decide ((l.getD 0 0 : Int) < 0))) (vB h2) rfl ?_)
 refine XL.nil ?_
 refine X.condD (p := (l.getD 0 0 : Int) < 0) rfl (fun h3 => ?_) (fun h3 => ?_)
 ·refine X.seq (X.region ?_)
  refine XL.as (.bool (false)) rfl ?_
  refine XL.nil ?_
  refine X.ret (thenQ_ret (retEnd (L' := L) [.bool (false)] (.bool (false)) (.tmp rfl .nil) rfl rF rF (sD (sD sR)) ?_))
  exact ⟨(vB (ruleOk_false (fun h => by have := h.left; have := h.right; have := h.head; simp_all <;> omega))), rfl, rfl⟩
 refine X.skip (X.seq (X.seq (X.region ?_)))
 refine XL.as (.int .i64 (0)) rfl ?_
 refine XL.nil (X.block ?_)
 refine X.loop (α := Nat) (fun k => [(3, ptr b2 0), (5, .int .i64 ((k : Int)))]) (fun k => cellsH b2 [lv, rv] 117 :: cellsH b1 [arv] 26 :: L) (fun k F' => F = F' ∧ (k ≤ r.length) ∧ (∀ i, i < k → r.getD i 0 < 0 → r.getD i 0 ∈ l)) (fun k => r.length - k) 0 ⟨rfl, rfl, trivial⟩ (sC (sC sR)) ⟨rfl, (by omega), (fun i hi => absurd hi (by omega))⟩ ?_
 rintro k rE _ _ ⟨rfl, hk, hall⟩
 show X _ _ _ _ (envs [(3, ptr b2 0), (5, .int .i64 ((k : Int)))] rE) _ (cellsH b2 [lv, rv] 117 :: cellsH b1 [arv] 26 :: L)
 refine X.seq (X.seq (X.region ?_))
 refine XL.mv (.int .i64 ((k : Int))) rfl ?_
 refine cX (XOp.fieldP (b := b2) (1) runUnderlying117 rfl sizeOf24 (by decide) rfl rfl ?_)
 refine cX (XOp.load1 (v := rv) isAgg24 rfl (Rd.own [] rfl rfl) ?_)
 refine cX (XOp.lenS (v := rv) (n := (r).length) runUnderlying24 rfl hr.slv ?_)
 refine cX (XOp.lss (a := (k : Int)) (b := (r.length : Int)) rfl rfl ?_)
 refine XL.nil ?_
 refine X.condD (p := (k : Int) < (r.length : Int)) rfl (fun h4 => ?_) (fun h4 => ?_)
 ·refine X.skip (X.seq (X.block (X.seq ?_)))
  by_cases h5 : (r.getD k 0 : Int) < 0
  ·refine X.draw [cellsH b2 [lv, rv] 117, cellsH b1 [arv] 26] L 14 [[], [], [], [], [], [], [], [], [], [], [], [], [], []] [[], [0], [], [1, 2], [3], [4], [5], [6], [6, 7], [6], [6, 9], [6], [6, 10, 11], [6, 12]] (phiL [fun us v => v = ptr b2 1, fun us v => v = rv, fun us v => v = (.int .i64 ((k : Int)) : Value), fun us v => v = (.pointer (some (elemA rv (k))) : Value), fun us v => v = (.int .i64 (r.getD k 0) : Value), fun us v => v = (.bool (decide ((r.getD k 0 : Int) < 0)) : Value), fun us v => v = (.bool (decide ((r.getD k 0 : Int) < 0)) : Value), fun us v => v = ptr b2 0, fun us v => v = lv, fun us v => v = ptr b2 1, fun us v => v = rv, fun us v => v = (.int .i64 ((k : Int)) : Value), fun us v => v = (.pointer (some (elemA rv (k))) : Value), fun us v => v = (.int .i64 (r.getD k 0) : Value)]) (ownL [fun us v => [], fun us v => [], fun us v => [], fun us v => [], fun us v => [], fun us v => [], fun us v => [], fun us v => [], fun us v => [], fun us v => [], fun us v => [], fun us v => [], fun us v => [], fun us v => []]) mixed rfl rfl (by kernel_rfl) ?_ ?_
   ·refine pC (fun vals R hpZ => ?_) ?_
    ·refine XG.op (XOp.fieldP (b := b2) (1) runUnderlying117 rfl sizeOf24 (by decide) rfl rfl ?_)
     exact ⟨rfl, rfl, rfl⟩
    refine pC (fun vals R hpZ => ?_) ?_
    ·rw [eS (l := [(0, ptr b2 1)]) ⟨hpZ 0 (by decide), trivial⟩]
     refine XG.op (XOp.load1 (v := rv) isAgg24 rfl (Rd.own [] rfl rfl) ?_)
     exact ⟨rfl, rfl, rfl⟩
    refine pC (fun vals R hpZ => ?_) ?_
    ·refine XG.op (XOp.move (.int .i64 ((k : Int))) rfl ?_)
     exact ⟨rfl, rfl, rfl⟩
    refine pC (fun vals R hpZ => ?_) ?_
    ·rw [eS (l := [(1, rv), (2, (.int .i64 ((k : Int)) : Value))]) ⟨hpZ 1 (by decide), hpZ 2 (by decide), trivial⟩]
     refine XG.op (XOp.indexS (v := rv) (i := (k : Int)) (n := (r).length) k runUnderlying24 sizeOf2 rfl rfl rfl hr.slv (by omega) (Nat.mul_one _) ?_)
     exact ⟨rfl, rfl, rfl⟩
    refine pC (fun vals R hpZ => ?_) ?_
    ·rw [eS (l := [(3, (.pointer (some (elemA rv (k))) : Value))]) ⟨hpZ 3 (by decide), trivial⟩]
     refine XG.op (XOp.load1 (v := .int .i64 (r.getD k 0)) isAgg2 rfl (hr.rd (by omega)) ?_)
     exact ⟨rfl, rfl, rfl⟩
    refine pC (fun vals R hpZ => ?_) ?_
    ·rw [eS (l := [(4, (.int .i64 (r.getD k 0) : Value))]) ⟨hpZ 4 (by decide), trivial⟩]
     refine XG.op (XOp.lss (a := r.getD k 0) (b := 0) rfl rfl ?_)
     exact ⟨rfl, rfl, rfl⟩
    refine pC (fun vals R hpZ => ?_) ?_
    ·rw [eS (l := [(5, (.bool (decide ((r.getD k 0 : Int) < 0)) : Value))]) ⟨hpZ 5 (by decide), trivial⟩]
     refine XG.op (XOp.move (.bool (decide ((r.getD k 0 : Int) < 0))) rfl ?_)
     exact ⟨rfl, rfl, rfl⟩
    refine pC (fun vals R hpZ => ?_) ?_
    ·rw [eS (l := [(6, (.bool (decide ((r.getD k 0 : Int) < 0)) : Value))]) ⟨hpZ 6 (by decide), trivial⟩]
     refine XG.yes (t := 38) rfl (vT h5) (XOp.fieldP (b := b2) (0) runUnderlying117 rfl sizeOf24 (by decide) rfl rfl ?_)
     exact ⟨rfl, rfl, rfl⟩
    refine pC (fun vals R hpZ => ?_) ?_
    ·rw [eS (l := [(6, (.bool (decide ((r.getD k 0 : Int) < 0)) : Value)), (7, ptr b2 0)]) ⟨hpZ 6 (by decide), hpZ 7 (by decide), trivial⟩]
     refine XG.yes (t := 38) rfl (vT h5) (XOp.load1 (v := lv) isAgg24 rfl (Rd.own [] rfl rfl) ?_)
     exact ⟨rfl, rfl, rfl⟩
    refine pC (fun vals R hpZ => ?_) ?_
    ·rw [eS (l := [(6, (.bool (decide ((r.getD k 0 : Int) < 0)) : Value))]) ⟨hpZ 6 (by decide), trivial⟩]
     refine XG.yes (t := 38) rfl (vT h5) (XOp.fieldP (b := b2) (1) runUnderlying117 rfl sizeOf24 (by decide) rfl rfl ?_)
     exact ⟨rfl, rfl, rfl⟩
    refine pC (fun vals R hpZ => ?_) ?_
    ·rw [eS (l := [(6, (.bool (decide ((r.getD k 0 : Int) < 0)) : Value)), (9, ptr b2 1)]) ⟨hpZ 6 (by decide), hpZ 9 (by decide), trivial⟩]
     refine XG.yes (t := 38) rfl (vT h5) (XOp.load1 (v := rv) isAgg24 rfl (Rd.own [] rfl rfl) ?_)
     exact ⟨rfl, rfl, rfl⟩
    refine pC (fun vals R hpZ => ?_) ?_
    ·rw [eS (l := [(6, (.bool (decide ((r.getD k 0 : Int) < 0)) : Value))]) ⟨hpZ 6 (by decide), trivial⟩]
     refine XG.yes (t := 38) rfl (vT h5) (XOp.move (.int .i64 ((k : Int))) rfl ?_)
     exact ⟨rfl, rfl, rfl⟩
    refine pC (fun vals R hpZ => ?_) ?_
    ·rw [eS (l := [(6, (.bool (decide ((r.getD k 0 : Int) < 0)) : Value)), (10, rv), (11, (.int .i64 ((k : Int)) : Value))]) ⟨hpZ 6 (by decide), hpZ 10 (by decide), hpZ 11 (by decide), trivial⟩]
     refine XG.yes (t := 38) rfl (vT h5) (XOp.indexS (v := rv) (i := (k : Int)) (n := (r).length) k runUnderlying24 sizeOf2 rfl rfl rfl hr.slv (by omega) (Nat.mul_one _) ?_)
     exact ⟨rfl, rfl, rfl⟩
    refine pC (fun vals R hpZ => ?_) ?_
    ·rw [eS (l := [(6, (.bool (decide ((r.getD k 0 : Int) < 0)) : Value)), (12, (.pointer (some (elemA rv (k))) : Value))]) ⟨hpZ 6 (by decide), hpZ 12 (by decide), trivial⟩]
     refine XG.yes (t := 38) rfl (vT h5) (XOp.load1 (v := .int .i64 (r.getD k 0)) isAgg2 rfl (hr.rd (by omega)) ?_)
     exact ⟨rfl, rfl, rfl⟩
    exact stepsP.nil
   intro vals hphi
   rw [eS (l := [(6, (.bool (decide ((r.getD k 0 : Int) < 0)) : Value)), (8, lv), (13, (.int .i64 (r.getD k 0) : Value))]) ⟨(hphi 6 (by decide)), (hphi 8 (by decide)), (hphi 13 (by decide)), trivial⟩]
   show XL _ _ _ _ _ _ _ (cellsH b2 [lv, rv] 117 :: cellsH b1 [arv] 26 :: L)
   refine XL.yes (t := 38) rfl (vT h5) (XOp.call (args := [lv, .int .i64 (r.getD k 0)]) call193 rfl (l1Has_spec (n := r.getD k 0) hl (hbd := (by first | assumption | rfl | omega | simp))) ?_)
   rintro _ _ _ _ ⟨rfl, rfl, rfl⟩
   refine XL.yes (t := 38) rfl (vT h5) (XOp.notD (p := (r.getD k 0) ∈ l) rfl ?_)
   refine cX (XOp.pickT (.bool (decide (¬((r.getD k 0) ∈ l)))) (vT h5) rfl ?_)
   refine XL.nil ?_
   refine X.condD (p := ¬((r.getD k 0) ∈ l)) rfl (fun h6 => ?_) (fun h6 => ?_)
   ·refine X.seq (X.region ?_)
    refine XL.as (.bool (false)) rfl ?_
    refine XL.nil ?_
    refine X.ret (blockQ_ret (thenQ_ret (thenQ_ret (blockQ_ret (thenQ_ret (retEnd (L' := L) [.bool (false)] (.bool (false)) (.tmp rfl .nil) rfl rF rF (sD (sD sR)) ?_))))))
    exact ⟨(vB (ruleOk_false (fun h => by have := h.vars (r.getD k 0) (mem_of_getD (k := k) (by omega) rfl); simp_all))), rfl, rfl⟩
   refine X.skip (X.region ?_)
   refine XL.mv (.int .i64 ((k : Int))) rfl ?_
   refine cX (XOp.addR (a := (k : Int)) (b := 1) (((k + 1 : Nat) : Int)) rfl rfl (by omega) (by omega) ?_)
   refine XL.as (.int .i64 (((k + 1 : Nat) : Int))) rfl ?_
   refine XL.nil ?_
   exact ⟨k + 1, _, FLe.refl _, rF, ⟨rfl, rfl, trivial⟩, (sC (sC sR)), ⟨rfl, (by omega), (fun i hi h0 => (Nat.lt_or_ge i k).elim (fun h => hall i h h0) (fun h => by obtain rfl : i = k := (by omega); first | assumption | (exfalso; omega) | simp_all))⟩, (by omega)⟩
  refine X.draw [cellsH b2 [lv, rv] 117, cellsH b1 [arv] 26] L 14 [[], [], [], [], [], [], [], [], [], [], [], [], [], []] [[], [0], [], [1, 2], [3], [4], [5], [6], [6, 7], [6], [6, 9], [6], [6, 10, 11], [6, 12]] (phiL [fun us v => v = ptr b2 1, fun us v => v = rv, fun us v => v = (.int .i64 ((k : Int)) : Value), fun us v => v = (.pointer (some (elemA rv (k))) : Value), fun us v => v = (.int .i64 (r.getD k 0) : Value), fun us v => v = (.bool (decide ((r.getD k 0 : Int) < 0)) : Value), fun us v => v = (.bool (decide ((r.getD k 0 : Int) < 0)) : Value), fun us v => v = undef, fun us v => v = undef, fun us v => v = undef, fun us v => v = undef, fun us v => v = undef, fun us v => v = undef, fun us v => v = undef]) (ownL [fun us v => [], fun us v => [], fun us v => [], fun us v => [], fun us v => [], fun us v => [], fun us v => [], fun us v => [], fun us v => [], fun us v => [], fun us v => [], fun us v => [], fun us v => [], fun us v => []]) mixed rfl rfl (by kernel_rfl) ?_ ?_
  ·refine pC (fun vals R hpZ => ?_) ?_
   ·refine XG.op (XOp.fieldP (b := b2) (1) runUnderlying117 rfl sizeOf24 (by decide) rfl rfl ?_)
    exact ⟨rfl, rfl, rfl⟩
   refine pC (fun vals R hpZ => ?_) ?_
   ·rw [eS (l := [(0, ptr b2 1)]) ⟨hpZ 0 (by decide), trivial⟩]
    refine XG.op (XOp.load1 (v := rv) isAgg24 rfl (Rd.own [] rfl rfl) ?_)
    exact ⟨rfl, rfl, rfl⟩
   refine pC (fun vals R hpZ => ?_) ?_
   ·refine XG.op (XOp.move (.int .i64 ((k : Int))) rfl ?_)
    exact ⟨rfl, rfl, rfl⟩
   refine pC (fun vals R hpZ => ?_) ?_
   ·rw [eS (l := [(1, rv), (2, (.int .i64 ((k : Int)) : Value))]) ⟨hpZ 1 (by decide), hpZ 2 (by decide), trivial⟩]
    refine XG.op (XOp.indexS (v := rv) (i := (k : Int)) (n := (r).length) k runUnderlying24 sizeOf2 rfl rfl rfl hr.slv (by omega) (Nat.mul_one _) ?_)
    exact ⟨rfl, rfl, rfl⟩
   refine pC (fun vals R hpZ => ?_) ?_
   ·rw [eS (l := [(3, (.pointer (some (elemA rv (k))) : Value))]) ⟨hpZ 3 (by decide), trivial⟩]
    refine XG.op (XOp.load1 (v := .int .i64 (r.getD k 0)) isAgg2 rfl (hr.rd (by omega)) ?_)
    exact ⟨rfl, rfl, rfl⟩
   refine pC (fun vals R hpZ => ?_) ?_
   ·rw [eS (l := [(4, (.int .i64 (r.getD k 0) : Value))]) ⟨hpZ 4 (by decide), trivial⟩]
    refine XG.op (XOp.lss (a := r.getD k 0) (b := 0) rfl rfl ?_)
    exact ⟨rfl, rfl, rfl⟩
   refine pC (fun vals R hpZ => ?_) ?_
   ·rw [eS (l := [(5, (.bool (decide ((r.getD k 0 : Int) < 0)) : Value))]) ⟨hpZ 5 (by decide), trivial⟩]
    refine XG.op (XOp.move (.bool (decide ((r.getD k 0 : Int) < 0))) rfl ?_)
    exact ⟨rfl, rfl, rfl⟩
   refine pC (fun vals R hpZ => ?_) ?_
   ·rw [eS (l := [(6, (.bool (decide ((r.getD k 0 : Int) < 0)) : Value))]) ⟨hpZ 6 (by decide), trivial⟩]
    exact XG.no (t := 38) rfl (vF h5) ⟨rfl, rfl, rfl⟩
   refine pC (fun vals R hpZ => ?_) ?_
   ·rw [eS (l := [(6, (.bool (decide ((r.getD k 0 : Int) < 0)) : Value)), (7, undef)]) ⟨hpZ 6 (by decide), hpZ 7 (by decide), trivial⟩]
    exact XG.no (t := 38) rfl (vF h5) ⟨rfl, rfl, rfl⟩
   refine pC (fun vals R hpZ => ?_) ?_
   ·rw [eS (l := [(6, (.bool (decide ((r.getD k 0 : Int) < 0)) : Value))]) ⟨hpZ 6 (by decide), trivial⟩]
    exact XG.no (t := 38) rfl (vF h5) ⟨rfl, rfl, rfl⟩
   refine pC (fun vals R hpZ => ?_) ?_
   ·rw [eS (l := [(6, (.bool (decide ((r.getD k 0 : Int) < 0)) : Value)), (9, undef)]) ⟨hpZ 6 (by decide), hpZ 9 (by decide), trivial⟩]
    exact XG.no (t := 38) rfl (vF h5) ⟨rfl, rfl, rfl⟩
   refine pC (fun vals R hpZ => ?_) ?_
   ·rw [eS (l := [(6, (.bool (decide ((r.getD k 0 : Int) < 0)) : Value))]) ⟨hpZ 6 (by decide), trivial⟩]
    exact XG.no (t := 38) rfl (vF h5) ⟨rfl, rfl, rfl⟩
   refine pC (fun vals R hpZ => ?_) ?_
   ·rw [eS (l := [(6, (.bool (decide ((r.getD k 0 : Int) < 0)) : Value)), (10, undef), (11, undef)]) ⟨hpZ 6 (by decide), hpZ 10 (by decide), hpZ 11 (by decide), trivial⟩]
    exact XG.no (t := 38) rfl (vF h5) ⟨rfl, rfl, rfl⟩
   refine pC (fun vals R hpZ => ?_) ?_
   ·rw [eS (l := [(6, (.bool (decide ((r.getD k 0 : Int) < 0)) : Value)), (12, undef)]) ⟨hpZ 6 (by decide), hpZ 12 (by decide), trivial⟩]
    exact XG.no (t := 38) rfl (vF h5) ⟨rfl, rfl, rfl⟩
   exact stepsP.nil
  intro vals hphi
  rw [eS (l := [(6, (.bool (decide ((r.getD k 0 : Int) < 0)) : Value)), (8, undef), (13, undef)]) ⟨(hphi 6 (by decide)), (hphi 8 (by decide)), (hphi 13 (by decide)), trivial⟩]
  show XL _ _ _ _ _ _ _ (cellsH b2 [lv, rv] 117 :: cellsH b1 [arv] 26 :: L)
  refine XL.no (t := 38) rfl (vF h5) ?_
  refine XL.no (t := 38) rfl (vF h5) ?_
  refine cX (XOp.pickF (.bool (false)) (vF h5) rfl ?_)
  refine XL.nil ?_
  refine X.condF rfl ?_
  refine X.skip (X.region ?_)
  refine XL.mv (.int .i64 ((k : Int))) rfl ?_
  refine cX (XOp.addR (a := (k : Int)) (b := 1) (((k + 1 : Nat) : Int)) rfl rfl (by omega) (by omega) ?_)
  refine XL.as (.int .i64 (((k + 1 : Nat) : Int))) rfl ?_
  refine XL.nil ?_
  exact ⟨k + 1, _, FLe.refl _, rF, ⟨rfl, rfl, trivial⟩, (sC (sC sR)), ⟨rfl, (by omega), (fun i hi h0 => (Nat.lt_or_ge i k).elim (fun h => hall i h h0) (fun h => by obtain rfl : i = k := (by omega); first | assumption | (exfalso; omega) | simp_all))⟩, (by omega)⟩
 refine X.exit (thenQ_exit (thenQ_exit (blockQ_exit ?_)))
 refine X.seq (X.region ?_)
 refine XL.as (.bool (true)) rfl ?_
 refine XL.nil ?_
 refine X.ret (retEnd (L' := L) [.bool (true)] (.bool (true)) (.tmp rfl .nil) rfl rF rF (sD (sD sR)) ?_)
 exact ⟨(vB (ruleOk_iff.2 ⟨hlo, hro, by omega, fun n hn h0 => by obtain ⟨i, hi, rfl⟩ := List.getElem_of_mem hn; have := hall i (by omega); simp [List.getD, hi] at this; exact this h0⟩)), rfl, rfl⟩

/- spec.SystemOk -/
theorem sSystemOk_spec {F : FH} {L : List HP} {arv : Value} {ar : List Int} (har : IntsF F arv ar) {rsv : Value} {rs : List (List Int × List Int)} (hrs : PairsF F rsv rs) (hla : ar.length ≤ 4000000) (hlr : rs.length ≤ 4000000) (hrb : ∀ i, i < rs.length → (rs.getD i ([], [])).1.length ≤ 4000000 ∧ (rs.getD i ([], [])).2.length ≤ 4000000) :
    Does prog 92 [.agg #[arv, rsv]] F (L) (fun v F' L' => (.bool (sysOk ar rs) : Value) = v ∧ F = F' ∧ L = L') := by
 refine Does.of_X func92 rfl rfl rfl ?_
 refine X.seq (X.region ?_)
 refine cX (XOp.box [arv, rsv] rfl rfl ?_)
 intro b1
 refine XL.as (.bool (false)) rfl ?_
 refine XL.nil (X.seq (X.seq (X.region ?_)))
 refine cX (XOp.fieldP (b := b1) (0) runUnderlying29 rfl sizeOf26 (by decide) rfl rfl ?_)
 refine cX (XOp.loadN [arv] isAgg26 sizeOf26 rfl rfl (Rd.ownN [] rfl rfl) ?_)
 refine cX (XOp.call (args := [.agg #[arv]]) call141 rfl (sSigOk_spec har (hla := (by first | assumption | rfl | omega | simp))) ?_)
 rintro _ _ _ _ ⟨rfl, rfl, rfl⟩
 refine cX (XOp.notB (b := sigOk ar) rfl ?_)
 refine XL.mv (.bool (!(sigOk ar))) rfl ?_
 by_cases h1 : (!(sigOk ar)) = true
 ·refine XL.no (t := 8) rfl (vB h1) ?_
  refine XL.no (t := 8) rfl (vB h1) ?_
  refine XL.no (t := 8) rfl (vB h1) ?_
  refine XL.no (t := 8) rfl (vB h1) ?_
  refine cX (XOp.pickT (.bool (true)) (vB h1) rfl ?_)
  refine XL.nil ?_
  refine X.condT rfl ?_
  refine X.seq (X.region ?_)
  refine XL.as (.bool (false)) rfl ?_
  refine XL.nil ?_
  refine X.ret (thenQ_ret (retEnd (L' := L) [.bool (false)] (.bool (false)) (.tmp rfl .nil) rfl rF rF (sD sR) ?_))
  exact ⟨(vB (sysOk_false (fun h => by have := h.1; have := h.2.1; simp_all <;> omega))), rfl, rfl⟩
 rw [Bool.not_eq_true] at h1
 refine XL.yes (t := 8) rfl (vB h1) (XOp.fieldP (b := b1) (1) runUnderlying29 rfl sizeOf27 (by decide) rfl rfl ?_)
 refine XL.yes (t := 8) rfl (vB h1) (XOp.load1 (v := rsv) isAgg27 rfl (Rd.own [] rfl rfl) ?_)
 refine XL.yes (t := 8) rfl (vB h1) (XOp.lenS (v := rsv) (n := (rs).length) runUnderlying27 rfl hrs.slv ?_)
 refine XL.yes (t := 8) rfl (vB h1) (XOp.gtr (a := (rs.length : Int)) (b := 12) rfl rfl ?_)
 refine cX (XOp.pickF (.bool (decide (((rs.length : Int) : Int) > 12))) (vB h1) rfl ?_)
 refine XL.nil ?_
 refine X.condD (p := ((rs.length : Int) : Int) > 12) rfl (fun h2 => ?_) (fun h2 => ?_)
 ·refine X.seq (X.region ?_)
  refine XL.as (.bool (false)) rfl ?_
  refine XL.nil ?_
  refine X.ret (thenQ_ret (retEnd (L' := L) [.bool (false)] (.bool (false)) (.tmp rfl .nil) rfl rF rF (sD sR) ?_))
  exact ⟨(vB (sysOk_false (fun h => by have := h.1; have := h.2.1; simp_all <;> omega))), rfl, rfl⟩
 refine X.skip (X.seq (X.seq (X.region ?_)))
 refine XL.as (.int .i64 (0)) rfl ?_
 refine XL.nil (X.block ?_)
 refine X.loop (α := Nat) (fun k => [(1, ptr b1 0), (3, .int .i64 ((k : Int)))]) (fun k => cellsH b1 [arv, rsv] 29 :: L) (fun k F' => F = F' ∧ (k ≤ rs.length) ∧ (∀ i, i < k → ruleOk ar (rs.getD i ([], [])).1 (rs.getD i ([], [])).2 = true)) (fun k => rs.length - k) 0 ⟨rfl, rfl, trivial⟩ (sC sR) ⟨rfl, (by omega), (fun i hi => absurd hi (by omega))⟩ ?_
 rintro k rE _ _ ⟨rfl, hk, hall⟩
 show X _ _ _ _ (envs [(1, ptr b1 0), (3, .int .i64 ((k : Int)))] rE) _ (cellsH b1 [arv, rsv] 29 :: L)
 refine X.seq (X.seq (X.region ?_))
 refine XL.mv (.int .i64 ((k : Int))) rfl ?_
 refine cX (XOp.fieldP (b := b1) (1) runUnderlying29 rfl sizeOf27 (by decide) rfl rfl ?_)
 refine cX (XOp.load1 (v := rsv) isAgg27 rfl (Rd.own [] rfl rfl) ?_)
 refine cX (XOp.lenS (v := rsv) (n := (rs).length) runUnderlying27 rfl hrs.slv ?_)
 refine cX (XOp.lss (a := (k : Int)) (b := (rs.length : Int)) rfl rfl ?_)
 refine XL.nil ?_
 refine X.condD (p := (k : Int) < (rs.length : Int)) rfl (fun h3 => ?_) (fun h3 => ?_)
 ·refine X.skip (X.seq (X.block (X.seq ?_)))
  obtain ⟨a1, a2, ha1, ha2, hr1, hr2⟩ := hrs.rd (i := k) (by omega)
  refine X.draw [cellsH b1 [arv, rsv] 29] L 7 [[], [], [], [], [], [], []] [[], [0], [], [2], [], [3, 4], [5]] (phiL [fun us v => v = ptr b1 0, fun us v => v = (.agg #[arv] : Value), fun us v => v = ptr b1 1, fun us v => v = rsv, fun us v => v = (.int .i64 ((k : Int)) : Value), fun us v => v = (.pointer (some (elemA rsv (k * 2))) : Value), fun us v => v = (.agg #[a1, a2] : Value)]) (ownL [fun us v => [], fun us v => [], fun us v => [], fun us v => [], fun us v => [], fun us v => [], fun us v => []]) mixed rfl rfl (by kernel_rfl) ?_ ?_
  ·refine pC (fun vals R hpZ => ?_) ?_
   ·refine XG.op (XOp.fieldP (b := b1) (0) runUnderlying29 rfl sizeOf26 (by decide) rfl rfl ?_)
    exact ⟨rfl, rfl, rfl⟩
   refine pC (fun vals R hpZ => ?_) ?_
   ·rw [eS (l := [(0, ptr b1 0)]) ⟨hpZ 0 (by decide), trivial⟩]
    refine XG.op (XOp.loadN [arv] isAgg26 sizeOf26 rfl rfl (Rd.ownN [] rfl rfl) ?_)
    exact ⟨rfl, rfl, rfl⟩
   refine pC (fun vals R hpZ => ?_) ?_
   ·refine XG.op (XOp.fieldP (b := b1) (1) runUnderlying29 rfl sizeOf27 (by decide) rfl rfl ?_)
    exact ⟨rfl, rfl, rfl⟩
   refine pC (fun vals R hpZ => ?_) ?_
   ·rw [eS (l := [(2, ptr b1 1)]) ⟨hpZ 2 (by decide), trivial⟩]
    refine XG.op (XOp.load1 (v := rsv) isAgg27 rfl (Rd.own [] rfl rfl) ?_)
    exact ⟨rfl, rfl, rfl⟩
   refine pC (fun vals R hpZ => ?_) ?_
   ·refine XG.op (XOp.move (.int .i64 ((k : Int))) rfl ?_)
    exact ⟨rfl, rfl, rfl⟩
   refine pC (fun vals R hpZ => ?_) ?_
   ·rw [eS (l := [(3, rsv), (4, (.int .i64 ((k : Int)) : Value))]) ⟨hpZ 3 (by decide), hpZ 4 (by decide), trivial⟩]
    refine XG.op (XOp.indexS (v := rsv) (i := (k : Int)) (n := (rs).length) k runUnderlying27 sizeOf117 rfl rfl rfl hrs.slv (by omega) rfl ?_)
    exact ⟨rfl, rfl, rfl⟩
   refine pC (fun vals R hpZ => ?_) ?_
   ·rw [eS (l := [(5, (.pointer (some (elemA rsv (k * 2))) : Value))]) ⟨hpZ 5 (by decide), trivial⟩]
    refine XG.op (XOp.loadN [a1, a2] isAgg117 sizeOf117 rfl rfl (Rd.two (hr1 _) (hr2 _)) ?_)
    exact ⟨rfl, rfl, rfl⟩
   exact stepsP.nil
  intro vals hphi
  rw [eS (l := [(1, (.agg #[arv] : Value)), (6, (.agg #[a1, a2] : Value))]) ⟨(hphi 1 (by decide)), (hphi 6 (by decide)), trivial⟩]
  show XL _ _ _ _ _ _ _ (cellsH b1 [arv, rsv] 29 :: L)
  refine cX (XOp.call (args := [.agg #[arv], .agg #[a1, a2]]) call152 rfl (sRuleOk_spec har ha1 ha2 (hla := (by first | assumption | rfl | omega | simp)) (hlb := ((hrb k (by omega)).1)) (hlc := ((hrb k (by omega)).2))) ?_)
  rintro _ _ _ _ ⟨rfl, rfl, rfl⟩
  refine cX (XOp.notB (b := ruleOk ar ((rs.getD k ([], [])).1) ((rs.getD k ([], [])).2)) rfl ?_)
  refine XL.nil ?_
  refine X.cond (t := !(ruleOk ar ((rs.getD k ([], [])).1) ((rs.getD k ([], [])).2))) rfl (fun h4 => ?_) (fun h4 => ?_)
  ·refine X.seq (X.region ?_)
   refine XL.as (.bool (false)) rfl ?_
   refine XL.nil ?_
   refine X.ret (blockQ_ret (thenQ_ret (thenQ_ret (blockQ_ret (thenQ_ret (retEnd (L' := L) [.bool (false)] (.bool (false)) (.tmp rfl .nil) rfl rF rF (sD sR) ?_))))))
   exact ⟨(vB (sysOk_false (fun h => by have := h.2.2 k (by omega); simp_all))), rfl, rfl⟩
  refine X.skip (X.region ?_)
  refine XL.mv (.int .i64 ((k : Int))) rfl ?_
  refine cX (XOp.addR (a := (k : Int)) (b := 1) (((k + 1 : Nat) : Int)) rfl rfl (by omega) (by omega) ?_)
  refine XL.as (.int .i64 (((k + 1 : Nat) : Int))) rfl ?_
  refine XL.nil ?_
  exact ⟨k + 1, _, FLe.refl _, rF, ⟨rfl, rfl, trivial⟩, (sC sR), ⟨rfl, (by omega), (fun i hi => (Nat.lt_or_ge i k).elim (fun h => hall i h) (fun h => by obtain rfl : i = k := (by omega); first | assumption | simp_all))⟩, (by omega)⟩
 refine X.exit (thenQ_exit (thenQ_exit (blockQ_exit ?_)))
 refine X.seq (X.region ?_)
 refine XL.as (.bool (true)) rfl ?_
 refine XL.nil ?_
 refine X.ret (retEnd (L' := L) [.bool (true)] (.bool (true)) (.tmp rfl .nil) rfl rF rF (sD sR) ?_)
 exact ⟨(vB (sysOk_iff.2 ⟨by first | assumption | simp_all, by omega, fun i hi => hall i (by omega)⟩)), rfl, rfl⟩

/- impl.matchInto -/
theorem matchInto_spec {F : FH} {L : List HP} {arv : Value} {ar : List Int} (har : IntsF F arv ar) {pv : Value} {p : List Int} (hp : IntsF F pv p) {tv : Value} {t : List Int} (ht : IntsF F tv t) {bs : List Value} {b : RowL} (hb : BindC F bs b) (hbl : b.length = 24) (ho : termOk ar t = true) (hpl : p.length ≤ 4000000) (hpg : ∀ k, k < p.length → -24 ≤ p.getD k 0) :
    Does prog 140 [.agg #[arv], pv, tv, .agg (bs).toArray] F (L) (fun v F' L' => F = F' ∧ ∃ (bs : List Value), ∃ (bl : RowL), (.tuple #[.agg (bs).toArray, .bool ((mGo ar t p 0 b).isSome)] : Value) = v ∧ (BindC F' bs bl) ∧ (bl.length = 24) ∧ (∀ r, mGo ar t p 0 b = some r → bl = r) ∧ L = L') := by
 refine Does.of_X func140 rfl rfl rfl ?_
 have hsl := sigOk_spec (termOk_sig ho)
 have htl := termOk_len ho
 have hnn := notNil_of_pos ht (by omega)
 refine X.seq (X.region ?_)
 refine cX (XOp.box [arv] rfl rfl ?_)
 intro b1
 refine cX (XOp.box bs rfl rfl ?_)
 intro b2
 refine cX (XOp.alloc (List.replicate 24 (Value.slice none 0 0)) zeroValue170 rfl ?_)
 intro b3
 have hc1 : BindC F _ _ := BindC.nils 24
 refine XL.as (.bool (false)) rfl ?_
 refine XL.nil (X.seq (X.region ?_))
 refine XL.as (.int .i64 (0)) rfl ?_
 refine XL.nil (X.seq (X.seq (X.region ?_)))
 refine XL.mv (pv) rfl ?_
 refine cX (XOp.lenS (v := pv) (n := (p).length) runUnderlying24 rfl hp.slv ?_)
 refine XL.mv (.int .i64 (0)) rfl ?_
 refine XL.nil (X.block ?_)
 refine X.loop (α := Nat × Nat × List Value × RowL) (fun xQ => [(2, tv), (4, ptr b1 0), (7, ptr b2 0), (8, ptr b3 0), (10, .int .i64 (((xQ.2.1 : Nat) : Int))), (14, pv), (15, .int .i64 ((p.length : Int))), (16, .int .i64 (((xQ.1 : Nat) : Int)))]) (fun xQ => cellsH b3 (List.replicate 24 (Value.slice none 0 0)) 170 :: cellsH b2 xQ.2.2.1 170 :: cellsH b1 [arv] 26 :: L) (fun xQ F' => F = F' ∧ (BindC F xQ.2.2.1 xQ.2.2.2) ∧ (xQ.2.2.2.length = 24) ∧ (xQ.1 ≤ p.length) ∧ (xQ.2.1 ≤ t.length) ∧ (mGo ar t p 0 b = mGo ar t (p.drop xQ.1) xQ.2.1 xQ.2.2.2)) (fun xQ => p.length - xQ.1) (0, 0, bs, b) ⟨rfl, rfl, rfl, rfl, rfl, rfl, rfl, rfl, trivial⟩ (sC (sC (sC sR))) ⟨rfl, (hb), (hbl), (by (try dsimp only) <;> omega), (by (try dsimp only) <;> omega), (rfl)⟩ ?_
 rintro ⟨k, i, bs, bl⟩ rE _ _ ⟨rfl, hbc, hbl2, hk, hi, hm⟩
 show X _ _ _ _ (envs [(2, tv), (4, ptr b1 0), (7, ptr b2 0), (8, ptr b3 0), (10, .int .i64 ((i : Int))), (14, pv), (15, .int .i64 ((p.length : Int))), (16, .int .i64 ((k : Int)))] rE) _ (cellsH b3 (List.replicate 24 (Value.slice none 0 0)) 170 :: cellsH b2 bs 170 :: cellsH b1 [arv] 26 :: L)
 dsimp only at hbc hbl2 hk hi hm
 have hpk := hpg k
 have hsl2 := fun h => sub_length (p := i) ho h
 have hee := fun h => endN_spec (p := i) ho h
 refine X.seq (X.region ?_)
 refine cX (XOp.lss (a := (k : Int)) (b := (p.length : Int)) rfl rfl ?_)
 refine XL.nil (X.seq ?_)
 refine X.condD (p := (k : Int) < (p.length : Int)) rfl (fun h1 => ?_) (fun h1 => ?_)
 ·refine X.skip (X.seq (X.block (X.seq (X.region ?_))))
  refine cX (XOp.indexS (v := pv) (i := (k : Int)) (n := (p).length) k runUnderlying24 sizeOf2 rfl rfl rfl hp.slv (by omega) (Nat.mul_one _) ?_)
  refine cX (XOp.load1 (v := .int .i64 (p.getD k 0)) isAgg2 rfl (hp.rd (by omega)) ?_)
  refine XL.as (.int .i64 (p.getD k 0)) rfl ?_
  refine XL.nil (X.seq (X.seq (X.region ?_)))
  refine XL.mv (.int .i64 ((i : Int))) rfl ?_
  refine XL.mv (tv) rfl ?_
  refine cX (XOp.lenS (v := tv) (n := (t).length) runUnderlying24 rfl ht.slv ?_)
  refine cX (XOp.geq (a := (i : Int)) (b := (t.length : Int)) rfl rfl ?_)
  refine XL.nil ?_
  refine X.condD (p := (i : Int) ≥ (t.length : Int)) rfl (fun h2 => ?_) (fun h2 => ?_)
  ·refine X.seq (X.region ?_)
   refine cX (XOp.loadN bs isAgg170 sizeOf170 (by have := CO.len hbc; (try simp only [List.length_set, List.length_replicate] at this ⊢) <;> omega) rfl (Rd.ownN [_] rfl take_all) ?_)
   refine cX (XOp.storeN (vs := bs) [] _ bs sizeOf170 rfl rfl (by have := CO.len hbc; (try simp only [List.length_set, List.length_replicate] at this ⊢) <;> omega) hbc.ones rfl (Nat.ble_eq_true_of_le (Nat.le_of_eq (by have := CO.len hc1; (try simp only [List.length_set, List.length_replicate] at this ⊢) <;> omega))) (arr_over (by have := CO.len hc1; (try simp only [List.length_set, List.length_replicate] at this ⊢) <;> omega)) ?_)
   refine XL.as (.bool (false)) rfl ?_
   refine XL.nil ?_
   refine X.ret (thenQ_ret (blockQ_ret (thenQ_ret (thenQ_ret (blockQ_ret (thenQ_ret (retEnd (L' := L) [.agg (bs).toArray, .bool (false)] (.tuple #[.agg (bs).toArray, .bool (false)]) (.cell rfl (loadNV bs isAgg170 sizeOf170 (by have := CO.len hbc; (try simp only [List.length_set, List.length_replicate] at this ⊢) <;> omega) (Rd.ownN [] rfl take_all)) (.tmp rfl .nil)) rfl rF rF (sD (sD (sD sR))) ?_)))))))
   have hz : mGo ar t p 0 b = none := hm.trans (mGo_short (by omega) (by omega))
   refine ⟨rfl, _, _, by rw [hz]; rfl, hbc, by (try simp only [List.length_set]) <;> omega, fun r hr => ?_, rfl⟩
   rw [hz] at hr; cases hr
  refine X.skip (X.seq (X.seq (X.region ?_)))
  refine XL.mv (.int .i64 (p.getD k 0)) rfl ?_
  refine cX (XOp.geq (a := p.getD k 0) (b := 0) rfl rfl ?_)
  refine XL.nil ?_
  refine X.condD (p := (p.getD k 0 : Int) ≥ 0) rfl (fun h3 => ?_) (fun h3 => ?_)
  ·refine X.seq (X.seq (X.region ?_))
   refine XL.mv (tv) rfl ?_
   refine XL.mv (.int .i64 ((i : Int))) rfl ?_
   refine cX (XOp.indexS (v := tv) (i := (i : Int)) (n := (t).length) i runUnderlying24 sizeOf2 rfl rfl rfl ht.slv (by omega) (Nat.mul_one _) ?_)
   refine cX (XOp.load1 (v := .int .i64 (t.getD i 0)) isAgg2 rfl (ht.rd (by omega)) ?_)
   refine XL.mv (.int .i64 (p.getD k 0)) rfl ?_
   refine cX (XOp.neq (a := t.getD i 0) (b := p.getD k 0) rfl rfl ?_)
   refine XL.nil ?_
   refine X.condD (p := (t.getD i 0 : Int) ≠ p.getD k 0) rfl (fun h4 => ?_) (fun h4 => ?_)
   ·refine X.seq (X.region ?_)
    refine cX (XOp.loadN bs isAgg170 sizeOf170 (by have := CO.len hbc; (try simp only [List.length_set, List.length_replicate] at this ⊢) <;> omega) rfl (Rd.ownN [_] rfl take_all) ?_)
    refine cX (XOp.storeN (vs := bs) [] _ bs sizeOf170 rfl rfl (by have := CO.len hbc; (try simp only [List.length_set, List.length_replicate] at this ⊢) <;> omega) hbc.ones rfl (Nat.ble_eq_true_of_le (Nat.le_of_eq (by have := CO.len hc1; (try simp only [List.length_set, List.length_replicate] at this ⊢) <;> omega))) (arr_over (by have := CO.len hc1; (try simp only [List.length_set, List.length_replicate] at this ⊢) <;> omega)) ?_)
    refine XL.as (.bool (false)) rfl ?_
    refine XL.nil ?_
    refine X.ret (thenQ_ret (thenQ_ret (blockQ_ret (thenQ_ret (thenQ_ret (blockQ_ret (thenQ_ret (retEnd (L' := L) [.agg (bs).toArray, .bool (false)] (.tuple #[.agg (bs).toArray, .bool (false)]) (.cell rfl (loadNV bs isAgg170 sizeOf170 (by have := CO.len hbc; (try simp only [List.length_set, List.length_replicate] at this ⊢) <;> omega) (Rd.ownN [] rfl take_all)) (.tmp rfl .nil)) rfl rF rF (sD (sD (sD sR))) ?_))))))))
    have hz : mGo ar t p 0 b = none := hm.trans (mGo_ne (by omega) (by omega) (by omega) (by assumption))
    refine ⟨rfl, _, _, by rw [hz]; rfl, hbc, by (try simp only [List.length_set]) <;> omega, fun r hr => ?_, rfl⟩
    rw [hz] at hr; cases hr
   refine X.skip (X.seq (X.region ?_))
   refine XL.mv (.int .i64 ((i : Int))) rfl ?_
   refine cX (XOp.addR (a := (i : Int)) (b := 1) (((i + 1 : Nat) : Int)) rfl rfl (by omega) (by omega) ?_)
   refine XL.as (.int .i64 (((i + 1 : Nat) : Int))) rfl ?_
   refine XL.nil ?_
   refine X.exit (thenQ_exit (blockQ_exit ?_))
   refine X.region ?_
   refine cX (XOp.addR (a := (k : Int)) (b := 1) (((k + 1 : Nat) : Int)) rfl rfl (by omega) (by omega) ?_)
   refine XL.mv (.int .i64 (((k + 1 : Nat) : Int))) rfl ?_
   refine XL.nil ?_
   exact ⟨(k + 1, i + 1, bs, bl), _, FLe.refl _, rF, ⟨rfl, rfl, rfl, rfl, rfl, rfl, rfl, rfl, trivial⟩, (sC (sC (sC sR))), ⟨rfl, (hbc), (by (try simp only [List.length_set]) <;> omega), (by (try dsimp only) <;> omega), (by (try dsimp only) <;> omega), (hm.trans (mGo_sym (by omega) (by omega) (by omega) (by omega)))⟩, (by omega)⟩
  refine X.skip (X.seq (X.region ?_))
  refine cX (XOp.loadN [arv] isAgg26 sizeOf26 rfl rfl (Rd.ownN [_, _] rfl rfl) ?_)
  refine XL.mv (tv) rfl ?_
  refine XL.mv (.int .i64 ((i : Int))) rfl ?_
  refine cX (XOp.call (args := [.agg #[arv], tv, .int .i64 (i : Int)]) call138 rfl (subAt_spec (p := i) har ht (ho := (by first | assumption | rfl | omega | simp)) (hp := (by first | assumption | rfl | omega | simp)) (hnn := (by first | assumption | rfl | omega | simp))) ?_)
  rintro v1 _ _ _ ⟨rfl, rfl, hv1, hn1⟩
  refine XL.as (v1) rfl ?_
  refine XL.nil (X.seq (X.seq (X.region ?_)))
  refine XL.mv (.int .i64 (p.getD k 0)) rfl ?_
  refine cX (XOp.subR (a := -1) (b := p.getD k 0) ((-1) - (p.getD k 0)) rfl rfl (by omega) (by omega) ?_)
  refine cX (XOp.indexA (i := (-1) - (p.getD k 0)) (((-1) - (p.getD k 0)).toNat) (((-1) - (p.getD k 0)).toNat) runUnderlying170 sizeOf24 rfl rfl (by omega) (by omega) (by omega) ?_)
  obtain ⟨a1, ha1, hn2, he1⟩ := hbc.get (i := ((-1) - (p.getD k 0)).toNat) (by omega)
  refine cX (XOp.load1 (v := a1) isAgg24 rfl (Rd.own [_] rfl he1) ?_)
  refine cX (XOp.eqNil (v := a1) runUnderlying24 rfl rfl (IntsF.isSl ha1) ?_)
  refine XL.nil ?_
  refine X.cond (t := isNil a1) rfl (fun h5 => ?_) (fun h5 => ?_)
  ·refine X.region ?_
   refine XL.mv (.int .i64 (p.getD k 0)) rfl ?_
   refine cX (XOp.subR (a := -1) (b := p.getD k 0) ((-1) - (p.getD k 0)) rfl rfl (by omega) (by omega) ?_)
   refine XL.mv (v1) rfl ?_
   refine cX (XOp.indexA (i := (-1) - (p.getD k 0)) (((-1) - (p.getD k 0)).toNat) (((-1) - (p.getD k 0)).toNat) runUnderlying170 sizeOf24 rfl rfl (by omega) (by omega) (by omega) ?_)
   refine cX (XOp.store1 (v := v1) [_] _ (bs.set (((-1) - (p.getD k 0)).toNat) v1) sizeOf24 rfl rfl (one_sl (IntsF.isSl hv1)) rfl (blt_of (by have := CO.len hbc; (try simp only [List.length_set, List.length_replicate] at this ⊢) <;> omega)) rfl ?_)
   have hc2 := hbc.set (((-1) - (p.getD k 0)).toNat) hv1 (by simp [*, sub_ne ho (show i < t.length by omega)])
   refine XL.nil (X.region ?_)
   refine XL.mv (.int .i64 ((i : Int))) rfl ?_
   refine XL.mv (v1) rfl ?_
   refine cX (XOp.lenS (v := v1) (n := ((sub ar t i)).length) runUnderlying24 rfl hv1.slv ?_)
   refine cX (XOp.addR (a := (i : Int)) (b := ((((sub ar t i)).length : Nat) : Int)) (((i + (((sub ar t i)).length) : Nat) : Int)) rfl rfl (by omega) (by omega) ?_)
   refine XL.as (.int .i64 (((i + (((sub ar t i)).length) : Nat) : Int))) rfl ?_
   refine XL.nil (X.region ?_)
   refine cX (XOp.addR (a := (k : Int)) (b := 1) (((k + 1 : Nat) : Int)) rfl rfl (by omega) (by omega) ?_)
   refine XL.mv (.int .i64 (((k + 1 : Nat) : Int))) rfl ?_
   refine XL.nil ?_
   exact ⟨(k + 1, i + (((sub ar t i)).length), (bs.set (((-1) - (p.getD k 0)).toNat) v1), (bl.set (((-1) - (p.getD k 0)).toNat) ((sub ar t i)))), _, FLe.refl _, rF, ⟨rfl, rfl, rfl, rfl, rfl, rfl, rfl, rfl, trivial⟩, (sC (sC (sC sR))), ⟨rfl, (hc2), (by (try simp only [List.length_set]) <;> omega), (by (try dsimp only) <;> omega), (by (try dsimp only) <;> omega), (hm.trans (mGo_new (by omega) (by omega) (by omega) (of_decide_eq_true (hn2.symm.trans (by assumption)))))⟩, (by omega)⟩
  refine X.seq (X.region ?_)
  refine XL.mv (.int .i64 (p.getD k 0)) rfl ?_
  refine cX (XOp.subR (a := -1) (b := p.getD k 0) ((-1) - (p.getD k 0)) rfl rfl (by omega) (by omega) ?_)
  refine cX (XOp.indexA (i := (-1) - (p.getD k 0)) (((-1) - (p.getD k 0)).toNat) (((-1) - (p.getD k 0)).toNat) runUnderlying170 sizeOf24 rfl rfl (by omega) (by omega) (by omega) ?_)
  refine cX (XOp.load1 (v := a1) isAgg24 rfl (Rd.own [_] rfl he1) ?_)
  refine XL.mv (v1) rfl ?_
  refine cX (XOp.call (args := [a1, v1]) call62 rfl (Equal_spec ha1 hv1 (hbd := (by first | assumption | rfl | omega | (left; simp; done) | (right; simp; done)))) ?_)
  rintro _ _ _ _ ⟨rfl, rfl, rfl⟩
  refine cX (XOp.notD (p := ((bl.getD (((-1) - (p.getD k 0)).toNat) [])) = ((sub ar t i))) rfl ?_)
  refine XL.nil ?_
  refine X.condD (p := ¬(((bl.getD (((-1) - (p.getD k 0)).toNat) [])) = ((sub ar t i)))) rfl (fun h6 => ?_) (fun h6 => ?_)
  ·refine X.seq (X.region ?_)
   refine cX (XOp.loadN bs isAgg170 sizeOf170 (by have := CO.len hbc; (try simp only [List.length_set, List.length_replicate] at this ⊢) <;> omega) rfl (Rd.ownN [_] rfl take_all) ?_)
   refine cX (XOp.storeN (vs := bs) [] _ bs sizeOf170 rfl rfl (by have := CO.len hbc; (try simp only [List.length_set, List.length_replicate] at this ⊢) <;> omega) hbc.ones rfl (Nat.ble_eq_true_of_le (Nat.le_of_eq (by have := CO.len hc1; (try simp only [List.length_set, List.length_replicate] at this ⊢) <;> omega))) (arr_over (by have := CO.len hc1; (try simp only [List.length_set, List.length_replicate] at this ⊢) <;> omega)) ?_)
   refine XL.as (.bool (false)) rfl ?_
   refine XL.nil ?_
   refine X.ret (thenQ_ret (blockQ_ret (thenQ_ret (thenQ_ret (blockQ_ret (thenQ_ret (retEnd (L' := L) [.agg (bs).toArray, .bool (false)] (.tuple #[.agg (bs).toArray, .bool (false)]) (.cell rfl (loadNV bs isAgg170 sizeOf170 (by have := CO.len hbc; (try simp only [List.length_set, List.length_replicate] at this ⊢) <;> omega) (Rd.ownN [] rfl take_all)) (.tmp rfl .nil)) rfl rF rF (sD (sD (sD sR))) ?_)))))))
   have hz : mGo ar t p 0 b = none := hm.trans (mGo_clash (by omega) (by omega) (by omega) (of_decide_eq_false (hn2.symm.trans (by assumption))) (by assumption))
   refine ⟨rfl, _, _, by rw [hz]; rfl, hbc, by (try simp only [List.length_set]) <;> omega, fun r hr => ?_, rfl⟩
   rw [hz] at hr; cases hr
  refine X.skip (X.region ?_)
  refine XL.mv (.int .i64 ((i : Int))) rfl ?_
  refine XL.mv (v1) rfl ?_
  refine cX (XOp.lenS (v := v1) (n := ((sub ar t i)).length) runUnderlying24 rfl hv1.slv ?_)
  refine cX (XOp.addR (a := (i : Int)) (b := ((((sub ar t i)).length : Nat) : Int)) (((i + (((sub ar t i)).length) : Nat) : Int)) rfl rfl (by omega) (by omega) ?_)
  refine XL.as (.int .i64 (((i + (((sub ar t i)).length) : Nat) : Int))) rfl ?_
  refine XL.nil (X.region ?_)
  refine cX (XOp.addR (a := (k : Int)) (b := 1) (((k + 1 : Nat) : Int)) rfl rfl (by omega) (by omega) ?_)
  refine XL.mv (.int .i64 (((k + 1 : Nat) : Int))) rfl ?_
  refine XL.nil ?_
  exact ⟨(k + 1, i + (((sub ar t i)).length), bs, bl), _, FLe.refl _, rF, ⟨rfl, rfl, rfl, rfl, rfl, rfl, rfl, rfl, trivial⟩, (sC (sC (sC sR))), ⟨rfl, (hbc), (by (try simp only [List.length_set]) <;> omega), (by (try dsimp only) <;> omega), (by (try dsimp only) <;> omega), (hm.trans (mGo_same (by omega) (by omega) (by omega) (of_decide_eq_false (hn2.symm.trans (by assumption))) (by first | assumption | exact Classical.not_not.1 (by assumption))))⟩, (by omega)⟩
 refine X.exit (thenQ_exit (thenQ_exit (blockQ_exit ?_)))
 refine X.seq (X.region ?_)
 refine cX (XOp.loadN bs isAgg170 sizeOf170 (by have := CO.len hbc; (try simp only [List.length_set, List.length_replicate] at this ⊢) <;> omega) rfl (Rd.ownN [_] rfl take_all) ?_)
 refine cX (XOp.storeN (vs := bs) [] _ bs sizeOf170 rfl rfl (by have := CO.len hbc; (try simp only [List.length_set, List.length_replicate] at this ⊢) <;> omega) hbc.ones rfl (Nat.ble_eq_true_of_le (Nat.le_of_eq (by have := CO.len hc1; (try simp only [List.length_set, List.length_replicate] at this ⊢) <;> omega))) (arr_over (by have := CO.len hc1; (try simp only [List.length_set, List.length_replicate] at this ⊢) <;> omega)) ?_)
 refine XL.as (.bool (true)) rfl ?_
 refine XL.nil ?_
 refine X.ret (retEnd (L' := L) [.agg (bs).toArray, .bool (true)] (.tuple #[.agg (bs).toArray, .bool (true)]) (.cell rfl (loadNV bs isAgg170 sizeOf170 (by have := CO.len hbc; (try simp only [List.length_set, List.length_replicate] at this ⊢) <;> omega) (Rd.ownN [] rfl take_all)) (.tmp rfl .nil)) rfl rF rF (sD (sD (sD sR))) ?_)
 have hz : mGo ar t p 0 b = some bl := hm.trans (mGo_done (by omega))
 refine ⟨rfl, _, _, by rw [hz]; rfl, hbc, by (try simp only [List.length_set]) <;> omega, fun r hr => ?_, rfl⟩
 rw [hz] at hr; exact Option.some.inj hr

/- impl.variable -/
theorem variable_spec {F : FH} {L : List HP} {i : Nat} (hi : i ≤ 1000) :
    Does prog 207 [.int .i64 ((i : Int))] F (L) (fun v F' L' => F = F' ∧ IsSl v ∧ intsH 2 v ([-1 - (i : Int)]) :: L = L') := by
 refine Does.of_X func207 rfl rfl rfl ?_
 refine X.seq (X.region ?_)
 refine XL.as ((.slice none 0 0)) rfl ?_
 refine XL.nil (X.seq (X.region ?_))
 refine XL.mv (.int .i64 ((i : Int))) rfl ?_
 refine cX (XOp.subR (a := -1) (b := (i : Int)) ((-1) - ((i : Int))) rfl rfl (by omega) (by omega) ?_)
 refine cX (XOp.buildSlice (s := 1) [.int .i64 ((-1) - ((i : Int)))] [.int .i64 (0)] [(0, [.int .i64 ((-1) - ((i : Int)))])] runUnderlying24 sizeOf2 zeroValue2 rfl (by decide) rfl (.cons rfl CellsAre.nil) rfl ?_)
 intro v1 hv1
 refine XL.as (v1) rfl ?_
 refine XL.nil ?_
 refine X.ret (retEnd (L' := intsH 2 v1 ([(-1) - ((i : Int))]) :: L) [v1] (v1) (.tmp rfl .nil) rfl rF rF (sC sR) ?_)
 refine ⟨rfl, (isSl_lit hv1), ?_⟩
 have hxs : ([-1 - (i : Int)] : List Int) = [(-1) - ((i : Int))] := rfl
 exact congrArg (fun z => intsH 2 _ z :: L) hxs

/- (impl.bindings).subst -/
theorem subst_spec {F : FH} {L : List HP} {bs : List Value} {b : RowL} (hb : BindC F bs b) (hbl : b.length = 24) :
    Does prog 192 [.agg (bs).toArray] F (L) (fun v F' L' => ∃ (a : Value), (.agg #[a] : Value) = v ∧ (RowsF F' a b) ∧ L = L') := by
 refine Does.of_X func192 rfl rfl rfl ?_
 refine X.seq (X.region ?_)
 refine cX (XOp.box bs rfl rfl ?_)
 intro b1
 refine cX (XOp.alloc [(.slice none 0 0)] zeroValue76 rfl ?_)
 intro b2
 refine XL.nil (X.seq (X.region ?_))
 refine cX (XOp.sliceArr (cs := bs) [_] _ runUnderlying170 sizeOf24 rfl (by have := CO.len hb; (try simp only [List.length_set, List.length_replicate] at this ⊢) <;> omega) rfl ?_)
 intro v1 hv1
 have hc1 := BindC.rows hb
 refine cX (XOp.build [v1] [(.slice none 0 0)] [(0, 1)] [(0, [v1])] runUnderlying76 zeroValue76 rfl (.cons rfl sizeOf47 PlacesAre.nil) rfl (.cons (cells_one ⟨_, _, _, hv1⟩) CellsAre.nil) ?_)
 refine cX (XOp.storeN (vs := [v1]) [] _ [v1] sizeOf76 rfl rfl rfl (ones_cons (one_sl ⟨_, _, _, hv1⟩) ones_nil) rfl rfl rfl ?_)
 refine XL.nil ?_
 refine X.freezeF [_] _ _ rfl (fun F1 le1 hz1 => ?_)
 replace hc1 := hc1.mono le1
 have hf1 : RowsF F1 v1 b := CO.fz hc1 (by first | rfl | simp | omega) hz1.fz
 refine X.ret (retEnd (L' := L) [.agg #[v1]] (.agg #[v1]) (.cell rfl (loadNV [v1] isAgg76 sizeOf76 rfl (Rd.ownN [] rfl rfl)) .nil) rfl le1 rF (sD sR) ?_)
 exact ⟨_, rfl, hf1, rfl⟩
end Go.Proofs.YtmaaifhmhclhdaaGreat
set_option linter.unusedSimpArgs false
set_option linter.unusedVariables false
namespace Go.Proofs.YtmaaifhmhclhdaaGreat
open Go X M Tryz

/- impl.plain -/
theorem plain_spec {F : FH} {L : List HP} {sv : Value} {s : List (List Int)} (hs : RowsF F sv s) (hsl : s.length ≤ 24) (hsb : ∀ i, i < s.length → (s.getD i []).length ≤ 4000000) :
    Does prog 191 [.agg #[sv]] F (L) (fun v F' L' => ∃ (a : Value), (.agg #[a] : Value) = v ∧ (RowsF F' a (plainL s)) ∧ L = L') := by
 refine Does.of_X func191 rfl rfl rfl ?_
 refine X.seq (X.region ?_)
 refine cX (XOp.box [sv] rfl rfl ?_)
 intro b1
 refine cX (XOp.alloc [(.slice none 0 0)] zeroValue76 rfl ?_)
 intro b2
 refine XL.nil (X.seq (X.region ?_))
 refine cX (XOp.alloc [(.slice none 0 0)] zeroValue76 rfl ?_)
 intro b3
 refine XL.nil (X.seq (X.seq (X.region ?_)))
 refine cX (XOp.fieldP (b := b1) (0) runUnderlying76 rfl sizeOf47 (by decide) rfl rfl ?_)
 refine cX (XOp.load1 (v := sv) isAgg47 rfl (Rd.own [_, _] rfl rfl) ?_)
 refine cX (XOp.lenS (v := sv) (n := (s).length) runUnderlying47 rfl hs.slv ?_)
 refine XL.mv (.int .i64 (0)) rfl ?_
 refine XL.nil (X.block ?_)
 refine X.loop (α := Nat × Value × RowL × FH) (fun xQ => [(2, ptr b2 0), (3, ptr b3 0), (7, sv), (8, .int .i64 ((s.length : Int))), (9, .int .i64 (((xQ.1 : Nat) : Int)))]) (fun xQ => rowsH 24 xQ.2.2.2 xQ.2.1 xQ.2.2.1 :: cellsH b3 [xQ.2.1] 76 :: cellsH b2 [(.slice none 0 0)] 76 :: cellsH b1 [sv] 76 :: L) (fun xQ F' => xQ.2.2.2 = F' ∧ F ≤ xQ.2.2.2 ∧ (IsSl xQ.2.1) ∧ (xQ.2.2.1 = trim ((plainGo 0 s).take xQ.1)) ∧ (xQ.1 ≤ s.length)) (fun xQ => s.length - xQ.1) (0, (.slice none 0 0), [], F) ⟨rfl, rfl, rfl, rfl, rfl, trivial⟩ (coH.addNil none (sC (sC (sC sR)))) ⟨rfl, FLe.refl _, (⟨_, _, _, rfl⟩), (rfl), (by (try dsimp only) <;> omega)⟩ ?_
 rintro ⟨k, ov, os, G1⟩ rE _ _ ⟨rfl, leG, hov, hos, hk⟩
 show X _ _ _ _ (envs [(2, ptr b2 0), (3, ptr b3 0), (7, sv), (8, .int .i64 ((s.length : Int))), (9, .int .i64 ((k : Int)))] rE) _ (rowsH 24 G1 ov os :: cellsH b3 [ov] 76 :: cellsH b2 [(.slice none 0 0)] 76 :: cellsH b1 [sv] 76 :: L)
 replace leG : F ≤ G1 := leG
 dsimp only at hov hos hk
 have leG1 := leG
 replace hs := hs.mono leG1
 refine X.open [] rfl (fun cs1 hc1 => ?_)
 replace hc1 : RowsC G1 cs1 os := hc1
 refine X.seq (X.region ?_)
 refine cX (XOp.lss (a := (k : Int)) (b := (s.length : Int)) rfl rfl ?_)
 refine XL.nil (X.seq ?_)
 refine X.condD (p := (k : Int) < (s.length : Int)) rfl (fun h1 => ?_) (fun h1 => ?_)
 ·refine X.skip (X.seq (X.block (X.seq (X.region ?_))))
  refine XL.mv (.int .i64 ((k : Int))) rfl ?_
  refine cX (XOp.indexS (v := sv) (i := (k : Int)) (n := (s).length) k runUnderlying47 sizeOf24 rfl rfl rfl hs.slv (by omega) (Nat.mul_one _) ?_)
  obtain ⟨a1, ha1, hr1⟩ := hs.rd (i := k) (by omega)
  refine cX (XOp.load1 (v := a1) isAgg24 rfl (hr1 _) ?_)
  refine XL.as (.int .i64 ((k : Int))) rfl ?_
  refine XL.as (a1) rfl ?_
  refine XL.nil (X.seq (X.seq (X.region ?_)))
  refine XL.mv (a1) rfl ?_
  refine cX (XOp.lenS (v := a1) (n := ((s.getD k [])).length) runUnderlying24 rfl ha1.slv ?_)
  refine cX (XOp.eql (a := ((((s.getD k [])).length : Nat) : Int)) (b := 0) rfl rfl ?_)
  refine XL.mv (.bool (decide ((((((s.getD k [])).length : Nat) : Int) : Int) = 0))) rfl ?_
  by_cases h2 : (((((s.getD k [])).length : Nat) : Int) : Int) = 0
  ·refine XL.no (t := 17) rfl (vT h2) ?_
   refine XL.no (t := 17) rfl (vT h2) ?_
   refine XL.no (t := 17) rfl (vT h2) ?_
   refine XL.no (t := 17) rfl (vT h2) ?_
   refine cX (XOp.pickT (.bool (true)) (vT h2) rfl ?_)
   refine XL.nil ?_
   refine X.condT rfl ?_
   refine X.exit (thenQ_exit (blockQ_exit ?_))
   refine X.region ?_
   refine cX (XOp.addR (a := (k : Int)) (b := 1) (((k + 1 : Nat) : Int)) rfl rfl (by omega) (by omega) ?_)
   refine XL.mv (.int .i64 (((k + 1 : Nat) : Int))) rfl ?_
   refine XL.nil ?_
   exact ⟨(k + 1, ov, os, G1), _, leG1, rF, ⟨rfl, rfl, rfl, rfl, rfl, trivial⟩, (coH.close hc1 (by first | rfl | simp) (sC (sC (sC sR)))), ⟨rfl, leG1, (hov), (hos.trans (plain_skip (by omega) (by first | (left; exact List.eq_nil_of_length_eq_zero (by omega)) | (right; assumption))).symm), (by (try dsimp only) <;> omega)⟩, (by omega)⟩
  refine XL.yes (t := 17) rfl (vF h2) (XOp.move (a1) rfl ?_)
  refine XL.yes (t := 17) rfl (vF h2) (XOp.move (.int .i64 ((k : Int))) rfl ?_)
  refine XL.yes (t := 17) rfl (vF h2) (XOp.frzF <| XOp.call (args := [.int .i64 (k : Int)]) call207 rfl (variable_spec (i := k) (hi := (by first | assumption | rfl | omega | simp))) ?_)
  rintro v1 _ _ _ ⟨rfl, hs1, rfl⟩
  refine ⟨_, _, rfl, fun F1 le1 hz1 => ?_⟩
  replace hs := hs.mono le1
  replace hc1 := hc1.mono le1
  replace ha1 := ha1.mono le1
  have hf1 : IntsF F1 v1 (([-1 - (k : Int)])) := intsH.fz (xs := ([-1 - (k : Int)])) hz1.fz
  refine XL.yes (t := 17) rfl (vF h2) (XOp.call (args := [a1, v1]) call62 rfl (Equal_spec ha1 hf1 (hbd := (by first | assumption | rfl | omega | (left; simp; done) | (right; simp; done)))) ?_)
  rintro _ _ _ _ ⟨rfl, rfl, rfl⟩
  refine cX (XOp.pickF (.bool (decide (((s.getD k [])) = (([-1 - (k : Int)]))))) (vF h2) rfl ?_)
  refine XL.nil ?_
  refine X.condD (p := ((s.getD k [])) = (([-1 - (k : Int)]))) rfl (fun h3 => ?_) (fun h3 => ?_)
  ·refine X.exit (thenQ_exit (blockQ_exit ?_))
   refine X.region ?_
   refine cX (XOp.addR (a := (k : Int)) (b := 1) (((k + 1 : Nat) : Int)) rfl rfl (by omega) (by omega) ?_)
   refine XL.mv (.int .i64 (((k + 1 : Nat) : Int))) rfl ?_
   refine XL.nil ?_
   exact ⟨(k + 1, ov, os, F1), _, (FLe.trans leG1 le1), rF, ⟨rfl, rfl, rfl, rfl, rfl, trivial⟩, (coH.close hc1 (by first | rfl | simp) (sC (sC (sC sR)))), ⟨rfl, (FLe.trans leG1 le1), (hov), (hos.trans (plain_skip (by omega) (by first | (left; exact List.eq_nil_of_length_eq_zero (by omega)) | (right; assumption))).symm), (by (try dsimp only) <;> omega)⟩, (by omega)⟩
  refine X.skip (X.seq (X.block ?_))
  refine X.loop (α := Nat × Value × RowL × FH) (fun xQ => [(2, ptr b2 0), (3, ptr b3 0), (4, .int .i64 ((k : Int))), (5, a1), (7, sv), (8, .int .i64 ((s.length : Int))), (9, .int .i64 ((k : Int)))]) (fun xQ => rowsH 24 xQ.2.2.2 xQ.2.1 xQ.2.2.1 :: cellsH b3 [xQ.2.1] 76 :: cellsH b2 [(.slice none 0 0)] 76 :: cellsH b1 [sv] 76 :: L) (fun xQ F' => xQ.2.2.2 = F' ∧ F1 ≤ xQ.2.2.2 ∧ (IsSl xQ.2.1) ∧ (xQ.2.2.1 = os ++ List.replicate xQ.1 []) ∧ (xQ.2.2.1.length ≤ k)) (fun xQ => k - xQ.2.2.1.length) (0, ov, os, F1) ⟨rfl, rfl, rfl, rfl, rfl, rfl, rfl, trivial⟩ (coH.close hc1 (by first | rfl | simp) (sC (sC (sC sR)))) ⟨rfl, FLe.refl _, (hov), (by simp), (by have := trim_le ((plainGo 0 s).take k); rw [← hos, List.length_take] at this; (try dsimp only); omega)⟩ ?_
  rintro ⟨j, ov2, os2, G2⟩ rE _ _ ⟨rfl, leG, hov2, hos2, hl2⟩
  show X _ _ _ _ (envs [(2, ptr b2 0), (3, ptr b3 0), (4, .int .i64 ((k : Int))), (5, a1), (7, sv), (8, .int .i64 ((s.length : Int))), (9, .int .i64 ((k : Int)))] rE) _ (rowsH 24 G2 ov2 os2 :: cellsH b3 [ov2] 76 :: cellsH b2 [(.slice none 0 0)] 76 :: cellsH b1 [sv] 76 :: L)
  replace leG : F1 ≤ G2 := leG
  dsimp only at hov2 hos2 hl2
  have leG2 := leG
  replace hs := hs.mono leG2
  replace hc1 := hc1.mono leG2
  replace ha1 := ha1.mono leG2
  refine X.open [] rfl (fun cs2 hc2 => ?_)
  replace hc2 : RowsC G2 cs2 os2 := hc2
  refine X.seq (X.seq (X.region ?_))
  refine cX (XOp.fieldP (b := b3) (0) runUnderlying76 rfl sizeOf47 (by decide) rfl rfl ?_)
  refine cX (XOp.load1 (v := ov2) isAgg47 rfl (Rd.own [_] rfl rfl) ?_)
  refine cX (XOp.lenS (v := ov2) (n := os2.length) runUnderlying47 rfl (SlV.own [] rfl) ?_)
  refine XL.mv (.int .i64 ((k : Int))) rfl ?_
  refine cX (XOp.lss (a := (os2.length : Int)) (b := (k : Int)) rfl rfl ?_)
  refine XL.nil ?_
  refine X.condD (p := ((os2.length : Int) : Int) < (k : Int)) rfl (fun h4 => ?_) (fun h4 => ?_)
  ·refine X.skip (X.block (X.region ?_))
   refine cX (XOp.fieldP (b := b3) (0) runUnderlying76 rfl sizeOf47 (by decide) rfl rfl ?_)
   refine cX (XOp.load1 (v := ov2) isAgg47 rfl (Rd.own [_] rfl rfl) ?_)
   refine cX (XOp.buildSlice (s := 1) [(.slice none 0 0)] [(.slice none 0 0)] [(0, [(.slice none 0 0)])] runUnderlying47 sizeOf24 zeroValue24 rfl (by decide) rfl (.cons rfl CellsAre.nil) rfl ?_)
   intro v2 hv1
   refine cX (XOp.append (m := 1) (bytes := 24) (cs := cs2) [_] _ [(.slice none 0 0)] runUnderlying47 typeInfo24 rfl rfl rfl rfl rfl rfl rfl (SlV.own [] rfl) rfl (Rd.lit [] rfl) (ones_cons rfl ones_nil) (by (try simp only [List.length_append, List.length_nil, List.length_cons, List.length_singleton]); omega) (by (try simp only [List.length_append, List.length_nil, List.length_cons, List.length_singleton]); omega) ?_)
   intro v3 hs2 hn1 hm1
   have hc3 := RowsC.snoc hc2 IntsF.nilV
   refine cX (XOp.fieldP (b := b3) (0) runUnderlying76 rfl sizeOf47 (by decide) rfl rfl ?_)
   refine cX (XOp.store1 (v := v3) [_, _] _ [v3] sizeOf47 rfl rfl (one_sl hs2) rfl rfl rfl ?_)
   refine XL.nil ?_
   exact ⟨(j + 1, v3, os2 ++ [[]], G2), _, leG2, rF, ⟨rfl, rfl, rfl, rfl, rfl, rfl, rfl, trivial⟩, (sD (coH.close hc3 (by first | rfl | simp) (sC (sC (sC sR))))), ⟨rfl, leG2, (hs2), (by dsimp only; rw [hos2, List.append_assoc, List.replicate_succ']), (by dsimp only; rw [List.length_append]; simp only [List.length_singleton]; omega)⟩, (by dsimp only; rw [List.length_append]; simp only [List.length_singleton]; omega)⟩
  refine X.exit (thenQ_exit (thenQ_exit (blockQ_exit ?_)))
  refine X.drawG [slH 24 1 ov2 ((os2).length) cs2, cellsH b3 [ov2] 76, cellsH b2 [(.slice none 0 0)] 76, cellsH b1 [sv] 76] L 5 [[], [], [], [], [3]] [[], [0], [], [2], [3]] [[], [], [], [], []] (phiG [fun FF us v => v = ptr b3 0, fun FF us v => v = ov2, fun FF us v => v = a1, fun FF us v => ((v) : Value) = v ∧ (IntsF FF (v) (((s.getD k [])))), fun FF us v => ∃ b, v = .slice (some ⟨b, 0, none⟩) 1 1]) (ownL [fun us v => [], fun us v => [], fun us v => [], fun us v => [], fun us v => [slH 24 1 v 1 [((us.getD 0 undef))]]]) mixed rfl rfl (by kernel_rfl) (by kernel_rfl) (MonoG.get (mC (fun le h => h) (mC (fun le h => h) (mC (fun le h => h) (mC (fun le h => ⟨h.1, h.2.mono le⟩) (mC (fun le h => h) MonoG.nil)))))) ?_ ?_
  ·refine gC (fun vals Fs R leFs hpZ => ?_) ?_
   ·refine XG.op (XOp.fieldP (b := b3) (0) runUnderlying76 rfl sizeOf47 (by decide) rfl rfl ?_)
    exact ⟨rfl, rfl⟩
   refine gC (fun vals Fs R leFs hpZ => ?_) ?_
   ·replace hs := hs.mono leFs
    replace hc1 := hc1.mono leFs
    replace ha1 := ha1.mono leFs
    replace hc2 := hc2.mono leFs
    rw [eS (l := [(0, ptr b3 0)]) ⟨(hpZ 0 (by decide)), trivial⟩]
    refine XG.op (XOp.load1 (v := ov2) isAgg47 rfl (Rd.own [_] rfl rfl) ?_)
    exact ⟨rfl, rfl⟩
   refine gC (fun vals Fs R leFs hpZ => ?_) ?_
   ·refine XG.op (XOp.move (a1) rfl ?_)
    exact ⟨rfl, rfl⟩
   refine gC (fun vals Fs R leFs hpZ => ?_) ?_
   ·replace hs := hs.mono leFs
    replace hc1 := hc1.mono leFs
    replace ha1 := ha1.mono leFs
    replace hc2 := hc2.mono leFs
    rw [eS (l := [(2, a1)]) ⟨(hpZ 2 (by decide)), trivial⟩]
    refine XG.op (XOp.frzF <| XOp.call (args := [a1]) call60 rfl (Clone_spec ha1 (hlt := (hsb k (by omega)))) ?_)
    rintro v6 _ _ _ ⟨rfl, hs4, rfl⟩
    refine ⟨_, _, rfl, fun F2 le2 hz2 => ?_⟩
    replace hc1 := hc1.mono le2
    replace hc2 := hc2.mono le2
    have hf2 : IntsF F2 v6 ((((s.getD k [])))) := intsH.fz (xs := (((s.getD k [])))) hz2.fz
    exact ⟨⟨rfl, hf2⟩, rfl⟩
   refine gC (fun vals Fs R leFs hpZ => ?_) ?_
   ·obtain ⟨e3, f3_1ha⟩ := hpZ 3 (by decide)
    replace hc1 := hc1.mono leFs
    replace hc2 := hc2.mono leFs
    rw [eS (l := [(3, ((vals 3)))]) ⟨(e3).symm, trivial⟩]
    refine XG.op (XOp.buildSlice (s := 1) [((vals 3))] [(.slice none 0 0)] [(0, [((vals 3))])] runUnderlying47 sizeOf24 zeroValue24 rfl (by decide) rfl (.cons (cells_one (IntsF.isSl f3_1ha)) CellsAre.nil) rfl ?_)
    intro v7 hv3
    exact ⟨hv3, rfl⟩
   exact stepsG.nil
  intro vals F3 le3 hphi
  obtain ⟨e3, f3_1ha⟩ := hphi 3 (by decide)
  have f4 : ∃ b, (vals 4) = .slice (some ⟨b, 0, none⟩) 1 1 := hphi 4 (by decide)
  generalize hu1 : ((vals 3)) = u1 at e3 f3_1ha f4
  generalize hu4 : vals 4 = u2 at e3 f3_1ha f4
  rw [eS (l := [(1, ov2), (3, u1), (4, u2)]) ⟨(hphi 1 (by decide)), hu1, hu4, trivial⟩]
  replace hc1 := hc1.mono le3
  replace hc2 := hc2.mono le3
  show XL _ _ _ _ _ _ _ (slH 24 1 u2 1 [u1] :: slH 24 1 ov2 ((os2).length) cs2 :: cellsH b3 [ov2] 76 :: cellsH b2 [(.slice none 0 0)] 76 :: cellsH b1 [sv] 76 :: L)
  refine cX (XOp.append (m := 1) (bytes := 24) (cs := cs2) [_] _ [u1] runUnderlying47 typeInfo24 rfl rfl rfl rfl rfl rfl rfl (SlV.own [] rfl) rfl (Rd.lit [] rfl) (ones_cons (one_sl (IntsF.isSl f3_1ha)) ones_nil) (by (try simp only [List.length_append, List.length_nil, List.length_cons, List.length_singleton]); omega) (by (try simp only [List.length_append, List.length_nil, List.length_cons, List.length_singleton]); omega) ?_)
  intro v8 hs5 hn2 hm2
  have hc4 := RowsC.snoc hc2 f3_1ha
  refine cX (XOp.fieldP (b := b3) (0) runUnderlying76 rfl sizeOf47 (by decide) rfl rfl ?_)
  refine cX (XOp.store1 (v := v8) [_, _] _ [v8] sizeOf47 rfl rfl (one_sl hs5) rfl rfl rfl ?_)
  refine XL.nil (X.region ?_)
  refine cX (XOp.addR (a := (k : Int)) (b := 1) (((k + 1 : Nat) : Int)) rfl rfl (by omega) (by omega) ?_)
  refine XL.mv (.int .i64 (((k + 1 : Nat) : Int))) rfl ?_
  refine XL.nil ?_
  exact ⟨(k + 1, v8, os2 ++ [(((s.getD k [])))], F3), _, (FLe.trans (FLe.trans (FLe.trans leG1 le1) leG2) le3), rF, ⟨rfl, rfl, rfl, rfl, rfl, trivial⟩, (sD (coH.close hc4 (by first | rfl | simp) (sC (sC (sC sR))))), ⟨rfl, (FLe.trans (FLe.trans (FLe.trans leG1 le1) leG2) le3), (hs5), (plain_put (m := os2) (by omega) (by intro e; have := congrArg List.length e; simp only [List.length_nil] at this; omega) (by assumption) (by rw [hos2, hos]; exact plain_padded (by rw [← hos, ← hos2, List.length_take, plainGo_length]; omega))), (by (try dsimp only) <;> omega)⟩, (by omega)⟩
 refine X.exit (thenQ_exit (thenQ_exit (blockQ_exit ?_)))
 refine X.seq (X.region ?_)
 refine cX (XOp.loadN [ov] isAgg76 sizeOf76 rfl rfl (Rd.ownN [_] rfl rfl) ?_)
 refine cX (XOp.storeN (vs := [ov]) [_, _] _ [ov] sizeOf76 rfl rfl rfl (ones_cons (one_sl hov) ones_nil) rfl rfl rfl ?_)
 refine XL.nil ?_
 refine X.freezeF [] _ _ rfl (fun F4 le4 hz3 => ?_)
 replace hc1 := hc1.mono le4
 have hf3 : RowsF F4 ov os := CO.fz hc1 (by first | rfl | simp | omega) hz3.fz
 refine X.ret (retEnd (L' := L) [.agg #[ov]] (.agg #[ov]) (.cell rfl (loadNV [ov] isAgg76 sizeOf76 rfl (Rd.ownN [_] rfl rfl)) .nil) rfl (FLe.trans leG1 le4) rF (sD (sD (sD sR))) ?_)
 have e : os = plainL s := by rw [hos, show k = s.length from by omega, plain_all]
 exact ⟨_, rfl, by rw [← e]; exact hf3, rfl⟩

/- impl.match -/
theorem match_spec {F : FH} {L : List HP} {arv : Value} {ar : List Int} (har : IntsF F arv ar) {pv : Value} {p : List Int} (hp : IntsF F pv p) {tv : Value} {t : List Int} (ht : IntsF F tv t) (ho : termOk ar t = true) (hpo : termOk ar p = true) :
    Does prog 150 [.agg #[arv], pv, tv] F (L) (fun v F' L' => ∃ (a : Value), (.tuple #[.agg #[a], .bool ((matchB ar p t).isSome)] : Value) = v ∧ (RowsF F' a (matchP ar p t)) ∧ L = L') := by
 refine Does.of_X func150 rfl rfl rfl ?_
 have hpl := termOk_len hpo
 have hpg := fun k (hk : k < p.length) => termOk_ge hpo hk
 refine X.seq (X.region ?_)
 refine cX (XOp.box [arv] rfl rfl ?_)
 intro b1
 refine cX (XOp.alloc [(.slice none 0 0)] zeroValue76 rfl ?_)
 intro b2
 refine XL.as (.bool (false)) rfl ?_
 refine XL.nil (X.seq (X.region ?_))
 refine cX (XOp.loadN [arv] isAgg26 sizeOf26 rfl rfl (Rd.ownN [_] rfl rfl) ?_)
 refine XL.mv (pv) rfl ?_
 refine XL.mv (tv) rfl ?_
 refine cX (XOp.build0 (List.replicate 24 (Value.slice none 0 0)) runUnderlying170 ⟨_, sizeOf24⟩ zeroValue170 rfl ?_)
 have hc1 : BindC F _ _ := BindC.nils 24
 refine cX (XOp.call (args := [.agg #[arv], pv, tv, .agg (List.replicate 24 (Value.slice none 0 0)).toArray]) call140 rfl (matchInto_spec har hp ht hc1 ((by first | assumption | rfl | simp | omega)) (ho := (by first | assumption | rfl | omega | simp)) (hpl := (by first | assumption | rfl | omega | simp)) (hpg := (by first | assumption | rfl | omega | simp))) ?_)
 rintro _ _ _ _ ⟨rfl, x1, x2, rfl, hr1, hr2, hr3, rfl⟩
 have hbl24 := hr2
 refine XL.mv (.tuple #[.agg (x1).toArray, .bool ((mGo ar t p 0 (List.replicate 24 ([] : List Int))).isSome)]) rfl ?_
 refine cX (XOp.extract (.agg (x1).toArray) rfl rfl ?_)
 refine cX (XOp.extract (.bool ((mGo ar t p 0 (List.replicate 24 ([] : List Int))).isSome)) rfl rfl ?_)
 refine cX (XOp.alloc (List.replicate 24 (Value.slice none 0 0)) zeroValue170 rfl ?_)
 intro b3
 have hc2 : BindC F _ _ := BindC.nils 24
 refine cX (XOp.storeN (vs := x1) [] _ x1 sizeOf170 rfl rfl (by have := CO.len hr1; (try simp only [List.length_set, List.length_replicate] at this ⊢) <;> omega) hr1.ones rfl (Nat.ble_eq_true_of_le (Nat.le_of_eq (by have := CO.len hc2; (try simp only [List.length_set, List.length_replicate] at this ⊢) <;> omega))) (arr_over (by have := CO.len hc2; (try simp only [List.length_set, List.length_replicate] at this ⊢) <;> omega)) ?_)
 refine XL.as (.bool ((mGo ar t p 0 (List.replicate 24 ([] : List Int))).isSome)) rfl ?_
 refine XL.nil (X.seq (X.seq (X.region ?_)))
 refine XL.mv (.bool ((mGo ar t p 0 (List.replicate 24 ([] : List Int))).isSome)) rfl ?_
 refine cX (XOp.notB (b := (mGo ar t p 0 (List.replicate 24 ([] : List Int))).isSome) rfl ?_)
 refine XL.nil ?_
 refine X.cond (t := !((mGo ar t p 0 (List.replicate 24 ([] : List Int))).isSome)) rfl (fun h1 => ?_) (fun h1 => ?_)
 ·refine X.seq (X.region ?_)
  refine cX (XOp.build [(.slice none 0 0)] [(.slice none 0 0)] [(0, 1)] [] runUnderlying76 zeroValue76 rfl (.cons rfl sizeOf47 PlacesAre.nil) rfl CellsAre.nil ?_)
  refine cX (XOp.storeN (vs := [(.slice none 0 0)]) [_] _ [(.slice none 0 0)] sizeOf76 rfl rfl rfl (ones_cons rfl ones_nil) rfl rfl rfl ?_)
  refine XL.as (.bool (false)) rfl ?_
  refine XL.nil ?_
  refine X.ret (thenQ_ret (retEnd (L' := L) [.agg #[(.slice none 0 0)], .bool (false)] (.tuple #[.agg #[(.slice none 0 0)], .bool (false)]) (.cell rfl (loadNV [(.slice none 0 0)] isAgg76 sizeOf76 rfl (Rd.ownN [_] rfl rfl)) (.tmp rfl .nil)) rfl rF rF (sD (sD (sD sR))) ?_))
  have hz : matchB ar p t = none := by have h0 := h1; simpa [matchB] using h0
  exact ⟨_, by rw [hz]; rfl, by rw [matchP, hz]; exact SlOf.nilV, rfl⟩
 have hz : ∃ r, matchB ar p t = some r := Option.isSome_iff_exists.1 (by have h0 := h1; simpa [matchB] using h0)
 have hmb : ∀ i, (x2.getD i []).length ≤ t.length := by obtain ⟨r, hz⟩ := hz; have e := hr3 _ hz; rw [e]; exact (matchB_len hz).2
 have htl := termOk_len ho
 refine X.skip (X.seq (X.region ?_))
 refine cX (XOp.loadN x1 isAgg170 sizeOf170 (by have := CO.len hr1; (try simp only [List.length_set, List.length_replicate] at this ⊢) <;> omega) rfl (Rd.ownN [] rfl take_all) ?_)
 refine cX (XOp.call (args := [.agg (x1).toArray]) call192 rfl (subst_spec hr1 ((by first | assumption | rfl | simp | omega))) ?_)
 rintro _ F2 _ le2 ⟨x3, rfl, hr4, rfl⟩
 refine cX (XOp.call (args := [.agg #[x3]]) call191 rfl (plain_spec hr4 (hsl := (by first | assumption | rfl | omega | simp)) (hsb := (fun i hi => by have := hmb i; omega))) ?_)
 rintro _ F3 _ le3 ⟨x4, rfl, hr5, rfl⟩
 refine cX (XOp.storeN (vs := [x4]) [_] _ [x4] sizeOf76 rfl rfl rfl (ones_cons (one_sl (RowsF.isSl hr5)) ones_nil) rfl rfl rfl ?_)
 refine XL.as (.bool (true)) rfl ?_
 refine XL.nil ?_
 refine X.ret (retEnd (L' := L) [.agg #[x4], .bool (true)] (.tuple #[.agg #[x4], .bool (true)]) (.cell rfl (loadNV [x4] isAgg76 sizeOf76 rfl (Rd.ownN [_] rfl rfl)) (.tmp rfl .nil)) rfl (FLe.trans le2 le3) rF (sD (sD (sD sR))) ?_)
 obtain ⟨b0, hz⟩ := Option.isSome_iff_exists.1 (show (matchB ar p t).isSome = true from by have h0 := h1; simpa [matchB] using h0)
 have hb0 := hr3 _ hz
 exact ⟨_, by rw [hz]; rfl, by rw [matchP, hz]; subst hb0; exact hr5, rfl⟩
end Go.Proofs.YtmaaifhmhclhdaaGreat
