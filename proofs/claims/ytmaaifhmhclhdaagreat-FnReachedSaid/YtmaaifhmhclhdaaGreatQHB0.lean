/-
  Walks, one after the other (part 1).
-/
import Derived.Test.YtmaaifhmhclhdaaGreatQHL1
import Derived.Test.YtmaaifhmhclhdaaGreatProg
import Derived.KernelRfl
set_option linter.unusedSimpArgs false
set_option linter.unusedVariables false
namespace Go.Proofs.YtmaaifhmhclhdaaGreat
open Go X M Tryz

theorem mixed : prog.follows .mixedOrders = true := by kernel_rfl

/- impl.arityAt -/
theorem arityAt_spec {F : FH} {L : List HP} {arv : Value} {ar : List Int} (har : IntsF F arv ar) {n : Int} (hn : n < (ar.length : Int)) :
    Does prog 210 [.agg #[arv], .int .i64 (n)] F (L) (fun v F' L' => (.int .i64 (arity ar n) : Value) = v ∧ F = F' ∧ L = L') := by
 refine Does.of_X func210 rfl rfl rfl (X.seq (X.region (cX (XOp.box [arv] rfl rfl ?_))))
 intro b1
 refine XL.as (.int .i64 (0)) rfl (XL.nil (X.seq (X.seq (X.region (XL.mv (.int .i64 (n)) rfl (cX (XOp.lss rfl rfl (XL.nil ?_))))))))
 refine X.condD (p := (n : Int) < 0) rfl (fun h1 => ?_) (fun h1 => ?_)
 ·refine X.seq (X.region (XL.as (.int .i64 (0)) rfl (XL.nil (X.ret (thenQ_ret (retEnd (L' := L) [.int .i64 (0)] (.int .i64 (0)) (.tmp rfl .nil) rfl rF rF (sD sR) ?_))))))
  exact ⟨(vI (by simp [arity, *])), rfl, rfl⟩
 refine X.skip (X.seq (X.region (cX (XOp.fieldP (0) runUnderlying26 rfl sizeOf24 (by decide) rfl rfl (cX (XOp.load1 isAgg24 rfl (Rd.own [] rfl rfl) (XL.mv (.int .i64 (n)) rfl (cX (XOp.indexS ((n).toNat) runUnderlying24 sizeOf2 rfl rfl (by omega) har.slv (by omega) (Nat.mul_one _) (cX (XOp.load1 isAgg2 rfl (har.rd (by omega)) (XL.as (.int .i64 (ar.getD ((n).toNat) 0)) rfl (XL.nil (X.ret (retEnd (L' := L) [.int .i64 (ar.getD ((n).toNat) 0)] (.int .i64 (ar.getD ((n).toNat) 0)) (.tmp rfl .nil) rfl rF rF (sD sR) ?_)))))))))))))))
 exact ⟨(vI (by simp [arity, *])), rfl, rfl⟩

/- impl.SigOk -/
theorem SigOk_spec {F : FH} {L : List HP} {arv : Value} {ar : List Int} (har : IntsF F arv ar) :
    Does prog 114 [.agg #[arv]] F (L) (fun v F' L' => (.bool (sigOk ar) : Value) = v ∧ F = F' ∧ L = L') := by
 refine Does.of_X func114 rfl rfl rfl (X.seq (X.region (cX (XOp.box [arv] rfl rfl ?_))))
 intro b1
 refine XL.as (.bool (false)) rfl (XL.nil (X.seq (X.seq (X.region (cX (XOp.fieldP (0) runUnderlying26 rfl sizeOf24 (by decide) rfl rfl (cX (XOp.load1 isAgg24 rfl (Rd.own [] rfl rfl) (cX (XOp.lenS runUnderlying24 rfl har.slv (cX (XOp.lss rfl rfl (XL.mv (.bool (decide (((ar.length : Int) : Int) < 1))) rfl ?_)))))))))))))
 by_cases h1 : ((ar.length : Int) : Int) < 1
 ·refine XL.no (t := 9) rfl (vT h1) (XL.no (t := 9) rfl (vT h1) (XL.no (t := 9) rfl (vT h1) (XL.no (t := 9) rfl (vT h1) (cX (XOp.pickT (.bool (true)) (vT h1) rfl (XL.nil (X.condT rfl (X.seq (X.region (XL.as (.bool (false)) rfl (XL.nil ?_)))))))))))
  refine X.ret (thenQ_ret (retEnd (L' := L) [.bool (false)] (.bool (false)) (.tmp rfl .nil) rfl rF rF (sD sR) ?_))
  exact ⟨(vB (sigOk_short (by omega))), rfl, rfl⟩
 refine XL.yes (t := 9) rfl (vF h1) (XOp.fieldP (0) runUnderlying26 rfl sizeOf24 (by decide) rfl rfl (XL.yes (t := 9) rfl (vF h1) (XOp.load1 isAgg24 rfl (Rd.own [] rfl rfl) (XL.yes (t := 9) rfl (vF h1) (XOp.lenS runUnderlying24 rfl har.slv (XL.yes (t := 9) rfl (vF h1) (XOp.gtr rfl rfl (cX (XOp.pickF (.bool (decide (((ar.length : Int) : Int) > 8))) (vF h1) rfl (XL.nil ?_))))))))))
 refine X.condD (p := ((ar.length : Int) : Int) > 8) rfl (fun h2 => ?_) (fun h2 => ?_)
 ·refine X.seq (X.region (XL.as (.bool (false)) rfl (XL.nil (X.ret (thenQ_ret (retEnd (L' := L) [.bool (false)] (.bool (false)) (.tmp rfl .nil) rfl rF rF (sD sR) ?_))))))
  exact ⟨(vB (sigOk_short (by omega))), rfl, rfl⟩
 refine X.skip (X.seq (X.seq (X.region (cX (XOp.fieldP (0) runUnderlying26 rfl sizeOf24 (by decide) rfl rfl (cX (XOp.load1 isAgg24 rfl (Rd.own [] rfl rfl) (cX (XOp.lenS runUnderlying24 rfl har.slv (XL.mv (.int .i64 (0)) rfl (XL.nil (X.block (X.loop (α := Nat) (fun k => [(16, arv), (17, .int .i64 ((ar.length : Int))), (18, .int .i64 ((k : Int)))]) (fun k => cellsH b1 [arv] 26 :: L) (fun k F' => F = F' ∧ (k ≤ ar.length) ∧ (∀ i, i < k → 0 ≤ ar.getD i 0 ∧ ar.getD i 0 ≤ 3)) (fun k => ar.length - k) 0 ⟨rfl, rfl, rfl, trivial⟩ (sC sR) ⟨rfl, (by omega), (fun i hi => absurd hi (by omega))⟩ ?_)))))))))))))
 rintro k rE _ _ ⟨rfl, hk, hall⟩
 show X _ _ _ _ (envs [(16, arv), (17, .int .i64 ((ar.length : Int))), (18, .int .i64 ((k : Int)))] rE) _ (cellsH b1 [arv] 26 :: L)
 refine X.seq (X.region (cX (XOp.lss rfl rfl (XL.nil (X.seq ?_)))))
 refine X.condD (p := (k : Int) < (ar.length : Int)) rfl (fun h3 => ?_) (fun h3 => ?_)
 ·refine X.skip (X.seq (X.block (X.seq (X.region (cX (XOp.indexS k runUnderlying24 sizeOf2 rfl rfl rfl har.slv (by omega) (Nat.mul_one _) (cX (XOp.load1 isAgg2 rfl (har.rd (by omega)) (XL.as (.int .i64 (ar.getD k 0)) rfl (XL.nil (X.seq (X.region (XL.mv (.int .i64 (ar.getD k 0)) rfl (cX (XOp.lss rfl rfl (XL.mv (.bool (decide ((ar.getD k 0 : Int) < 0))) rfl ?_))))))))))))))))
  by_cases h4 : (ar.getD k 0 : Int) < 0
  ·refine XL.no (t := 24) rfl (vT h4) (XL.no (t := 24) rfl (vT h4) (cX (XOp.pickT (.bool (true)) (vT h4) rfl (XL.nil (X.condT rfl (X.seq (X.region (XL.as (.bool (false)) rfl (XL.nil (X.ret (blockQ_ret (thenQ_ret (thenQ_ret (blockQ_ret (thenQ_ret (retEnd (L' := L) [.bool (false)] (.bool (false)) (.tmp rfl .nil) rfl rF rF (sD sR) ?_))))))))))))))))
   exact ⟨(vB (sigOk_bad (i := k) (by omega) (by omega))), rfl, rfl⟩
  refine XL.yes (t := 24) rfl (vF h4) (XOp.move (.int .i64 (ar.getD k 0)) rfl (XL.yes (t := 24) rfl (vF h4) (XOp.gtr rfl rfl (cX (XOp.pickF (.bool (decide ((ar.getD k 0 : Int) > 3))) (vF h4) rfl (XL.nil ?_))))))
  refine X.condD (p := (ar.getD k 0 : Int) > 3) rfl (fun h5 => ?_) (fun h5 => ?_)
  ·refine X.seq (X.region (XL.as (.bool (false)) rfl (XL.nil (X.ret (blockQ_ret (thenQ_ret (thenQ_ret (blockQ_ret (thenQ_ret (retEnd (L' := L) [.bool (false)] (.bool (false)) (.tmp rfl .nil) rfl rF rF (sD sR) ?_))))))))))
   exact ⟨(vB (sigOk_bad (i := k) (by omega) (by omega))), rfl, rfl⟩
  refine X.skip (X.region (cX (XOp.addR (((k + 1 : Nat) : Int)) rfl rfl (by omega) (by omega) (XL.mv (.int .i64 (((k + 1 : Nat) : Int))) rfl (XL.nil ?_)))))
  exact ⟨k + 1, _, FLe.refl _, rF, ⟨rfl, rfl, rfl, trivial⟩, (sC sR), ⟨rfl, (by omega), (fun i hi => (Nat.lt_or_ge i k).elim (fun h => hall i h) (fun h => by obtain rfl : i = k := (by omega); omega))⟩, (by omega)⟩
 refine X.exit (thenQ_exit (thenQ_exit (blockQ_exit (X.seq (X.region (XL.as (.bool (true)) rfl (XL.nil (X.ret (retEnd (L' := L) [.bool (true)] (.bool (true)) (.tmp rfl .nil) rfl rF rF (sD sR) ?_)))))))))
 exact ⟨(vB (sigOk_of (by omega) (by omega) (fun i hi => hall i (by omega)))), rfl, rfl⟩

/- (*impl.cursor).next -/
theorem next_spec {F : FH} {L : List HP} {c p : Nat} {arv : Value} {ar : List Int} (har : IntsF F arv ar) {tv : Value} {t : List Int} (ht : IntsF F tv t) (hb : t.length ≤ 4000000) :
    Does prog 200 [ptr c 0] F (cellsH c [arv, tv, .int .i64 ((p : Int))] 197 :: L) (fun v F' L' => F = F' ∧ ((p < t.length ∧ t.getD p 0 < (ar.length : Int) ∧ (.int .i64 (arity ar (t.getD p 0)) : Value) = v ∧ cellsH c [arv, tv, .int .i64 ((p + 1 : Nat) : Int)] 197 :: L = L') ∨ (¬ (p < t.length ∧ t.getD p 0 < (ar.length : Int)) ∧ (.int .i64 (-1) : Value) = v ∧ cellsH c [arv, tv, .int .i64 (p : Int)] 197 :: L = L'))) := by
 refine Does.of_X func200 rfl rfl rfl (X.seq (X.region (XL.as (.int .i64 (0)) rfl (XL.nil (X.seq (X.seq ?_))))))
 by_cases h1 : (p : Int) ≥ (t.length : Int)
 ·refine X.draw [cellsH c [arv, tv, .int .i64 ((p : Int))] 197] L 27 [[], [], [], [], [], [], [], [], [], [], [], [], [], [], [], [], [], [], [], [], [], [], [], [], [], [], []] [[], [0], [1], [2], [], [4], [5], [6], [7], [3, 8], [9], [10], [10, 11], [10, 12], [10, 13], [10], [10, 15], [10, 16], [10, 17], [10, 14, 18], [10, 19], [10], [10, 21], [10, 22], [10, 23], [10, 24], [10, 25]] (phiL [fun us v => v = ptr c 0, fun us v => v = ptr c 0, fun us v => v = ptr c 2, fun us v => v = (.int .i64 ((p : Int)) : Value), fun us v => v = ptr c 0, fun us v => v = ptr c 0, fun us v => v = ptr c 1, fun us v => v = tv, fun us v => v = (.int .i64 ((t.length : Int)) : Value), fun us v => v = (.bool (decide ((p : Int) ≥ (t.length : Int))) : Value), fun us v => v = (.bool (decide ((p : Int) ≥ (t.length : Int))) : Value), fun us v => v = undef, fun us v => v = undef, fun us v => v = undef, fun us v => v = undef, fun us v => v = undef, fun us v => v = undef, fun us v => v = undef, fun us v => v = undef, fun us v => v = undef, fun us v => v = undef, fun us v => v = undef, fun us v => v = undef, fun us v => v = undef, fun us v => v = undef, fun us v => v = undef, fun us v => v = undef]) (ownL [fun us v => [], fun us v => [], fun us v => [], fun us v => [], fun us v => [], fun us v => [], fun us v => [], fun us v => [], fun us v => [], fun us v => [], fun us v => [], fun us v => [], fun us v => [], fun us v => [], fun us v => [], fun us v => [], fun us v => [], fun us v => [], fun us v => [], fun us v => [], fun us v => [], fun us v => [], fun us v => [], fun us v => [], fun us v => [], fun us v => [], fun us v => []]) mixed rfl rfl (by kernel_rfl) ?_ ?_
  ·refine pC (fun vals R hpZ => ?_) ?_
   ·refine XG.op (XOp.move (ptr c 0) rfl ?_)
    exact ⟨rfl, rfl, rfl⟩
   refine pC (fun vals R hpZ => ?_) ?_
   ·rw [eS (l := [(0, ptr c 0)]) ⟨hpZ 0 (by decide), trivial⟩]
    refine XG.op (XOp.nilCheck rfl ?_)
    exact ⟨rfl, rfl, rfl⟩
   refine pC (fun vals R hpZ => ?_) ?_
   ·rw [eS (l := [(1, ptr c 0)]) ⟨hpZ 1 (by decide), trivial⟩]
    refine XG.op (XOp.fieldP (2) runUnderlying197 rfl sizeOf3 (by decide) rfl rfl ?_)
    exact ⟨rfl, rfl, rfl⟩
   refine pC (fun vals R hpZ => ?_) ?_
   ·rw [eS (l := [(2, ptr c 2)]) ⟨hpZ 2 (by decide), trivial⟩]
    refine XG.op (XOp.load1 isAgg3 rfl (Rd.own [] rfl rfl) ?_)
    exact ⟨rfl, rfl, rfl⟩
   refine pC (fun vals R hpZ => ?_) ?_
   ·refine XG.op (XOp.move (ptr c 0) rfl ?_)
    exact ⟨rfl, rfl, rfl⟩
   refine pC (fun vals R hpZ => ?_) ?_
   ·rw [eS (l := [(4, ptr c 0)]) ⟨hpZ 4 (by decide), trivial⟩]
    refine XG.op (XOp.nilCheck rfl ?_)
    exact ⟨rfl, rfl, rfl⟩
   refine pC (fun vals R hpZ => ?_) ?_
   ·rw [eS (l := [(5, ptr c 0)]) ⟨hpZ 5 (by decide), trivial⟩]
    refine XG.op (XOp.fieldP (1) runUnderlying197 rfl sizeOf24 (by decide) rfl rfl ?_)
    exact ⟨rfl, rfl, rfl⟩
   refine pC (fun vals R hpZ => ?_) ?_
   ·rw [eS (l := [(6, ptr c 1)]) ⟨hpZ 6 (by decide), trivial⟩]
    refine XG.op (XOp.load1 isAgg24 rfl (Rd.own [] rfl rfl) ?_)
    exact ⟨rfl, rfl, rfl⟩
   refine pC (fun vals R hpZ => ?_) ?_
   ·rw [eS (l := [(7, tv)]) ⟨hpZ 7 (by decide), trivial⟩]
    refine XG.op (XOp.lenS runUnderlying24 rfl ht.slv ?_)
    exact ⟨rfl, rfl, rfl⟩
   refine pC (fun vals R hpZ => ?_) ?_
   ·rw [eS (l := [(3, (.int .i64 ((p : Int)) : Value)), (8, (.int .i64 ((t.length : Int)) : Value))]) ⟨hpZ 3 (by decide), hpZ 8 (by decide), trivial⟩]
    refine XG.op (XOp.geq rfl rfl ?_)
    exact ⟨rfl, rfl, rfl⟩
   refine pC (fun vals R hpZ => ?_) ?_
   ·rw [eS (l := [(9, (.bool (decide ((p : Int) ≥ (t.length : Int))) : Value))]) ⟨hpZ 9 (by decide), trivial⟩]
    refine XG.op (XOp.move (.bool (decide ((p : Int) ≥ (t.length : Int)))) rfl ?_)
    exact ⟨rfl, rfl, rfl⟩
   refine pC (fun vals R hpZ => ?_) ?_
   ·rw [eS (l := [(10, (.bool (decide ((p : Int) ≥ (t.length : Int))) : Value))]) ⟨hpZ 10 (by decide), trivial⟩]
    exact XG.no (t := 13) rfl (vT h1) ⟨rfl, rfl, rfl⟩
   refine pC (fun vals R hpZ => ?_) ?_
   ·rw [eS (l := [(10, (.bool (decide ((p : Int) ≥ (t.length : Int))) : Value)), (11, undef)]) ⟨hpZ 10 (by decide), hpZ 11 (by decide), trivial⟩]
    exact XG.no (t := 13) rfl (vT h1) ⟨rfl, rfl, rfl⟩
   refine pC (fun vals R hpZ => ?_) ?_
   ·rw [eS (l := [(10, (.bool (decide ((p : Int) ≥ (t.length : Int))) : Value)), (12, undef)]) ⟨hpZ 10 (by decide), hpZ 12 (by decide), trivial⟩]
    exact XG.no (t := 13) rfl (vT h1) ⟨rfl, rfl, rfl⟩
   refine pC (fun vals R hpZ => ?_) ?_
   ·rw [eS (l := [(10, (.bool (decide ((p : Int) ≥ (t.length : Int))) : Value)), (13, undef)]) ⟨hpZ 10 (by decide), hpZ 13 (by decide), trivial⟩]
    exact XG.no (t := 13) rfl (vT h1) ⟨rfl, rfl, rfl⟩
   refine pC (fun vals R hpZ => ?_) ?_
   ·rw [eS (l := [(10, (.bool (decide ((p : Int) ≥ (t.length : Int))) : Value))]) ⟨hpZ 10 (by decide), trivial⟩]
    exact XG.no (t := 13) rfl (vT h1) ⟨rfl, rfl, rfl⟩
   refine pC (fun vals R hpZ => ?_) ?_
   ·rw [eS (l := [(10, (.bool (decide ((p : Int) ≥ (t.length : Int))) : Value)), (15, undef)]) ⟨hpZ 10 (by decide), hpZ 15 (by decide), trivial⟩]
    exact XG.no (t := 13) rfl (vT h1) ⟨rfl, rfl, rfl⟩
   refine pC (fun vals R hpZ => ?_) ?_
   ·rw [eS (l := [(10, (.bool (decide ((p : Int) ≥ (t.length : Int))) : Value)), (16, undef)]) ⟨hpZ 10 (by decide), hpZ 16 (by decide), trivial⟩]
    exact XG.no (t := 13) rfl (vT h1) ⟨rfl, rfl, rfl⟩
   refine pC (fun vals R hpZ => ?_) ?_
   ·rw [eS (l := [(10, (.bool (decide ((p : Int) ≥ (t.length : Int))) : Value)), (17, undef)]) ⟨hpZ 10 (by decide), hpZ 17 (by decide), trivial⟩]
    exact XG.no (t := 13) rfl (vT h1) ⟨rfl, rfl, rfl⟩
   refine pC (fun vals R hpZ => ?_) ?_
   ·rw [eS (l := [(10, (.bool (decide ((p : Int) ≥ (t.length : Int))) : Value)), (14, undef), (18, undef)]) ⟨hpZ 10 (by decide), hpZ 14 (by decide), hpZ 18 (by decide), trivial⟩]
    exact XG.no (t := 13) rfl (vT h1) ⟨rfl, rfl, rfl⟩
   refine pC (fun vals R hpZ => ?_) ?_
   ·rw [eS (l := [(10, (.bool (decide ((p : Int) ≥ (t.length : Int))) : Value)), (19, undef)]) ⟨hpZ 10 (by decide), hpZ 19 (by decide), trivial⟩]
    exact XG.no (t := 13) rfl (vT h1) ⟨rfl, rfl, rfl⟩
   refine pC (fun vals R hpZ => ?_) ?_
   ·rw [eS (l := [(10, (.bool (decide ((p : Int) ≥ (t.length : Int))) : Value))]) ⟨hpZ 10 (by decide), trivial⟩]
    exact XG.no (t := 13) rfl (vT h1) ⟨rfl, rfl, rfl⟩
   refine pC (fun vals R hpZ => ?_) ?_
   ·rw [eS (l := [(10, (.bool (decide ((p : Int) ≥ (t.length : Int))) : Value)), (21, undef)]) ⟨hpZ 10 (by decide), hpZ 21 (by decide), trivial⟩]
    exact XG.no (t := 13) rfl (vT h1) ⟨rfl, rfl, rfl⟩
   refine pC (fun vals R hpZ => ?_) ?_
   ·rw [eS (l := [(10, (.bool (decide ((p : Int) ≥ (t.length : Int))) : Value)), (22, undef)]) ⟨hpZ 10 (by decide), hpZ 22 (by decide), trivial⟩]
    exact XG.no (t := 13) rfl (vT h1) ⟨rfl, rfl, rfl⟩
   refine pC (fun vals R hpZ => ?_) ?_
   ·rw [eS (l := [(10, (.bool (decide ((p : Int) ≥ (t.length : Int))) : Value)), (23, undef)]) ⟨hpZ 10 (by decide), hpZ 23 (by decide), trivial⟩]
    exact XG.no (t := 13) rfl (vT h1) ⟨rfl, rfl, rfl⟩
   refine pC (fun vals R hpZ => ?_) ?_
   ·rw [eS (l := [(10, (.bool (decide ((p : Int) ≥ (t.length : Int))) : Value)), (24, undef)]) ⟨hpZ 10 (by decide), hpZ 24 (by decide), trivial⟩]
    exact XG.no (t := 13) rfl (vT h1) ⟨rfl, rfl, rfl⟩
   refine pC (fun vals R hpZ => ?_) ?_
   ·rw [eS (l := [(10, (.bool (decide ((p : Int) ≥ (t.length : Int))) : Value)), (25, undef)]) ⟨hpZ 10 (by decide), hpZ 25 (by decide), trivial⟩]
    exact XG.no (t := 13) rfl (vT h1) ⟨rfl, rfl, rfl⟩
   exact stepsP.nil
  intro vals hphi
  rw [eS (l := [(10, (.bool (decide ((p : Int) ≥ (t.length : Int))) : Value)), (20, undef), (26, undef)]) ⟨(hphi 10 (by decide)), (hphi 20 (by decide)), (hphi 26 (by decide)), trivial⟩]
  show XL _ _ _ _ _ _ _ (cellsH c [arv, tv, .int .i64 ((p : Int))] 197 :: L)
  refine XL.no (t := 13) rfl (vT h1) (cX (XOp.pickT (.bool (true)) (vT h1) rfl (XL.nil (X.condT rfl (X.seq (X.region (XL.as (.int .i64 (-1)) rfl (XL.nil (X.ret (thenQ_ret (retEnd (L' := cellsH c [arv, tv, .int .i64 ((p : Int))] 197 :: L) [.int .i64 (-1)] (.int .i64 (-1)) (.tmp rfl .nil) rfl rF rF (sC sR) ?_)))))))))))
  exact ⟨rfl, .inr ⟨by omega, rfl, rfl⟩⟩
 refine X.draw [cellsH c [arv, tv, .int .i64 ((p : Int))] 197] L 27 [[], [], [], [], [], [], [], [], [], [], [], [], [], [], [], [], [], [], [], [], [], [], [], [], [], [], []] [[], [0], [1], [2], [], [4], [5], [6], [7], [3, 8], [9], [10], [10, 11], [10, 12], [10, 13], [10], [10, 15], [10, 16], [10, 17], [10, 14, 18], [10, 19], [10], [10, 21], [10, 22], [10, 23], [10, 24], [10, 25]] (phiL [fun us v => v = ptr c 0, fun us v => v = ptr c 0, fun us v => v = ptr c 2, fun us v => v = (.int .i64 ((p : Int)) : Value), fun us v => v = ptr c 0, fun us v => v = ptr c 0, fun us v => v = ptr c 1, fun us v => v = tv, fun us v => v = (.int .i64 ((t.length : Int)) : Value), fun us v => v = (.bool (decide ((p : Int) ≥ (t.length : Int))) : Value), fun us v => v = (.bool (decide ((p : Int) ≥ (t.length : Int))) : Value), fun us v => v = ptr c 0, fun us v => v = ptr c 0, fun us v => v = ptr c 1, fun us v => v = tv, fun us v => v = ptr c 0, fun us v => v = ptr c 0, fun us v => v = ptr c 2, fun us v => v = (.int .i64 ((p : Int)) : Value), fun us v => v = (.pointer (some (elemA tv (p))) : Value), fun us v => v = (.int .i64 (t.getD p 0) : Value), fun us v => v = ptr c 0, fun us v => v = ptr c 0, fun us v => v = ptr c 0, fun us v => v = ptr c 0, fun us v => v = arv, fun us v => v = (.int .i64 ((ar.length : Int)) : Value)]) (ownL [fun us v => [], fun us v => [], fun us v => [], fun us v => [], fun us v => [], fun us v => [], fun us v => [], fun us v => [], fun us v => [], fun us v => [], fun us v => [], fun us v => [], fun us v => [], fun us v => [], fun us v => [], fun us v => [], fun us v => [], fun us v => [], fun us v => [], fun us v => [], fun us v => [], fun us v => [], fun us v => [], fun us v => [], fun us v => [], fun us v => [], fun us v => []]) mixed rfl rfl (by kernel_rfl) ?_ ?_
 ·refine pC (fun vals R hpZ => ?_) ?_
  ·refine XG.op (XOp.move (ptr c 0) rfl ?_)
   exact ⟨rfl, rfl, rfl⟩
  refine pC (fun vals R hpZ => ?_) ?_
  ·rw [eS (l := [(0, ptr c 0)]) ⟨hpZ 0 (by decide), trivial⟩]
   refine XG.op (XOp.nilCheck rfl ?_)
   exact ⟨rfl, rfl, rfl⟩
  refine pC (fun vals R hpZ => ?_) ?_
  ·rw [eS (l := [(1, ptr c 0)]) ⟨hpZ 1 (by decide), trivial⟩]
   refine XG.op (XOp.fieldP (2) runUnderlying197 rfl sizeOf3 (by decide) rfl rfl ?_)
   exact ⟨rfl, rfl, rfl⟩
  refine pC (fun vals R hpZ => ?_) ?_
  ·rw [eS (l := [(2, ptr c 2)]) ⟨hpZ 2 (by decide), trivial⟩]
   refine XG.op (XOp.load1 isAgg3 rfl (Rd.own [] rfl rfl) ?_)
   exact ⟨rfl, rfl, rfl⟩
  refine pC (fun vals R hpZ => ?_) ?_
  ·refine XG.op (XOp.move (ptr c 0) rfl ?_)
   exact ⟨rfl, rfl, rfl⟩
  refine pC (fun vals R hpZ => ?_) ?_
  ·rw [eS (l := [(4, ptr c 0)]) ⟨hpZ 4 (by decide), trivial⟩]
   refine XG.op (XOp.nilCheck rfl ?_)
   exact ⟨rfl, rfl, rfl⟩
  refine pC (fun vals R hpZ => ?_) ?_
  ·rw [eS (l := [(5, ptr c 0)]) ⟨hpZ 5 (by decide), trivial⟩]
   refine XG.op (XOp.fieldP (1) runUnderlying197 rfl sizeOf24 (by decide) rfl rfl ?_)
   exact ⟨rfl, rfl, rfl⟩
  refine pC (fun vals R hpZ => ?_) ?_
  ·rw [eS (l := [(6, ptr c 1)]) ⟨hpZ 6 (by decide), trivial⟩]
   refine XG.op (XOp.load1 isAgg24 rfl (Rd.own [] rfl rfl) ?_)
   exact ⟨rfl, rfl, rfl⟩
  refine pC (fun vals R hpZ => ?_) ?_
  ·rw [eS (l := [(7, tv)]) ⟨hpZ 7 (by decide), trivial⟩]
   refine XG.op (XOp.lenS runUnderlying24 rfl ht.slv ?_)
   exact ⟨rfl, rfl, rfl⟩
  refine pC (fun vals R hpZ => ?_) ?_
  ·rw [eS (l := [(3, (.int .i64 ((p : Int)) : Value)), (8, (.int .i64 ((t.length : Int)) : Value))]) ⟨hpZ 3 (by decide), hpZ 8 (by decide), trivial⟩]
   refine XG.op (XOp.geq rfl rfl ?_)
   exact ⟨rfl, rfl, rfl⟩
  refine pC (fun vals R hpZ => ?_) ?_
  ·rw [eS (l := [(9, (.bool (decide ((p : Int) ≥ (t.length : Int))) : Value))]) ⟨hpZ 9 (by decide), trivial⟩]
   refine XG.op (XOp.move (.bool (decide ((p : Int) ≥ (t.length : Int)))) rfl ?_)
   exact ⟨rfl, rfl, rfl⟩
  refine pC (fun vals R hpZ => ?_) ?_
  ·rw [eS (l := [(10, (.bool (decide ((p : Int) ≥ (t.length : Int))) : Value))]) ⟨hpZ 10 (by decide), trivial⟩]
   refine XG.yes (t := 13) rfl (vF h1) (XOp.move (ptr c 0) rfl ?_)
   exact ⟨rfl, rfl, rfl⟩
  refine pC (fun vals R hpZ => ?_) ?_
  ·rw [eS (l := [(10, (.bool (decide ((p : Int) ≥ (t.length : Int))) : Value)), (11, ptr c 0)]) ⟨hpZ 10 (by decide), hpZ 11 (by decide), trivial⟩]
   refine XG.yes (t := 13) rfl (vF h1) (XOp.nilCheck rfl ?_)
   exact ⟨rfl, rfl, rfl⟩
  refine pC (fun vals R hpZ => ?_) ?_
  ·rw [eS (l := [(10, (.bool (decide ((p : Int) ≥ (t.length : Int))) : Value)), (12, ptr c 0)]) ⟨hpZ 10 (by decide), hpZ 12 (by decide), trivial⟩]
   refine XG.yes (t := 13) rfl (vF h1) (XOp.fieldP (1) runUnderlying197 rfl sizeOf24 (by decide) rfl rfl ?_)
   exact ⟨rfl, rfl, rfl⟩
  refine pC (fun vals R hpZ => ?_) ?_
  ·rw [eS (l := [(10, (.bool (decide ((p : Int) ≥ (t.length : Int))) : Value)), (13, ptr c 1)]) ⟨hpZ 10 (by decide), hpZ 13 (by decide), trivial⟩]
   refine XG.yes (t := 13) rfl (vF h1) (XOp.load1 isAgg24 rfl (Rd.own [] rfl rfl) ?_)
   exact ⟨rfl, rfl, rfl⟩
  refine pC (fun vals R hpZ => ?_) ?_
  ·rw [eS (l := [(10, (.bool (decide ((p : Int) ≥ (t.length : Int))) : Value))]) ⟨hpZ 10 (by decide), trivial⟩]
   refine XG.yes (t := 13) rfl (vF h1) (XOp.move (ptr c 0) rfl ?_)
   exact ⟨rfl, rfl, rfl⟩
  refine pC (fun vals R hpZ => ?_) ?_
  ·rw [eS (l := [(10, (.bool (decide ((p : Int) ≥ (t.length : Int))) : Value)), (15, ptr c 0)]) ⟨hpZ 10 (by decide), hpZ 15 (by decide), trivial⟩]
   refine XG.yes (t := 13) rfl (vF h1) (XOp.nilCheck rfl ?_)
   exact ⟨rfl, rfl, rfl⟩
  refine pC (fun vals R hpZ => ?_) ?_
  ·rw [eS (l := [(10, (.bool (decide ((p : Int) ≥ (t.length : Int))) : Value)), (16, ptr c 0)]) ⟨hpZ 10 (by decide), hpZ 16 (by decide), trivial⟩]
   refine XG.yes (t := 13) rfl (vF h1) (XOp.fieldP (2) runUnderlying197 rfl sizeOf3 (by decide) rfl rfl ?_)
   exact ⟨rfl, rfl, rfl⟩
  refine pC (fun vals R hpZ => ?_) ?_
  ·rw [eS (l := [(10, (.bool (decide ((p : Int) ≥ (t.length : Int))) : Value)), (17, ptr c 2)]) ⟨hpZ 10 (by decide), hpZ 17 (by decide), trivial⟩]
   refine XG.yes (t := 13) rfl (vF h1) (XOp.load1 isAgg3 rfl (Rd.own [] rfl rfl) ?_)
   exact ⟨rfl, rfl, rfl⟩
  refine pC (fun vals R hpZ => ?_) ?_
  ·rw [eS (l := [(10, (.bool (decide ((p : Int) ≥ (t.length : Int))) : Value)), (14, tv), (18, (.int .i64 ((p : Int)) : Value))]) ⟨hpZ 10 (by decide), hpZ 14 (by decide), hpZ 18 (by decide), trivial⟩]
   refine XG.yes (t := 13) rfl (vF h1) (XOp.indexS p runUnderlying24 sizeOf2 rfl rfl rfl ht.slv (by omega) (Nat.mul_one _) ?_)
   exact ⟨rfl, rfl, rfl⟩
  refine pC (fun vals R hpZ => ?_) ?_
  ·rw [eS (l := [(10, (.bool (decide ((p : Int) ≥ (t.length : Int))) : Value)), (19, (.pointer (some (elemA tv (p))) : Value))]) ⟨hpZ 10 (by decide), hpZ 19 (by decide), trivial⟩]
   refine XG.yes (t := 13) rfl (vF h1) (XOp.load1 isAgg2 rfl (ht.rd (by omega)) ?_)
   exact ⟨rfl, rfl, rfl⟩
  refine pC (fun vals R hpZ => ?_) ?_
  ·rw [eS (l := [(10, (.bool (decide ((p : Int) ≥ (t.length : Int))) : Value))]) ⟨hpZ 10 (by decide), trivial⟩]
   refine XG.yes (t := 13) rfl (vF h1) (XOp.move (ptr c 0) rfl ?_)
   exact ⟨rfl, rfl, rfl⟩
  refine pC (fun vals R hpZ => ?_) ?_
  ·rw [eS (l := [(10, (.bool (decide ((p : Int) ≥ (t.length : Int))) : Value)), (21, ptr c 0)]) ⟨hpZ 10 (by decide), hpZ 21 (by decide), trivial⟩]
   refine XG.yes (t := 13) rfl (vF h1) (XOp.nilCheck rfl ?_)
   exact ⟨rfl, rfl, rfl⟩
  refine pC (fun vals R hpZ => ?_) ?_
  ·rw [eS (l := [(10, (.bool (decide ((p : Int) ≥ (t.length : Int))) : Value)), (22, ptr c 0)]) ⟨hpZ 10 (by decide), hpZ 22 (by decide), trivial⟩]
   refine XG.yes (t := 13) rfl (vF h1) (XOp.fieldP (0) runUnderlying197 rfl sizeOf26 (by decide) rfl rfl ?_)
   exact ⟨rfl, rfl, rfl⟩
  refine pC (fun vals R hpZ => ?_) ?_
  ·rw [eS (l := [(10, (.bool (decide ((p : Int) ≥ (t.length : Int))) : Value)), (23, ptr c 0)]) ⟨hpZ 10 (by decide), hpZ 23 (by decide), trivial⟩]
   refine XG.yes (t := 13) rfl (vF h1) (XOp.fieldP (0) runUnderlying26 rfl sizeOf24 (by decide) rfl rfl ?_)
   exact ⟨rfl, rfl, rfl⟩
  refine pC (fun vals R hpZ => ?_) ?_
  ·rw [eS (l := [(10, (.bool (decide ((p : Int) ≥ (t.length : Int))) : Value)), (24, ptr c 0)]) ⟨hpZ 10 (by decide), hpZ 24 (by decide), trivial⟩]
   refine XG.yes (t := 13) rfl (vF h1) (XOp.load1 isAgg24 rfl (Rd.own [] rfl rfl) ?_)
   exact ⟨rfl, rfl, rfl⟩
  refine pC (fun vals R hpZ => ?_) ?_
  ·rw [eS (l := [(10, (.bool (decide ((p : Int) ≥ (t.length : Int))) : Value)), (25, arv)]) ⟨hpZ 10 (by decide), hpZ 25 (by decide), trivial⟩]
   refine XG.yes (t := 13) rfl (vF h1) (XOp.lenS runUnderlying24 rfl har.slv ?_)
   exact ⟨rfl, rfl, rfl⟩
  exact stepsP.nil
 intro vals hphi
 rw [eS (l := [(10, (.bool (decide ((p : Int) ≥ (t.length : Int))) : Value)), (20, (.int .i64 (t.getD p 0) : Value)), (26, (.int .i64 ((ar.length : Int)) : Value))]) ⟨(hphi 10 (by decide)), (hphi 20 (by decide)), (hphi 26 (by decide)), trivial⟩]
 show XL _ _ _ _ _ _ _ (cellsH c [arv, tv, .int .i64 ((p : Int))] 197 :: L)
 refine XL.yes (t := 13) rfl (vF h1) (XOp.geq rfl rfl (cX (XOp.pickF (.bool (decide ((t.getD p 0 : Int) ≥ (ar.length : Int)))) (vF h1) rfl (XL.nil ?_))))
 refine X.condD (p := (t.getD p 0 : Int) ≥ (ar.length : Int)) rfl (fun h2 => ?_) (fun h2 => ?_)
 ·refine X.seq (X.region (XL.as (.int .i64 (-1)) rfl (XL.nil (X.ret (thenQ_ret (retEnd (L' := cellsH c [arv, tv, .int .i64 ((p : Int))] 197 :: L) [.int .i64 (-1)] (.int .i64 (-1)) (.tmp rfl .nil) rfl rF rF (sC sR) ?_))))))
  exact ⟨rfl, .inr ⟨by omega, rfl, rfl⟩⟩
 refine X.skip (X.seq (X.region (XL.mv (ptr c 0) rfl (cX (XOp.nilCheck rfl (cX (XOp.fieldP (2) runUnderlying197 rfl sizeOf3 (by decide) rfl rfl (cX (XOp.load1 isAgg3 rfl (Rd.own [] rfl rfl) (cX (XOp.addR (((p + 1 : Nat) : Int)) rfl rfl (by omega) (by omega) (cX (XOp.nilCheck rfl (cX (XOp.fieldP (2) runUnderlying197 rfl sizeOf3 (by decide) rfl rfl (cX (XOp.store1 [] _ [arv, tv, .int .i64 (((p + 1 : Nat) : Int))] sizeOf3 rfl rfl rfl rfl rfl rfl (XL.nil (X.seq ?_)))))))))))))))))))
 refine X.draw [cellsH c [arv, tv, .int .i64 (((p + 1 : Nat) : Int))] 197] L 15 [[], [], [], [], [], [], [], [], [], [], [], [], [], [], []] [[], [0], [1], [2], [], [4], [5], [6], [], [8], [9], [10], [11], [7, 12], [13]] (phiL [fun us v => v = ptr c 0, fun us v => v = ptr c 0, fun us v => v = ptr c 0, fun us v => v = (.agg #[arv] : Value), fun us v => v = ptr c 0, fun us v => v = ptr c 0, fun us v => v = ptr c 1, fun us v => v = tv, fun us v => v = ptr c 0, fun us v => v = ptr c 0, fun us v => v = ptr c 2, fun us v => v = (.int .i64 (((p + 1 : Nat) : Int)) : Value), fun us v => v = (.int .i64 ((p : Int)) : Value), fun us v => v = (.pointer (some (elemA tv (p))) : Value), fun us v => v = (.int .i64 (t.getD p 0) : Value)]) (ownL [fun us v => [], fun us v => [], fun us v => [], fun us v => [], fun us v => [], fun us v => [], fun us v => [], fun us v => [], fun us v => [], fun us v => [], fun us v => [], fun us v => [], fun us v => [], fun us v => [], fun us v => []]) mixed rfl rfl (by kernel_rfl) ?_ ?_
 ·refine pC (fun vals R hpZ => ?_) ?_
  ·refine XG.op (XOp.move (ptr c 0) rfl ?_)
   exact ⟨rfl, rfl, rfl⟩
  refine pC (fun vals R hpZ => ?_) ?_
  ·rw [eS (l := [(0, ptr c 0)]) ⟨hpZ 0 (by decide), trivial⟩]
   refine XG.op (XOp.nilCheck rfl ?_)
   exact ⟨rfl, rfl, rfl⟩
  refine pC (fun vals R hpZ => ?_) ?_
  ·rw [eS (l := [(1, ptr c 0)]) ⟨hpZ 1 (by decide), trivial⟩]
   refine XG.op (XOp.fieldP (0) runUnderlying197 rfl sizeOf26 (by decide) rfl rfl ?_)
   exact ⟨rfl, rfl, rfl⟩
  refine pC (fun vals R hpZ => ?_) ?_
  ·rw [eS (l := [(2, ptr c 0)]) ⟨hpZ 2 (by decide), trivial⟩]
   refine XG.op (XOp.loadN [arv] isAgg26 sizeOf26 rfl rfl (Rd.ownN [] rfl rfl) ?_)
   exact ⟨rfl, rfl, rfl⟩
  refine pC (fun vals R hpZ => ?_) ?_
  ·refine XG.op (XOp.move (ptr c 0) rfl ?_)
   exact ⟨rfl, rfl, rfl⟩
  refine pC (fun vals R hpZ => ?_) ?_
  ·rw [eS (l := [(4, ptr c 0)]) ⟨hpZ 4 (by decide), trivial⟩]
   refine XG.op (XOp.nilCheck rfl ?_)
   exact ⟨rfl, rfl, rfl⟩
  refine pC (fun vals R hpZ => ?_) ?_
  ·rw [eS (l := [(5, ptr c 0)]) ⟨hpZ 5 (by decide), trivial⟩]
   refine XG.op (XOp.fieldP (1) runUnderlying197 rfl sizeOf24 (by decide) rfl rfl ?_)
   exact ⟨rfl, rfl, rfl⟩
  refine pC (fun vals R hpZ => ?_) ?_
  ·rw [eS (l := [(6, ptr c 1)]) ⟨hpZ 6 (by decide), trivial⟩]
   refine XG.op (XOp.load1 isAgg24 rfl (Rd.own [] rfl rfl) ?_)
   exact ⟨rfl, rfl, rfl⟩
  refine pC (fun vals R hpZ => ?_) ?_
  ·refine XG.op (XOp.move (ptr c 0) rfl ?_)
   exact ⟨rfl, rfl, rfl⟩
  refine pC (fun vals R hpZ => ?_) ?_
  ·rw [eS (l := [(8, ptr c 0)]) ⟨hpZ 8 (by decide), trivial⟩]
   refine XG.op (XOp.nilCheck rfl ?_)
   exact ⟨rfl, rfl, rfl⟩
  refine pC (fun vals R hpZ => ?_) ?_
  ·rw [eS (l := [(9, ptr c 0)]) ⟨hpZ 9 (by decide), trivial⟩]
   refine XG.op (XOp.fieldP (2) runUnderlying197 rfl sizeOf3 (by decide) rfl rfl ?_)
   exact ⟨rfl, rfl, rfl⟩
  refine pC (fun vals R hpZ => ?_) ?_
  ·rw [eS (l := [(10, ptr c 2)]) ⟨hpZ 10 (by decide), trivial⟩]
   refine XG.op (XOp.load1 isAgg3 rfl (Rd.own [] rfl rfl) ?_)
   exact ⟨rfl, rfl, rfl⟩
  refine pC (fun vals R hpZ => ?_) ?_
  ·rw [eS (l := [(11, (.int .i64 (((p + 1 : Nat) : Int)) : Value))]) ⟨hpZ 11 (by decide), trivial⟩]
   refine XG.op (XOp.subR ((p : Int)) rfl rfl (by omega) (by omega) ?_)
   exact ⟨rfl, rfl, rfl⟩
  refine pC (fun vals R hpZ => ?_) ?_
  ·rw [eS (l := [(7, tv), (12, (.int .i64 ((p : Int)) : Value))]) ⟨hpZ 7 (by decide), hpZ 12 (by decide), trivial⟩]
   refine XG.op (XOp.indexS p runUnderlying24 sizeOf2 rfl rfl rfl ht.slv (by omega) (Nat.mul_one _) ?_)
   exact ⟨rfl, rfl, rfl⟩
  refine pC (fun vals R hpZ => ?_) ?_
  ·rw [eS (l := [(13, (.pointer (some (elemA tv (p))) : Value))]) ⟨hpZ 13 (by decide), trivial⟩]
   refine XG.op (XOp.load1 isAgg2 rfl (ht.rd (by omega)) ?_)
   exact ⟨rfl, rfl, rfl⟩
  exact stepsP.nil
 intro vals hphi
 rw [eS (l := [(3, (.agg #[arv] : Value)), (14, (.int .i64 (t.getD p 0) : Value))]) ⟨(hphi 3 (by decide)), (hphi 14 (by decide)), trivial⟩]
 show XL _ _ _ _ _ _ _ (cellsH c [arv, tv, .int .i64 (((p + 1 : Nat) : Int))] 197 :: L)
 refine cX (XOp.call (args := [.agg #[arv], .int .i64 (t.getD p 0)]) call210 rfl (arityAt_spec (n := t.getD p 0) har (hn := (by first | assumption | rfl | omega | simp))) ?_)
 rintro _ _ _ _ ⟨rfl, rfl, rfl⟩
 refine XL.as (.int .i64 (arity ar (t.getD p 0))) rfl (XL.nil (X.ret (retEnd (L' := cellsH c [arv, tv, .int .i64 (((p + 1 : Nat) : Int))] 197 :: L) [.int .i64 (arity ar (t.getD p 0))] (.int .i64 (arity ar (t.getD p 0))) (.tmp rfl .nil) rfl rF rF (sC sR) ?_)))
 exact ⟨rfl, .inl ⟨by omega, by omega, rfl, rfl⟩⟩

/- (*impl.cursor).skip -/
theorem skip_spec {F : FH} {L : List HP} {c p0 : Nat} {arv : Value} {ar : List Int} (har : IntsF F arv ar) {tv : Value} {t : List Int} (ht : IntsF F tv t) (hb : t.length ≤ 4000000) (hs : sigOk ar = true) (hp : p0 ≤ t.length) :
    Does prog 172 [ptr c 0] F (cellsH c [arv, tv, .int .i64 ((p0 : Int))] 197 :: L) (fun v F' L' => F = F' ∧ ∃ q : Nat, (.bool (endGo ar (t.drop p0) 1).isSome : Value) = v ∧ (∀ e, endGo ar (t.drop p0) 1 = some e → q = p0 + e) ∧ cellsH c [arv, tv, .int .i64 (q : Int)] 197 :: L = L') := by
 refine Does.of_X func172 rfl rfl rfl (X.seq (X.region (XL.as (.bool (false)) rfl (XL.nil (X.seq (X.seq (X.region (XL.as (.int .i64 (1)) rfl (XL.nil (X.block (X.loop (α := Nat × Nat) (fun xQ => [(0, ptr c 0), (3, .int .i64 (((xQ.1 : Nat) : Int)))]) (fun xQ => cellsH c [arv, tv, .int .i64 (((xQ.2 : Nat) : Int))] 197 :: L) (fun xQ F' => F = F' ∧ (endGo ar (t.drop p0) 1 = (endGo ar (t.drop xQ.2) xQ.1).map (· + (xQ.2 - p0))) ∧ (p0 ≤ xQ.2 ∧ xQ.2 ≤ t.length) ∧ (xQ.1 ≤ 1 + 3 * xQ.2)) (fun xQ => t.length - xQ.2) (1, p0) ⟨rfl, rfl, trivial⟩ (sC sR) ⟨rfl, (by simp), (by omega), (by omega)⟩ ?_)))))))))))
 rintro ⟨k, p⟩ rE _ _ ⟨rfl, hi, h1, h2⟩
 show X _ _ _ _ (envs [(0, ptr c 0), (3, .int .i64 ((k : Int)))] rE) _ (cellsH c [arv, tv, .int .i64 ((p : Int))] 197 :: L)
 dsimp only at hi h1 h2
 refine X.seq (X.seq (X.region (XL.mv (.int .i64 ((k : Int))) rfl (cX (XOp.gtr rfl rfl (XL.nil ?_))))))
 refine X.condD (p := (k : Int) > 0) rfl (fun h1 => ?_) (fun h1 => ?_)
 ·refine X.skip (X.seq (X.block (X.seq (X.region (XL.mv (ptr c 0) rfl (cX (XOp.call (args := [ptr c 0]) call200 rfl (next_spec (p := p) har ht (by omega)) ?_)))))))
  rintro _ _ _ _ ⟨rfl, ⟨hn1a, hn1b, rfl, rfl⟩ | ⟨hn1c, rfl, rfl⟩⟩
  ·have hA := arity_le hs hn1b
   refine XL.as (.int .i64 (arity ar ((t).getD p 0))) rfl (XL.nil (X.seq (X.seq (X.region (XL.mv (.int .i64 (arity ar ((t).getD p 0))) rfl (cX (XOp.lss rfl rfl (XL.nil ?_))))))))
   refine X.condD (p := (arity ar ((t).getD p 0) : Int) < 0) rfl (fun h2 => ?_) (fun h2 => ?_)
   ·omega
   refine X.skip (X.region (XL.mv (.int .i64 ((k : Int))) rfl (XL.mv (.int .i64 (arity ar ((t).getD p 0))) rfl (cX (XOp.addR (((k + (arity ar (t.getD p 0)).toNat : Nat) : Int)) rfl rfl (by omega) (by omega) (XL.as (.int .i64 (((k + (arity ar (t.getD p 0)).toNat : Nat) : Int))) rfl (XL.nil (X.region (XL.mv (.int .i64 (((k + (arity ar (t.getD p 0)).toNat : Nat) : Int))) rfl (cX (XOp.subR (((k - 1 + (arity ar (t.getD p 0)).toNat : Nat) : Int)) rfl rfl (by omega) (by omega) (XL.as (.int .i64 (((k - 1 + (arity ar (t.getD p 0)).toNat : Nat) : Int))) rfl (XL.nil ?_)))))))))))))
   exact ⟨(k - 1 + (arity ar (t.getD p 0)).toNat, p + 1), _, FLe.refl _, rF, ⟨rfl, rfl, trivial⟩, (sC sR), ⟨rfl, (by rw [hi, endGo_step (by omega) (by omega) (by omega), Option.map_map]; congr 1; funext e; simp; omega), (by omega), (by omega)⟩, (by omega)⟩
  refine XL.as (.int .i64 (-1)) rfl (XL.nil (X.seq (X.seq (X.region (XL.mv (.int .i64 (-1)) rfl (cX (XOp.lss rfl rfl (XL.nil (X.condT rfl (X.seq (X.region (XL.as (.bool (false)) rfl (XL.nil (X.ret (thenQ_ret (blockQ_ret (thenQ_ret (thenQ_ret (blockQ_ret (thenQ_ret (retEnd (L' := cellsH c [arv, tv, .int .i64 ((p : Int))] 197 :: L) [.bool (false)] (.bool (false)) (.tmp rfl .nil) rfl rF rF (sC sR) ?_)))))))))))))))))))))
  have hz : endGo ar (t.drop p0) 1 = none := by rw [hi, endGo_none (by omega) (by omega)]; rfl
  refine ⟨rfl, p, ?_, ?_, rfl⟩
  · rw [hz]; rfl
  · intro e he; rw [hz] at he; cases he
 refine X.exit (thenQ_exit (thenQ_exit (blockQ_exit (X.seq (X.region (XL.as (.bool (true)) rfl (XL.nil (X.ret (retEnd (L' := cellsH c [arv, tv, .int .i64 ((p : Int))] 197 :: L) [.bool (true)] (.bool (true)) (.tmp rfl .nil) rfl rF rF (sC sR) ?_)))))))))
 obtain rfl : k = 0 := by omega
 have hz : endGo ar (t.drop p0) 1 = some (p - p0) := by rw [hi]; simp [endGo]
 refine ⟨rfl, p, ?_, ?_, rfl⟩
 · rw [hz]; rfl
 · intro e he; rw [hz] at he; cases he; omega

/- impl.endAt -/
theorem endAt_spec {F : FH} {L : List HP} {arv : Value} {ar : List Int} (har : IntsF F arv ar) {tv : Value} {t : List Int} (ht : IntsF F tv t) {p : Nat} (hs : sigOk ar = true) (hb : t.length ≤ 4000000) (hp : p ≤ t.length) :
    Does prog 118 [.agg #[arv], tv, .int .i64 ((p : Int))] F (L) (fun v F' L' => (.int .i64 (endZ ar t p) : Value) = v ∧ F = F' ∧ L = L') := by
 refine Does.of_X func118 rfl rfl rfl (X.seq (X.region (cX (XOp.box [arv] rfl rfl ?_))))
 intro b1
 refine XL.as (.int .i64 (0)) rfl (XL.nil (X.seq (X.region (cX (XOp.loadN [arv] isAgg26 sizeOf26 rfl rfl (Rd.ownN [] rfl rfl) (XL.mv (tv) rfl (XL.mv (.int .i64 ((p : Int))) rfl (cX (XOp.build [arv, tv, .int .i64 ((p : Int))] [(.slice none 0 0), (.slice none 0 0), .int .i64 (0)] [(0, 1), (1, 1), (2, 1)] [(0, [arv]), (1, [tv]), (2, [.int .i64 ((p : Int))])] runUnderlying197 zeroValue197 rfl (.cons rfl sizeOf26 (.cons rfl sizeOf24 (.cons rfl sizeOf3 PlacesAre.nil))) rfl (.cons rfl (.cons (cells_one (IntsF.isSl ht)) (.cons rfl CellsAre.nil))) (cX (XOp.alloc [(.slice none 0 0), (.slice none 0 0), .int .i64 (0)] zeroValue197 rfl ?_)))))))))))
 intro b2
 refine cX (XOp.storeN [] _ [arv, tv, .int .i64 ((p : Int))] sizeOf197 rfl rfl rfl (ones_cons (one_sl (IntsF.isSl har)) (ones_cons (one_sl (IntsF.isSl ht)) (ones_cons rfl ones_nil))) rfl rfl rfl (XL.nil (X.seq (X.seq (X.region (cX (XOp.call (args := [ptr b2 0]) call172 rfl (skip_spec (p0 := p) har ht (by omega) hs (by omega)) ?_)))))))
 rintro _ _ _ _ ⟨rfl, q1, rfl, hq1, rfl⟩
 refine cX (XOp.notB rfl (XL.nil ?_))
 refine X.cond (t := !((endGo ar (t.drop p) 1).isSome)) rfl (fun h1 => ?_) (fun h1 => ?_)
 ·refine X.seq (X.region (XL.as (.int .i64 (-1)) rfl (XL.nil (X.ret (thenQ_ret (retEnd (L' := L) [.int .i64 (-1)] (.int .i64 (-1)) (.tmp rfl .nil) rfl rF rF (sD (sD sR)) ?_))))))
  exact ⟨(vI (endZ_none (by rw [Bool.eq_false_iff] at *; simpa using h1))), rfl, rfl⟩
 refine X.skip (X.seq (X.region (cX (XOp.fieldP (2) runUnderlying197 rfl sizeOf3 (by decide) rfl rfl (cX (XOp.load1 isAgg3 rfl (Rd.own [] rfl rfl) (XL.as (.int .i64 ((q1 : Int))) rfl (XL.nil (X.ret (retEnd (L' := L) [.int .i64 ((q1 : Int))] (.int .i64 ((q1 : Int))) (.tmp rfl .nil) rfl rF rF (sD (sD sR)) ?_))))))))))
 exact ⟨(vI (endZ_some hq1 (by simpa using h1))), rfl, rfl⟩
end Go.Proofs.YtmaaifhmhclhdaaGreat
set_option linter.unusedSimpArgs false
set_option linter.unusedVariables false
namespace Go.Proofs.YtmaaifhmhclhdaaGreat
open Go X M Tryz

/- slices.Min[[]int64,int64] -/
theorem Min_spec {F : FH} {L : List HP} {xsv : Value} {xs : List Int} (hxs : IntsF F xsv xs) (h1 : 1 ≤ xs.length) (hbd : xs.length ≤ 4000000) :
    Does prog 117 [xsv] F (L) (fun v F' L' => (.int .i64 (minL xs) : Value) = v ∧ F = F' ∧ L = L') := by
 refine Does.of_X func117 rfl rfl rfl (X.seq (X.region (XL.as (.int .i64 (0)) rfl (XL.nil (X.seq (X.seq (X.region (XL.mv (xsv) rfl (cX (XOp.lenS runUnderlying24 rfl hxs.slv (cX (XOp.lss rfl rfl (XL.nil ?_)))))))))))))
 refine X.condD (p := ((xs.length : Int) : Int) < 1) rfl (fun h1 => ?_) (fun h1 => ?_)
 ·omega
 refine X.skip (X.seq (X.region (XL.mv (xsv) rfl (cX (XOp.indexS 0 runUnderlying24 sizeOf2 rfl rfl rfl hxs.slv (by omega) (Nat.mul_one _) (cX (XOp.load1 isAgg2 rfl (hxs.rd (by omega)) (XL.as (.int .i64 (xs.getD 0 0)) rfl (XL.nil (X.seq (X.seq (X.region (XL.as (.int .i64 (1)) rfl (XL.nil (X.block (X.loop (α := Nat) (fun k => [(0, xsv), (3, .int .i64 (minL (xs.take k))), (4, .int .i64 ((k : Int)))]) (fun k => L) (fun k F' => F = F' ∧ (1 ≤ k ∧ k ≤ xs.length)) (fun k => xs.length - k) 1 ⟨rfl, (vI (minL_take1 (xs := xs) (by omega)).symm), rfl, trivial⟩ sR ⟨rfl, (by omega)⟩ ?_))))))))))))))))
 rintro k rE _ _ ⟨rfl, hk⟩
 show X _ _ _ _ (envs [(0, xsv), (3, .int .i64 (minL (xs.take k))), (4, .int .i64 ((k : Int)))] rE) _ (L)
 refine X.seq (X.seq (X.region (XL.mv (.int .i64 ((k : Int))) rfl (XL.mv (xsv) rfl (cX (XOp.lenS runUnderlying24 rfl hxs.slv (cX (XOp.lss rfl rfl (XL.nil ?_)))))))))
 refine X.condD (p := (k : Int) < (xs.length : Int)) rfl (fun h2 => ?_) (fun h2 => ?_)
 ·refine X.skip (X.seq (X.block (X.region (XL.mv (.int .i64 (minL (xs.take k))) rfl (XL.mv (xsv) rfl (XL.mv (.int .i64 ((k : Int))) rfl (cX (XOp.indexS k runUnderlying24 sizeOf2 rfl rfl rfl hxs.slv (by omega) (Nat.mul_one _) (cX (XOp.load1 isAgg2 rfl (hxs.rd (by omega)) (cX (XOp.min2R (a := minL (xs.take k)) (b := xs.getD k 0) (minL (xs.take (k + 1))) rfl rfl ((minL_step (by omega) (by omega)).symm) (XL.as (.int .i64 (minL (xs.take (k + 1)))) rfl (XL.nil (X.region (XL.mv (.int .i64 ((k : Int))) rfl ?_))))))))))))))))
  refine cX (XOp.addR (((k + 1 : Nat) : Int)) rfl rfl (by omega) (by omega) (XL.as (.int .i64 (((k + 1 : Nat) : Int))) rfl (XL.nil ?_)))
  exact ⟨k + 1, _, FLe.refl _, rF, ⟨rfl, rfl, rfl, trivial⟩, sR, ⟨rfl, (by omega)⟩, (by omega)⟩
 refine X.exit (thenQ_exit (thenQ_exit (blockQ_exit (X.seq (X.region (XL.mv (.int .i64 (minL (xs.take k))) rfl (XL.as (.int .i64 (minL (xs.take k))) rfl (XL.nil (X.ret (retEnd (L' := L) [.int .i64 (minL (xs.take k))] (.int .i64 (minL (xs.take k))) (.tmp rfl .nil) rfl rF rF sR ?_))))))))))
 exact ⟨(vI (by rw [minL_take_all (by omega)])), rfl, rfl⟩

/- slices.Equal[[]int64,int64] -/
theorem Equal_spec {F : FH} {L : List HP} {av : Value} {a : List Int} (ha : IntsF F av a) {bv : Value} {b : List Int} (hb : IntsF F bv b) (hbd : a.length ≤ 9223372036854775807 ∨ b.length ≤ 9223372036854775807) :
    Does prog 62 [av, bv] F (L) (fun v F' L' => (.bool (decide (a = b)) : Value) = v ∧ F = F' ∧ L = L') := by
 refine Does.of_X func62 rfl rfl rfl (X.seq (X.region (XL.as (.bool (false)) rfl (XL.nil (X.seq (X.seq (X.region (XL.mv (av) rfl (cX (XOp.lenS runUnderlying24 rfl ha.slv (XL.mv (bv) rfl (cX (XOp.lenS runUnderlying24 rfl hb.slv (cX (XOp.neq rfl rfl (XL.nil ?_))))))))))))))))
 refine X.condD (p := ((a.length : Int) : Int) ≠ (b.length : Int)) rfl (fun h1 => ?_) (fun h1 => ?_)
 ·refine X.seq (X.region (XL.as (.bool (false)) rfl (XL.nil (X.ret (thenQ_ret (retEnd (L' := L) [.bool (false)] (.bool (false)) (.tmp rfl .nil) rfl rF rF sR ?_))))))
  exact ⟨(vB (decide_eq_false (fun e => by rw [e] at h1; omega))), rfl, rfl⟩
 refine X.skip (X.seq (X.seq (X.region (XL.mv (av) rfl (cX (XOp.lenS runUnderlying24 rfl ha.slv (XL.mv (.int .i64 (0)) rfl (XL.nil (X.block (X.loop (α := Nat) (fun k => [(0, av), (1, bv), (12, .int .i64 ((a.length : Int))), (13, .int .i64 ((k : Int)))]) (fun k => L) (fun k F' => F = F' ∧ (k ≤ a.length) ∧ (∀ i, i < k → a.getD i 0 = b.getD i 0)) (fun k => a.length - k) 0 ⟨rfl, rfl, rfl, rfl, trivial⟩ sR ⟨rfl, (by omega), (fun i hi => absurd hi (by omega))⟩ ?_))))))))))
 rintro k rE _ _ ⟨rfl, hk, hall⟩
 show X _ _ _ _ (envs [(0, av), (1, bv), (12, .int .i64 ((a.length : Int))), (13, .int .i64 ((k : Int)))] rE) _ (L)
 refine X.seq (X.region (cX (XOp.lss rfl rfl (XL.nil (X.seq ?_)))))
 refine X.condD (p := (k : Int) < (a.length : Int)) rfl (fun h2 => ?_) (fun h2 => ?_)
 ·refine X.skip (X.seq (X.block (X.seq (X.region (XL.mv (.int .i64 ((k : Int))) rfl (XL.as (.int .i64 ((k : Int))) rfl (XL.nil (X.seq ?_))))))))
  refine X.draw [] L 8 [[], [], [], [], [], [], [], []] [[], [], [0, 1], [2], [], [], [4, 5], [6]] (phiL [fun us v => v = av, fun us v => v = (.int .i64 ((k : Int)) : Value), fun us v => v = (.pointer (some (elemA av (k))) : Value), fun us v => v = (.int .i64 (a.getD k 0) : Value), fun us v => v = bv, fun us v => v = (.int .i64 ((k : Int)) : Value), fun us v => v = (.pointer (some (elemA bv (k))) : Value), fun us v => v = (.int .i64 (b.getD k 0) : Value)]) (ownL [fun us v => [], fun us v => [], fun us v => [], fun us v => [], fun us v => [], fun us v => [], fun us v => [], fun us v => []]) mixed rfl rfl (by kernel_rfl) ?_ ?_
  ·refine pC (fun vals R hpZ => ?_) ?_
   ·refine XG.op (XOp.move (av) rfl ?_)
    exact ⟨rfl, rfl, rfl⟩
   refine pC (fun vals R hpZ => ?_) ?_
   ·refine XG.op (XOp.move (.int .i64 ((k : Int))) rfl ?_)
    exact ⟨rfl, rfl, rfl⟩
   refine pC (fun vals R hpZ => ?_) ?_
   ·rw [eS (l := [(0, av), (1, (.int .i64 ((k : Int)) : Value))]) ⟨hpZ 0 (by decide), hpZ 1 (by decide), trivial⟩]
    refine XG.op (XOp.indexS k runUnderlying24 sizeOf2 rfl rfl rfl ha.slv (by omega) (Nat.mul_one _) ?_)
    exact ⟨rfl, rfl, rfl⟩
   refine pC (fun vals R hpZ => ?_) ?_
   ·rw [eS (l := [(2, (.pointer (some (elemA av (k))) : Value))]) ⟨hpZ 2 (by decide), trivial⟩]
    refine XG.op (XOp.load1 isAgg2 rfl (ha.rd (by omega)) ?_)
    exact ⟨rfl, rfl, rfl⟩
   refine pC (fun vals R hpZ => ?_) ?_
   ·refine XG.op (XOp.move (bv) rfl ?_)
    exact ⟨rfl, rfl, rfl⟩
   refine pC (fun vals R hpZ => ?_) ?_
   ·refine XG.op (XOp.move (.int .i64 ((k : Int))) rfl ?_)
    exact ⟨rfl, rfl, rfl⟩
   refine pC (fun vals R hpZ => ?_) ?_
   ·rw [eS (l := [(4, bv), (5, (.int .i64 ((k : Int)) : Value))]) ⟨hpZ 4 (by decide), hpZ 5 (by decide), trivial⟩]
    refine XG.op (XOp.indexS k runUnderlying24 sizeOf2 rfl rfl rfl hb.slv (by omega) (Nat.mul_one _) ?_)
    exact ⟨rfl, rfl, rfl⟩
   refine pC (fun vals R hpZ => ?_) ?_
   ·rw [eS (l := [(6, (.pointer (some (elemA bv (k))) : Value))]) ⟨hpZ 6 (by decide), trivial⟩]
    refine XG.op (XOp.load1 isAgg2 rfl (hb.rd (by omega)) ?_)
    exact ⟨rfl, rfl, rfl⟩
   exact stepsP.nil
  intro vals hphi
  rw [eS (l := [(3, (.int .i64 (a.getD k 0) : Value)), (7, (.int .i64 (b.getD k 0) : Value))]) ⟨(hphi 3 (by decide)), (hphi 7 (by decide)), trivial⟩]
  show XL _ _ _ _ _ _ _ (L)
  refine cX (XOp.neq rfl rfl (XL.nil ?_))
  refine X.condD (p := (a.getD k 0 : Int) ≠ b.getD k 0) rfl (fun h3 => ?_) (fun h3 => ?_)
  ·refine X.seq (X.region (XL.as (.bool (false)) rfl (XL.nil (X.ret (blockQ_ret (thenQ_ret (thenQ_ret (blockQ_ret (thenQ_ret (retEnd (L' := L) [.bool (false)] (.bool (false)) (.tmp rfl .nil) rfl rF rF sR ?_))))))))))
   exact ⟨(vB (decide_eq_false (ne_of_getD (i := k) (by omega)))), rfl, rfl⟩
  refine X.skip (X.region (cX (XOp.addR (((k + 1 : Nat) : Int)) rfl rfl (by omega) (by omega) (XL.mv (.int .i64 (((k + 1 : Nat) : Int))) rfl (XL.nil ?_)))))
  exact ⟨k + 1, _, FLe.refl _, rF, ⟨rfl, rfl, rfl, rfl, trivial⟩, sR, ⟨rfl, (by omega), (fun i hi => (Nat.lt_or_ge i k).elim (fun h => hall i h) (fun h => by obtain rfl : i = k := (by omega); omega))⟩, (by omega)⟩
 refine X.exit (thenQ_exit (thenQ_exit (blockQ_exit (X.seq (X.region (XL.as (.bool (true)) rfl (XL.nil (X.ret (retEnd (L' := L) [.bool (true)] (.bool (true)) (.tmp rfl .nil) rfl rF rF sR ?_)))))))))
 exact ⟨(vB (decide_eq_true (ext_getD (by omega) (fun i hi => hall i (by omega))))), rfl, rfl⟩

/- spec.SameTerm -/
theorem SameTerm_spec {F : FH} {L : List HP} {av : Value} {a : List Int} (ha : IntsF F av a) {bv : Value} {b : List Int} (hb : IntsF F bv b) (hbd : a.length ≤ 9223372036854775807 ∨ b.length ≤ 9223372036854775807) :
    Does prog 34 [av, bv] F (L) (fun v F' L' => (.bool (decide (a = b)) : Value) = v ∧ F = F' ∧ L = L') := by
 refine Does.of_X func34 rfl rfl rfl (X.seq (X.region (XL.as (.bool (false)) rfl (XL.nil (X.seq (X.seq (X.region (XL.mv (av) rfl (cX (XOp.lenS runUnderlying24 rfl ha.slv (XL.mv (bv) rfl (cX (XOp.lenS runUnderlying24 rfl hb.slv (cX (XOp.neq rfl rfl (XL.nil ?_))))))))))))))))
 refine X.condD (p := ((a.length : Int) : Int) ≠ (b.length : Int)) rfl (fun h1 => ?_) (fun h1 => ?_)
 ·refine X.seq (X.region (XL.as (.bool (false)) rfl (XL.nil (X.ret (thenQ_ret (retEnd (L' := L) [.bool (false)] (.bool (false)) (.tmp rfl .nil) rfl rF rF sR ?_))))))
  exact ⟨(vB (decide_eq_false (fun e => by rw [e] at h1; omega))), rfl, rfl⟩
 refine X.skip (X.seq (X.seq (X.region (XL.as (.int .i64 (0)) rfl (XL.nil (X.block (X.loop (α := Nat) (fun k => [(0, av), (1, bv), (5, .int .i64 ((k : Int)))]) (fun k => L) (fun k F' => F = F' ∧ (k ≤ a.length) ∧ (∀ i, i < k → a.getD i 0 = b.getD i 0)) (fun k => a.length - k) 0 ⟨rfl, rfl, rfl, trivial⟩ sR ⟨rfl, (by omega), (fun i hi => absurd hi (by omega))⟩ ?_)))))))
 rintro k rE _ _ ⟨rfl, hk, hall⟩
 show X _ _ _ _ (envs [(0, av), (1, bv), (5, .int .i64 ((k : Int)))] rE) _ (L)
 refine X.seq (X.seq (X.region (XL.mv (.int .i64 ((k : Int))) rfl (XL.mv (av) rfl (cX (XOp.lenS runUnderlying24 rfl ha.slv (cX (XOp.lss rfl rfl (XL.nil ?_)))))))))
 refine X.condD (p := (k : Int) < (a.length : Int)) rfl (fun h2 => ?_) (fun h2 => ?_)
 ·refine X.skip (X.seq (X.block (X.seq ?_)))
  refine X.draw [] L 8 [[], [], [], [], [], [], [], []] [[], [], [0, 1], [2], [], [], [4, 5], [6]] (phiL [fun us v => v = av, fun us v => v = (.int .i64 ((k : Int)) : Value), fun us v => v = (.pointer (some (elemA av (k))) : Value), fun us v => v = (.int .i64 (a.getD k 0) : Value), fun us v => v = bv, fun us v => v = (.int .i64 ((k : Int)) : Value), fun us v => v = (.pointer (some (elemA bv (k))) : Value), fun us v => v = (.int .i64 (b.getD k 0) : Value)]) (ownL [fun us v => [], fun us v => [], fun us v => [], fun us v => [], fun us v => [], fun us v => [], fun us v => [], fun us v => []]) mixed rfl rfl (by kernel_rfl) ?_ ?_
  ·refine pC (fun vals R hpZ => ?_) ?_
   ·refine XG.op (XOp.move (av) rfl ?_)
    exact ⟨rfl, rfl, rfl⟩
   refine pC (fun vals R hpZ => ?_) ?_
   ·refine XG.op (XOp.move (.int .i64 ((k : Int))) rfl ?_)
    exact ⟨rfl, rfl, rfl⟩
   refine pC (fun vals R hpZ => ?_) ?_
   ·rw [eS (l := [(0, av), (1, (.int .i64 ((k : Int)) : Value))]) ⟨hpZ 0 (by decide), hpZ 1 (by decide), trivial⟩]
    refine XG.op (XOp.indexS k runUnderlying24 sizeOf2 rfl rfl rfl ha.slv (by omega) (Nat.mul_one _) ?_)
    exact ⟨rfl, rfl, rfl⟩
   refine pC (fun vals R hpZ => ?_) ?_
   ·rw [eS (l := [(2, (.pointer (some (elemA av (k))) : Value))]) ⟨hpZ 2 (by decide), trivial⟩]
    refine XG.op (XOp.load1 isAgg2 rfl (ha.rd (by omega)) ?_)
    exact ⟨rfl, rfl, rfl⟩
   refine pC (fun vals R hpZ => ?_) ?_
   ·refine XG.op (XOp.move (bv) rfl ?_)
    exact ⟨rfl, rfl, rfl⟩
   refine pC (fun vals R hpZ => ?_) ?_
   ·refine XG.op (XOp.move (.int .i64 ((k : Int))) rfl ?_)
    exact ⟨rfl, rfl, rfl⟩
   refine pC (fun vals R hpZ => ?_) ?_
   ·rw [eS (l := [(4, bv), (5, (.int .i64 ((k : Int)) : Value))]) ⟨hpZ 4 (by decide), hpZ 5 (by decide), trivial⟩]
    refine XG.op (XOp.indexS k runUnderlying24 sizeOf2 rfl rfl rfl hb.slv (by omega) (Nat.mul_one _) ?_)
    exact ⟨rfl, rfl, rfl⟩
   refine pC (fun vals R hpZ => ?_) ?_
   ·rw [eS (l := [(6, (.pointer (some (elemA bv (k))) : Value))]) ⟨hpZ 6 (by decide), trivial⟩]
    refine XG.op (XOp.load1 isAgg2 rfl (hb.rd (by omega)) ?_)
    exact ⟨rfl, rfl, rfl⟩
   exact stepsP.nil
  intro vals hphi
  rw [eS (l := [(3, (.int .i64 (a.getD k 0) : Value)), (7, (.int .i64 (b.getD k 0) : Value))]) ⟨(hphi 3 (by decide)), (hphi 7 (by decide)), trivial⟩]
  show XL _ _ _ _ _ _ _ (L)
  refine cX (XOp.neq rfl rfl (XL.nil ?_))
  refine X.condD (p := (a.getD k 0 : Int) ≠ b.getD k 0) rfl (fun h3 => ?_) (fun h3 => ?_)
  ·refine X.seq (X.region (XL.as (.bool (false)) rfl (XL.nil (X.ret (blockQ_ret (thenQ_ret (thenQ_ret (blockQ_ret (thenQ_ret (retEnd (L' := L) [.bool (false)] (.bool (false)) (.tmp rfl .nil) rfl rF rF sR ?_))))))))))
   exact ⟨(vB (decide_eq_false (ne_of_getD (i := k) (by omega)))), rfl, rfl⟩
  refine X.skip (X.region (XL.mv (.int .i64 ((k : Int))) rfl (cX (XOp.addR (((k + 1 : Nat) : Int)) rfl rfl (by omega) (by omega) (XL.as (.int .i64 (((k + 1 : Nat) : Int))) rfl (XL.nil ?_))))))
  exact ⟨k + 1, _, FLe.refl _, rF, ⟨rfl, rfl, rfl, trivial⟩, sR, ⟨rfl, (by omega), (fun i hi => (Nat.lt_or_ge i k).elim (fun h => hall i h) (fun h => by obtain rfl : i = k := (by omega); omega))⟩, (by omega)⟩
 refine X.exit (thenQ_exit (thenQ_exit (blockQ_exit (X.seq (X.region (XL.as (.bool (true)) rfl (XL.nil (X.ret (retEnd (L' := L) [.bool (true)] (.bool (true)) (.tmp rfl .nil) rfl rF rF sR ?_)))))))))
 exact ⟨(vB (decide_eq_true (ext_getD (by omega) (fun i hi => hall i (by omega))))), rfl, rfl⟩

/- slices.Index[[]int64,int64] -/
theorem Index_spec {F : FH} {L : List HP} {xsv : Value} {xs : List Int} (hxs : IntsF F xsv xs) {n : Int} (hbd : xs.length ≤ 9223372036854775807) :
    Does prog 199 [xsv, .int .i64 (n)] F (L) (fun v F' L' => (.int .i64 (indexZ xs n) : Value) = v ∧ F = F' ∧ L = L') := by
 refine Does.of_X func199 rfl rfl rfl (X.seq (X.region (XL.as (.int .i64 (0)) rfl (XL.nil (X.seq (X.seq (X.region (XL.mv (xsv) rfl (cX (XOp.lenS runUnderlying24 rfl hxs.slv (XL.mv (.int .i64 (0)) rfl (XL.nil (X.block (X.loop (α := Nat) (fun k => [(0, xsv), (1, .int .i64 (n)), (7, .int .i64 ((xs.length : Int))), (8, .int .i64 ((k : Int)))]) (fun k => L) (fun k F' => F = F' ∧ (k ≤ xs.length) ∧ (∀ i, i < k → xs.getD i 0 ≠ n)) (fun k => xs.length - k) 0 ⟨rfl, rfl, rfl, rfl, trivial⟩ sR ⟨rfl, (by omega), (fun i hi => absurd hi (by omega))⟩ ?_))))))))))))))
 rintro k rE _ _ ⟨rfl, hk, hall⟩
 show X _ _ _ _ (envs [(0, xsv), (1, .int .i64 (n)), (7, .int .i64 ((xs.length : Int))), (8, .int .i64 ((k : Int)))] rE) _ (L)
 refine X.seq (X.region (cX (XOp.lss rfl rfl (XL.nil (X.seq ?_)))))
 refine X.condD (p := (k : Int) < (xs.length : Int)) rfl (fun h1 => ?_) (fun h1 => ?_)
 ·refine X.skip (X.seq (X.block (X.seq (X.region (XL.mv (.int .i64 ((k : Int))) rfl (XL.as (.int .i64 ((k : Int))) rfl (XL.nil (X.seq (X.region (XL.mv (.int .i64 (n)) rfl (XL.mv (xsv) rfl (XL.mv (.int .i64 ((k : Int))) rfl (cX (XOp.indexS k runUnderlying24 sizeOf2 rfl rfl rfl hxs.slv (by omega) (Nat.mul_one _) (cX (XOp.load1 isAgg2 rfl (hxs.rd (by omega)) (cX (XOp.eql rfl rfl ?_))))))))))))))))))
  refine XL.nil ?_
  refine X.condD (p := (n : Int) = xs.getD k 0) rfl (fun h2 => ?_) (fun h2 => ?_)
  ·refine X.seq (X.region (XL.mv (.int .i64 ((k : Int))) rfl (XL.as (.int .i64 ((k : Int))) rfl (XL.nil (X.ret (blockQ_ret (thenQ_ret (thenQ_ret (blockQ_ret (thenQ_ret (retEnd (L' := L) [.int .i64 ((k : Int))] (.int .i64 ((k : Int))) (.tmp rfl .nil) rfl rF rF sR ?_)))))))))))
   exact ⟨(vI (indexZ_some (by omega) (by omega) hall)), rfl, rfl⟩
  refine X.skip (X.region (cX (XOp.addR (((k + 1 : Nat) : Int)) rfl rfl (by omega) (by omega) (XL.mv (.int .i64 (((k + 1 : Nat) : Int))) rfl (XL.nil ?_)))))
  exact ⟨k + 1, _, FLe.refl _, rF, ⟨rfl, rfl, rfl, rfl, trivial⟩, sR, ⟨rfl, (by omega), (fun i hi => (Nat.lt_or_ge i k).elim (fun h => hall i h) (fun h => by obtain rfl : i = k := (by omega); omega))⟩, (by omega)⟩
 refine X.exit (thenQ_exit (thenQ_exit (blockQ_exit (X.seq (X.region (XL.as (.int .i64 (-1)) rfl (XL.nil (X.ret (retEnd (L' := L) [.int .i64 (-1)] (.int .i64 (-1)) (.tmp rfl .nil) rfl rF rF sR ?_)))))))))
 exact ⟨(vI (indexZ_none (fun i hi => hall i (by omega)))), rfl, rfl⟩

/- slices.Contains[[]int64,int64] -/
theorem Contains_spec {F : FH} {L : List HP} {xsv : Value} {xs : List Int} (hxs : IntsF F xsv xs) {n : Int} (hbd : xs.length ≤ 9223372036854775807) :
    Does prog 170 [xsv, .int .i64 (n)] F (L) (fun v F' L' => (.bool (decide (n ∈ xs)) : Value) = v ∧ F = F' ∧ L = L') := by
 refine Does.of_X func170 rfl rfl rfl (X.seq (X.region (XL.as (.bool (false)) rfl (XL.nil (X.seq (X.region (XL.mv (xsv) rfl (XL.mv (.int .i64 (n)) rfl (cX (XOp.call (args := [xsv, .int .i64 (n)]) call199 rfl (Index_spec (n := n) hxs (hbd := (by first | assumption | rfl | omega | simp))) ?_))))))))))
 rintro _ _ _ _ ⟨rfl, rfl, rfl⟩
 refine cX (XOp.geq rfl rfl (XL.as (.bool (decide ((indexZ xs n : Int) ≥ 0))) rfl (XL.nil (X.ret (retEnd (L' := L) [.bool (decide ((indexZ xs n : Int) ≥ 0))] (.bool (decide ((indexZ xs n : Int) ≥ 0))) (.tmp rfl .nil) rfl rF rF sR ?_)))))
 exact ⟨(vB (decide_eq_decide.2 indexZ_mem.symm)), rfl, rfl⟩

/- spec.l1Has -/
theorem l1Has_spec {F : FH} {L : List HP} {xsv : Value} {xs : List Int} (hxs : IntsF F xsv xs) {n : Int} (hbd : xs.length ≤ 9223372036854775807) :
    Does prog 193 [xsv, .int .i64 (n)] F (L) (fun v F' L' => (.bool (decide (n ∈ xs)) : Value) = v ∧ F = F' ∧ L = L') := by
 refine Does.of_X func193 rfl rfl rfl (X.seq (X.region (XL.as (.bool (false)) rfl (XL.nil (X.seq (X.seq (X.region (XL.as (.int .i64 (0)) rfl (XL.nil (X.block (X.loop (α := Nat) (fun k => [(0, xsv), (1, .int .i64 (n)), (5, .int .i64 ((k : Int)))]) (fun k => L) (fun k F' => F = F' ∧ (k ≤ xs.length) ∧ (∀ i, i < k → xs.getD i 0 ≠ n)) (fun k => xs.length - k) 0 ⟨rfl, rfl, rfl, trivial⟩ sR ⟨rfl, (by omega), (fun i hi => absurd hi (by omega))⟩ ?_)))))))))))
 rintro k rE _ _ ⟨rfl, hk, hall⟩
 show X _ _ _ _ (envs [(0, xsv), (1, .int .i64 (n)), (5, .int .i64 ((k : Int)))] rE) _ (L)
 refine X.seq (X.seq (X.region (XL.mv (.int .i64 ((k : Int))) rfl (XL.mv (xsv) rfl (cX (XOp.lenS runUnderlying24 rfl hxs.slv (cX (XOp.lss rfl rfl (XL.nil ?_)))))))))
 refine X.condD (p := (k : Int) < (xs.length : Int)) rfl (fun h1 => ?_) (fun h1 => ?_)
 ·refine X.skip (X.seq (X.block (X.seq (X.region (XL.mv (xsv) rfl (XL.mv (.int .i64 ((k : Int))) rfl (cX (XOp.indexS k runUnderlying24 sizeOf2 rfl rfl rfl hxs.slv (by omega) (Nat.mul_one _) (cX (XOp.load1 isAgg2 rfl (hxs.rd (by omega)) (XL.mv (.int .i64 (n)) rfl (cX (XOp.eql rfl rfl (XL.nil ?_))))))))))))))
  refine X.condD (p := (xs.getD k 0 : Int) = n) rfl (fun h2 => ?_) (fun h2 => ?_)
  ·refine X.seq (X.region (XL.as (.bool (true)) rfl (XL.nil (X.ret (blockQ_ret (thenQ_ret (thenQ_ret (blockQ_ret (thenQ_ret (retEnd (L' := L) [.bool (true)] (.bool (true)) (.tmp rfl .nil) rfl rF rF sR ?_))))))))))
   exact ⟨(vB (decide_eq_true (mem_of_getD (k := k) (by omega) (by omega)))), rfl, rfl⟩
  refine X.skip (X.region (XL.mv (.int .i64 ((k : Int))) rfl (cX (XOp.addR (((k + 1 : Nat) : Int)) rfl rfl (by omega) (by omega) (XL.as (.int .i64 (((k + 1 : Nat) : Int))) rfl (XL.nil ?_))))))
  exact ⟨k + 1, _, FLe.refl _, rF, ⟨rfl, rfl, rfl, trivial⟩, sR, ⟨rfl, (by omega), (fun i hi => (Nat.lt_or_ge i k).elim (fun h => hall i h) (fun h => by obtain rfl : i = k := (by omega); omega))⟩, (by omega)⟩
 refine X.exit (thenQ_exit (thenQ_exit (blockQ_exit (X.seq (X.region (XL.as (.bool (false)) rfl (XL.nil (X.ret (retEnd (L' := L) [.bool (false)] (.bool (false)) (.tmp rfl .nil) rfl rF rF sR ?_)))))))))
 exact ⟨(vB (decide_eq_false (not_mem_of_getD (fun i hi => hall i (by omega))))), rfl, rfl⟩

/- spec.l1In -/
theorem l1In_spec {F : FH} {L : List HP} {n : Int} {a : Int} {b : Int} :
    Does prog 51 [.int .i64 (n), .int .i64 (a), .int .i64 (b)] F (L) (fun v F' L' => (.bool (decide (a ≤ n ∧ n ≤ b)) : Value) = v ∧ F = F' ∧ L = L') := by
 refine Does.of_X func51 rfl rfl rfl (X.seq (X.region (XL.as (.bool (false)) rfl (XL.nil (X.seq (X.region (XL.mv (.int .i64 (n)) rfl (XL.mv (.int .i64 (a)) rfl (cX (XOp.geq rfl rfl (XL.mv (.bool (decide ((n : Int) ≥ a))) rfl ?_)))))))))))
 by_cases h1 : (n : Int) ≥ a
 ·refine XL.yes (t := 10) rfl (vT h1) (XOp.move (.int .i64 (n)) rfl (XL.yes (t := 10) rfl (vT h1) (XOp.move (.int .i64 (b)) rfl (XL.yes (t := 10) rfl (vT h1) (XOp.leq rfl rfl (cX (XOp.pickT (.bool (decide ((n : Int) ≤ b))) (vT h1) rfl (XL.as (.bool (decide ((n : Int) ≤ b))) rfl (XL.nil (X.ret (retEnd (L' := L) [.bool (decide ((n : Int) ≤ b))] (.bool (decide ((n : Int) ≤ b))) (.tmp rfl .nil) rfl rF rF sR ?_)))))))))))
  exact ⟨(vB (decide_eq_decide.2 (by omega))), rfl, rfl⟩
 refine XL.no (t := 10) rfl (vF h1) (XL.no (t := 10) rfl (vF h1) (XL.no (t := 10) rfl (vF h1) (cX (XOp.pickF (.bool (false)) (vF h1) rfl (XL.as (.bool (false)) rfl (XL.nil (X.ret (retEnd (L' := L) [.bool (false)] (.bool (false)) (.tmp rfl .nil) rfl rF rF sR ?_))))))))
 exact ⟨(vB (decide_eq_false (by omega))), rfl, rfl⟩
end Go.Proofs.YtmaaifhmhclhdaaGreat
set_option linter.unusedSimpArgs false
set_option linter.unusedVariables false
namespace Go.Proofs.YtmaaifhmhclhdaaGreat
open Go X M Tryz

/- spec.l1Arity -/
theorem l1Arity_spec {F : FH} {L : List HP} {arv : Value} {ar : List Int} (har : IntsF F arv ar) {n : Int} (hla : ar.length ≤ 4000000) :
    Does prog 187 [.agg #[arv], .int .i64 (n)] F (L) (fun v F' L' => (.int .i64 (sArity ar n) : Value) = v ∧ F = F' ∧ L = L') := by
 refine Does.of_X func187 rfl rfl rfl (X.seq (X.region (cX (XOp.box [arv] rfl rfl ?_))))
 intro b1
 refine XL.as (.int .i64 (0)) rfl (XL.nil (X.seq (X.block (X.seq (X.region (XL.mv (.int .i64 (n)) rfl (cX (XOp.call (args := [.int .i64 (n), .int .i64 (-24), .int .i64 (-1)]) call51 rfl (l1In_spec (n := n) (a := -24) (b := -1)) ?_))))))))
 rintro _ _ _ _ ⟨rfl, rfl, rfl⟩
 refine XL.as (.bool (decide ((-24) ≤ n ∧ n ≤ (-1)))) rfl (XL.nil ?_)
 refine X.condD (p := (-24) ≤ n ∧ n ≤ (-1)) rfl (fun h1 => ?_) (fun h1 => ?_)
 ·refine X.seq (X.region (XL.as (.int .i64 (0)) rfl (XL.nil (X.ret (blockQ_ret (thenQ_ret (retEnd (L' := L) [.int .i64 (0)] (.int .i64 (0)) (.tmp rfl .nil) rfl rF rF (sD sR) ?_)))))))
  exact ⟨(vI (by unfold sArity; split <;> (try split) <;> first | rfl | omega)), rfl, rfl⟩
 refine X.seq (X.region (XL.mv (.int .i64 (n)) rfl (cX (XOp.fieldP (0) runUnderlying26 rfl sizeOf24 (by decide) rfl rfl (cX (XOp.load1 isAgg24 rfl (Rd.own [] rfl rfl) (cX (XOp.lenS runUnderlying24 rfl har.slv (cX (XOp.subR (((ar.length : Int)) - 1) rfl rfl (by omega) (by omega) (cX (XOp.call (args := [.int .i64 (n), .int .i64 (0), .int .i64 (((ar.length : Int)) - 1)]) call51 rfl (l1In_spec (n := n) (a := 0) (b := ((ar.length : Int)) - 1)) ?_))))))))))))
 rintro _ _ _ _ ⟨rfl, rfl, rfl⟩
 refine XL.as (.bool (decide (0 ≤ n ∧ n ≤ (((ar.length : Int)) - 1)))) rfl (XL.nil ?_)
 refine X.condD (p := 0 ≤ n ∧ n ≤ (((ar.length : Int)) - 1)) rfl (fun h2 => ?_) (fun h2 => ?_)
 ·refine X.seq (X.region (cX (XOp.fieldP (0) runUnderlying26 rfl sizeOf24 (by decide) rfl rfl (cX (XOp.load1 isAgg24 rfl (Rd.own [] rfl rfl) (XL.mv (.int .i64 (n)) rfl (cX (XOp.indexS ((n).toNat) runUnderlying24 sizeOf2 rfl rfl (by omega) har.slv (by omega) (Nat.mul_one _) (cX (XOp.load1 isAgg2 rfl (har.rd (by omega)) (XL.as (.int .i64 (ar.getD ((n).toNat) 0)) rfl (XL.nil (X.ret (blockQ_ret (thenQ_ret (retEnd (L' := L) [.int .i64 (ar.getD ((n).toNat) 0)] (.int .i64 (ar.getD ((n).toNat) 0)) (.tmp rfl .nil) rfl rF rF (sD sR) ?_))))))))))))))))
  exact ⟨(vI (by unfold sArity; split <;> (try split) <;> first | rfl | omega)), rfl, rfl⟩
 refine X.skip (X.seq (X.region (XL.as (.int .i64 (-1)) rfl (XL.nil (X.ret (retEnd (L' := L) [.int .i64 (-1)] (.int .i64 (-1)) (.tmp rfl .nil) rfl rF rF (sD sR) ?_))))))
 exact ⟨(vI (by unfold sArity; split <;> (try split) <;> first | rfl | omega)), rfl, rfl⟩

/- spec.SigOk -/
theorem sSigOk_spec {F : FH} {L : List HP} {arv : Value} {ar : List Int} (har : IntsF F arv ar) (hla : ar.length ≤ 4000000) :
    Does prog 141 [.agg #[arv]] F (L) (fun v F' L' => (.bool (sigOk ar) : Value) = v ∧ F = F' ∧ L = L') := by
 refine Does.of_X func141 rfl rfl rfl (X.seq (X.region (cX (XOp.box [arv] rfl rfl ?_))))
 intro b1
 refine XL.as (.bool (false)) rfl (XL.nil (X.seq (X.seq (X.region (cX (XOp.fieldP (0) runUnderlying26 rfl sizeOf24 (by decide) rfl rfl (cX (XOp.load1 isAgg24 rfl (Rd.own [] rfl rfl) (cX (XOp.lenS runUnderlying24 rfl har.slv (cX (XOp.call (args := [.int .i64 ((ar.length : Int)), .int .i64 (1), .int .i64 (8)]) call51 rfl (l1In_spec (n := (ar.length : Int)) (a := 1) (b := 8)) ?_))))))))))))
 rintro _ _ _ _ ⟨rfl, rfl, rfl⟩
 refine cX (XOp.notD rfl (XL.nil ?_))
 refine X.condD (p := ¬(1 ≤ ((ar.length : Int)) ∧ ((ar.length : Int)) ≤ 8)) rfl (fun h1 => ?_) (fun h1 => ?_)
 ·refine X.seq (X.region (XL.as (.bool (false)) rfl (XL.nil (X.ret (thenQ_ret (retEnd (L' := L) [.bool (false)] (.bool (false)) (.tmp rfl .nil) rfl rF rF (sD sR) ?_))))))
  exact ⟨(vB (sigOk_short (by omega))), rfl, rfl⟩
 refine X.skip (X.seq (X.seq (X.region (XL.as (.int .i64 (0)) rfl (XL.nil (X.block (X.loop (α := Nat) (fun k => [(1, ptr b1 0), (3, .int .i64 ((k : Int)))]) (fun k => cellsH b1 [arv] 26 :: L) (fun k F' => F = F' ∧ (k ≤ ar.length) ∧ (∀ i, i < k → 0 ≤ ar.getD i 0 ∧ ar.getD i 0 ≤ 3)) (fun k => ar.length - k) 0 ⟨rfl, rfl, trivial⟩ (sC sR) ⟨rfl, (by omega), (fun i hi => absurd hi (by omega))⟩ ?_)))))))
 rintro k rE _ _ ⟨rfl, hk, hall⟩
 show X _ _ _ _ (envs [(1, ptr b1 0), (3, .int .i64 ((k : Int)))] rE) _ (cellsH b1 [arv] 26 :: L)
 refine X.seq (X.seq (X.region (XL.mv (.int .i64 ((k : Int))) rfl (cX (XOp.fieldP (0) runUnderlying26 rfl sizeOf24 (by decide) rfl rfl (cX (XOp.load1 isAgg24 rfl (Rd.own [] rfl rfl) (cX (XOp.lenS runUnderlying24 rfl har.slv (cX (XOp.lss rfl rfl (XL.nil ?_))))))))))))
 refine X.condD (p := (k : Int) < (ar.length : Int)) rfl (fun h2 => ?_) (fun h2 => ?_)
 ·refine X.skip (X.seq (X.block (X.seq (X.region (cX (XOp.fieldP (0) runUnderlying26 rfl sizeOf24 (by decide) rfl rfl (cX (XOp.load1 isAgg24 rfl (Rd.own [] rfl rfl) (XL.mv (.int .i64 ((k : Int))) rfl (cX (XOp.indexS k runUnderlying24 sizeOf2 rfl rfl rfl har.slv (by omega) (Nat.mul_one _) (cX (XOp.load1 isAgg2 rfl (har.rd (by omega)) (cX (XOp.call (args := [.int .i64 (ar.getD k 0), .int .i64 (0), .int .i64 (3)]) call51 rfl (l1In_spec (n := ar.getD k 0) (a := 0) (b := 3)) ?_)))))))))))))))
  rintro _ _ _ _ ⟨rfl, rfl, rfl⟩
  refine cX (XOp.notD rfl (XL.nil ?_))
  refine X.condD (p := ¬(0 ≤ (ar.getD k 0) ∧ (ar.getD k 0) ≤ 3)) rfl (fun h3 => ?_) (fun h3 => ?_)
  ·refine X.seq (X.region (XL.as (.bool (false)) rfl (XL.nil (X.ret (blockQ_ret (thenQ_ret (thenQ_ret (blockQ_ret (thenQ_ret (retEnd (L' := L) [.bool (false)] (.bool (false)) (.tmp rfl .nil) rfl rF rF (sD sR) ?_))))))))))
   exact ⟨(vB (sigOk_bad (i := k) (by omega) (by omega))), rfl, rfl⟩
  refine X.skip (X.region (XL.mv (.int .i64 ((k : Int))) rfl (cX (XOp.addR (((k + 1 : Nat) : Int)) rfl rfl (by omega) (by omega) (XL.as (.int .i64 (((k + 1 : Nat) : Int))) rfl (XL.nil ?_))))))
  exact ⟨k + 1, _, FLe.refl _, rF, ⟨rfl, rfl, trivial⟩, (sC sR), ⟨rfl, (by omega), (fun i hi => (Nat.lt_or_ge i k).elim (fun h => hall i h) (fun h => by obtain rfl : i = k := (by omega); omega))⟩, (by omega)⟩
 refine X.exit (thenQ_exit (thenQ_exit (blockQ_exit (X.seq (X.region (XL.as (.bool (true)) rfl (XL.nil (X.ret (retEnd (L' := L) [.bool (true)] (.bool (true)) (.tmp rfl .nil) rfl rF rF (sD sR) ?_)))))))))
 exact ⟨(vB (sigOk_of (by omega) (by omega) (fun i hi => hall i (by omega)))), rfl, rfl⟩

/- spec.l1End -/
theorem l1End_spec {F : FH} {L : List HP} {arv : Value} {ar : List Int} (har : IntsF F arv ar) {tv : Value} {t : List Int} (ht : IntsF F tv t) {p0 : Nat} (hs : sigOk ar = true) (hlt : t.length ≤ 4000000) (hp : p0 ≤ t.length) :
    Does prog 143 [.agg #[arv], tv, .int .i64 ((p0 : Int))] F (L) (fun v F' L' => (.int .i64 (sEndZ ar t p0) : Value) = v ∧ F = F' ∧ L = L') := by
 refine Does.of_X func143 rfl rfl rfl ?_
 have hsl := sigOk_spec hs
 refine X.seq (X.region (cX (XOp.box [arv] rfl rfl ?_)))
 intro b1
 refine XL.as (.int .i64 (0)) rfl (XL.nil (X.seq (X.region (XL.as (.int .i64 (1)) rfl (XL.nil (X.seq (X.seq (X.region (XL.mv (.int .i64 ((p0 : Int))) rfl (XL.as (.int .i64 ((p0 : Int))) rfl (XL.nil (X.block (X.loop (α := Nat × Nat) (fun xQ => [(1, tv), (3, ptr b1 0), (7, .int .i64 (((xQ.1 : Nat) : Int))), (8, .int .i64 (((xQ.2 : Nat) : Int)))]) (fun xQ => cellsH b1 [arv] 26 :: L) (fun xQ F' => F = F' ∧ (sEndGo ar (t.drop p0) 1 = (sEndGo ar (t.drop xQ.2) xQ.1).map (· + (xQ.2 - p0))) ∧ (p0 ≤ xQ.2 ∧ xQ.2 ≤ t.length) ∧ (1 ≤ xQ.1 ∧ xQ.1 ≤ 1 + 3 * xQ.2)) (fun xQ => t.length - xQ.2) (1, p0) ⟨rfl, rfl, rfl, rfl, trivial⟩ (sC sR) ⟨rfl, (by simp), (by omega), (by omega)⟩ ?_)))))))))))))
 rintro ⟨k, p⟩ rE _ _ ⟨rfl, hi, h1, h2⟩
 show X _ _ _ _ (envs [(1, tv), (3, ptr b1 0), (7, .int .i64 ((k : Int))), (8, .int .i64 ((p : Int)))] rE) _ (cellsH b1 [arv] 26 :: L)
 dsimp only at hi h1 h2
 refine X.seq (X.seq (X.region (XL.mv (.int .i64 ((p : Int))) rfl (XL.mv (tv) rfl (cX (XOp.lenS runUnderlying24 rfl ht.slv (cX (XOp.lss rfl rfl (XL.nil ?_)))))))))
 refine X.condD (p := (p : Int) < (t.length : Int)) rfl (fun h1 => ?_) (fun h1 => ?_)
 ·refine X.skip (X.seq (X.block (X.seq ?_)))
  refine X.draw [cellsH b1 [arv] 26] L 5 [[], [], [], [], []] [[], [], [], [1, 2], [3]] (phiL [fun us v => v = (.agg #[arv] : Value), fun us v => v = tv, fun us v => v = (.int .i64 ((p : Int)) : Value), fun us v => v = (.pointer (some (elemA tv (p))) : Value), fun us v => v = (.int .i64 (t.getD p 0) : Value)]) (ownL [fun us v => [], fun us v => [], fun us v => [], fun us v => [], fun us v => []]) mixed rfl rfl (by kernel_rfl) ?_ ?_
  ·refine pC (fun vals R hpZ => ?_) ?_
   ·refine XG.op (XOp.loadN [arv] isAgg26 sizeOf26 rfl rfl (Rd.ownN [] rfl rfl) ?_)
    exact ⟨rfl, rfl, rfl⟩
   refine pC (fun vals R hpZ => ?_) ?_
   ·refine XG.op (XOp.move (tv) rfl ?_)
    exact ⟨rfl, rfl, rfl⟩
   refine pC (fun vals R hpZ => ?_) ?_
   ·refine XG.op (XOp.move (.int .i64 ((p : Int))) rfl ?_)
    exact ⟨rfl, rfl, rfl⟩
   refine pC (fun vals R hpZ => ?_) ?_
   ·rw [eS (l := [(1, tv), (2, (.int .i64 ((p : Int)) : Value))]) ⟨hpZ 1 (by decide), hpZ 2 (by decide), trivial⟩]
    refine XG.op (XOp.indexS p runUnderlying24 sizeOf2 rfl rfl rfl ht.slv (by omega) (Nat.mul_one _) ?_)
    exact ⟨rfl, rfl, rfl⟩
   refine pC (fun vals R hpZ => ?_) ?_
   ·rw [eS (l := [(3, (.pointer (some (elemA tv (p))) : Value))]) ⟨hpZ 3 (by decide), trivial⟩]
    refine XG.op (XOp.load1 isAgg2 rfl (ht.rd (by omega)) ?_)
    exact ⟨rfl, rfl, rfl⟩
   exact stepsP.nil
  intro vals hphi
  rw [eS (l := [(0, (.agg #[arv] : Value)), (4, (.int .i64 (t.getD p 0) : Value))]) ⟨(hphi 0 (by decide)), (hphi 4 (by decide)), trivial⟩]
  show XL _ _ _ _ _ _ _ (cellsH b1 [arv] 26 :: L)
  refine cX (XOp.call (args := [.agg #[arv], .int .i64 (t.getD p 0)]) call187 rfl (l1Arity_spec (n := t.getD p 0) har (hla := (by first | assumption | rfl | omega | simp))) ?_)
  rintro _ _ _ _ ⟨rfl, rfl, rfl⟩
  refine XL.as (.int .i64 (sArity ar (t.getD p 0))) rfl (XL.nil (X.seq (X.seq (X.region (XL.mv (.int .i64 (sArity ar (t.getD p 0))) rfl (cX (XOp.lss rfl rfl (XL.nil ?_))))))))
  refine X.condD (p := (sArity ar (t.getD p 0) : Int) < 0) rfl (fun h2 => ?_) (fun h2 => ?_)
  ·rw [sArity_neg hs] at h2
   refine X.seq (X.region (XL.as (.int .i64 (-1)) rfl (XL.nil (X.ret (thenQ_ret (blockQ_ret (thenQ_ret (thenQ_ret (blockQ_ret (thenQ_ret (retEnd (L' := L) [.int .i64 (-1)] (.int .i64 (-1)) (.tmp rfl .nil) rfl rF rF (sD sR) ?_)))))))))))
   exact ⟨(vI (by unfold sEndZ; rw [hi, sEndGo_none (by omega) (by omega)]; rfl)), rfl, rfl⟩
  have hA : -24 ≤ t.getD p 0 ∧ t.getD p 0 < ar.length := by rw [sArity_neg hs] at h2; omega
  have hB := arity_le hs hA.2
  have hC := sArity_eq hA
  refine X.skip (X.seq (X.region (XL.mv (.int .i64 ((k : Int))) rfl (XL.mv (.int .i64 (sArity ar (t.getD p 0))) rfl (cX (XOp.addR (((k + (arity ar (t.getD p 0)).toNat : Nat) : Int)) rfl rfl (by omega) (by omega) (cX (XOp.subR (((k - 1 + (arity ar (t.getD p 0)).toNat : Nat) : Int)) rfl rfl (by omega) (by omega) (XL.as (.int .i64 (((k - 1 + (arity ar (t.getD p 0)).toNat : Nat) : Int))) rfl (XL.nil (X.seq (X.region (XL.mv (.int .i64 (((k - 1 + (arity ar (t.getD p 0)).toNat : Nat) : Int))) rfl (cX (XOp.eql rfl rfl (XL.nil ?_))))))))))))))))
  refine X.condD (p := (((k - 1 + (arity ar (t.getD p 0)).toNat : Nat) : Int) : Int) = 0) rfl (fun h3 => ?_) (fun h3 => ?_)
  ·refine X.seq (X.region (XL.mv (.int .i64 ((p : Int))) rfl (cX (XOp.addR (((p + 1 : Nat) : Int)) rfl rfl (by omega) (by omega) (XL.as (.int .i64 (((p + 1 : Nat) : Int))) rfl (XL.nil (X.ret (blockQ_ret (thenQ_ret (thenQ_ret (blockQ_ret (thenQ_ret (retEnd (L' := L) [.int .i64 (((p + 1 : Nat) : Int))] (.int .i64 (((p + 1 : Nat) : Int))) (.tmp rfl .nil) rfl rF rF (sD sR) ?_)))))))))))))
   exact ⟨(vI (by have hz := sEndGo_step (ar := ar) (t := t) (p := p) (k := k) (by omega) (by omega) hA; rw [show k - 1 + (arity ar (t.getD p 0)).toNat = 0 from by omega] at hz; unfold sEndZ; rw [hi, hz]; simp [sEndGo]; omega)), rfl, rfl⟩
  refine X.skip (X.region (XL.mv (.int .i64 ((p : Int))) rfl (cX (XOp.addR (((p + 1 : Nat) : Int)) rfl rfl (by omega) (by omega) (XL.as (.int .i64 (((p + 1 : Nat) : Int))) rfl (XL.nil ?_))))))
  exact ⟨(k - 1 + (arity ar (t.getD p 0)).toNat, p + 1), _, FLe.refl _, rF, ⟨rfl, rfl, rfl, rfl, trivial⟩, (sC sR), ⟨rfl, (by rw [hi, sEndGo_step (by omega) (by omega) (by omega), Option.map_map]; congr 1; funext e; simp; omega), (by omega), (by omega)⟩, (by omega)⟩
 refine X.exit (thenQ_exit (thenQ_exit (blockQ_exit (X.seq (X.region (XL.as (.int .i64 (-1)) rfl (XL.nil (X.ret (retEnd (L' := L) [.int .i64 (-1)] (.int .i64 (-1)) (.tmp rfl .nil) rfl rF rF (sD sR) ?_)))))))))
 exact ⟨(vI (by unfold sEndZ; rw [hi, sEndGo_none (by omega) (by omega)]; rfl)), rfl, rfl⟩

/- impl.TermOk -/
theorem TermOk_spec {F : FH} {L : List HP} {arv : Value} {ar : List Int} (har : IntsF F arv ar) {tv : Value} {t : List Int} (ht : IntsF F tv t) :
    Does prog 58 [.agg #[arv], tv] F (L) (fun v F' L' => (.bool (termOk ar t) : Value) = v ∧ F = F' ∧ L = L') := by
 refine Does.of_X func58 rfl rfl rfl (X.seq (X.region (cX (XOp.box [arv] rfl rfl ?_))))
 intro b1
 refine XL.as (.bool (false)) rfl (XL.nil (X.seq (X.region (cX (XOp.loadN [arv] isAgg26 sizeOf26 rfl rfl (Rd.ownN [] rfl rfl) (cX (XOp.call (args := [.agg #[arv]]) call114 rfl (SigOk_spec har) ?_)))))))
 rintro _ _ _ _ ⟨rfl, rfl, rfl⟩
 refine XL.mv (.bool (sigOk ar)) rfl ?_
 by_cases h1 : (sigOk ar) = true
 ·refine XL.yes (t := 7) rfl (vB h1) (XOp.move (tv) rfl (XL.yes (t := 7) rfl (vB h1) (XOp.lenS runUnderlying24 rfl ht.slv (XL.yes (t := 7) rfl (vB h1) (XOp.gtr rfl rfl (cX (XOp.pickT (.bool (decide (((t.length : Int) : Int) > 0))) (vB h1) rfl (XL.mv (.bool (decide (((t.length : Int) : Int) > 0))) rfl ?_))))))))
  by_cases h2 : ((t.length : Int) : Int) > 0
  ·refine XL.yes (t := 12) rfl (vT h2) (XOp.move (tv) rfl (XL.yes (t := 12) rfl (vT h2) (XOp.lenS runUnderlying24 rfl ht.slv (XL.yes (t := 12) rfl (vT h2) (XOp.leq rfl rfl (cX (XOp.pickT (.bool (decide (((t.length : Int) : Int) ≤ 60))) (vT h2) rfl (XL.mv (.bool (decide (((t.length : Int) : Int) ≤ 60))) rfl ?_))))))))
   by_cases h3 : ((t.length : Int) : Int) ≤ 60
   ·refine XL.yes (t := 17) rfl (vT h3) (XOp.move (tv) rfl (XL.yes (t := 17) rfl (vT h3) (XOp.call (args := [tv]) call117 rfl (Min_spec ht (h1 := (by first | assumption | rfl | omega | simp)) (hbd := (by first | assumption | rfl | omega | simp))) ?_)))
    rintro _ _ _ _ ⟨rfl, rfl, rfl⟩
    refine XL.yes (t := 17) rfl (vT h3) (XOp.geq rfl rfl (cX (XOp.pickT (.bool (decide ((minL t : Int) ≥ -24))) (vT h3) rfl (XL.mv (.bool (decide ((minL t : Int) ≥ -24))) rfl ?_))))
    by_cases h4 : (minL t : Int) ≥ -24
    ·refine XL.yes (t := 22) rfl (vT h4) (XOp.loadN [arv] isAgg26 sizeOf26 rfl rfl (Rd.ownN [] rfl rfl) (XL.yes (t := 22) rfl (vT h4) (XOp.move (tv) rfl (XL.yes (t := 22) rfl (vT h4) (XOp.call (args := [.agg #[arv], tv, .int .i64 ((0 : Nat) : Int)]) call118 rfl (endAt_spec (p := 0) har ht (hs := (by first | assumption | rfl | omega | simp)) (hb := (by first | assumption | rfl | omega | simp)) (hp := (by first | assumption | rfl | omega | simp))) ?_)))))
     rintro _ _ _ _ ⟨rfl, rfl, rfl⟩
     refine XL.yes (t := 22) rfl (vT h4) (XOp.move (tv) rfl (XL.yes (t := 22) rfl (vT h4) (XOp.lenS runUnderlying24 rfl ht.slv (XL.yes (t := 22) rfl (vT h4) (XOp.eql rfl rfl (cX (XOp.pickT (.bool (decide ((endZ ar t 0 : Int) = (t.length : Int)))) (vT h4) rfl (XL.as (.bool (decide ((endZ ar t 0 : Int) = (t.length : Int)))) rfl (XL.nil (X.ret (retEnd (L' := L) [.bool (decide ((endZ ar t 0 : Int) = (t.length : Int)))] (.bool (decide ((endZ ar t 0 : Int) = (t.length : Int)))) (.tmp rfl .nil) rfl rF rF (sD sR) ?_)))))))))))
     exact ⟨(vB (termOk_of (by assumption) (by omega) (by omega) (by omega))), rfl, rfl⟩
    refine XL.no (t := 22) rfl (vF h4) (XL.no (t := 22) rfl (vF h4) (XL.no (t := 22) rfl (vF h4) (XL.no (t := 22) rfl (vF h4) (XL.no (t := 22) rfl (vF h4) (XL.no (t := 22) rfl (vF h4) (cX (XOp.pickF (.bool (false)) (vF h4) rfl (XL.as (.bool (false)) rfl (XL.nil (X.ret (retEnd (L' := L) [.bool (false)] (.bool (false)) (.tmp rfl .nil) rfl rF rF (sD sR) ?_)))))))))))
    exact ⟨(vB (by first | (refine termOk_nosig ?_; assumption) | (refine termOk_short ?_; omega) | (refine termOk_min ?_ ?_ <;> omega))), rfl, rfl⟩
   refine XL.no (t := 17) rfl (vF h3) (XL.no (t := 17) rfl (vF h3) (XL.no (t := 17) rfl (vF h3) (cX (XOp.pickF (.bool (false)) (vF h3) rfl (XL.mv (.bool (false)) rfl (XL.no (t := 22) rfl rfl (XL.no (t := 22) rfl rfl (XL.no (t := 22) rfl rfl (XL.no (t := 22) rfl rfl (XL.no (t := 22) rfl rfl ?_))))))))))
   refine XL.no (t := 22) rfl rfl (cX (XOp.pickF (.bool (false)) rfl rfl (XL.as (.bool (false)) rfl (XL.nil (X.ret (retEnd (L' := L) [.bool (false)] (.bool (false)) (.tmp rfl .nil) rfl rF rF (sD sR) ?_))))))
   exact ⟨(vB (by first | (refine termOk_nosig ?_; assumption) | (refine termOk_short ?_; omega) | (refine termOk_min ?_ ?_ <;> omega))), rfl, rfl⟩
  refine XL.no (t := 12) rfl (vF h2) (XL.no (t := 12) rfl (vF h2) (XL.no (t := 12) rfl (vF h2) (cX (XOp.pickF (.bool (false)) (vF h2) rfl (XL.mv (.bool (false)) rfl (XL.no (t := 17) rfl rfl (XL.no (t := 17) rfl rfl (XL.no (t := 17) rfl rfl (cX (XOp.pickF (.bool (false)) rfl rfl (XL.mv (.bool (false)) rfl ?_)))))))))))
  refine XL.no (t := 22) rfl rfl (XL.no (t := 22) rfl rfl (XL.no (t := 22) rfl rfl (XL.no (t := 22) rfl rfl (XL.no (t := 22) rfl rfl (XL.no (t := 22) rfl rfl (cX (XOp.pickF (.bool (false)) rfl rfl (XL.as (.bool (false)) rfl (XL.nil (X.ret (retEnd (L' := L) [.bool (false)] (.bool (false)) (.tmp rfl .nil) rfl rF rF (sD sR) ?_)))))))))))
  exact ⟨(vB (by first | (refine termOk_nosig ?_; assumption) | (refine termOk_short ?_; omega) | (refine termOk_min ?_ ?_ <;> omega))), rfl, rfl⟩
 rw [Bool.not_eq_true] at h1
 refine XL.no (t := 7) rfl (vB h1) (XL.no (t := 7) rfl (vB h1) (XL.no (t := 7) rfl (vB h1) (cX (XOp.pickF (.bool (false)) (vB h1) rfl (XL.mv (.bool (false)) rfl (XL.no (t := 12) rfl rfl (XL.no (t := 12) rfl rfl (XL.no (t := 12) rfl rfl (cX (XOp.pickF (.bool (false)) rfl rfl (XL.mv (.bool (false)) rfl ?_)))))))))))
 refine XL.no (t := 17) rfl rfl (XL.no (t := 17) rfl rfl (XL.no (t := 17) rfl rfl (cX (XOp.pickF (.bool (false)) rfl rfl (XL.mv (.bool (false)) rfl (XL.no (t := 22) rfl rfl (XL.no (t := 22) rfl rfl (XL.no (t := 22) rfl rfl (XL.no (t := 22) rfl rfl (XL.no (t := 22) rfl rfl ?_))))))))))
 refine XL.no (t := 22) rfl rfl (cX (XOp.pickF (.bool (false)) rfl rfl (XL.as (.bool (false)) rfl (XL.nil (X.ret (retEnd (L' := L) [.bool (false)] (.bool (false)) (.tmp rfl .nil) rfl rF rF (sD sR) ?_))))))
 exact ⟨(vB (by first | (refine termOk_nosig ?_; assumption) | (refine termOk_short ?_; omega) | (refine termOk_min ?_ ?_ <;> omega))), rfl, rfl⟩

/- impl.posOk -/
theorem posOk_spec {F : FH} {L : List HP} {arv : Value} {ar : List Int} (har : IntsF F arv ar) {tv : Value} {t : List Int} (ht : IntsF F tv t) {n : Int} :
    Does prog 137 [.agg #[arv], tv, .int .i64 (n)] F (L) (fun v F' L' => (.bool (posOk ar t n) : Value) = v ∧ F = F' ∧ L = L') := by
 refine Does.of_X func137 rfl rfl rfl (X.seq (X.region (cX (XOp.box [arv] rfl rfl ?_))))
 intro b1
 refine XL.as (.bool (false)) rfl (XL.nil (X.seq (X.region (cX (XOp.loadN [arv] isAgg26 sizeOf26 rfl rfl (Rd.ownN [] rfl rfl) (XL.mv (tv) rfl (cX (XOp.call (args := [.agg #[arv], tv]) call58 rfl (TermOk_spec har ht) ?_))))))))
 rintro _ _ _ _ ⟨rfl, rfl, rfl⟩
 refine XL.mv (.bool (termOk ar t)) rfl ?_
 by_cases h1 : (termOk ar t) = true
 ·refine XL.yes (t := 10) rfl (vB h1) (XOp.move (.int .i64 (n)) rfl (XL.yes (t := 10) rfl (vB h1) (XOp.geq rfl rfl (cX (XOp.pickT (.bool (decide ((n : Int) ≥ 0))) (vB h1) rfl (XL.mv (.bool (decide ((n : Int) ≥ 0))) rfl ?_))))))
  by_cases h2 : (n : Int) ≥ 0
  ·refine XL.yes (t := 14) rfl (vT h2) (XOp.move (.int .i64 (n)) rfl (XL.yes (t := 14) rfl (vT h2) (XOp.move (tv) rfl (XL.yes (t := 14) rfl (vT h2) (XOp.lenS runUnderlying24 rfl ht.slv (XL.yes (t := 14) rfl (vT h2) (XOp.lss rfl rfl (cX (XOp.pickT (.bool (decide ((n : Int) < (t.length : Int)))) (vT h2) rfl (XL.as (.bool (decide ((n : Int) < (t.length : Int)))) rfl (XL.nil (X.ret (retEnd (L' := L) [.bool (decide ((n : Int) < (t.length : Int)))] (.bool (decide ((n : Int) < (t.length : Int)))) (.tmp rfl .nil) rfl rF rF (sD sR) ?_)))))))))))))
   exact ⟨((by unfold posOk; congr 1; rw [h1, Bool.true_and]; exact decide_eq_decide.2 (by omega))), rfl, rfl⟩
  refine XL.no (t := 14) rfl (vF h2) (XL.no (t := 14) rfl (vF h2) (XL.no (t := 14) rfl (vF h2) (XL.no (t := 14) rfl (vF h2) (cX (XOp.pickF (.bool (false)) (vF h2) rfl (XL.as (.bool (false)) rfl (XL.nil (X.ret (retEnd (L' := L) [.bool (false)] (.bool (false)) (.tmp rfl .nil) rfl rF rF (sD sR) ?_)))))))))
  exact ⟨((by unfold posOk; simp_all <;> omega)), rfl, rfl⟩
 rw [Bool.not_eq_true] at h1
 refine XL.no (t := 10) rfl (vB h1) (XL.no (t := 10) rfl (vB h1) (cX (XOp.pickF (.bool (false)) (vB h1) rfl (XL.mv (.bool (false)) rfl (XL.no (t := 14) rfl rfl (XL.no (t := 14) rfl rfl (XL.no (t := 14) rfl rfl (XL.no (t := 14) rfl rfl (cX (XOp.pickF (.bool (false)) rfl rfl (XL.as (.bool (false)) rfl ?_)))))))))))
 refine XL.nil (X.ret (retEnd (L' := L) [.bool (false)] (.bool (false)) (.tmp rfl .nil) rfl rF rF (sD sR) ?_))
 exact ⟨((by unfold posOk; simp_all <;> omega)), rfl, rfl⟩

/- spec.TermOk -/
theorem sTermOk_spec {F : FH} {L : List HP} {arv : Value} {ar : List Int} (har : IntsF F arv ar) {tv : Value} {t : List Int} (ht : IntsF F tv t) (hla : ar.length ≤ 4000000) (hlt : t.length ≤ 4000000) :
    Does prog 82 [.agg #[arv], tv] F (L) (fun v F' L' => (.bool (termOk ar t) : Value) = v ∧ F = F' ∧ L = L') := by
 refine Does.of_X func82 rfl rfl rfl (X.seq (X.region (cX (XOp.box [arv] rfl rfl ?_))))
 intro b1
 refine XL.as (.bool (false)) rfl (XL.nil (X.seq (X.region (cX (XOp.loadN [arv] isAgg26 sizeOf26 rfl rfl (Rd.ownN [] rfl rfl) (cX (XOp.call (args := [.agg #[arv]]) call141 rfl (sSigOk_spec har (hla := (by first | assumption | rfl | omega | simp))) ?_)))))))
 rintro _ _ _ _ ⟨rfl, rfl, rfl⟩
 refine XL.mv (.bool (sigOk ar)) rfl ?_
 by_cases h1 : (sigOk ar) = true
 ·refine XL.yes (t := 7) rfl (vB h1) (XOp.move (tv) rfl (XL.yes (t := 7) rfl (vB h1) (XOp.lenS runUnderlying24 rfl ht.slv (XL.yes (t := 7) rfl (vB h1) (XOp.call (args := [.int .i64 ((t.length : Int)), .int .i64 (1), .int .i64 (60)]) call51 rfl (l1In_spec (n := (t.length : Int)) (a := 1) (b := 60)) ?_)))))
  rintro _ _ _ _ ⟨rfl, rfl, rfl⟩
  refine cX (XOp.pickT (.bool (decide (1 ≤ ((t.length : Int)) ∧ ((t.length : Int)) ≤ 60))) (vB h1) rfl (XL.mv (.bool (decide (1 ≤ ((t.length : Int)) ∧ ((t.length : Int)) ≤ 60))) rfl ?_))
  by_cases h2 : 1 ≤ ((t.length : Int)) ∧ ((t.length : Int)) ≤ 60
  ·refine XL.yes (t := 12) rfl (vT h2) (XOp.loadN [arv] isAgg26 sizeOf26 rfl rfl (Rd.ownN [] rfl rfl) (XL.yes (t := 12) rfl (vT h2) (XOp.move (tv) rfl (XL.yes (t := 12) rfl (vT h2) (XOp.call (args := [.agg #[arv], tv, .int .i64 ((0 : Nat) : Int)]) call143 rfl (l1End_spec (p0 := 0) har ht (hs := (by first | assumption | rfl | omega | simp)) (hlt := (by first | assumption | rfl | omega | simp)) (hp := (by first | assumption | rfl | omega | simp))) ?_)))))
   rintro _ _ _ _ ⟨rfl, rfl, rfl⟩
   refine XL.yes (t := 12) rfl (vT h2) (XOp.move (tv) rfl (XL.yes (t := 12) rfl (vT h2) (XOp.lenS runUnderlying24 rfl ht.slv (XL.yes (t := 12) rfl (vT h2) (XOp.eql rfl rfl (cX (XOp.pickT (.bool (decide ((sEndZ ar t 0 : Int) = (t.length : Int)))) (vT h2) rfl (XL.as (.bool (decide ((sEndZ ar t 0 : Int) = (t.length : Int)))) rfl (XL.nil (X.ret (retEnd (L' := L) [.bool (decide ((sEndZ ar t 0 : Int) = (t.length : Int)))] (.bool (decide ((sEndZ ar t 0 : Int) = (t.length : Int)))) (.tmp rfl .nil) rfl rF rF (sD sR) ?_)))))))))))
   exact ⟨(vB (termOk_s (by assumption) (by omega))), rfl, rfl⟩
  refine XL.no (t := 12) rfl (vF h2) (XL.no (t := 12) rfl (vF h2) (XL.no (t := 12) rfl (vF h2) (XL.no (t := 12) rfl (vF h2) (XL.no (t := 12) rfl (vF h2) (XL.no (t := 12) rfl (vF h2) (cX (XOp.pickF (.bool (false)) (vF h2) rfl (XL.as (.bool (false)) rfl (XL.nil (X.ret (retEnd (L' := L) [.bool (false)] (.bool (false)) (.tmp rfl .nil) rfl rF rF (sD sR) ?_)))))))))))
  exact ⟨(vB (by first | (refine termOk_nosig ?_; assumption) | (refine termOk_short ?_; omega))), rfl, rfl⟩
 rw [Bool.not_eq_true] at h1
 refine XL.no (t := 7) rfl (vB h1) (XL.no (t := 7) rfl (vB h1) (XL.no (t := 7) rfl (vB h1) (cX (XOp.pickF (.bool (false)) (vB h1) rfl (XL.mv (.bool (false)) rfl (XL.no (t := 12) rfl rfl (XL.no (t := 12) rfl rfl (XL.no (t := 12) rfl rfl (XL.no (t := 12) rfl rfl (XL.no (t := 12) rfl rfl ?_))))))))))
 refine XL.no (t := 12) rfl rfl (cX (XOp.pickF (.bool (false)) rfl rfl (XL.as (.bool (false)) rfl (XL.nil (X.ret (retEnd (L' := L) [.bool (false)] (.bool (false)) (.tmp rfl .nil) rfl rF rF (sD sR) ?_))))))
 exact ⟨(vB (by first | (refine termOk_nosig ?_; assumption) | (refine termOk_short ?_; omega))), rfl, rfl⟩

theorem endAt_ok {F : FH} {L : List HP} {p : Nat} {arv : Value} {ar : List Int} (har : IntsF F arv ar) {tv : Value} {t : List Int} (ht : IntsF F tv t) (ho : termOk ar t = true) (hp : p < t.length) :
    Does prog 118 [.agg #[arv], tv, .int .i64 (p : Int)] F L (fun v F' L' => (.int .i64 ((endN ar t p : Nat) : Int) : Value) = v ∧ F = F' ∧ L = L') := by
  have hl := termOk_len ho
  have h := endAt_spec (F := F) (L := L) (p := p) har ht (termOk_sig ho) (by omega) (by omega)
  rw [endZ_endN ho hp] at h
  exact h

theorem l1End_ok {F : FH} {L : List HP} {p : Nat} {arv : Value} {ar : List Int} (har : IntsF F arv ar) {tv : Value} {t : List Int} (ht : IntsF F tv t) (ho : termOk ar t = true) (hp : p < t.length) :
    Does prog 143 [.agg #[arv], tv, .int .i64 (p : Int)] F L (fun v F' L' => (.int .i64 ((endN ar t p : Nat) : Int) : Value) = v ∧ F = F' ∧ L = L') := by
  have hl := termOk_len ho
  have h := l1End_spec (F := F) (L := L) (p0 := p) har ht (termOk_sig ho) (by omega) (by omega)
  rw [sEndZ_endN ho hp] at h
  exact h

end Go.Proofs.YtmaaifhmhclhdaaGreat
set_option linter.unusedSimpArgs false
set_option linter.unusedVariables false
namespace Go.Proofs.YtmaaifhmhclhdaaGreat
open Go X M Tryz

/- impl.subAt -/
theorem subAt_spec {F : FH} {L : List HP} {arv : Value} {ar : List Int} (har : IntsF F arv ar) {tv : Value} {t : List Int} (ht : IntsF F tv t) {p : Nat} (ho : termOk ar t = true) (hp : p < t.length) (hnn : isNil tv = false) :
    Does prog 138 [.agg #[arv], tv, .int .i64 ((p : Int))] F (L) (fun v F' L' => F = F' ∧ L = L' ∧ IntsF F v (sub ar t p) ∧ isNil v = false) := by
 refine Does.of_X func138 rfl rfl rfl ?_
 have hsl := sigOk_spec (termOk_sig ho)
 have htl := termOk_len ho
 have hsig := termOk_sig ho
 have hee := endN_spec ho hp
 refine X.seq (X.region (cX (XOp.box [arv] rfl rfl ?_)))
 intro b1
 refine XL.as ((.slice none 0 0)) rfl (XL.nil (X.seq (X.region (XL.mv (tv) rfl (XL.mv (.int .i64 ((p : Int))) rfl (cX (XOp.loadN [arv] isAgg26 sizeOf26 rfl rfl (Rd.ownN [] rfl rfl) (XL.mv (tv) rfl (XL.mv (.int .i64 ((p : Int))) rfl (cX (XOp.call (args := [.agg #[arv], tv, .int .i64 (p : Int)]) call118 rfl (endAt_ok (p := p) har ht (ho := (by first | assumption | rfl | omega | (left; simp; done) | (right; simp; done))) (hp := (by first | assumption | rfl | omega | (left; simp; done) | (right; simp; done)))) ?_)))))))))))
 rintro _ _ _ _ ⟨rfl, rfl, rfl⟩
 refine cX (XOp.sliceI p (endN ar t p) runUnderlying24 sizeOf2 rfl ht ⟨_, rfl⟩ ⟨_, rfl⟩ (by omega) (by omega) ?_)
 intro v1 hv1 hn1
 refine XL.as (v1) rfl (XL.nil (X.ret (retEnd (L' := L) [v1] (v1) (.tmp rfl .nil) rfl rF rF (sD sR) ?_)))
 exact ⟨rfl, rfl, hv1, by rw [hn1]; exact hnn⟩

/- spec.l1Copy -/
theorem l1Copy_spec {F : FH} {L : List HP} {tv : Value} {t : List Int} (ht : IntsF F tv t) (hlt : t.length ≤ 4000000) :
    Does prog 52 [tv] F (L) (fun v F' L' => F = F' ∧ IsSl v ∧ intsH 2 v t :: L = L') := by
 refine Does.of_X func52 rfl rfl rfl (X.seq (X.region (XL.as ((.slice none 0 0)) rfl (XL.nil (X.seq (X.region (cX (XOp.buildSlice (s := 1) [] [.int .i64 (0)] [] runUnderlying24 sizeOf2 zeroValue2 rfl (by decide) rfl CellsAre.nil rfl ?_))))))))
 intro v1 hv1
 refine XL.mv (tv) rfl ?_
 show XL _ _ _ _ _ _ _ (intsH 2 v1 ([] : List Int) :: L)
 refine cX (XOp.appendI [] _ runUnderlying24 typeInfo2 rfl rfl rfl rfl rfl rfl ht (by (try simp only [List.length_append, List.length_nil, List.length_cons, List.length_singleton, List.length_take, List.length_drop]); omega) ?_)
 intro v2 hs1 hn1 hm1
 refine XL.as (v2) rfl (XL.nil (X.ret (retEnd (L' := intsH 2 v2 (([] : List Int) ++ t) :: L) [v2] (v2) (.tmp rfl .nil) rfl rF rF (sC sR) ?_)))
 refine ⟨rfl, hs1, ?_⟩
 have hxs : (t : List Int) = ([] : List Int) ++ t := by simp
 exact congrArg (fun z => intsH 2 _ z :: L) hxs

/- slices.Clone[[]int64,int64] -/
theorem Clone_spec {F : FH} {L : List HP} {tv : Value} {t : List Int} (ht : IntsF F tv t) (hlt : t.length ≤ 4000000) :
    Does prog 60 [tv] F (L) (fun v F' L' => F = F' ∧ IsSl v ∧ intsH 2 v t :: L = L') := by
 refine Does.of_X func60 rfl rfl rfl (X.seq (X.region (XL.as ((.slice none 0 0)) rfl (XL.nil (X.seq (X.seq (X.region (XL.mv (tv) rfl (cX (XOp.eqNil runUnderlying24 rfl rfl (IntsF.isSl ht) (XL.nil ?_)))))))))))
 refine X.cond (t := isNil tv) rfl (fun h1 => ?_) (fun h1 => ?_)
 ·refine X.seq (X.region (XL.as ((.slice none 0 0)) rfl (XL.nil (X.ret (thenQ_ret (retEnd (L' := intsH 2 ((.slice none 0 0)) ([]) :: L) [(.slice none 0 0)] ((.slice none 0 0)) (.tmp rfl .nil) rfl rF rF (Sub.trans (intsH.addNil 2 none _) (sC sR)) ?_))))))
  refine ⟨rfl, ⟨_, _, _, rfl⟩, ?_⟩
  have hxs : (t : List Int) = [] := by exact nil_of_isNil ht h1
  exact congrArg (fun z => intsH 2 _ z :: L) hxs
 refine X.skip (X.seq (X.region (cX (XOp.buildSlice (s := 1) [] [.int .i64 (0)] [] runUnderlying24 sizeOf2 zeroValue2 rfl (by decide) rfl CellsAre.nil rfl ?_))))
 intro v1 hv1
 refine XL.mv (tv) rfl ?_
 show XL _ _ _ _ _ _ _ (intsH 2 v1 ([] : List Int) :: L)
 refine cX (XOp.appendI [] _ runUnderlying24 typeInfo2 rfl rfl rfl rfl rfl rfl ht (by (try simp only [List.length_append, List.length_nil, List.length_cons, List.length_singleton, List.length_take, List.length_drop]); omega) ?_)
 intro v2 hs1 hn1 hm1
 refine XL.as (v2) rfl (XL.nil (X.ret (retEnd (L' := intsH 2 v2 (([] : List Int) ++ t) :: L) [v2] (v2) (.tmp rfl .nil) rfl rF rF (sC sR) ?_)))
 refine ⟨rfl, hs1, ?_⟩
 have hxs : (t : List Int) = ([] : List Int) ++ t := by simp
 exact congrArg (fun z => intsH 2 _ z :: L) hxs

/- spec.l1Sub -/
theorem l1Sub_spec {F : FH} {L : List HP} {arv : Value} {ar : List Int} (har : IntsF F arv ar) {tv : Value} {t : List Int} (ht : IntsF F tv t) {p : Nat} (ho : termOk ar t = true) (hp : p < t.length) :
    Does prog 110 [.agg #[arv], tv, .int .i64 ((p : Int))] F (L) (fun v F' L' => F = F' ∧ IsSl v ∧ intsH 2 v (sub ar t p) :: L = L') := by
 refine Does.of_X func110 rfl rfl rfl ?_
 have hsl := sigOk_spec (termOk_sig ho)
 have htl := termOk_len ho
 have hsig := termOk_sig ho
 have hee := endN_spec ho hp
 refine X.seq (X.region (cX (XOp.box [arv] rfl rfl ?_)))
 intro b1
 refine XL.as ((.slice none 0 0)) rfl (XL.nil (X.seq (X.region (XL.mv (tv) rfl (XL.mv (.int .i64 ((p : Int))) rfl (cX (XOp.loadN [arv] isAgg26 sizeOf26 rfl rfl (Rd.ownN [] rfl rfl) (XL.mv (tv) rfl (XL.mv (.int .i64 ((p : Int))) rfl (cX (XOp.call (args := [.agg #[arv], tv, .int .i64 (p : Int)]) call143 rfl (l1End_ok (p := p) har ht (ho := (by first | assumption | rfl | omega | (left; simp; done) | (right; simp; done))) (hp := (by first | assumption | rfl | omega | (left; simp; done) | (right; simp; done)))) ?_)))))))))))
 rintro _ _ _ _ ⟨rfl, rfl, rfl⟩
 refine cX (XOp.sliceI p (endN ar t p) runUnderlying24 sizeOf2 rfl ht ⟨_, rfl⟩ ⟨_, rfl⟩ (by omega) (by omega) ?_)
 intro v1 hv1 hn1
 refine cX (XOp.call (args := [v1]) call52 rfl (l1Copy_spec hv1 (hlt := (by rw [List.length_take, List.length_drop]; omega))) ?_)
 rintro v2 _ _ _ ⟨rfl, hs1, rfl⟩
 refine XL.as (v2) rfl (XL.nil (X.ret (retEnd (L' := intsH 2 v2 (((((t.drop p).take ((endN ar t p) - p))))) :: L) [v2] (v2) (.tmp rfl .nil) rfl rF rF (sC (sD sR)) ?_)))
 refine ⟨rfl, hs1, ?_⟩
 have hxs : (sub ar t p : List Int) = ((((t.drop p).take ((endN ar t p) - p)))) := rfl
 exact congrArg (fun z => intsH 2 _ z :: L) hxs

/- impl.RuleOk -/
theorem RuleOk_spec {F : FH} {L : List HP} {arv : Value} {ar : List Int} (har : IntsF F arv ar) {lv : Value} {l : List Int} (hl : IntsF F lv l) {rv : Value} {r : List Int} (hr : IntsF F rv r) :
    Does prog 115 [.agg #[arv], .agg #[lv, rv]] F (L) (fun v F' L' => (.bool (ruleOk ar l r) : Value) = v ∧ F = F' ∧ L = L') := by
 refine Does.of_X func115 rfl rfl rfl (X.seq (X.region (cX (XOp.box [arv] rfl rfl ?_))))
 intro b1
 refine cX (XOp.box [lv, rv] rfl rfl ?_)
 intro b2
 refine XL.as (.bool (false)) rfl (XL.nil (X.seq (X.seq (X.region (cX (XOp.loadN [arv] isAgg26 sizeOf26 rfl rfl (Rd.ownN [_] rfl rfl) (cX (XOp.fieldP (0) runUnderlying117 rfl sizeOf24 (by decide) rfl rfl (cX (XOp.load1 isAgg24 rfl (Rd.own [] rfl rfl) (cX (XOp.call (args := [.agg #[arv], lv]) call58 rfl (TermOk_spec har hl) ?_))))))))))))
 rintro _ _ _ _ ⟨rfl, rfl, rfl⟩
 refine cX (XOp.notB rfl (XL.mv (.bool (!(termOk ar l))) rfl ?_))
 by_cases h1 : (!(termOk ar l)) = true
 ·refine XL.no (t := 12) rfl (vB h1) (XL.no (t := 12) rfl (vB h1) (XL.no (t := 12) rfl (vB h1) (XL.no (t := 12) rfl (vB h1) (XL.no (t := 12) rfl (vB h1) (cX (XOp.pickT (.bool (true)) (vB h1) rfl (XL.mv (.bool (true)) rfl (XL.no (t := 19) rfl rfl (XL.no (t := 19) rfl rfl (XL.no (t := 19) rfl rfl ?_))))))))))
  refine XL.no (t := 19) rfl rfl (XL.no (t := 19) rfl rfl (cX (XOp.pickT (.bool (true)) rfl rfl (XL.nil (X.condT rfl (X.seq (X.region (XL.as (.bool (false)) rfl (XL.nil (X.ret (thenQ_ret (retEnd (L' := L) [.bool (false)] (.bool (false)) (.tmp rfl .nil) rfl rF rF (sD (sD sR)) ?_))))))))))))
  exact ⟨(vB (ruleOk_false (fun h => by have := h.left; have := h.right; have := h.head; simp_all <;> omega))), rfl, rfl⟩
 rw [Bool.not_eq_true] at h1
 have hlo : termOk ar l = true := by simpa using h1
 have hl60 := termOk_len hlo
 refine XL.yes (t := 12) rfl (vB h1) (XOp.loadN [arv] isAgg26 sizeOf26 rfl rfl (Rd.ownN [_] rfl rfl) (XL.yes (t := 12) rfl (vB h1) (XOp.fieldP (1) runUnderlying117 rfl sizeOf24 (by decide) rfl rfl (XL.yes (t := 12) rfl (vB h1) (XOp.load1 isAgg24 rfl (Rd.own [] rfl rfl) (XL.yes (t := 12) rfl (vB h1) (XOp.call (args := [.agg #[arv], rv]) call58 rfl (TermOk_spec har hr) ?_)))))))
 rintro _ _ _ _ ⟨rfl, rfl, rfl⟩
 refine XL.yes (t := 12) rfl (vB h1) (XOp.notB rfl (cX (XOp.pickF (.bool (!(termOk ar r))) (vB h1) rfl (XL.mv (.bool (!(termOk ar r))) rfl ?_))))
 by_cases h2 : (!(termOk ar r)) = true
 ·refine XL.no (t := 19) rfl (vB h2) (XL.no (t := 19) rfl (vB h2) (XL.no (t := 19) rfl (vB h2) (XL.no (t := 19) rfl (vB h2) (XL.no (t := 19) rfl (vB h2) (cX (XOp.pickT (.bool (true)) (vB h2) rfl (XL.nil (X.condT rfl (X.seq (X.region (XL.as (.bool (false)) rfl ?_)))))))))))
  refine XL.nil (X.ret (thenQ_ret (retEnd (L' := L) [.bool (false)] (.bool (false)) (.tmp rfl .nil) rfl rF rF (sD (sD sR)) ?_)))
  exact ⟨(vB (ruleOk_false (fun h => by have := h.left; have := h.right; have := h.head; simp_all <;> omega))), rfl, rfl⟩
 rw [Bool.not_eq_true] at h2
 have hro : termOk ar r = true := by simpa using h2
 have hr60 := termOk_len hro
 refine XL.yes (t := 19) rfl (vB h2) (XOp.fieldP (0) runUnderlying117 rfl sizeOf24 (by decide) rfl rfl (XL.yes (t := 19) rfl (vB h2) (XOp.load1 isAgg24 rfl (Rd.own [] rfl rfl) (XL.yes (t := 19) rfl (vB h2) (XOp.indexS 0 runUnderlying24 sizeOf2 rfl rfl rfl hl.slv (by omega) (Nat.mul_one _) (XL.yes (t := 19) rfl (vB h2) (XOp.load1 isAgg2 rfl (hl.rd (by omega)) (XL.yes (t := 19) rfl (vB h2) (XOp.lss rfl rfl (cX (XOp.pickF (.bool (decide ((l.getD 0 0 : Int) < 0))) (vB h2) rfl (XL.nil ?_))))))))))))
 refine X.condD (p := (l.getD 0 0 : Int) < 0) rfl (fun h3 => ?_) (fun h3 => ?_)
 ·refine X.seq (X.region (XL.as (.bool (false)) rfl (XL.nil (X.ret (thenQ_ret (retEnd (L' := L) [.bool (false)] (.bool (false)) (.tmp rfl .nil) rfl rF rF (sD (sD sR)) ?_))))))
  exact ⟨(vB (ruleOk_false (fun h => by have := h.left; have := h.right; have := h.head; simp_all <;> omega))), rfl, rfl⟩
 refine X.skip (X.seq (X.seq (X.region (cX (XOp.fieldP (1) runUnderlying117 rfl sizeOf24 (by decide) rfl rfl (cX (XOp.load1 isAgg24 rfl (Rd.own [] rfl rfl) (cX (XOp.lenS runUnderlying24 rfl hr.slv (XL.mv (.int .i64 (0)) rfl (XL.nil (X.block (X.loop (α := Nat) (fun k => [(3, ptr b2 0), (27, rv), (28, .int .i64 ((r.length : Int))), (29, .int .i64 ((k : Int)))]) (fun k => cellsH b2 [lv, rv] 117 :: cellsH b1 [arv] 26 :: L) (fun k F' => F = F' ∧ (k ≤ r.length) ∧ (∀ i, i < k → r.getD i 0 < 0 → r.getD i 0 ∈ l)) (fun k => r.length - k) 0 ⟨rfl, rfl, rfl, rfl, trivial⟩ (sC (sC sR)) ⟨rfl, (by omega), (fun i hi => absurd hi (by omega))⟩ ?_)))))))))))))
 rintro k rE _ _ ⟨rfl, hk, hall⟩
 show X _ _ _ _ (envs [(3, ptr b2 0), (27, rv), (28, .int .i64 ((r.length : Int))), (29, .int .i64 ((k : Int)))] rE) _ (cellsH b2 [lv, rv] 117 :: cellsH b1 [arv] 26 :: L)
 refine X.seq (X.region (cX (XOp.lss rfl rfl (XL.nil (X.seq ?_)))))
 refine X.condD (p := (k : Int) < (r.length : Int)) rfl (fun h4 => ?_) (fun h4 => ?_)
 ·refine X.skip (X.seq (X.block (X.seq (X.region (cX (XOp.indexS k runUnderlying24 sizeOf2 rfl rfl rfl hr.slv (by omega) (Nat.mul_one _) (cX (XOp.load1 isAgg2 rfl (hr.rd (by omega)) (XL.as (.int .i64 (r.getD k 0)) rfl (XL.nil (X.seq (X.region (XL.mv (.int .i64 (r.getD k 0)) rfl (cX (XOp.lss rfl rfl (XL.mv (.bool (decide ((r.getD k 0 : Int) < 0))) rfl ?_))))))))))))))))
  by_cases h5 : (r.getD k 0 : Int) < 0
  ·refine XL.yes (t := 35) rfl (vT h5) (XOp.fieldP (0) runUnderlying117 rfl sizeOf24 (by decide) rfl rfl (XL.yes (t := 35) rfl (vT h5) (XOp.load1 isAgg24 rfl (Rd.own [] rfl rfl) (XL.yes (t := 35) rfl (vT h5) (XOp.move (.int .i64 (r.getD k 0)) rfl (XL.yes (t := 35) rfl (vT h5) (XOp.call (args := [lv, .int .i64 (r.getD k 0)]) call170 rfl (Contains_spec (n := r.getD k 0) hl (hbd := (by first | assumption | rfl | omega | simp))) ?_)))))))
   rintro _ _ _ _ ⟨rfl, rfl, rfl⟩
   refine XL.yes (t := 35) rfl (vT h5) (XOp.notD rfl (cX (XOp.pickT (.bool (decide (¬((r.getD k 0) ∈ l)))) (vT h5) rfl (XL.nil ?_))))
   refine X.condD (p := ¬((r.getD k 0) ∈ l)) rfl (fun h6 => ?_) (fun h6 => ?_)
   ·refine X.seq (X.region (XL.as (.bool (false)) rfl (XL.nil (X.ret (blockQ_ret (thenQ_ret (thenQ_ret (blockQ_ret (thenQ_ret (retEnd (L' := L) [.bool (false)] (.bool (false)) (.tmp rfl .nil) rfl rF rF (sD (sD sR)) ?_))))))))))
    exact ⟨(vB (ruleOk_false (fun h => by have := h.vars (r.getD k 0) (mem_of_getD (k := k) (by omega) rfl); simp_all))), rfl, rfl⟩
   refine X.skip (X.region (cX (XOp.addR (((k + 1 : Nat) : Int)) rfl rfl (by omega) (by omega) (XL.mv (.int .i64 (((k + 1 : Nat) : Int))) rfl (XL.nil ?_)))))
   exact ⟨k + 1, _, FLe.refl _, rF, ⟨rfl, rfl, rfl, rfl, trivial⟩, (sC (sC sR)), ⟨rfl, (by omega), (fun i hi h0 => (Nat.lt_or_ge i k).elim (fun h => hall i h h0) (fun h => by obtain rfl : i = k := (by omega); first | assumption | (exfalso; omega) | simp_all))⟩, (by omega)⟩
  refine XL.no (t := 35) rfl (vF h5) (XL.no (t := 35) rfl (vF h5) (XL.no (t := 35) rfl (vF h5) (XL.no (t := 35) rfl (vF h5) (XL.no (t := 35) rfl (vF h5) (cX (XOp.pickF (.bool (false)) (vF h5) rfl (XL.nil (X.condF rfl (X.skip (X.region (cX (XOp.addR (((k + 1 : Nat) : Int)) rfl rfl (by omega) (by omega) ?_))))))))))))
  refine XL.mv (.int .i64 (((k + 1 : Nat) : Int))) rfl (XL.nil ?_)
  exact ⟨k + 1, _, FLe.refl _, rF, ⟨rfl, rfl, rfl, rfl, trivial⟩, (sC (sC sR)), ⟨rfl, (by omega), (fun i hi h0 => (Nat.lt_or_ge i k).elim (fun h => hall i h h0) (fun h => by obtain rfl : i = k := (by omega); first | assumption | (exfalso; omega) | simp_all))⟩, (by omega)⟩
 refine X.exit (thenQ_exit (thenQ_exit (blockQ_exit (X.seq (X.region (XL.as (.bool (true)) rfl (XL.nil (X.ret (retEnd (L' := L) [.bool (true)] (.bool (true)) (.tmp rfl .nil) rfl rF rF (sD (sD sR)) ?_)))))))))
 exact ⟨(vB (ruleOk_iff.2 ⟨hlo, hro, by omega, fun n hn h0 => by obtain ⟨i, hi, rfl⟩ := List.getElem_of_mem hn; have := hall i (by omega); simp [List.getD, hi] at this; exact this h0⟩)), rfl, rfl⟩
end Go.Proofs.YtmaaifhmhclhdaaGreat
set_option linter.unusedSimpArgs false
set_option linter.unusedVariables false
namespace Go.Proofs.YtmaaifhmhclhdaaGreat
open Go X M Tryz

/- impl.SystemOk -/
theorem SystemOk_spec {F : FH} {L : List HP} {arv : Value} {ar : List Int} (har : IntsF F arv ar) {rsv : Value} {rs : List (List Int × List Int)} (hrs : PairsF F rsv rs) :
    Does prog 56 [.agg #[arv, rsv]] F (L) (fun v F' L' => (.bool (sysOk ar rs) : Value) = v ∧ F = F' ∧ L = L') := by
 refine Does.of_X func56 rfl rfl rfl (X.seq (X.region (cX (XOp.box [arv, rsv] rfl rfl ?_))))
 intro b1
 refine XL.as (.bool (false)) rfl (XL.nil (X.seq (X.seq (X.region (cX (XOp.fieldP (0) runUnderlying29 rfl sizeOf26 (by decide) rfl rfl (cX (XOp.loadN [arv] isAgg26 sizeOf26 rfl rfl (Rd.ownN [] rfl rfl) (cX (XOp.call (args := [.agg #[arv]]) call114 rfl (SigOk_spec har) ?_))))))))))
 rintro _ _ _ _ ⟨rfl, rfl, rfl⟩
 refine cX (XOp.notB rfl (XL.mv (.bool (!(sigOk ar))) rfl ?_))
 by_cases h1 : (!(sigOk ar)) = true
 ·refine XL.no (t := 9) rfl (vB h1) (XL.no (t := 9) rfl (vB h1) (XL.no (t := 9) rfl (vB h1) (XL.no (t := 9) rfl (vB h1) (cX (XOp.pickT (.bool (true)) (vB h1) rfl (XL.nil (X.condT rfl (X.seq (X.region (XL.as (.bool (false)) rfl (XL.nil ?_)))))))))))
  refine X.ret (thenQ_ret (retEnd (L' := L) [.bool (false)] (.bool (false)) (.tmp rfl .nil) rfl rF rF (sD sR) ?_))
  exact ⟨(vB (sysOk_false (fun h => by have := h.1; have := h.2.1; simp_all <;> omega))), rfl, rfl⟩
 rw [Bool.not_eq_true] at h1
 refine XL.yes (t := 9) rfl (vB h1) (XOp.fieldP (1) runUnderlying29 rfl sizeOf27 (by decide) rfl rfl (XL.yes (t := 9) rfl (vB h1) (XOp.load1 isAgg27 rfl (Rd.own [] rfl rfl) (XL.yes (t := 9) rfl (vB h1) (XOp.lenS runUnderlying27 rfl hrs.slv (XL.yes (t := 9) rfl (vB h1) (XOp.gtr rfl rfl (cX (XOp.pickF (.bool (decide (((rs.length : Int) : Int) > 12))) (vB h1) rfl (XL.nil ?_))))))))))
 refine X.condD (p := ((rs.length : Int) : Int) > 12) rfl (fun h2 => ?_) (fun h2 => ?_)
 ·refine X.seq (X.region (XL.as (.bool (false)) rfl (XL.nil (X.ret (thenQ_ret (retEnd (L' := L) [.bool (false)] (.bool (false)) (.tmp rfl .nil) rfl rF rF (sD sR) ?_))))))
  exact ⟨(vB (sysOk_false (fun h => by have := h.1; have := h.2.1; simp_all <;> omega))), rfl, rfl⟩
 refine X.skip (X.seq (X.seq (X.region (cX (XOp.fieldP (1) runUnderlying29 rfl sizeOf27 (by decide) rfl rfl (cX (XOp.load1 isAgg27 rfl (Rd.own [] rfl rfl) (cX (XOp.lenS runUnderlying27 rfl hrs.slv (XL.mv (.int .i64 (0)) rfl (XL.nil (X.block (X.loop (α := Nat) (fun k => [(1, ptr b1 0), (16, rsv), (17, .int .i64 ((rs.length : Int))), (18, .int .i64 ((k : Int)))]) (fun k => cellsH b1 [arv, rsv] 29 :: L) (fun k F' => F = F' ∧ (k ≤ rs.length) ∧ (∀ i, i < k → ruleOk ar (rs.getD i ([], [])).1 (rs.getD i ([], [])).2 = true)) (fun k => rs.length - k) 0 ⟨rfl, rfl, rfl, rfl, trivial⟩ (sC sR) ⟨rfl, (by omega), (fun i hi => absurd hi (by omega))⟩ ?_)))))))))))))
 rintro k rE _ _ ⟨rfl, hk, hall⟩
 show X _ _ _ _ (envs [(1, ptr b1 0), (16, rsv), (17, .int .i64 ((rs.length : Int))), (18, .int .i64 ((k : Int)))] rE) _ (cellsH b1 [arv, rsv] 29 :: L)
 refine X.seq (X.region (cX (XOp.lss rfl rfl (XL.nil (X.seq ?_)))))
 refine X.condD (p := (k : Int) < (rs.length : Int)) rfl (fun h3 => ?_) (fun h3 => ?_)
 ·refine X.skip (X.seq (X.block (X.seq (X.region (cX (XOp.indexS k runUnderlying27 sizeOf117 rfl rfl rfl hrs.slv (by omega) rfl ?_))))))
  obtain ⟨a1, a2, ha1, ha2, hr1, hr2⟩ := hrs.rd (i := k) (by omega)
  refine cX (XOp.loadN [a1, a2] isAgg117 sizeOf117 rfl rfl (Rd.two (hr1 _) (hr2 _)) (cX (XOp.alloc [(.slice none 0 0), (.slice none 0 0)] zeroValue117 rfl ?_)))
  intro b2
  refine cX (XOp.storeN [] _ [a1, a2] sizeOf117 rfl rfl rfl (ones_cons (one_sl (IntsF.isSl ha1)) (ones_cons (one_sl (IntsF.isSl ha2)) ones_nil)) rfl rfl rfl (XL.nil (X.seq (X.region (cX (XOp.fieldP (0) runUnderlying29 rfl sizeOf26 (by decide) rfl rfl (cX (XOp.loadN [arv] isAgg26 sizeOf26 rfl rfl (Rd.ownN [_] rfl rfl) (cX (XOp.loadN [a1, a2] isAgg117 sizeOf117 rfl rfl (Rd.ownN [] rfl rfl) (cX (XOp.call (args := [.agg #[arv], .agg #[a1, a2]]) call115 rfl (RuleOk_spec har ha1 ha2) ?_))))))))))))
  rintro _ _ _ _ ⟨rfl, rfl, rfl⟩
  refine cX (XOp.notB rfl (XL.nil ?_))
  refine X.cond (t := !(ruleOk ar ((rs.getD k ([], [])).1) ((rs.getD k ([], [])).2))) rfl (fun h4 => ?_) (fun h4 => ?_)
  ·refine X.seq (X.region (XL.as (.bool (false)) rfl (XL.nil (X.ret (blockQ_ret (thenQ_ret (thenQ_ret (blockQ_ret (thenQ_ret (retEnd (L' := L) [.bool (false)] (.bool (false)) (.tmp rfl .nil) rfl rF rF (sD (sD sR)) ?_))))))))))
   exact ⟨(vB (sysOk_false (fun h => by have := h.2.2 k (by omega); simp_all))), rfl, rfl⟩
  refine X.skip (X.region (cX (XOp.addR (((k + 1 : Nat) : Int)) rfl rfl (by omega) (by omega) (XL.mv (.int .i64 (((k + 1 : Nat) : Int))) rfl (XL.nil ?_)))))
  exact ⟨k + 1, _, FLe.refl _, rF, ⟨rfl, rfl, rfl, rfl, trivial⟩, (sD (sC sR)), ⟨rfl, (by omega), (fun i hi => (Nat.lt_or_ge i k).elim (fun h => hall i h) (fun h => by obtain rfl : i = k := (by omega); first | assumption | simp_all))⟩, (by omega)⟩
 refine X.exit (thenQ_exit (thenQ_exit (blockQ_exit (X.seq (X.region (XL.as (.bool (true)) rfl (XL.nil (X.ret (retEnd (L' := L) [.bool (true)] (.bool (true)) (.tmp rfl .nil) rfl rF rF (sD sR) ?_)))))))))
 exact ⟨(vB (sysOk_iff.2 ⟨by first | assumption | simp_all, by omega, fun i hi => hall i (by omega)⟩)), rfl, rfl⟩

/- spec.RuleOk -/
theorem sRuleOk_spec {F : FH} {L : List HP} {arv : Value} {ar : List Int} (har : IntsF F arv ar) {lv : Value} {l : List Int} (hl : IntsF F lv l) {rv : Value} {r : List Int} (hr : IntsF F rv r) (hla : ar.length ≤ 4000000) (hlb : l.length ≤ 4000000) (hlc : r.length ≤ 4000000) :
    Does prog 152 [.agg #[arv], .agg #[lv, rv]] F (L) (fun v F' L' => (.bool (ruleOk ar l r) : Value) = v ∧ F = F' ∧ L = L') := by
 refine Does.of_X func152 rfl rfl rfl (X.seq (X.region (cX (XOp.box [arv] rfl rfl ?_))))
 intro b1
 refine cX (XOp.box [lv, rv] rfl rfl ?_)
 intro b2
 refine XL.as (.bool (false)) rfl (XL.nil (X.seq (X.seq (X.region (cX (XOp.loadN [arv] isAgg26 sizeOf26 rfl rfl (Rd.ownN [_] rfl rfl) (cX (XOp.fieldP (0) runUnderlying117 rfl sizeOf24 (by decide) rfl rfl (cX (XOp.load1 isAgg24 rfl (Rd.own [] rfl rfl) (cX (XOp.call (args := [.agg #[arv], lv]) call82 rfl (sTermOk_spec har hl (hla := (by first | assumption | rfl | omega | simp)) (hlt := (by first | assumption | rfl | omega | simp))) ?_))))))))))))
 rintro _ _ _ _ ⟨rfl, rfl, rfl⟩
 refine cX (XOp.notB rfl (XL.mv (.bool (!(termOk ar l))) rfl ?_))
 by_cases h1 : (!(termOk ar l)) = true
 ·refine XL.no (t := 11) rfl (vB h1) (XL.no (t := 11) rfl (vB h1) (XL.no (t := 11) rfl (vB h1) (XL.no (t := 11) rfl (vB h1) (XL.no (t := 11) rfl (vB h1) (cX (XOp.pickT (.bool (true)) (vB h1) rfl (XL.mv (.bool (true)) rfl (XL.no (t := 18) rfl rfl (XL.no (t := 18) rfl rfl (XL.no (t := 18) rfl rfl ?_))))))))))
  refine XL.no (t := 18) rfl rfl (XL.no (t := 18) rfl rfl (cX (XOp.pickT (.bool (true)) rfl rfl (XL.nil (X.condT rfl (X.seq (X.region (XL.as (.bool (false)) rfl (XL.nil (X.ret (thenQ_ret (retEnd (L' := L) [.bool (false)] (.bool (false)) (.tmp rfl .nil) rfl rF rF (sD (sD sR)) ?_))))))))))))
  exact ⟨(vB (ruleOk_false (fun h => by have := h.left; have := h.right; have := h.head; simp_all <;> omega))), rfl, rfl⟩
 rw [Bool.not_eq_true] at h1
 have hlo : termOk ar l = true := by simpa using h1
 have hl60 := termOk_len hlo
 refine XL.yes (t := 11) rfl (vB h1) (XOp.loadN [arv] isAgg26 sizeOf26 rfl rfl (Rd.ownN [_] rfl rfl) (XL.yes (t := 11) rfl (vB h1) (XOp.fieldP (1) runUnderlying117 rfl sizeOf24 (by decide) rfl rfl (XL.yes (t := 11) rfl (vB h1) (XOp.load1 isAgg24 rfl (Rd.own [] rfl rfl) (XL.yes (t := 11) rfl (vB h1) (XOp.call (args := [.agg #[arv], rv]) call82 rfl (sTermOk_spec har hr (hla := (by first | assumption | rfl | omega | simp)) (hlt := (by first | assumption | rfl | omega | simp))) ?_)))))))
 rintro _ _ _ _ ⟨rfl, rfl, rfl⟩
 refine XL.yes (t := 11) rfl (vB h1) (XOp.notB rfl (cX (XOp.pickF (.bool (!(termOk ar r))) (vB h1) rfl (XL.mv (.bool (!(termOk ar r))) rfl ?_))))
 by_cases h2 : (!(termOk ar r)) = true
 ·refine XL.no (t := 18) rfl (vB h2) (XL.no (t := 18) rfl (vB h2) (XL.no (t := 18) rfl (vB h2) (XL.no (t := 18) rfl (vB h2) (XL.no (t := 18) rfl (vB h2) (cX (XOp.pickT (.bool (true)) (vB h2) rfl (XL.nil (X.condT rfl (X.seq (X.region (XL.as (.bool (false)) rfl ?_)))))))))))
  refine XL.nil (X.ret (thenQ_ret (retEnd (L' := L) [.bool (false)] (.bool (false)) (.tmp rfl .nil) rfl rF rF (sD (sD sR)) ?_)))
  exact ⟨(vB (ruleOk_false (fun h => by have := h.left; have := h.right; have := h.head; simp_all <;> omega))), rfl, rfl⟩
 rw [Bool.not_eq_true] at h2
 have hro : termOk ar r = true := by simpa using h2
 have hr60 := termOk_len hro
 refine XL.yes (t := 18) rfl (vB h2) (XOp.fieldP (0) runUnderlying117 rfl sizeOf24 (by decide) rfl rfl (XL.yes (t := 18) rfl (vB h2) (XOp.load1 isAgg24 rfl (Rd.own [] rfl rfl) (XL.yes (t := 18) rfl (vB h2) (XOp.indexS 0 runUnderlying24 sizeOf2 rfl rfl rfl hl.slv (by omega) (Nat.mul_one _) (XL.yes (t := 18) rfl (vB h2) (XOp.load1 isAgg2 rfl (hl.rd (by omega)) (XL.yes (t := 18) rfl (vB h2) (XOp.lss rfl rfl (cX (XOp.pickF (.bool (decide ((l.getD 0 0 : Int) < 0))) (vB h2) rfl (XL.nil ?_))))))))))))
 refine X.condD (p := (l.getD 0 0 : Int) < 0) rfl (fun h3 => ?_) (fun h3 => ?_)
 ·refine X.seq (X.region (XL.as (.bool (false)) rfl (XL.nil (X.ret (thenQ_ret (retEnd (L' := L) [.bool (false)] (.bool (false)) (.tmp rfl .nil) rfl rF rF (sD (sD sR)) ?_))))))
  exact ⟨(vB (ruleOk_false (fun h => by have := h.left; have := h.right; have := h.head; simp_all <;> omega))), rfl, rfl⟩
 refine X.skip (X.seq (X.seq (X.region (XL.as (.int .i64 (0)) rfl (XL.nil (X.block (X.loop (α := Nat) (fun k => [(3, ptr b2 0), (5, .int .i64 ((k : Int)))]) (fun k => cellsH b2 [lv, rv] 117 :: cellsH b1 [arv] 26 :: L) (fun k F' => F = F' ∧ (k ≤ r.length) ∧ (∀ i, i < k → r.getD i 0 < 0 → r.getD i 0 ∈ l)) (fun k => r.length - k) 0 ⟨rfl, rfl, trivial⟩ (sC (sC sR)) ⟨rfl, (by omega), (fun i hi => absurd hi (by omega))⟩ ?_)))))))
 rintro k rE _ _ ⟨rfl, hk, hall⟩
 show X _ _ _ _ (envs [(3, ptr b2 0), (5, .int .i64 ((k : Int)))] rE) _ (cellsH b2 [lv, rv] 117 :: cellsH b1 [arv] 26 :: L)
 refine X.seq (X.seq (X.region (XL.mv (.int .i64 ((k : Int))) rfl (cX (XOp.fieldP (1) runUnderlying117 rfl sizeOf24 (by decide) rfl rfl (cX (XOp.load1 isAgg24 rfl (Rd.own [] rfl rfl) (cX (XOp.lenS runUnderlying24 rfl hr.slv (cX (XOp.lss rfl rfl (XL.nil ?_))))))))))))
 refine X.condD (p := (k : Int) < (r.length : Int)) rfl (fun h4 => ?_) (fun h4 => ?_)
 ·refine X.skip (X.seq (X.block (X.seq ?_)))
  by_cases h5 : (r.getD k 0 : Int) < 0
  ·refine X.draw [cellsH b2 [lv, rv] 117, cellsH b1 [arv] 26] L 14 [[], [], [], [], [], [], [], [], [], [], [], [], [], []] [[], [0], [], [1, 2], [3], [4], [5], [6], [6, 7], [6], [6, 9], [6], [6, 10, 11], [6, 12]] (phiL [fun us v => v = ptr b2 1, fun us v => v = rv, fun us v => v = (.int .i64 ((k : Int)) : Value), fun us v => v = (.pointer (some (elemA rv (k))) : Value), fun us v => v = (.int .i64 (r.getD k 0) : Value), fun us v => v = (.bool (decide ((r.getD k 0 : Int) < 0)) : Value), fun us v => v = (.bool (decide ((r.getD k 0 : Int) < 0)) : Value), fun us v => v = ptr b2 0, fun us v => v = lv, fun us v => v = ptr b2 1, fun us v => v = rv, fun us v => v = (.int .i64 ((k : Int)) : Value), fun us v => v = (.pointer (some (elemA rv (k))) : Value), fun us v => v = (.int .i64 (r.getD k 0) : Value)]) (ownL [fun us v => [], fun us v => [], fun us v => [], fun us v => [], fun us v => [], fun us v => [], fun us v => [], fun us v => [], fun us v => [], fun us v => [], fun us v => [], fun us v => [], fun us v => [], fun us v => []]) mixed rfl rfl (by kernel_rfl) ?_ ?_
   ·refine pC (fun vals R hpZ => ?_) ?_
    ·refine XG.op (XOp.fieldP (1) runUnderlying117 rfl sizeOf24 (by decide) rfl rfl ?_)
     exact ⟨rfl, rfl, rfl⟩
    refine pC (fun vals R hpZ => ?_) ?_
    ·rw [eS (l := [(0, ptr b2 1)]) ⟨hpZ 0 (by decide), trivial⟩]
     refine XG.op (XOp.load1 isAgg24 rfl (Rd.own [] rfl rfl) ?_)
     exact ⟨rfl, rfl, rfl⟩
    refine pC (fun vals R hpZ => ?_) ?_
    ·refine XG.op (XOp.move (.int .i64 ((k : Int))) rfl ?_)
     exact ⟨rfl, rfl, rfl⟩
    refine pC (fun vals R hpZ => ?_) ?_
    ·rw [eS (l := [(1, rv), (2, (.int .i64 ((k : Int)) : Value))]) ⟨hpZ 1 (by decide), hpZ 2 (by decide), trivial⟩]
     refine XG.op (XOp.indexS k runUnderlying24 sizeOf2 rfl rfl rfl hr.slv (by omega) (Nat.mul_one _) ?_)
     exact ⟨rfl, rfl, rfl⟩
    refine pC (fun vals R hpZ => ?_) ?_
    ·rw [eS (l := [(3, (.pointer (some (elemA rv (k))) : Value))]) ⟨hpZ 3 (by decide), trivial⟩]
     refine XG.op (XOp.load1 isAgg2 rfl (hr.rd (by omega)) ?_)
     exact ⟨rfl, rfl, rfl⟩
    refine pC (fun vals R hpZ => ?_) ?_
    ·rw [eS (l := [(4, (.int .i64 (r.getD k 0) : Value))]) ⟨hpZ 4 (by decide), trivial⟩]
     refine XG.op (XOp.lss rfl rfl ?_)
     exact ⟨rfl, rfl, rfl⟩
    refine pC (fun vals R hpZ => ?_) ?_
    ·rw [eS (l := [(5, (.bool (decide ((r.getD k 0 : Int) < 0)) : Value))]) ⟨hpZ 5 (by decide), trivial⟩]
     refine XG.op (XOp.move (.bool (decide ((r.getD k 0 : Int) < 0))) rfl ?_)
     exact ⟨rfl, rfl, rfl⟩
    refine pC (fun vals R hpZ => ?_) ?_
    ·rw [eS (l := [(6, (.bool (decide ((r.getD k 0 : Int) < 0)) : Value))]) ⟨hpZ 6 (by decide), trivial⟩]
     refine XG.yes (t := 38) rfl (vT h5) (XOp.fieldP (0) runUnderlying117 rfl sizeOf24 (by decide) rfl rfl ?_)
     exact ⟨rfl, rfl, rfl⟩
    refine pC (fun vals R hpZ => ?_) ?_
    ·rw [eS (l := [(6, (.bool (decide ((r.getD k 0 : Int) < 0)) : Value)), (7, ptr b2 0)]) ⟨hpZ 6 (by decide), hpZ 7 (by decide), trivial⟩]
     refine XG.yes (t := 38) rfl (vT h5) (XOp.load1 isAgg24 rfl (Rd.own [] rfl rfl) ?_)
     exact ⟨rfl, rfl, rfl⟩
    refine pC (fun vals R hpZ => ?_) ?_
    ·rw [eS (l := [(6, (.bool (decide ((r.getD k 0 : Int) < 0)) : Value))]) ⟨hpZ 6 (by decide), trivial⟩]
     refine XG.yes (t := 38) rfl (vT h5) (XOp.fieldP (1) runUnderlying117 rfl sizeOf24 (by decide) rfl rfl ?_)
     exact ⟨rfl, rfl, rfl⟩
    refine pC (fun vals R hpZ => ?_) ?_
    ·rw [eS (l := [(6, (.bool (decide ((r.getD k 0 : Int) < 0)) : Value)), (9, ptr b2 1)]) ⟨hpZ 6 (by decide), hpZ 9 (by decide), trivial⟩]
     refine XG.yes (t := 38) rfl (vT h5) (XOp.load1 isAgg24 rfl (Rd.own [] rfl rfl) ?_)
     exact ⟨rfl, rfl, rfl⟩
    refine pC (fun vals R hpZ => ?_) ?_
    ·rw [eS (l := [(6, (.bool (decide ((r.getD k 0 : Int) < 0)) : Value))]) ⟨hpZ 6 (by decide), trivial⟩]
     refine XG.yes (t := 38) rfl (vT h5) (XOp.move (.int .i64 ((k : Int))) rfl ?_)
     exact ⟨rfl, rfl, rfl⟩
    refine pC (fun vals R hpZ => ?_) ?_
    ·rw [eS (l := [(6, (.bool (decide ((r.getD k 0 : Int) < 0)) : Value)), (10, rv), (11, (.int .i64 ((k : Int)) : Value))]) ⟨hpZ 6 (by decide), hpZ 10 (by decide), hpZ 11 (by decide), trivial⟩]
     refine XG.yes (t := 38) rfl (vT h5) (XOp.indexS k runUnderlying24 sizeOf2 rfl rfl rfl hr.slv (by omega) (Nat.mul_one _) ?_)
     exact ⟨rfl, rfl, rfl⟩
    refine pC (fun vals R hpZ => ?_) ?_
    ·rw [eS (l := [(6, (.bool (decide ((r.getD k 0 : Int) < 0)) : Value)), (12, (.pointer (some (elemA rv (k))) : Value))]) ⟨hpZ 6 (by decide), hpZ 12 (by decide), trivial⟩]
     refine XG.yes (t := 38) rfl (vT h5) (XOp.load1 isAgg2 rfl (hr.rd (by omega)) ?_)
     exact ⟨rfl, rfl, rfl⟩
    exact stepsP.nil
   intro vals hphi
   rw [eS (l := [(6, (.bool (decide ((r.getD k 0 : Int) < 0)) : Value)), (8, lv), (13, (.int .i64 (r.getD k 0) : Value))]) ⟨(hphi 6 (by decide)), (hphi 8 (by decide)), (hphi 13 (by decide)), trivial⟩]
   show XL _ _ _ _ _ _ _ (cellsH b2 [lv, rv] 117 :: cellsH b1 [arv] 26 :: L)
   refine XL.yes (t := 38) rfl (vT h5) (XOp.call (args := [lv, .int .i64 (r.getD k 0)]) call193 rfl (l1Has_spec (n := r.getD k 0) hl (hbd := (by first | assumption | rfl | omega | simp))) ?_)
   rintro _ _ _ _ ⟨rfl, rfl, rfl⟩
   refine XL.yes (t := 38) rfl (vT h5) (XOp.notD rfl (cX (XOp.pickT (.bool (decide (¬((r.getD k 0) ∈ l)))) (vT h5) rfl (XL.nil ?_))))
   refine X.condD (p := ¬((r.getD k 0) ∈ l)) rfl (fun h6 => ?_) (fun h6 => ?_)
   ·refine X.seq (X.region (XL.as (.bool (false)) rfl (XL.nil (X.ret (blockQ_ret (thenQ_ret (thenQ_ret (blockQ_ret (thenQ_ret (retEnd (L' := L) [.bool (false)] (.bool (false)) (.tmp rfl .nil) rfl rF rF (sD (sD sR)) ?_))))))))))
    exact ⟨(vB (ruleOk_false (fun h => by have := h.vars (r.getD k 0) (mem_of_getD (k := k) (by omega) rfl); simp_all))), rfl, rfl⟩
   refine X.skip (X.region (XL.mv (.int .i64 ((k : Int))) rfl (cX (XOp.addR (((k + 1 : Nat) : Int)) rfl rfl (by omega) (by omega) (XL.as (.int .i64 (((k + 1 : Nat) : Int))) rfl (XL.nil ?_))))))
   exact ⟨k + 1, _, FLe.refl _, rF, ⟨rfl, rfl, trivial⟩, (sC (sC sR)), ⟨rfl, (by omega), (fun i hi h0 => (Nat.lt_or_ge i k).elim (fun h => hall i h h0) (fun h => by obtain rfl : i = k := (by omega); first | assumption | (exfalso; omega) | simp_all))⟩, (by omega)⟩
  refine X.draw [cellsH b2 [lv, rv] 117, cellsH b1 [arv] 26] L 14 [[], [], [], [], [], [], [], [], [], [], [], [], [], []] [[], [0], [], [1, 2], [3], [4], [5], [6], [6, 7], [6], [6, 9], [6], [6, 10, 11], [6, 12]] (phiL [fun us v => v = ptr b2 1, fun us v => v = rv, fun us v => v = (.int .i64 ((k : Int)) : Value), fun us v => v = (.pointer (some (elemA rv (k))) : Value), fun us v => v = (.int .i64 (r.getD k 0) : Value), fun us v => v = (.bool (decide ((r.getD k 0 : Int) < 0)) : Value), fun us v => v = (.bool (decide ((r.getD k 0 : Int) < 0)) : Value), fun us v => v = undef, fun us v => v = undef, fun us v => v = undef, fun us v => v = undef, fun us v => v = undef, fun us v => v = undef, fun us v => v = undef]) (ownL [fun us v => [], fun us v => [], fun us v => [], fun us v => [], fun us v => [], fun us v => [], fun us v => [], fun us v => [], fun us v => [], fun us v => [], fun us v => [], fun us v => [], fun us v => [], fun us v => []]) mixed rfl rfl (by kernel_rfl) ?_ ?_
  ·refine pC (fun vals R hpZ => ?_) ?_
   ·refine XG.op (XOp.fieldP (1) runUnderlying117 rfl sizeOf24 (by decide) rfl rfl ?_)
    exact ⟨rfl, rfl, rfl⟩
   refine pC (fun vals R hpZ => ?_) ?_
   ·rw [eS (l := [(0, ptr b2 1)]) ⟨hpZ 0 (by decide), trivial⟩]
    refine XG.op (XOp.load1 isAgg24 rfl (Rd.own [] rfl rfl) ?_)
    exact ⟨rfl, rfl, rfl⟩
   refine pC (fun vals R hpZ => ?_) ?_
   ·refine XG.op (XOp.move (.int .i64 ((k : Int))) rfl ?_)
    exact ⟨rfl, rfl, rfl⟩
   refine pC (fun vals R hpZ => ?_) ?_
   ·rw [eS (l := [(1, rv), (2, (.int .i64 ((k : Int)) : Value))]) ⟨hpZ 1 (by decide), hpZ 2 (by decide), trivial⟩]
    refine XG.op (XOp.indexS k runUnderlying24 sizeOf2 rfl rfl rfl hr.slv (by omega) (Nat.mul_one _) ?_)
    exact ⟨rfl, rfl, rfl⟩
   refine pC (fun vals R hpZ => ?_) ?_
   ·rw [eS (l := [(3, (.pointer (some (elemA rv (k))) : Value))]) ⟨hpZ 3 (by decide), trivial⟩]
    refine XG.op (XOp.load1 isAgg2 rfl (hr.rd (by omega)) ?_)
    exact ⟨rfl, rfl, rfl⟩
   refine pC (fun vals R hpZ => ?_) ?_
   ·rw [eS (l := [(4, (.int .i64 (r.getD k 0) : Value))]) ⟨hpZ 4 (by decide), trivial⟩]
    refine XG.op (XOp.lss rfl rfl ?_)
    exact ⟨rfl, rfl, rfl⟩
   refine pC (fun vals R hpZ => ?_) ?_
   ·rw [eS (l := [(5, (.bool (decide ((r.getD k 0 : Int) < 0)) : Value))]) ⟨hpZ 5 (by decide), trivial⟩]
    refine XG.op (XOp.move (.bool (decide ((r.getD k 0 : Int) < 0))) rfl ?_)
    exact ⟨rfl, rfl, rfl⟩
   refine pC (fun vals R hpZ => ?_) ?_
   ·rw [eS (l := [(6, (.bool (decide ((r.getD k 0 : Int) < 0)) : Value))]) ⟨hpZ 6 (by decide), trivial⟩]
    exact XG.no (t := 38) rfl (vF h5) ⟨rfl, rfl, rfl⟩
   refine pC (fun vals R hpZ => ?_) ?_
   ·rw [eS (l := [(6, (.bool (decide ((r.getD k 0 : Int) < 0)) : Value)), (7, undef)]) ⟨hpZ 6 (by decide), hpZ 7 (by decide), trivial⟩]
    exact XG.no (t := 38) rfl (vF h5) ⟨rfl, rfl, rfl⟩
   refine pC (fun vals R hpZ => ?_) ?_
   ·rw [eS (l := [(6, (.bool (decide ((r.getD k 0 : Int) < 0)) : Value))]) ⟨hpZ 6 (by decide), trivial⟩]
    exact XG.no (t := 38) rfl (vF h5) ⟨rfl, rfl, rfl⟩
   refine pC (fun vals R hpZ => ?_) ?_
   ·rw [eS (l := [(6, (.bool (decide ((r.getD k 0 : Int) < 0)) : Value)), (9, undef)]) ⟨hpZ 6 (by decide), hpZ 9 (by decide), trivial⟩]
    exact XG.no (t := 38) rfl (vF h5) ⟨rfl, rfl, rfl⟩
   refine pC (fun vals R hpZ => ?_) ?_
   ·rw [eS (l := [(6, (.bool (decide ((r.getD k 0 : Int) < 0)) : Value))]) ⟨hpZ 6 (by decide), trivial⟩]
    exact XG.no (t := 38) rfl (vF h5) ⟨rfl, rfl, rfl⟩
   refine pC (fun vals R hpZ => ?_) ?_
   ·rw [eS (l := [(6, (.bool (decide ((r.getD k 0 : Int) < 0)) : Value)), (10, undef), (11, undef)]) ⟨hpZ 6 (by decide), hpZ 10 (by decide), hpZ 11 (by decide), trivial⟩]
    exact XG.no (t := 38) rfl (vF h5) ⟨rfl, rfl, rfl⟩
   refine pC (fun vals R hpZ => ?_) ?_
   ·rw [eS (l := [(6, (.bool (decide ((r.getD k 0 : Int) < 0)) : Value)), (12, undef)]) ⟨hpZ 6 (by decide), hpZ 12 (by decide), trivial⟩]
    exact XG.no (t := 38) rfl (vF h5) ⟨rfl, rfl, rfl⟩
   exact stepsP.nil
  intro vals hphi
  rw [eS (l := [(6, (.bool (decide ((r.getD k 0 : Int) < 0)) : Value)), (8, undef), (13, undef)]) ⟨(hphi 6 (by decide)), (hphi 8 (by decide)), (hphi 13 (by decide)), trivial⟩]
  show XL _ _ _ _ _ _ _ (cellsH b2 [lv, rv] 117 :: cellsH b1 [arv] 26 :: L)
  refine XL.no (t := 38) rfl (vF h5) (XL.no (t := 38) rfl (vF h5) (cX (XOp.pickF (.bool (false)) (vF h5) rfl (XL.nil (X.condF rfl (X.skip (X.region (XL.mv (.int .i64 ((k : Int))) rfl (cX (XOp.addR (((k + 1 : Nat) : Int)) rfl rfl (by omega) (by omega) (XL.as (.int .i64 (((k + 1 : Nat) : Int))) rfl (XL.nil ?_))))))))))))
  exact ⟨k + 1, _, FLe.refl _, rF, ⟨rfl, rfl, trivial⟩, (sC (sC sR)), ⟨rfl, (by omega), (fun i hi h0 => (Nat.lt_or_ge i k).elim (fun h => hall i h h0) (fun h => by obtain rfl : i = k := (by omega); first | assumption | (exfalso; omega) | simp_all))⟩, (by omega)⟩
 refine X.exit (thenQ_exit (thenQ_exit (blockQ_exit (X.seq (X.region (XL.as (.bool (true)) rfl (XL.nil (X.ret (retEnd (L' := L) [.bool (true)] (.bool (true)) (.tmp rfl .nil) rfl rF rF (sD (sD sR)) ?_)))))))))
 exact ⟨(vB (ruleOk_iff.2 ⟨hlo, hro, by omega, fun n hn h0 => by obtain ⟨i, hi, rfl⟩ := List.getElem_of_mem hn; have := hall i (by omega); simp [List.getD, hi] at this; exact this h0⟩)), rfl, rfl⟩

/- spec.SystemOk -/
theorem sSystemOk_spec {F : FH} {L : List HP} {arv : Value} {ar : List Int} (har : IntsF F arv ar) {rsv : Value} {rs : List (List Int × List Int)} (hrs : PairsF F rsv rs) (hla : ar.length ≤ 4000000) (hlr : rs.length ≤ 4000000) (hrb : ∀ i, i < rs.length → (rs.getD i ([], [])).1.length ≤ 4000000 ∧ (rs.getD i ([], [])).2.length ≤ 4000000) :
    Does prog 92 [.agg #[arv, rsv]] F (L) (fun v F' L' => (.bool (sysOk ar rs) : Value) = v ∧ F = F' ∧ L = L') := by
 refine Does.of_X func92 rfl rfl rfl (X.seq (X.region (cX (XOp.box [arv, rsv] rfl rfl ?_))))
 intro b1
 refine XL.as (.bool (false)) rfl (XL.nil (X.seq (X.seq (X.region (cX (XOp.fieldP (0) runUnderlying29 rfl sizeOf26 (by decide) rfl rfl (cX (XOp.loadN [arv] isAgg26 sizeOf26 rfl rfl (Rd.ownN [] rfl rfl) (cX (XOp.call (args := [.agg #[arv]]) call141 rfl (sSigOk_spec har (hla := (by first | assumption | rfl | omega | simp))) ?_))))))))))
 rintro _ _ _ _ ⟨rfl, rfl, rfl⟩
 refine cX (XOp.notB rfl (XL.mv (.bool (!(sigOk ar))) rfl ?_))
 by_cases h1 : (!(sigOk ar)) = true
 ·refine XL.no (t := 8) rfl (vB h1) (XL.no (t := 8) rfl (vB h1) (XL.no (t := 8) rfl (vB h1) (XL.no (t := 8) rfl (vB h1) (cX (XOp.pickT (.bool (true)) (vB h1) rfl (XL.nil (X.condT rfl (X.seq (X.region (XL.as (.bool (false)) rfl (XL.nil ?_)))))))))))
  refine X.ret (thenQ_ret (retEnd (L' := L) [.bool (false)] (.bool (false)) (.tmp rfl .nil) rfl rF rF (sD sR) ?_))
  exact ⟨(vB (sysOk_false (fun h => by have := h.1; have := h.2.1; simp_all <;> omega))), rfl, rfl⟩
 rw [Bool.not_eq_true] at h1
 refine XL.yes (t := 8) rfl (vB h1) (XOp.fieldP (1) runUnderlying29 rfl sizeOf27 (by decide) rfl rfl (XL.yes (t := 8) rfl (vB h1) (XOp.load1 isAgg27 rfl (Rd.own [] rfl rfl) (XL.yes (t := 8) rfl (vB h1) (XOp.lenS runUnderlying27 rfl hrs.slv (XL.yes (t := 8) rfl (vB h1) (XOp.gtr rfl rfl (cX (XOp.pickF (.bool (decide (((rs.length : Int) : Int) > 12))) (vB h1) rfl (XL.nil ?_))))))))))
 refine X.condD (p := ((rs.length : Int) : Int) > 12) rfl (fun h2 => ?_) (fun h2 => ?_)
 ·refine X.seq (X.region (XL.as (.bool (false)) rfl (XL.nil (X.ret (thenQ_ret (retEnd (L' := L) [.bool (false)] (.bool (false)) (.tmp rfl .nil) rfl rF rF (sD sR) ?_))))))
  exact ⟨(vB (sysOk_false (fun h => by have := h.1; have := h.2.1; simp_all <;> omega))), rfl, rfl⟩
 refine X.skip (X.seq (X.seq (X.region (XL.as (.int .i64 (0)) rfl (XL.nil (X.block (X.loop (α := Nat) (fun k => [(1, ptr b1 0), (3, .int .i64 ((k : Int)))]) (fun k => cellsH b1 [arv, rsv] 29 :: L) (fun k F' => F = F' ∧ (k ≤ rs.length) ∧ (∀ i, i < k → ruleOk ar (rs.getD i ([], [])).1 (rs.getD i ([], [])).2 = true)) (fun k => rs.length - k) 0 ⟨rfl, rfl, trivial⟩ (sC sR) ⟨rfl, (by omega), (fun i hi => absurd hi (by omega))⟩ ?_)))))))
 rintro k rE _ _ ⟨rfl, hk, hall⟩
 show X _ _ _ _ (envs [(1, ptr b1 0), (3, .int .i64 ((k : Int)))] rE) _ (cellsH b1 [arv, rsv] 29 :: L)
 refine X.seq (X.seq (X.region (XL.mv (.int .i64 ((k : Int))) rfl (cX (XOp.fieldP (1) runUnderlying29 rfl sizeOf27 (by decide) rfl rfl (cX (XOp.load1 isAgg27 rfl (Rd.own [] rfl rfl) (cX (XOp.lenS runUnderlying27 rfl hrs.slv (cX (XOp.lss rfl rfl (XL.nil ?_))))))))))))
 refine X.condD (p := (k : Int) < (rs.length : Int)) rfl (fun h3 => ?_) (fun h3 => ?_)
 ·refine X.skip (X.seq (X.block (X.seq ?_)))
  obtain ⟨a1, a2, ha1, ha2, hr1, hr2⟩ := hrs.rd (i := k) (by omega)
  refine X.draw [cellsH b1 [arv, rsv] 29] L 7 [[], [], [], [], [], [], []] [[], [0], [], [2], [], [3, 4], [5]] (phiL [fun us v => v = ptr b1 0, fun us v => v = (.agg #[arv] : Value), fun us v => v = ptr b1 1, fun us v => v = rsv, fun us v => v = (.int .i64 ((k : Int)) : Value), fun us v => v = (.pointer (some (elemA rsv (k * 2))) : Value), fun us v => v = (.agg #[a1, a2] : Value)]) (ownL [fun us v => [], fun us v => [], fun us v => [], fun us v => [], fun us v => [], fun us v => [], fun us v => []]) mixed rfl rfl (by kernel_rfl) ?_ ?_
  ·refine pC (fun vals R hpZ => ?_) ?_
   ·refine XG.op (XOp.fieldP (0) runUnderlying29 rfl sizeOf26 (by decide) rfl rfl ?_)
    exact ⟨rfl, rfl, rfl⟩
   refine pC (fun vals R hpZ => ?_) ?_
   ·rw [eS (l := [(0, ptr b1 0)]) ⟨hpZ 0 (by decide), trivial⟩]
    refine XG.op (XOp.loadN [arv] isAgg26 sizeOf26 rfl rfl (Rd.ownN [] rfl rfl) ?_)
    exact ⟨rfl, rfl, rfl⟩
   refine pC (fun vals R hpZ => ?_) ?_
   ·refine XG.op (XOp.fieldP (1) runUnderlying29 rfl sizeOf27 (by decide) rfl rfl ?_)
    exact ⟨rfl, rfl, rfl⟩
   refine pC (fun vals R hpZ => ?_) ?_
   ·rw [eS (l := [(2, ptr b1 1)]) ⟨hpZ 2 (by decide), trivial⟩]
    refine XG.op (XOp.load1 isAgg27 rfl (Rd.own [] rfl rfl) ?_)
    exact ⟨rfl, rfl, rfl⟩
   refine pC (fun vals R hpZ => ?_) ?_
   ·refine XG.op (XOp.move (.int .i64 ((k : Int))) rfl ?_)
    exact ⟨rfl, rfl, rfl⟩
   refine pC (fun vals R hpZ => ?_) ?_
   ·rw [eS (l := [(3, rsv), (4, (.int .i64 ((k : Int)) : Value))]) ⟨hpZ 3 (by decide), hpZ 4 (by decide), trivial⟩]
    refine XG.op (XOp.indexS k runUnderlying27 sizeOf117 rfl rfl rfl hrs.slv (by omega) rfl ?_)
    exact ⟨rfl, rfl, rfl⟩
   refine pC (fun vals R hpZ => ?_) ?_
   ·rw [eS (l := [(5, (.pointer (some (elemA rsv (k * 2))) : Value))]) ⟨hpZ 5 (by decide), trivial⟩]
    refine XG.op (XOp.loadN [a1, a2] isAgg117 sizeOf117 rfl rfl (Rd.two (hr1 _) (hr2 _)) ?_)
    exact ⟨rfl, rfl, rfl⟩
   exact stepsP.nil
  intro vals hphi
  rw [eS (l := [(1, (.agg #[arv] : Value)), (6, (.agg #[a1, a2] : Value))]) ⟨(hphi 1 (by decide)), (hphi 6 (by decide)), trivial⟩]
  show XL _ _ _ _ _ _ _ (cellsH b1 [arv, rsv] 29 :: L)
  refine cX (XOp.call (args := [.agg #[arv], .agg #[a1, a2]]) call152 rfl (sRuleOk_spec har ha1 ha2 (hla := (by first | assumption | rfl | omega | simp)) (hlb := ((hrb k (by omega)).1)) (hlc := ((hrb k (by omega)).2))) ?_)
  rintro _ _ _ _ ⟨rfl, rfl, rfl⟩
  refine cX (XOp.notB rfl (XL.nil ?_))
  refine X.cond (t := !(ruleOk ar ((rs.getD k ([], [])).1) ((rs.getD k ([], [])).2))) rfl (fun h4 => ?_) (fun h4 => ?_)
  ·refine X.seq (X.region (XL.as (.bool (false)) rfl (XL.nil (X.ret (blockQ_ret (thenQ_ret (thenQ_ret (blockQ_ret (thenQ_ret (retEnd (L' := L) [.bool (false)] (.bool (false)) (.tmp rfl .nil) rfl rF rF (sD sR) ?_))))))))))
   exact ⟨(vB (sysOk_false (fun h => by have := h.2.2 k (by omega); simp_all))), rfl, rfl⟩
  refine X.skip (X.region (XL.mv (.int .i64 ((k : Int))) rfl (cX (XOp.addR (((k + 1 : Nat) : Int)) rfl rfl (by omega) (by omega) (XL.as (.int .i64 (((k + 1 : Nat) : Int))) rfl (XL.nil ?_))))))
  exact ⟨k + 1, _, FLe.refl _, rF, ⟨rfl, rfl, trivial⟩, (sC sR), ⟨rfl, (by omega), (fun i hi => (Nat.lt_or_ge i k).elim (fun h => hall i h) (fun h => by obtain rfl : i = k := (by omega); first | assumption | simp_all))⟩, (by omega)⟩
 refine X.exit (thenQ_exit (thenQ_exit (blockQ_exit (X.seq (X.region (XL.as (.bool (true)) rfl (XL.nil (X.ret (retEnd (L' := L) [.bool (true)] (.bool (true)) (.tmp rfl .nil) rfl rF rF (sD sR) ?_)))))))))
 exact ⟨(vB (sysOk_iff.2 ⟨by first | assumption | simp_all, by omega, fun i hi => hall i (by omega)⟩)), rfl, rfl⟩

/- impl.matchInto -/
theorem matchInto_spec {F : FH} {L : List HP} {arv : Value} {ar : List Int} (har : IntsF F arv ar) {pv : Value} {p : List Int} (hp : IntsF F pv p) {tv : Value} {t : List Int} (ht : IntsF F tv t) {bs : List Value} {b : RowL} (hb : BindC F bs b) (hbl : b.length = 24) (ho : termOk ar t = true) (hpl : p.length ≤ 4000000) (hpg : ∀ k, k < p.length → -24 ≤ p.getD k 0) :
    Does prog 140 [.agg #[arv], pv, tv, .agg (bs).toArray] F (L) (fun v F' L' => F = F' ∧ ∃ (bs : List Value), ∃ (bl : RowL), (.tuple #[.agg (bs).toArray, .bool ((mGo ar t p 0 b).isSome)] : Value) = v ∧ (BindC F' bs bl) ∧ (bl.length = 24) ∧ (∀ r, mGo ar t p 0 b = some r → bl = r) ∧ L = L') := by
 refine Does.of_X func140 rfl rfl rfl ?_
 have hsl := sigOk_spec (termOk_sig ho)
 have htl := termOk_len ho
 have hnn := notNil_of_pos ht (by omega)
 refine X.seq (X.region (cX (XOp.box [arv] rfl rfl ?_)))
 intro b1
 refine cX (XOp.box bs rfl rfl ?_)
 intro b2
 refine cX (XOp.alloc (List.replicate 24 (Value.slice none 0 0)) zeroValue170 rfl ?_)
 intro b3
 have hc1 : BindC F _ _ := BindC.nils 24
 refine XL.as (.bool (false)) rfl (XL.nil (X.seq (X.region (XL.as (.int .i64 (0)) rfl (XL.nil (X.seq (X.seq (X.region (XL.mv (pv) rfl (cX (XOp.lenS runUnderlying24 rfl hp.slv (XL.mv (.int .i64 (0)) rfl (XL.nil (X.block (X.loop (α := Nat × Nat × List Value × RowL) (fun xQ => [(2, tv), (4, ptr b1 0), (7, ptr b2 0), (8, ptr b3 0), (10, .int .i64 (((xQ.2.1 : Nat) : Int))), (14, pv), (15, .int .i64 ((p.length : Int))), (16, .int .i64 (((xQ.1 : Nat) : Int)))]) (fun xQ => cellsH b3 (List.replicate 24 (Value.slice none 0 0)) 170 :: cellsH b2 xQ.2.2.1 170 :: cellsH b1 [arv] 26 :: L) (fun xQ F' => F = F' ∧ (BindC F xQ.2.2.1 xQ.2.2.2) ∧ (xQ.2.2.2.length = 24) ∧ (xQ.1 ≤ p.length) ∧ (xQ.2.1 ≤ t.length) ∧ (mGo ar t p 0 b = mGo ar t (p.drop xQ.1) xQ.2.1 xQ.2.2.2)) (fun xQ => p.length - xQ.1) (0, 0, bs, b) ⟨rfl, rfl, rfl, rfl, rfl, rfl, rfl, rfl, trivial⟩ (sC (sC (sC sR))) ⟨rfl, (hb), (hbl), (by (try dsimp only) <;> omega), (by (try dsimp only) <;> omega), (rfl)⟩ ?_)))))))))))))))
 rintro ⟨k, i, bs, bl⟩ rE _ _ ⟨rfl, hbc, hbl2, hk, hi, hm⟩
 show X _ _ _ _ (envs [(2, tv), (4, ptr b1 0), (7, ptr b2 0), (8, ptr b3 0), (10, .int .i64 ((i : Int))), (14, pv), (15, .int .i64 ((p.length : Int))), (16, .int .i64 ((k : Int)))] rE) _ (cellsH b3 (List.replicate 24 (Value.slice none 0 0)) 170 :: cellsH b2 bs 170 :: cellsH b1 [arv] 26 :: L)
 dsimp only at hbc hbl2 hk hi hm
 have hpk := hpg k
 have hsl2 := fun h => sub_length (p := i) ho h
 have hee := fun h => endN_spec (p := i) ho h
 refine X.seq (X.region (cX (XOp.lss rfl rfl (XL.nil (X.seq ?_)))))
 refine X.condD (p := (k : Int) < (p.length : Int)) rfl (fun h1 => ?_) (fun h1 => ?_)
 ·refine X.skip (X.seq (X.block (X.seq (X.region (cX (XOp.indexS k runUnderlying24 sizeOf2 rfl rfl rfl hp.slv (by omega) (Nat.mul_one _) (cX (XOp.load1 isAgg2 rfl (hp.rd (by omega)) (XL.as (.int .i64 (p.getD k 0)) rfl (XL.nil (X.seq (X.seq (X.region (XL.mv (.int .i64 ((i : Int))) rfl (XL.mv (tv) rfl (cX (XOp.lenS runUnderlying24 rfl ht.slv (cX (XOp.geq rfl rfl (XL.nil ?_))))))))))))))))))))
  refine X.condD (p := (i : Int) ≥ (t.length : Int)) rfl (fun h2 => ?_) (fun h2 => ?_)
  ·refine X.seq (X.region (cX (XOp.loadN bs isAgg170 sizeOf170 (by have := CO.len hbc; (try simp only [List.length_set, List.length_replicate] at this ⊢) <;> omega) rfl (Rd.ownN [_] rfl take_all) (cX (XOp.storeN [] _ bs sizeOf170 rfl rfl (by have := CO.len hbc; (try simp only [List.length_set, List.length_replicate] at this ⊢) <;> omega) hbc.ones rfl (Nat.ble_eq_true_of_le (Nat.le_of_eq (by have := CO.len hc1; (try simp only [List.length_set, List.length_replicate] at this ⊢) <;> omega))) (arr_over (by have := CO.len hc1; (try simp only [List.length_set, List.length_replicate] at this ⊢) <;> omega)) (XL.as (.bool (false)) rfl (XL.nil (X.ret (thenQ_ret (blockQ_ret (thenQ_ret (thenQ_ret (blockQ_ret (thenQ_ret (retEnd (L' := L) [.agg (bs).toArray, .bool (false)] (.tuple #[.agg (bs).toArray, .bool (false)]) (.cell rfl (loadNV bs isAgg170 sizeOf170 (by have := CO.len hbc; (try simp only [List.length_set, List.length_replicate] at this ⊢) <;> omega) (Rd.ownN [] rfl take_all)) (.tmp rfl .nil)) rfl rF rF (sD (sD (sD sR))) ?_)))))))))))))))
   have hz : mGo ar t p 0 b = none := hm.trans (mGo_short (by omega) (by omega))
   refine ⟨rfl, _, _, by rw [hz]; rfl, hbc, by (try simp only [List.length_set]) <;> omega, fun r hr => ?_, rfl⟩
   rw [hz] at hr; cases hr
  refine X.skip (X.seq (X.seq (X.region (XL.mv (.int .i64 (p.getD k 0)) rfl (cX (XOp.geq rfl rfl (XL.nil ?_)))))))
  refine X.condD (p := (p.getD k 0 : Int) ≥ 0) rfl (fun h3 => ?_) (fun h3 => ?_)
  ·refine X.seq (X.seq (X.region (XL.mv (tv) rfl (XL.mv (.int .i64 ((i : Int))) rfl (cX (XOp.indexS i runUnderlying24 sizeOf2 rfl rfl rfl ht.slv (by omega) (Nat.mul_one _) (cX (XOp.load1 isAgg2 rfl (ht.rd (by omega)) (XL.mv (.int .i64 (p.getD k 0)) rfl (cX (XOp.neq rfl rfl (XL.nil ?_))))))))))))
   refine X.condD (p := (t.getD i 0 : Int) ≠ p.getD k 0) rfl (fun h4 => ?_) (fun h4 => ?_)
   ·refine X.seq (X.region (cX (XOp.loadN bs isAgg170 sizeOf170 (by have := CO.len hbc; (try simp only [List.length_set, List.length_replicate] at this ⊢) <;> omega) rfl (Rd.ownN [_] rfl take_all) (cX (XOp.storeN [] _ bs sizeOf170 rfl rfl (by have := CO.len hbc; (try simp only [List.length_set, List.length_replicate] at this ⊢) <;> omega) hbc.ones rfl (Nat.ble_eq_true_of_le (Nat.le_of_eq (by have := CO.len hc1; (try simp only [List.length_set, List.length_replicate] at this ⊢) <;> omega))) (arr_over (by have := CO.len hc1; (try simp only [List.length_set, List.length_replicate] at this ⊢) <;> omega)) (XL.as (.bool (false)) rfl (XL.nil (X.ret (thenQ_ret (thenQ_ret (blockQ_ret (thenQ_ret (thenQ_ret (blockQ_ret (thenQ_ret (retEnd (L' := L) [.agg (bs).toArray, .bool (false)] (.tuple #[.agg (bs).toArray, .bool (false)]) (.cell rfl (loadNV bs isAgg170 sizeOf170 (by have := CO.len hbc; (try simp only [List.length_set, List.length_replicate] at this ⊢) <;> omega) (Rd.ownN [] rfl take_all)) (.tmp rfl .nil)) rfl rF rF (sD (sD (sD sR))) ?_))))))))))))))))
    have hz : mGo ar t p 0 b = none := hm.trans (mGo_ne (by omega) (by omega) (by omega) (by assumption))
    refine ⟨rfl, _, _, by rw [hz]; rfl, hbc, by (try simp only [List.length_set]) <;> omega, fun r hr => ?_, rfl⟩
    rw [hz] at hr; cases hr
   refine X.skip (X.seq (X.region (XL.mv (.int .i64 ((i : Int))) rfl (cX (XOp.addR (((i + 1 : Nat) : Int)) rfl rfl (by omega) (by omega) (XL.as (.int .i64 (((i + 1 : Nat) : Int))) rfl (XL.nil (X.exit (thenQ_exit (blockQ_exit (X.region (cX (XOp.addR (((k + 1 : Nat) : Int)) rfl rfl (by omega) (by omega) (XL.mv (.int .i64 (((k + 1 : Nat) : Int))) rfl (XL.nil ?_)))))))))))))))
   exact ⟨(k + 1, i + 1, bs, bl), _, FLe.refl _, rF, ⟨rfl, rfl, rfl, rfl, rfl, rfl, rfl, rfl, trivial⟩, (sC (sC (sC sR))), ⟨rfl, (hbc), (by (try simp only [List.length_set]) <;> omega), (by (try dsimp only) <;> omega), (by (try dsimp only) <;> omega), (hm.trans (mGo_sym (by omega) (by omega) (by omega) (by omega)))⟩, (by omega)⟩
  refine X.skip (X.seq (X.region (cX (XOp.loadN [arv] isAgg26 sizeOf26 rfl rfl (Rd.ownN [_, _] rfl rfl) (XL.mv (tv) rfl (XL.mv (.int .i64 ((i : Int))) rfl (cX (XOp.call (args := [.agg #[arv], tv, .int .i64 (i : Int)]) call138 rfl (subAt_spec (p := i) har ht (ho := (by first | assumption | rfl | omega | simp)) (hp := (by first | assumption | rfl | omega | simp)) (hnn := (by first | assumption | rfl | omega | simp))) ?_))))))))
  rintro v1 _ _ _ ⟨rfl, rfl, hv1, hn1⟩
  refine XL.as (v1) rfl (XL.nil (X.seq (X.seq (X.region (XL.mv (.int .i64 (p.getD k 0)) rfl (cX (XOp.subR ((-1) - (p.getD k 0)) rfl rfl (by omega) (by omega) (cX (XOp.indexA (i := (-1) - (p.getD k 0)) (((-1) - (p.getD k 0)).toNat) (((-1) - (p.getD k 0)).toNat) runUnderlying170 sizeOf24 rfl rfl (by omega) (by omega) (by omega) ?_)))))))))
  obtain ⟨a1, ha1, hn2, he1⟩ := hbc.get (i := ((-1) - (p.getD k 0)).toNat) (by omega)
  refine cX (XOp.load1 isAgg24 rfl (Rd.own [_] rfl he1) (cX (XOp.eqNil runUnderlying24 rfl rfl (IntsF.isSl ha1) (XL.nil ?_))))
  refine X.cond (t := isNil a1) rfl (fun h5 => ?_) (fun h5 => ?_)
  ·refine X.region (XL.mv (.int .i64 (p.getD k 0)) rfl (cX (XOp.subR ((-1) - (p.getD k 0)) rfl rfl (by omega) (by omega) (XL.mv (v1) rfl (cX (XOp.indexA (i := (-1) - (p.getD k 0)) (((-1) - (p.getD k 0)).toNat) (((-1) - (p.getD k 0)).toNat) runUnderlying170 sizeOf24 rfl rfl (by omega) (by omega) (by omega) (cX (XOp.store1 [_] _ (bs.set (((-1) - (p.getD k 0)).toNat) v1) sizeOf24 rfl rfl (one_sl (IntsF.isSl hv1)) rfl (blt_of (by have := CO.len hbc; (try simp only [List.length_set, List.length_replicate] at this ⊢) <;> omega)) rfl ?_))))))))
   have hc2 := hbc.set (((-1) - (p.getD k 0)).toNat) hv1 (by simp [*, sub_ne ho (show i < t.length by omega)])
   refine XL.nil (X.region (XL.mv (.int .i64 ((i : Int))) rfl (XL.mv (v1) rfl (cX (XOp.lenS runUnderlying24 rfl hv1.slv (cX (XOp.addR (((i + (((sub ar t i)).length) : Nat) : Int)) rfl rfl (by omega) (by omega) (XL.as (.int .i64 (((i + (((sub ar t i)).length) : Nat) : Int))) rfl (XL.nil (X.region (cX (XOp.addR (((k + 1 : Nat) : Int)) rfl rfl (by omega) (by omega) (XL.mv (.int .i64 (((k + 1 : Nat) : Int))) rfl (XL.nil ?_))))))))))))))
   exact ⟨(k + 1, i + (((sub ar t i)).length), (bs.set (((-1) - (p.getD k 0)).toNat) v1), (bl.set (((-1) - (p.getD k 0)).toNat) ((sub ar t i)))), _, FLe.refl _, rF, ⟨rfl, rfl, rfl, rfl, rfl, rfl, rfl, rfl, trivial⟩, (sC (sC (sC sR))), ⟨rfl, (hc2), (by (try simp only [List.length_set]) <;> omega), (by (try dsimp only) <;> omega), (by (try dsimp only) <;> omega), (hm.trans (mGo_new (by omega) (by omega) (by omega) (of_decide_eq_true (hn2.symm.trans (by assumption)))))⟩, (by omega)⟩
  refine X.seq (X.region (XL.mv (.int .i64 (p.getD k 0)) rfl (cX (XOp.subR ((-1) - (p.getD k 0)) rfl rfl (by omega) (by omega) (cX (XOp.indexA (i := (-1) - (p.getD k 0)) (((-1) - (p.getD k 0)).toNat) (((-1) - (p.getD k 0)).toNat) runUnderlying170 sizeOf24 rfl rfl (by omega) (by omega) (by omega) (cX (XOp.load1 isAgg24 rfl (Rd.own [_] rfl he1) (XL.mv (v1) rfl (cX (XOp.call (args := [a1, v1]) call62 rfl (Equal_spec ha1 hv1 (hbd := (by first | assumption | rfl | omega | (left; simp; done) | (right; simp; done)))) ?_)))))))))))
  rintro _ _ _ _ ⟨rfl, rfl, rfl⟩
  refine cX (XOp.notD rfl (XL.nil ?_))
  refine X.condD (p := ¬(((bl.getD (((-1) - (p.getD k 0)).toNat) [])) = ((sub ar t i)))) rfl (fun h6 => ?_) (fun h6 => ?_)
  ·refine X.seq (X.region (cX (XOp.loadN bs isAgg170 sizeOf170 (by have := CO.len hbc; (try simp only [List.length_set, List.length_replicate] at this ⊢) <;> omega) rfl (Rd.ownN [_] rfl take_all) (cX (XOp.storeN [] _ bs sizeOf170 rfl rfl (by have := CO.len hbc; (try simp only [List.length_set, List.length_replicate] at this ⊢) <;> omega) hbc.ones rfl (Nat.ble_eq_true_of_le (Nat.le_of_eq (by have := CO.len hc1; (try simp only [List.length_set, List.length_replicate] at this ⊢) <;> omega))) (arr_over (by have := CO.len hc1; (try simp only [List.length_set, List.length_replicate] at this ⊢) <;> omega)) (XL.as (.bool (false)) rfl (XL.nil (X.ret (thenQ_ret (blockQ_ret (thenQ_ret (thenQ_ret (blockQ_ret (thenQ_ret (retEnd (L' := L) [.agg (bs).toArray, .bool (false)] (.tuple #[.agg (bs).toArray, .bool (false)]) (.cell rfl (loadNV bs isAgg170 sizeOf170 (by have := CO.len hbc; (try simp only [List.length_set, List.length_replicate] at this ⊢) <;> omega) (Rd.ownN [] rfl take_all)) (.tmp rfl .nil)) rfl rF rF (sD (sD (sD sR))) ?_)))))))))))))))
   have hz : mGo ar t p 0 b = none := hm.trans (mGo_clash (by omega) (by omega) (by omega) (of_decide_eq_false (hn2.symm.trans (by assumption))) (by assumption))
   refine ⟨rfl, _, _, by rw [hz]; rfl, hbc, by (try simp only [List.length_set]) <;> omega, fun r hr => ?_, rfl⟩
   rw [hz] at hr; cases hr
  refine X.skip (X.region (XL.mv (.int .i64 ((i : Int))) rfl (XL.mv (v1) rfl (cX (XOp.lenS runUnderlying24 rfl hv1.slv (cX (XOp.addR (((i + (((sub ar t i)).length) : Nat) : Int)) rfl rfl (by omega) (by omega) (XL.as (.int .i64 (((i + (((sub ar t i)).length) : Nat) : Int))) rfl (XL.nil (X.region (cX (XOp.addR (((k + 1 : Nat) : Int)) rfl rfl (by omega) (by omega) (XL.mv (.int .i64 (((k + 1 : Nat) : Int))) rfl (XL.nil ?_))))))))))))))
  exact ⟨(k + 1, i + (((sub ar t i)).length), bs, bl), _, FLe.refl _, rF, ⟨rfl, rfl, rfl, rfl, rfl, rfl, rfl, rfl, trivial⟩, (sC (sC (sC sR))), ⟨rfl, (hbc), (by (try simp only [List.length_set]) <;> omega), (by (try dsimp only) <;> omega), (by (try dsimp only) <;> omega), (hm.trans (mGo_same (by omega) (by omega) (by omega) (of_decide_eq_false (hn2.symm.trans (by assumption))) (by first | assumption | exact Classical.not_not.1 (by assumption))))⟩, (by omega)⟩
 refine X.exit (thenQ_exit (thenQ_exit (blockQ_exit (X.seq (X.region (cX (XOp.loadN bs isAgg170 sizeOf170 (by have := CO.len hbc; (try simp only [List.length_set, List.length_replicate] at this ⊢) <;> omega) rfl (Rd.ownN [_] rfl take_all) (cX (XOp.storeN [] _ bs sizeOf170 rfl rfl (by have := CO.len hbc; (try simp only [List.length_set, List.length_replicate] at this ⊢) <;> omega) hbc.ones rfl (Nat.ble_eq_true_of_le (Nat.le_of_eq (by have := CO.len hc1; (try simp only [List.length_set, List.length_replicate] at this ⊢) <;> omega))) (arr_over (by have := CO.len hc1; (try simp only [List.length_set, List.length_replicate] at this ⊢) <;> omega)) (XL.as (.bool (true)) rfl (XL.nil (X.ret (retEnd (L' := L) [.agg (bs).toArray, .bool (true)] (.tuple #[.agg (bs).toArray, .bool (true)]) (.cell rfl (loadNV bs isAgg170 sizeOf170 (by have := CO.len hbc; (try simp only [List.length_set, List.length_replicate] at this ⊢) <;> omega) (Rd.ownN [] rfl take_all)) (.tmp rfl .nil)) rfl rF rF (sD (sD (sD sR))) ?_)))))))))))))
 have hz : mGo ar t p 0 b = some bl := hm.trans (mGo_done (by omega))
 refine ⟨rfl, _, _, by rw [hz]; rfl, hbc, by (try simp only [List.length_set]) <;> omega, fun r hr => ?_, rfl⟩
 rw [hz] at hr; exact Option.some.inj hr

/- impl.variable -/
theorem variable_spec {F : FH} {L : List HP} {i : Nat} (hi : i ≤ 1000) :
    Does prog 207 [.int .i64 ((i : Int))] F (L) (fun v F' L' => F = F' ∧ IsSl v ∧ intsH 2 v ([-1 - (i : Int)]) :: L = L') := by
 refine Does.of_X func207 rfl rfl rfl (X.seq (X.region (XL.as ((.slice none 0 0)) rfl (XL.nil (X.seq (X.region (XL.mv (.int .i64 ((i : Int))) rfl (cX (XOp.subR ((-1) - ((i : Int))) rfl rfl (by omega) (by omega) (cX (XOp.buildSlice (s := 1) [.int .i64 ((-1) - ((i : Int)))] [.int .i64 (0)] [(0, [.int .i64 ((-1) - ((i : Int)))])] runUnderlying24 sizeOf2 zeroValue2 rfl (by decide) rfl (.cons rfl CellsAre.nil) rfl ?_)))))))))))
 intro v1 hv1
 refine XL.as (v1) rfl (XL.nil (X.ret (retEnd (L' := intsH 2 v1 ([(-1) - ((i : Int))]) :: L) [v1] (v1) (.tmp rfl .nil) rfl rF rF (sC sR) ?_)))
 refine ⟨rfl, (isSl_lit hv1), ?_⟩
 have hxs : ([-1 - (i : Int)] : List Int) = [(-1) - ((i : Int))] := rfl
 exact congrArg (fun z => intsH 2 _ z :: L) hxs

/- (impl.bindings).subst -/
theorem subst_spec {F : FH} {L : List HP} {bs : List Value} {b : RowL} (hb : BindC F bs b) (hbl : b.length = 24) :
    Does prog 192 [.agg (bs).toArray] F (L) (fun v F' L' => ∃ (a : Value), (.agg #[a] : Value) = v ∧ (RowsF F' a b) ∧ L = L') := by
 refine Does.of_X func192 rfl rfl rfl (X.seq (X.region (cX (XOp.box bs rfl rfl ?_))))
 intro b1
 refine cX (XOp.alloc [(.slice none 0 0)] zeroValue76 rfl ?_)
 intro b2
 refine XL.nil (X.seq (X.region (cX (XOp.sliceArr (cs := bs) [_] _ runUnderlying170 sizeOf24 rfl (by have := CO.len hb; (try simp only [List.length_set, List.length_replicate] at this ⊢) <;> omega) rfl ?_))))
 intro v1 hv1
 have hc1 := BindC.rows hb
 refine cX (XOp.build [v1] [(.slice none 0 0)] [(0, 1)] [(0, [v1])] runUnderlying76 zeroValue76 rfl (.cons rfl sizeOf47 PlacesAre.nil) rfl (.cons (cells_one ⟨_, _, _, hv1⟩) CellsAre.nil) (cX (XOp.storeN [] _ [v1] sizeOf76 rfl rfl rfl (ones_cons (one_sl ⟨_, _, _, hv1⟩) ones_nil) rfl rfl rfl (XL.nil (X.freezeF [_] _ _ rfl (fun F1 le1 hz1 => ?_))))))
 replace hc1 := hc1.mono le1
 have hf1 : RowsF F1 v1 b := CO.fz hc1 (by first | rfl | omega | (rw [List.length_set]; omega) | (simp; done)) hz1.fz
 refine X.ret (retEnd (L' := L) [.agg #[v1]] (.agg #[v1]) (.cell rfl (loadNV [v1] isAgg76 sizeOf76 rfl (Rd.ownN [] rfl rfl)) .nil) rfl le1 rF (sD sR) ?_)
 exact ⟨_, rfl, hf1, rfl⟩
end Go.Proofs.YtmaaifhmhclhdaaGreat
set_option linter.unusedSimpArgs false
set_option linter.unusedVariables false
namespace Go.Proofs.YtmaaifhmhclhdaaGreat
open Go X M Tryz

/- impl.plain -/
theorem plain_spec {F : FH} {L : List HP} {sv : Value} {s : List (List Int)} (hs : RowsF F sv s) (hsl : s.length ≤ 24) (hsb : ∀ i, i < s.length → (s.getD i []).length ≤ 4000000) :
    Does prog 191 [.agg #[sv]] F (L) (fun v F' L' => ∃ (a : Value), (.agg #[a] : Value) = v ∧ (RowsF F' a (plainL s)) ∧ L = L') := by
 refine Does.of_X func191 rfl rfl rfl (X.seq (X.region (cX (XOp.box [sv] rfl rfl ?_))))
 intro b1
 refine cX (XOp.alloc [(.slice none 0 0)] zeroValue76 rfl ?_)
 intro b2
 refine XL.nil (X.seq (X.region (cX (XOp.alloc [(.slice none 0 0)] zeroValue76 rfl ?_))))
 intro b3
 refine XL.nil (X.seq (X.seq (X.region (cX (XOp.fieldP (0) runUnderlying76 rfl sizeOf47 (by decide) rfl rfl (cX (XOp.load1 isAgg47 rfl (Rd.own [_, _] rfl rfl) (cX (XOp.lenS runUnderlying47 rfl hs.slv (XL.mv (.int .i64 (0)) rfl (XL.nil (X.block (X.loop (α := Nat × Value × RowL × FH) (fun xQ => [(2, ptr b2 0), (3, ptr b3 0), (7, sv), (8, .int .i64 ((s.length : Int))), (9, .int .i64 (((xQ.1 : Nat) : Int)))]) (fun xQ => rowsH 24 xQ.2.2.2 xQ.2.1 xQ.2.2.1 :: cellsH b3 [xQ.2.1] 76 :: cellsH b2 [(.slice none 0 0)] 76 :: cellsH b1 [sv] 76 :: L) (fun xQ F' => xQ.2.2.2 = F' ∧ F ≤ xQ.2.2.2 ∧ (IsSl xQ.2.1) ∧ (xQ.2.2.1 = trim ((plainGo 0 s).take xQ.1)) ∧ (xQ.1 ≤ s.length)) (fun xQ => s.length - xQ.1) (0, (.slice none 0 0), [], F) ⟨rfl, rfl, rfl, rfl, rfl, trivial⟩ (coH.addNil none (sC (sC (sC sR)))) ⟨rfl, FLe.refl _, (⟨_, _, _, rfl⟩), (rfl), (by (try dsimp only) <;> omega)⟩ ?_)))))))))))))
 rintro ⟨k, ov, os, G1⟩ rE _ _ ⟨rfl, leG, hov, hos, hk⟩
 show X _ _ _ _ (envs [(2, ptr b2 0), (3, ptr b3 0), (7, sv), (8, .int .i64 ((s.length : Int))), (9, .int .i64 ((k : Int)))] rE) _ (rowsH 24 G1 ov os :: cellsH b3 [ov] 76 :: cellsH b2 [(.slice none 0 0)] 76 :: cellsH b1 [sv] 76 :: L)
 replace leG : F ≤ G1 := leG
 dsimp only at hov hos hk
 have leG1 := leG
 replace hs := hs.mono leG1
 refine X.open [] rfl (fun cs1 hc1 => ?_)
 replace hc1 : RowsC G1 cs1 os := hc1
 refine X.seq (X.region (cX (XOp.lss rfl rfl (XL.nil (X.seq ?_)))))
 refine X.condD (p := (k : Int) < (s.length : Int)) rfl (fun h1 => ?_) (fun h1 => ?_)
 ·refine X.skip (X.seq (X.block (X.seq (X.region (XL.mv (.int .i64 ((k : Int))) rfl (cX (XOp.indexS k runUnderlying47 sizeOf24 rfl rfl rfl hs.slv (by omega) (Nat.mul_one _) ?_)))))))
  obtain ⟨a1, ha1, hr1⟩ := hs.rd (i := k) (by omega)
  refine cX (XOp.load1 isAgg24 rfl (hr1 _) (XL.as (.int .i64 ((k : Int))) rfl (XL.as (a1) rfl (XL.nil (X.seq (X.seq (X.region (XL.mv (a1) rfl (cX (XOp.lenS runUnderlying24 rfl ha1.slv (cX (XOp.eql rfl rfl (XL.mv (.bool (decide ((((((s.getD k [])).length : Nat) : Int) : Int) = 0))) rfl ?_)))))))))))))
  by_cases h2 : (((((s.getD k [])).length : Nat) : Int) : Int) = 0
  ·refine XL.no (t := 17) rfl (vT h2) (XL.no (t := 17) rfl (vT h2) (XL.no (t := 17) rfl (vT h2) (XL.no (t := 17) rfl (vT h2) (cX (XOp.pickT (.bool (true)) (vT h2) rfl (XL.nil (X.condT rfl (X.exit (thenQ_exit (blockQ_exit (X.region (cX (XOp.addR (((k + 1 : Nat) : Int)) rfl rfl (by omega) (by omega) ?_)))))))))))))
   refine XL.mv (.int .i64 (((k + 1 : Nat) : Int))) rfl (XL.nil ?_)
   exact ⟨(k + 1, ov, os, G1), _, leG1, rF, ⟨rfl, rfl, rfl, rfl, rfl, trivial⟩, (coH.close hc1 (by first | rfl | simp) (sC (sC (sC sR)))), ⟨rfl, leG1, (hov), (hos.trans (plain_skip (by omega) (by first | (left; exact List.eq_nil_of_length_eq_zero (by omega)) | (right; assumption))).symm), (by (try dsimp only) <;> omega)⟩, (by omega)⟩
  refine XL.yes (t := 17) rfl (vF h2) (XOp.move (a1) rfl (XL.yes (t := 17) rfl (vF h2) (XOp.move (.int .i64 ((k : Int))) rfl (XL.yes (t := 17) rfl (vF h2) (XOp.frzF <| XOp.call (args := [.int .i64 (k : Int)]) call207 rfl (variable_spec (i := k) (hi := (by first | assumption | rfl | omega | simp))) ?_)))))
  rintro v1 _ _ _ ⟨rfl, hs1, rfl⟩
  refine ⟨_, _, rfl, fun F1 le1 hz1 => ?_⟩
  replace hs := hs.mono le1
  replace hc1 := hc1.mono le1
  replace ha1 := ha1.mono le1
  have hf1 : IntsF F1 v1 (([-1 - (k : Int)])) := intsH.fz (xs := ([-1 - (k : Int)])) hz1.fz
  refine XL.yes (t := 17) rfl (vF h2) (XOp.call (args := [a1, v1]) call62 rfl (Equal_spec ha1 hf1 (hbd := (by first | assumption | rfl | omega | (left; simp; done) | (right; simp; done)))) ?_)
  rintro _ _ _ _ ⟨rfl, rfl, rfl⟩
  refine cX (XOp.pickF (.bool (decide (((s.getD k [])) = (([-1 - (k : Int)]))))) (vF h2) rfl (XL.nil ?_))
  refine X.condD (p := ((s.getD k [])) = (([-1 - (k : Int)]))) rfl (fun h3 => ?_) (fun h3 => ?_)
  ·refine X.exit (thenQ_exit (blockQ_exit (X.region (cX (XOp.addR (((k + 1 : Nat) : Int)) rfl rfl (by omega) (by omega) (XL.mv (.int .i64 (((k + 1 : Nat) : Int))) rfl (XL.nil ?_)))))))
   exact ⟨(k + 1, ov, os, F1), _, (FLe.trans leG1 le1), rF, ⟨rfl, rfl, rfl, rfl, rfl, trivial⟩, (coH.close hc1 (by first | rfl | simp) (sC (sC (sC sR)))), ⟨rfl, (FLe.trans leG1 le1), (hov), (hos.trans (plain_skip (by omega) (by first | (left; exact List.eq_nil_of_length_eq_zero (by omega)) | (right; assumption))).symm), (by (try dsimp only) <;> omega)⟩, (by omega)⟩
  refine X.skip (X.seq (X.block (X.loop (α := Nat × Value × RowL × FH) (fun xQ => [(2, ptr b2 0), (3, ptr b3 0), (4, .int .i64 ((k : Int))), (5, a1), (7, sv), (8, .int .i64 ((s.length : Int))), (9, .int .i64 ((k : Int)))]) (fun xQ => rowsH 24 xQ.2.2.2 xQ.2.1 xQ.2.2.1 :: cellsH b3 [xQ.2.1] 76 :: cellsH b2 [(.slice none 0 0)] 76 :: cellsH b1 [sv] 76 :: L) (fun xQ F' => xQ.2.2.2 = F' ∧ F1 ≤ xQ.2.2.2 ∧ (IsSl xQ.2.1) ∧ (xQ.2.2.1 = os ++ List.replicate xQ.1 []) ∧ (xQ.2.2.1.length ≤ k)) (fun xQ => k - xQ.2.2.1.length) (0, ov, os, F1) ⟨rfl, rfl, rfl, rfl, rfl, rfl, rfl, trivial⟩ (coH.close hc1 (by first | rfl | simp) (sC (sC (sC sR)))) ⟨rfl, FLe.refl _, (hov), (by simp), (by have := trim_le ((plainGo 0 s).take k); rw [← hos, List.length_take] at this; (try dsimp only); omega)⟩ ?_)))
  rintro ⟨j, ov2, os2, G2⟩ rE _ _ ⟨rfl, leG, hov2, hos2, hl2⟩
  show X _ _ _ _ (envs [(2, ptr b2 0), (3, ptr b3 0), (4, .int .i64 ((k : Int))), (5, a1), (7, sv), (8, .int .i64 ((s.length : Int))), (9, .int .i64 ((k : Int)))] rE) _ (rowsH 24 G2 ov2 os2 :: cellsH b3 [ov2] 76 :: cellsH b2 [(.slice none 0 0)] 76 :: cellsH b1 [sv] 76 :: L)
  replace leG : F1 ≤ G2 := leG
  dsimp only at hov2 hos2 hl2
  have leG2 := leG
  replace hs := hs.mono leG2
  replace hc1 := hc1.mono leG2
  replace ha1 := ha1.mono leG2
  refine X.open [] rfl (fun cs2 hc2 => ?_)
  replace hc2 : RowsC G2 cs2 os2 := hc2
  refine X.seq (X.seq (X.region (cX (XOp.fieldP (0) runUnderlying76 rfl sizeOf47 (by decide) rfl rfl (cX (XOp.load1 isAgg47 rfl (Rd.own [_] rfl rfl) (cX (XOp.lenS runUnderlying47 rfl (SlV.own [] rfl) (XL.mv (.int .i64 ((k : Int))) rfl (cX (XOp.lss rfl rfl (XL.nil ?_))))))))))))
  refine X.condD (p := ((os2.length : Int) : Int) < (k : Int)) rfl (fun h4 => ?_) (fun h4 => ?_)
  ·refine X.skip (X.block (X.region (cX (XOp.fieldP (0) runUnderlying76 rfl sizeOf47 (by decide) rfl rfl (cX (XOp.load1 isAgg47 rfl (Rd.own [_] rfl rfl) (cX (XOp.buildSlice (s := 1) [(.slice none 0 0)] [(.slice none 0 0)] [(0, [(.slice none 0 0)])] runUnderlying47 sizeOf24 zeroValue24 rfl (by decide) rfl (.cons rfl CellsAre.nil) rfl ?_))))))))
   intro v2 hv1
   refine cX (XOp.append (m := 1) (bytes := 24) (cs := cs2) [_] _ [(.slice none 0 0)] runUnderlying47 typeInfo24 rfl rfl rfl rfl rfl rfl rfl (SlV.own [] rfl) rfl (Rd.lit [] rfl) (ones_cons rfl ones_nil) (by (try simp only [List.length_append, List.length_nil, List.length_cons, List.length_singleton]); omega) (by (try simp only [List.length_append, List.length_nil, List.length_cons, List.length_singleton]); omega) ?_)
   intro v3 hs2 hn1 hm1
   have hc3 := RowsC.snoc hc2 IntsF.nilV
   refine cX (XOp.fieldP (0) runUnderlying76 rfl sizeOf47 (by decide) rfl rfl (cX (XOp.store1 [_, _] _ [v3] sizeOf47 rfl rfl (one_sl hs2) rfl rfl rfl (XL.nil ?_))))
   exact ⟨(j + 1, v3, os2 ++ [[]], G2), _, leG2, rF, ⟨rfl, rfl, rfl, rfl, rfl, rfl, rfl, trivial⟩, (sD (coH.close hc3 (by first | rfl | simp) (sC (sC (sC sR))))), ⟨rfl, leG2, (hs2), (by dsimp only; rw [hos2, List.append_assoc, List.replicate_succ']), (by dsimp only; rw [List.length_append]; simp only [List.length_singleton]; omega)⟩, (by dsimp only; rw [List.length_append]; simp only [List.length_singleton]; omega)⟩
  refine X.exit (thenQ_exit (thenQ_exit (blockQ_exit ?_)))
  refine X.drawG [slH 24 1 ov2 ((os2).length) cs2, cellsH b3 [ov2] 76, cellsH b2 [(.slice none 0 0)] 76, cellsH b1 [sv] 76] L 5 [[], [], [], [], [3]] [[], [0], [], [2], [3]] [[], [], [], [], []] (phiG [fun FF us v => v = ptr b3 0, fun FF us v => v = ov2, fun FF us v => v = a1, fun FF us v => ((v) : Value) = v ∧ (IntsF FF (v) (((s.getD k [])))), fun FF us v => ∃ b, v = .slice (some ⟨b, 0, none⟩) 1 1]) (ownL [fun us v => [], fun us v => [], fun us v => [], fun us v => [], fun us v => [slH 24 1 v 1 [((us.getD 0 undef))]]]) mixed rfl rfl (by kernel_rfl) (by kernel_rfl) (MonoG.get (mC (fun le h => h) (mC (fun le h => h) (mC (fun le h => h) (mC (fun le h => ⟨h.1, h.2.mono le⟩) (mC (fun le h => h) MonoG.nil)))))) ?_ ?_
  ·refine gC (fun vals Fs R leFs hpZ => ?_) ?_
   ·refine XG.op (XOp.fieldP (0) runUnderlying76 rfl sizeOf47 (by decide) rfl rfl ?_)
    exact ⟨rfl, rfl⟩
   refine gC (fun vals Fs R leFs hpZ => ?_) ?_
   ·replace hs := hs.mono leFs
    replace hc1 := hc1.mono leFs
    replace ha1 := ha1.mono leFs
    replace hc2 := hc2.mono leFs
    rw [eS (l := [(0, ptr b3 0)]) ⟨(hpZ 0 (by decide)), trivial⟩]
    refine XG.op (XOp.load1 isAgg47 rfl (Rd.own [_] rfl rfl) ?_)
    exact ⟨rfl, rfl⟩
   refine gC (fun vals Fs R leFs hpZ => ?_) ?_
   ·refine XG.op (XOp.move (a1) rfl ?_)
    exact ⟨rfl, rfl⟩
   refine gC (fun vals Fs R leFs hpZ => ?_) ?_
   ·replace hs := hs.mono leFs
    replace hc1 := hc1.mono leFs
    replace ha1 := ha1.mono leFs
    replace hc2 := hc2.mono leFs
    rw [eS (l := [(2, a1)]) ⟨(hpZ 2 (by decide)), trivial⟩]
    refine XG.op (XOp.frzF <| XOp.call (args := [a1]) call60 rfl (Clone_spec ha1 (hlt := (hsb k (by omega)))) ?_)
    rintro v6 _ _ _ ⟨rfl, hs4, rfl⟩
    refine ⟨_, _, rfl, fun F2 le2 hz2 => ?_⟩
    replace hc1 := hc1.mono le2
    replace hc2 := hc2.mono le2
    have hf2 : IntsF F2 v6 ((((s.getD k [])))) := intsH.fz (xs := (((s.getD k [])))) hz2.fz
    exact ⟨⟨rfl, hf2⟩, rfl⟩
   refine gC (fun vals Fs R leFs hpZ => ?_) ?_
   ·obtain ⟨e3, f3_1ha⟩ := hpZ 3 (by decide)
    replace hc1 := hc1.mono leFs
    replace hc2 := hc2.mono leFs
    rw [eS (l := [(3, ((vals 3)))]) ⟨(e3).symm, trivial⟩]
    refine XG.op (XOp.buildSlice (s := 1) [((vals 3))] [(.slice none 0 0)] [(0, [((vals 3))])] runUnderlying47 sizeOf24 zeroValue24 rfl (by decide) rfl (.cons (cells_one (IntsF.isSl f3_1ha)) CellsAre.nil) rfl ?_)
    intro v7 hv3
    exact ⟨hv3, rfl⟩
   exact stepsG.nil
  intro vals F3 le3 hphi
  obtain ⟨e3, f3_1ha⟩ := hphi 3 (by decide)
  have f4 : ∃ b, (vals 4) = .slice (some ⟨b, 0, none⟩) 1 1 := hphi 4 (by decide)
  generalize hu1 : ((vals 3)) = u1 at e3 f3_1ha f4
  generalize hu4 : vals 4 = u2 at e3 f3_1ha f4
  rw [eS (l := [(1, ov2), (3, u1), (4, u2)]) ⟨(hphi 1 (by decide)), hu1, hu4, trivial⟩]
  replace hc1 := hc1.mono le3
  replace hc2 := hc2.mono le3
  show XL _ _ _ _ _ _ _ (slH 24 1 u2 1 [u1] :: slH 24 1 ov2 ((os2).length) cs2 :: cellsH b3 [ov2] 76 :: cellsH b2 [(.slice none 0 0)] 76 :: cellsH b1 [sv] 76 :: L)
  refine cX (XOp.append (m := 1) (bytes := 24) (cs := cs2) [_] _ [u1] runUnderlying47 typeInfo24 rfl rfl rfl rfl rfl rfl rfl (SlV.own [] rfl) rfl (Rd.lit [] rfl) (ones_cons (one_sl (IntsF.isSl f3_1ha)) ones_nil) (by (try simp only [List.length_append, List.length_nil, List.length_cons, List.length_singleton]); omega) (by (try simp only [List.length_append, List.length_nil, List.length_cons, List.length_singleton]); omega) ?_)
  intro v8 hs5 hn2 hm2
  have hc4 := RowsC.snoc hc2 f3_1ha
  refine cX (XOp.fieldP (0) runUnderlying76 rfl sizeOf47 (by decide) rfl rfl (cX (XOp.store1 [_, _] _ [v8] sizeOf47 rfl rfl (one_sl hs5) rfl rfl rfl (XL.nil (X.region (cX (XOp.addR (((k + 1 : Nat) : Int)) rfl rfl (by omega) (by omega) (XL.mv (.int .i64 (((k + 1 : Nat) : Int))) rfl (XL.nil ?_)))))))))
  exact ⟨(k + 1, v8, os2 ++ [(((s.getD k [])))], F3), _, (FLe.trans (FLe.trans (FLe.trans leG1 le1) leG2) le3), rF, ⟨rfl, rfl, rfl, rfl, rfl, trivial⟩, (sD (coH.close hc4 (by first | rfl | simp) (sC (sC (sC sR))))), ⟨rfl, (FLe.trans (FLe.trans (FLe.trans leG1 le1) leG2) le3), (hs5), (plain_put (m := os2) (by omega) (by intro e; have := congrArg List.length e; simp only [List.length_nil] at this; omega) (by assumption) (by rw [hos2, hos]; exact plain_padded (by rw [← hos, ← hos2, List.length_take, plainGo_length]; omega))), (by (try dsimp only) <;> omega)⟩, (by omega)⟩
 refine X.exit (thenQ_exit (thenQ_exit (blockQ_exit (X.seq (X.region (cX (XOp.loadN [ov] isAgg76 sizeOf76 rfl rfl (Rd.ownN [_] rfl rfl) (cX (XOp.storeN [_, _] _ [ov] sizeOf76 rfl rfl rfl (ones_cons (one_sl hov) ones_nil) rfl rfl rfl (XL.nil (X.freezeF [] _ _ rfl (fun F4 le4 hz3 => ?_))))))))))))
 replace hc1 := hc1.mono le4
 have hf3 : RowsF F4 ov os := CO.fz hc1 (by first | rfl | omega | (rw [List.length_set]; omega) | (simp; done)) hz3.fz
 refine X.ret (retEnd (L' := L) [.agg #[ov]] (.agg #[ov]) (.cell rfl (loadNV [ov] isAgg76 sizeOf76 rfl (Rd.ownN [_] rfl rfl)) .nil) rfl (FLe.trans leG1 le4) rF (sD (sD (sD sR))) ?_)
 have e : os = plainL s := by rw [hos, show k = s.length from by omega, plain_all]
 exact ⟨_, rfl, by rw [← e]; exact hf3, rfl⟩

/- impl.match -/
theorem match_spec {F : FH} {L : List HP} {arv : Value} {ar : List Int} (har : IntsF F arv ar) {pv : Value} {p : List Int} (hp : IntsF F pv p) {tv : Value} {t : List Int} (ht : IntsF F tv t) (ho : termOk ar t = true) (hpo : termOk ar p = true) :
    Does prog 150 [.agg #[arv], pv, tv] F (L) (fun v F' L' => ∃ (a : Value), (.tuple #[.agg #[a], .bool ((matchB ar p t).isSome)] : Value) = v ∧ (RowsF F' a (matchP ar p t)) ∧ L = L') := by
 refine Does.of_X func150 rfl rfl rfl ?_
 have hpl := termOk_len hpo
 have hpg := fun k (hk : k < p.length) => termOk_ge hpo hk
 refine X.seq (X.region (cX (XOp.box [arv] rfl rfl ?_)))
 intro b1
 refine cX (XOp.alloc [(.slice none 0 0)] zeroValue76 rfl ?_)
 intro b2
 refine XL.as (.bool (false)) rfl (XL.nil (X.seq (X.region (cX (XOp.loadN [arv] isAgg26 sizeOf26 rfl rfl (Rd.ownN [_] rfl rfl) (XL.mv (pv) rfl (XL.mv (tv) rfl (cX (XOp.build0 (List.replicate 24 (Value.slice none 0 0)) runUnderlying170 ⟨_, sizeOf24⟩ zeroValue170 rfl ?_)))))))))
 have hc1 : BindC F _ _ := BindC.nils 24
 refine cX (XOp.call (args := [.agg #[arv], pv, tv, .agg (List.replicate 24 (Value.slice none 0 0)).toArray]) call140 rfl (matchInto_spec har hp ht hc1 ((by first | assumption | rfl | simp | omega)) (ho := (by first | assumption | rfl | omega | simp)) (hpl := (by first | assumption | rfl | omega | simp)) (hpg := (by first | assumption | rfl | omega | simp))) ?_)
 rintro _ _ _ _ ⟨rfl, x1, x2, rfl, hr1, hr2, hr3, rfl⟩
 have hbl24 := hr2
 refine XL.mv (.tuple #[.agg (x1).toArray, .bool ((mGo ar t p 0 (List.replicate 24 ([] : List Int))).isSome)]) rfl (cX (XOp.extract (.agg (x1).toArray) rfl rfl (cX (XOp.extract (.bool ((mGo ar t p 0 (List.replicate 24 ([] : List Int))).isSome)) rfl rfl (cX (XOp.alloc (List.replicate 24 (Value.slice none 0 0)) zeroValue170 rfl ?_))))))
 intro b3
 have hc2 : BindC F _ _ := BindC.nils 24
 refine cX (XOp.storeN [] _ x1 sizeOf170 rfl rfl (by have := CO.len hr1; (try simp only [List.length_set, List.length_replicate] at this ⊢) <;> omega) hr1.ones rfl (Nat.ble_eq_true_of_le (Nat.le_of_eq (by have := CO.len hc2; (try simp only [List.length_set, List.length_replicate] at this ⊢) <;> omega))) (arr_over (by have := CO.len hc2; (try simp only [List.length_set, List.length_replicate] at this ⊢) <;> omega)) (XL.as (.bool ((mGo ar t p 0 (List.replicate 24 ([] : List Int))).isSome)) rfl (XL.nil (X.seq (X.seq (X.region (XL.mv (.bool ((mGo ar t p 0 (List.replicate 24 ([] : List Int))).isSome)) rfl (cX (XOp.notB rfl (XL.nil ?_))))))))))
 refine X.cond (t := !((mGo ar t p 0 (List.replicate 24 ([] : List Int))).isSome)) rfl (fun h1 => ?_) (fun h1 => ?_)
 ·refine X.seq (X.region (cX (XOp.build [(.slice none 0 0)] [(.slice none 0 0)] [(0, 1)] [] runUnderlying76 zeroValue76 rfl (.cons rfl sizeOf47 PlacesAre.nil) rfl CellsAre.nil (cX (XOp.storeN [_] _ [(.slice none 0 0)] sizeOf76 rfl rfl rfl (ones_cons rfl ones_nil) rfl rfl rfl (XL.as (.bool (false)) rfl (XL.nil (X.ret (thenQ_ret (retEnd (L' := L) [.agg #[(.slice none 0 0)], .bool (false)] (.tuple #[.agg #[(.slice none 0 0)], .bool (false)]) (.cell rfl (loadNV [(.slice none 0 0)] isAgg76 sizeOf76 rfl (Rd.ownN [_] rfl rfl)) (.tmp rfl .nil)) rfl rF rF (sD (sD (sD sR))) ?_))))))))))
  have hz : matchB ar p t = none := by have h0 := h1; simpa [matchB] using h0
  exact ⟨_, by rw [hz]; rfl, by rw [matchP, hz]; exact SlOf.nilV, rfl⟩
 have hz : ∃ r, matchB ar p t = some r := Option.isSome_iff_exists.1 (by have h0 := h1; simpa [matchB] using h0)
 have hmb : ∀ i, (x2.getD i []).length ≤ t.length := by obtain ⟨r, hz⟩ := hz; have e := hr3 _ hz; rw [e]; exact (matchB_len hz).2
 have htl := termOk_len ho
 refine X.skip (X.seq (X.region (cX (XOp.loadN x1 isAgg170 sizeOf170 (by have := CO.len hr1; (try simp only [List.length_set, List.length_replicate] at this ⊢) <;> omega) rfl (Rd.ownN [] rfl take_all) (cX (XOp.call (args := [.agg (x1).toArray]) call192 rfl (subst_spec hr1 ((by first | assumption | rfl | simp | omega))) ?_))))))
 rintro _ F2 _ le2 ⟨x3, rfl, hr4, rfl⟩
 refine cX (XOp.call (args := [.agg #[x3]]) call191 rfl (plain_spec hr4 (hsl := (by first | assumption | rfl | omega | simp)) (hsb := (fun i hi => by have := hmb i; omega))) ?_)
 rintro _ F3 _ le3 ⟨x4, rfl, hr5, rfl⟩
 refine cX (XOp.storeN [_] _ [x4] sizeOf76 rfl rfl rfl (ones_cons (one_sl (RowsF.isSl hr5)) ones_nil) rfl rfl rfl (XL.as (.bool (true)) rfl (XL.nil (X.ret (retEnd (L' := L) [.agg #[x4], .bool (true)] (.tuple #[.agg #[x4], .bool (true)]) (.cell rfl (loadNV [x4] isAgg76 sizeOf76 rfl (Rd.ownN [_] rfl rfl)) (.tmp rfl .nil)) rfl (FLe.trans le2 le3) rF (sD (sD (sD sR))) ?_)))))
 obtain ⟨b0, hz⟩ := Option.isSome_iff_exists.1 (show (matchB ar p t).isSome = true from by have h0 := h1; simpa [matchB] using h0)
 have hb0 := hr3 _ hz
 exact ⟨_, by rw [hz]; rfl, by rw [matchP, hz]; subst hb0; exact hr5, rfl⟩
end Go.Proofs.YtmaaifhmhclhdaaGreat
set_option linter.unusedSimpArgs false
set_option linter.unusedVariables false
namespace Go.Proofs.YtmaaifhmhclhdaaGreat
open Go X M Tryz

/- impl.instance -/
theorem instance_spec {F : FH} {L : List HP} {arv : Value} {ar : List Int} (har : IntsF F arv ar) {pv : Value} {p : List Int} (hp : IntsF F pv p) {tv : Value} {t : List Int} (ht : IntsF F tv t) (ho : termOk ar t = true) (hpo : termOk ar p = true) :
    Does prog 198 [.agg #[arv], pv, tv] F (L) (fun v F' L' => (.bool ((matchB ar p t).isSome) : Value) = v ∧ F = F' ∧ L = L') := by
 refine Does.of_X func198 rfl rfl rfl (X.seq (X.region (cX (XOp.box [arv] rfl rfl ?_))))
 intro b1
 refine XL.as (.bool (false)) rfl (XL.nil (X.seq (X.region (cX (XOp.loadN [arv] isAgg26 sizeOf26 rfl rfl (Rd.ownN [] rfl rfl) (XL.mv (pv) rfl (XL.mv (tv) rfl (cX (XOp.call (args := [.agg #[arv], pv, tv]) call150 rfl (match_spec har hp ht (ho := (by first | assumption | rfl | omega | simp)) (hpo := (by first | assumption | rfl | omega | simp))) ?_)))))))))
 rintro _ F1 _ le1 ⟨x1, rfl, hr1, rfl⟩
 refine XL.mv (.tuple #[.agg #[x1], .bool ((matchB ar p t).isSome)]) rfl (cX (XOp.extract (.agg #[x1]) rfl rfl (cX (XOp.extract (.bool ((matchB ar p t).isSome)) rfl rfl (cX (XOp.alloc [(.slice none 0 0)] zeroValue76 rfl ?_))))))
 intro b2
 refine cX (XOp.storeN [] _ [x1] sizeOf76 rfl rfl rfl (ones_cons (one_sl (RowsF.isSl hr1)) ones_nil) rfl rfl rfl (XL.as (.bool ((matchB ar p t).isSome)) rfl (XL.nil (X.seq (X.region (XL.mv (.bool ((matchB ar p t).isSome)) rfl (XL.as (.bool ((matchB ar p t).isSome)) rfl (XL.nil (X.ret (retEnd (L' := L) [.bool ((matchB ar p t).isSome)] (.bool ((matchB ar p t).isSome)) (.tmp rfl .nil) rfl rF le1 (sD (sD sR)) ?_))))))))))
 exact ⟨rfl, rfl, rfl⟩

/- impl.redex -/
theorem redex_spec {F : FH} {L : List HP} {arv : Value} {ar : List Int} (har : IntsF F arv ar) {rsv : Value} {rs : List (List Int × List Int)} (hrs : PairsF F rsv rs) {tv : Value} {t : List Int} (ht : IntsF F tv t) {p : Nat} {r : Nat} (hsys : sysOk ar rs = true) (ho : termOk ar t = true) (hp : p < t.length) (hr : r < rs.length) :
    Does prog 165 [.agg #[arv, rsv], tv, .int .i64 ((p : Int)), .int .i64 ((r : Int))] F (L) (fun v F' L' => (.bool (isRedex ar rs t p r) : Value) = v ∧ F = F' ∧ L = L') := by
 refine Does.of_X func165 rfl rfl rfl ?_
 have hnn := notNil_of_pos ht (by have := termOk_len ho; omega)
 have htl := termOk_len ho
 have hrl := (sysOk_iff.1 hsys).2.1
 have hsig := (sysOk_iff.1 hsys).1
 have hsl := sigOk_spec hsig
 have hR := ruleOk_iff.1 ((sysOk_iff.1 hsys).2.2 r hr)
 have hRl := hR.left
 have hRr := hR.right
 have hso := sub_ok ho hp
 refine X.seq (X.region (cX (XOp.box [arv, rsv] rfl rfl ?_)))
 intro b1
 refine XL.as (.bool (false)) rfl (XL.nil (X.seq ?_))
 obtain ⟨a1, a2, ha1, ha2, hr1, hr2⟩ := hrs.rd (i := r) (by omega)
 refine X.drawG [cellsH b1 [arv, rsv] 29] L 13 [[], [], [], [], [], [], [], [], [], [], [], [], []] [[], [0], [], [2], [], [3, 4], [5], [6], [], [8], [], [], [9, 10, 11]] [[], [], [], [], [], [], [], [], [], [], [], [], []] (phiG [fun FF us v => v = ptr b1 0, fun FF us v => v = (.agg #[arv] : Value), fun FF us v => v = ptr b1 1, fun FF us v => v = rsv, fun FF us v => v = (.int .i64 ((r : Int)) : Value), fun FF us v => v = (.pointer (some (elemA rsv (r * 2))) : Value), fun FF us v => v = (.pointer (some (elemA rsv (r * 2))) : Value), fun FF us v => v = a1, fun FF us v => v = ptr b1 0, fun FF us v => v = (.agg #[arv] : Value), fun FF us v => v = tv, fun FF us v => v = (.int .i64 ((p : Int)) : Value), fun FF us v => ((v) : Value) = v ∧ (IntsF FF (v) (sub ar t p)) ∧ (isNil (v) = false)]) (ownL [fun us v => [], fun us v => [], fun us v => [], fun us v => [], fun us v => [], fun us v => [], fun us v => [], fun us v => [], fun us v => [], fun us v => [], fun us v => [], fun us v => [], fun us v => []]) mixed rfl rfl (by kernel_rfl) (by kernel_rfl) (MonoG.get (mC (fun le h => h) (mC (fun le h => h) (mC (fun le h => h) (mC (fun le h => h) (mC (fun le h => h) (mC (fun le h => h) (mC (fun le h => h) (mC (fun le h => h) (mC (fun le h => h) (mC (fun le h => h) (mC (fun le h => h) (mC (fun le h => h) (mC (fun le h => ⟨h.1, h.2.1.mono le, h.2.2⟩) MonoG.nil)))))))))))))) ?_ ?_
 ·refine gC (fun vals Fs R leFs hpZ => ?_) ?_
  ·refine XG.op (XOp.fieldP (0) runUnderlying29 rfl sizeOf26 (by decide) rfl rfl ?_)
   exact ⟨rfl, rfl⟩
  refine gC (fun vals Fs R leFs hpZ => ?_) ?_
  ·replace har := har.mono leFs
   replace hrs := hrs.mono leFs
   replace ht := ht.mono leFs
   replace ha1 := ha1.mono leFs
   replace hr1 := Rd.monoA hr1 leFs
   rw [eS (l := [(0, ptr b1 0)]) ⟨(hpZ 0 (by decide)), trivial⟩]
   refine XG.op (XOp.loadN [arv] isAgg26 sizeOf26 rfl rfl (Rd.ownN [] rfl rfl) ?_)
   exact ⟨rfl, rfl⟩
  refine gC (fun vals Fs R leFs hpZ => ?_) ?_
  ·refine XG.op (XOp.fieldP (1) runUnderlying29 rfl sizeOf27 (by decide) rfl rfl ?_)
   exact ⟨rfl, rfl⟩
  refine gC (fun vals Fs R leFs hpZ => ?_) ?_
  ·replace har := har.mono leFs
   replace hrs := hrs.mono leFs
   replace ht := ht.mono leFs
   replace ha1 := ha1.mono leFs
   replace hr1 := Rd.monoA hr1 leFs
   rw [eS (l := [(2, ptr b1 1)]) ⟨(hpZ 2 (by decide)), trivial⟩]
   refine XG.op (XOp.load1 isAgg27 rfl (Rd.own [] rfl rfl) ?_)
   exact ⟨rfl, rfl⟩
  refine gC (fun vals Fs R leFs hpZ => ?_) ?_
  ·refine XG.op (XOp.move (.int .i64 ((r : Int))) rfl ?_)
   exact ⟨rfl, rfl⟩
  refine gC (fun vals Fs R leFs hpZ => ?_) ?_
  ·replace har := har.mono leFs
   replace hrs := hrs.mono leFs
   replace ht := ht.mono leFs
   replace ha1 := ha1.mono leFs
   replace hr1 := Rd.monoA hr1 leFs
   rw [eS (l := [(3, rsv), (4, (.int .i64 ((r : Int)) : Value))]) ⟨(hpZ 3 (by decide)), (hpZ 4 (by decide)), trivial⟩]
   refine XG.op (XOp.indexS r runUnderlying27 sizeOf117 rfl rfl rfl hrs.slv (by omega) rfl ?_)
   exact ⟨rfl, rfl⟩
  refine gC (fun vals Fs R leFs hpZ => ?_) ?_
  ·rw [eS (l := [(5, (.pointer (some (elemA rsv (r * 2))) : Value))]) ⟨(hpZ 5 (by decide)), trivial⟩]
   refine XG.op (XOp.fieldE (r * 2) runUnderlying117 rfl sizeOf24 (by decide) rfl rfl ?_)
   exact ⟨rfl, rfl⟩
  refine gC (fun vals Fs R leFs hpZ => ?_) ?_
  ·replace har := har.mono leFs
   replace ht := ht.mono leFs
   replace ha1 := ha1.mono leFs
   replace hr1 := Rd.monoA hr1 leFs
   rw [eS (l := [(6, (.pointer (some (elemA rsv (r * 2))) : Value))]) ⟨(hpZ 6 (by decide)), trivial⟩]
   refine XG.op (XOp.load1 isAgg24 rfl (hr1 _) ?_)
   exact ⟨rfl, rfl⟩
  refine gC (fun vals Fs R leFs hpZ => ?_) ?_
  ·refine XG.op (XOp.fieldP (0) runUnderlying29 rfl sizeOf26 (by decide) rfl rfl ?_)
   exact ⟨rfl, rfl⟩
  refine gC (fun vals Fs R leFs hpZ => ?_) ?_
  ·replace har := har.mono leFs
   replace ht := ht.mono leFs
   replace ha1 := ha1.mono leFs
   rw [eS (l := [(8, ptr b1 0)]) ⟨(hpZ 8 (by decide)), trivial⟩]
   refine XG.op (XOp.loadN [arv] isAgg26 sizeOf26 rfl rfl (Rd.ownN [] rfl rfl) ?_)
   exact ⟨rfl, rfl⟩
  refine gC (fun vals Fs R leFs hpZ => ?_) ?_
  ·refine XG.op (XOp.move (tv) rfl ?_)
   exact ⟨rfl, rfl⟩
  refine gC (fun vals Fs R leFs hpZ => ?_) ?_
  ·refine XG.op (XOp.move (.int .i64 ((p : Int))) rfl ?_)
   exact ⟨rfl, rfl⟩
  refine gC (fun vals Fs R leFs hpZ => ?_) ?_
  ·replace har := har.mono leFs
   replace ht := ht.mono leFs
   replace ha1 := ha1.mono leFs
   rw [eS (l := [(9, (.agg #[arv] : Value)), (10, tv), (11, (.int .i64 ((p : Int)) : Value))]) ⟨(hpZ 9 (by decide)), (hpZ 10 (by decide)), (hpZ 11 (by decide)), trivial⟩]
   refine XG.op (XOp.call (args := [.agg #[arv], tv, .int .i64 (p : Int)]) call138 rfl (subAt_spec (p := p) har ht (ho := (by first | assumption | rfl | omega | simp)) (hp := (by first | assumption | rfl | omega | simp)) (hnn := (by first | assumption | rfl | omega | simp))) ?_)
   rintro v2 _ _ _ ⟨rfl, rfl, hv2, hn2⟩
   exact ⟨⟨rfl, hv2, hn2⟩, rfl⟩
  exact stepsG.nil
 intro vals F1 le1 hphi
 obtain ⟨e12, f12_1ha, f12_1hn⟩ := hphi 12 (by decide)
 generalize hu1 : ((vals 12)) = u1 at e12 f12_1ha f12_1hn
 rw [eS (l := [(1, (.agg #[arv] : Value)), (7, a1), (12, u1)]) ⟨(hphi 1 (by decide)), (hphi 7 (by decide)), hu1, trivial⟩]
 replace har := har.mono le1
 replace ha1 := ha1.mono le1
 show XL _ _ _ _ _ _ _ (cellsH b1 [arv, rsv] 29 :: L)
 refine cX (XOp.call (args := [.agg #[arv], a1, u1]) call198 rfl (instance_spec har ha1 f12_1ha (ho := (by first | assumption | rfl | omega | simp)) (hpo := (by first | assumption | rfl | omega | simp))) ?_)
 rintro _ _ _ _ ⟨rfl, rfl, rfl⟩
 refine XL.as (.bool ((matchB ar ((rs.getD r ([], [])).1) ((sub ar t p))).isSome)) rfl (XL.nil (X.ret (retEnd (L' := L) [.bool ((matchB ar ((rs.getD r ([], [])).1) ((sub ar t p))).isSome)] (.bool ((matchB ar ((rs.getD r ([], [])).1) ((sub ar t p))).isSome)) (.tmp rfl .nil) rfl rF le1 (sD sR) ?_)))
 exact ⟨rfl, rfl, rfl⟩
end Go.Proofs.YtmaaifhmhclhdaaGreat
set_option linter.unusedSimpArgs false
set_option linter.unusedVariables false
namespace Go.Proofs.YtmaaifhmhclhdaaGreat
open Go X M Tryz

/- slices.Grow[[]int64,int64] -/
theorem GrowNil_spec {F : FH} {L : List HP}  {n : Nat} (hg1 : 1 ≤ n) (hn : n ≤ 400000000) :
    Does prog 204 [(.slice none 0 0), .int .i64 ((n : Int))] F (L) (fun v F' L' => F = F' ∧ IsSl v ∧ intsH 2 v ([]) :: L = L') := by
 refine Does.of_X func204 rfl rfl rfl (X.seq (X.region (XL.as ((.slice none 0 0)) rfl (XL.nil (X.seq (X.seq (X.region (XL.mv (.int .i64 ((n : Int))) rfl (cX (XOp.lss rfl rfl (XL.nil ?_)))))))))))
 refine X.condD (p := (n : Int) < 0) rfl (fun h1 => ?_) (fun h1 => ?_)
 ·omega
 refine X.skip (X.seq (X.seq (X.region (XL.mv (.int .i64 ((n : Int))) rfl (XL.mv ((.slice none 0 0)) rfl (cX (XOp.capNil runUnderlying24 rfl (XL.mv ((.slice none 0 0)) rfl (cX (XOp.lenS runUnderlying24 rfl SlV.nil (cX (XOp.subR (0 - (((0 : Nat) : Int))) rfl rfl (by omega) (by omega) (cX (XOp.subR (((n : Int)) - (0 - (((0 : Nat) : Int)))) rfl rfl (by omega) (by omega) (XL.as (.int .i64 (((n : Int)) - (0 - (((0 : Nat) : Int))))) rfl (XL.nil (X.seq (X.region ?_))))))))))))))))))
 refine XL.mv (.int .i64 (((n : Int)) - (0 - (((0 : Nat) : Int))))) rfl (cX (XOp.gtr rfl rfl (XL.nil ?_)))
 refine X.condD (p := (((n : Int)) - (0 - (((0 : Nat) : Int))) : Int) > 0) rfl (fun h2 => ?_) (fun h2 => ?_)
 ·refine X.region (XL.mv ((.slice none 0 0)) rfl (XL.mv ((.slice none 0 0)) rfl (cX (XOp.capNil runUnderlying24 rfl (cX (XOp.sliceNil runUnderlying24 sizeOf2 rfl ⟨_, rfl⟩ (XL.mv (.int .i64 (((n : Int)) - (0 - (((0 : Nat) : Int))))) rfl (cX (XOp.appendZ (s := 1) (bytes := 8) (n := (((n : Int)) - (0 - (((0 : Nat) : Int)))).toNat) [.int .i64 (0)] runUnderlying24 runUnderlying3 typeInfo2 rfl rfl rfl rfl rfl (by decide) rfl (by rw [show (((((n : Int)) - (0 - (((0 : Nat) : Int)))).toNat : Nat) : Int) = ((n : Int)) - (0 - (((0 : Nat) : Int))) from by omega]; rfl) (by omega) (by omega) (by omega) ?_)))))))))
  intro v1 hv1
  have hv2 : IsSl v1 := by obtain ⟨b0, c0, h0⟩ := hv1; exact ⟨_, _, _, h0⟩
  rw [intsH_zeros]
  refine XL.mv ((.slice none 0 0)) rfl (cX (XOp.lenS runUnderlying24 rfl SlV.nil (cX (XOp.sliceOwn (cs := List.map (Value.int .i64) ((List.replicate ((((n : Int)) - (0 - (((0 : Nat) : Int)))).toNat) 0))) [] _ 0 runUnderlying24 sizeOf2 rfl rfl ⟨_, rfl⟩ (Nat.zero_le _) ?_))))
  intro v2 hs1
  show XL _ _ _ _ _ _ _ (intsH 2 v2 ([]) :: L)
  refine XL.as (v2) rfl (XL.nil (X.seq (X.region (XL.mv (v2) rfl (XL.as (v2) rfl (XL.nil (X.ret (retEnd (L' := intsH 2 v2 ([]) :: L) [v2] (v2) (.tmp rfl .nil) rfl rF rF (sC sR) ?_))))))))
  refine ⟨rfl, hs1, ?_⟩
  have hxs : ([] : List Int) = [] := rfl
  exact congrArg (fun z => intsH 2 _ z :: L) hxs
 omega

/- slices.Concat[[]int64,int64] -/
theorem Concat_spec {F : FH} {L : List HP} {xsv : Value} {xs : List (List Int)} (hxs : RowsF F xsv xs) (hg1 : 1 ≤ xs.flatten.length) (hn : xs.length ≤ 10) (hb : ∀ i, i < xs.length → (xs.getD i []).length ≤ 4000000) :
    Does prog 186 [xsv] F (L) (fun v F' L' => F = F' ∧ IsSl v ∧ intsH 2 v xs.flatten :: L = L') := by
 refine Does.of_X func186 rfl rfl rfl (X.seq (X.region (XL.as ((.slice none 0 0)) rfl (XL.nil (X.seq (X.region (XL.as (.int .i64 (0)) rfl (XL.nil (X.seq (X.seq (X.region (XL.mv (xsv) rfl (cX (XOp.lenS runUnderlying47 rfl hxs.slv (XL.mv (.int .i64 (0)) rfl (XL.nil (X.block ?_)))))))))))))))))
 refine X.loop (α := Nat × Nat) (fun xQ => [(0, xsv), (3, .int .i64 (((xQ.2 : Nat) : Int))), (9, xsv), (10, .int .i64 ((xs.length : Int))), (11, .int .i64 (((xQ.1 : Nat) : Int)))]) (fun xQ => L) (fun xQ F' => F = F' ∧ (xQ.1 ≤ xs.length) ∧ (xQ.2 = (xs.take xQ.1).flatten.length) ∧ (xQ.2 ≤ xQ.1 * 4000000)) (fun xQ => xs.length - xQ.1) (0, 0) ⟨rfl, rfl, rfl, rfl, rfl, trivial⟩ sR ⟨rfl, (by (try dsimp only) <;> omega), (rfl), (by (try dsimp only) <;> omega)⟩ ?_
 rintro ⟨k, z⟩ rE _ _ ⟨rfl, hk, hz, hz2⟩
 show X _ _ _ _ (envs [(0, xsv), (3, .int .i64 ((z : Int))), (9, xsv), (10, .int .i64 ((xs.length : Int))), (11, .int .i64 ((k : Int)))] rE) _ (L)
 dsimp only at hk hz hz2
 have hbk := hb k
 have hft := fun h => congrArg List.length (flatten_take (xs := xs) (k := k) h)
 simp only [List.length_append] at hft
 refine X.seq (X.region (cX (XOp.lss rfl rfl (XL.nil (X.seq ?_)))))
 refine X.condD (p := (k : Int) < (xs.length : Int)) rfl (fun h1 => ?_) (fun h1 => ?_)
 ·refine X.skip (X.seq (X.block (X.seq (X.region (cX (XOp.indexS k runUnderlying47 sizeOf24 rfl rfl rfl hxs.slv (by omega) (Nat.mul_one _) ?_))))))
  obtain ⟨a1, ha1, hr1⟩ := hxs.rd (i := k) (by omega)
  refine cX (XOp.load1 isAgg24 rfl (hr1 _) (XL.as (a1) rfl (XL.nil (X.seq (X.region (XL.mv (.int .i64 ((z : Int))) rfl (XL.mv (a1) rfl (cX (XOp.lenS runUnderlying24 rfl ha1.slv (cX (XOp.addR (((z + (((xs.getD k [])).length) : Nat) : Int)) rfl rfl (by omega) (by omega) (XL.as (.int .i64 (((z + (((xs.getD k [])).length) : Nat) : Int))) rfl (XL.nil (X.seq (X.region (XL.mv (.int .i64 (((z + (((xs.getD k [])).length) : Nat) : Int))) rfl ?_))))))))))))))))
  refine cX (XOp.lss rfl rfl (XL.nil ?_))
  refine X.condD (p := (((z + (((xs.getD k [])).length) : Nat) : Int) : Int) < 0) rfl (fun h2 => ?_) (fun h2 => ?_)
  ·omega
  refine X.skip (X.region (cX (XOp.addR (((k + 1 : Nat) : Int)) rfl rfl (by omega) (by omega) (XL.mv (.int .i64 (((k + 1 : Nat) : Int))) rfl (XL.nil ?_)))))
  exact ⟨(k + 1, z + (((xs.getD k [])).length)), _, FLe.refl _, rF, ⟨rfl, rfl, rfl, rfl, rfl, trivial⟩, sR, ⟨rfl, (by (try dsimp only) <;> omega), (by (try dsimp only) <;> omega), (by (try dsimp only) <;> omega)⟩, (by omega)⟩
 refine X.exit (thenQ_exit (thenQ_exit (blockQ_exit (X.seq (X.region ?_)))))
 have hz1 : 1 ≤ z := by rw [hz, show xs.take k = xs from List.take_of_length_le (by omega)]; exact hg1
 refine XL.mv (.int .i64 ((z : Int))) rfl (cX (XOp.call (args := [(.slice none 0 0), .int .i64 (z : Int)]) call204 rfl (GrowNil_spec (n := z) (hg1 := (hz1)) (hn := (by omega))) ?_))
 rintro v1 _ _ _ ⟨rfl, hs1, rfl⟩
 refine XL.as (v1) rfl (XL.nil (X.seq (X.seq (X.region (XL.mv (xsv) rfl (cX (XOp.lenS runUnderlying47 rfl hxs.slv (XL.mv (.int .i64 (0)) rfl (XL.nil (X.block (X.loop (α := Nat × Value × List Int) (fun xQ => [(6, xQ.2.1), (25, xsv), (26, .int .i64 ((xs.length : Int))), (27, .int .i64 (((xQ.1 : Nat) : Int)))]) (fun xQ => intsH 2 xQ.2.1 xQ.2.2 :: L) (fun xQ F' => F = F' ∧ (IsSl xQ.2.1) ∧ (xQ.1 ≤ xs.length) ∧ (xQ.2.2 = (xs.take xQ.1).flatten)) (fun xQ => xs.length - xQ.1) (0, v1, ([])) ⟨rfl, rfl, rfl, rfl, trivial⟩ (sC sR) ⟨rfl, (hs1), (by (try dsimp only) <;> omega), (rfl)⟩ ?_)))))))))))
 rintro ⟨k, ov, os⟩ rE _ _ ⟨rfl, hov, hk, hos⟩
 show X _ _ _ _ (envs [(6, ov), (25, xsv), (26, .int .i64 ((xs.length : Int))), (27, .int .i64 ((k : Int)))] rE) _ (intsH 2 ov os :: L)
 dsimp only at hov hk hos
 have hbk := hb k
 have hol : os.length ≤ k * 4000000 := by rw [hos]; exact flatten_bound hb k (by omega)
 refine X.seq (X.region (cX (XOp.lss rfl rfl (XL.nil (X.seq ?_)))))
 refine X.condD (p := (k : Int) < (xs.length : Int)) rfl (fun h3 => ?_) (fun h3 => ?_)
 ·refine X.skip (X.seq (X.block (X.seq (X.region (cX (XOp.indexS k runUnderlying47 sizeOf24 rfl rfl rfl hxs.slv (by omega) (Nat.mul_one _) ?_))))))
  obtain ⟨a2, ha2, hr2⟩ := hxs.rd (i := k) (by omega)
  refine cX (XOp.load1 isAgg24 rfl (hr2 _) (XL.as (a2) rfl (XL.nil (X.region (XL.mv (ov) rfl (XL.mv (a2) rfl (cX (XOp.appendI [] _ runUnderlying24 typeInfo2 rfl rfl rfl rfl rfl rfl ha2 (by (try simp only [List.length_append, List.length_nil, List.length_cons, List.length_singleton, List.length_take, List.length_drop]); omega) ?_))))))))
  intro v2 hs2 hn1 hm1
  refine XL.as (v2) rfl (XL.nil (X.region (cX (XOp.addR (((k + 1 : Nat) : Int)) rfl rfl (by omega) (by omega) (XL.mv (.int .i64 (((k + 1 : Nat) : Int))) rfl (XL.nil ?_))))))
  exact ⟨(k + 1, v2, os ++ ((xs.getD k []))), _, FLe.refl _, rF, ⟨rfl, rfl, rfl, rfl, trivial⟩, (sC sR), ⟨rfl, (hs2), (by (try dsimp only) <;> omega), ((by dsimp only; rw [hos, flatten_take (by omega)]))⟩, (by omega)⟩
 refine X.exit (thenQ_exit (thenQ_exit (blockQ_exit (X.seq (X.region (XL.mv (ov) rfl (XL.as (ov) rfl (XL.nil (X.ret (retEnd (L' := intsH 2 ov os :: L) [ov] (ov) (.tmp rfl .nil) rfl rF rF (sC sR) ?_))))))))))
 refine ⟨rfl, hov, ?_⟩
 have hxs : (xs.flatten : List Int) = os := by rw [hos, List.take_of_length_le (by omega)]
 exact congrArg (fun z => intsH 2 _ z :: L) hxs

/- impl.put -/
theorem put_spec {F : FH} {L : List HP} {arv : Value} {ar : List Int} (har : IntsF F arv ar) {tv : Value} {t : List Int} (ht : IntsF F tv t) {p : Nat} {uv : Value} {u : List Int} (hu : IntsF F uv u) (ho : termOk ar t = true) (hp : p < t.length) (hul : 1 ≤ u.length ∧ u.length ≤ 4000000) :
    Does prog 139 [.agg #[arv], tv, .int .i64 ((p : Int)), uv] F (L) (fun v F' L' => ∃ (a : Value), (.tuple #[a, .bool ((putL ar t p u).isSome)] : Value) = v ∧ (IntsF F' a ((putL ar t p u).getD [])) ∧ ((putL ar t p u).isSome = true → isNil a = false) ∧ (Fresh F F' (intsH 2 a ((putL ar t p u).getD []))) ∧ L = L') := by
 refine Does.of_X func139 rfl rfl rfl ?_
 have hsig := termOk_sig ho
 have hsl := sigOk_spec hsig
 have htl := termOk_len ho
 have hee := endN_spec ho hp
 refine X.seq (X.region (cX (XOp.box [arv] rfl rfl ?_)))
 intro b1
 refine XL.as ((.slice none 0 0)) rfl (XL.as (.bool (false)) rfl (XL.nil (X.seq ?_)))
 refine X.drawG [cellsH b1 [arv] 26] L 10 [[], [], [], [], [], [], [], [], [], []] [[], [], [0, 1], [], [], [], [], [], [5, 6, 7], [4, 8]] [[], [], [], [], [], [], [], [], [], []] (phiG [fun FF us v => v = tv, fun FF us v => v = (.int .i64 ((p : Int)) : Value), fun FF us v => (v : Value) = v ∧ (IntsF FF v ((t.drop 0).take (p - 0))) ∧ (isNil v = isNil tv), fun FF us v => v = uv, fun FF us v => v = tv, fun FF us v => v = (.agg #[arv] : Value), fun FF us v => v = tv, fun FF us v => v = (.int .i64 ((p : Int)) : Value), fun FF us v => v = (.int .i64 (((endN ar t p : Nat) : Int)) : Value), fun FF us v => (v : Value) = v ∧ (IntsF FF v ((t.drop (endN ar t p)).take (((t).length) - (endN ar t p)))) ∧ (isNil v = isNil tv)]) (ownL [fun us v => [], fun us v => [], fun us v => [], fun us v => [], fun us v => [], fun us v => [], fun us v => [], fun us v => [], fun us v => [], fun us v => []]) mixed rfl rfl (by kernel_rfl) (by kernel_rfl) (MonoG.get (mC (fun le h => h) (mC (fun le h => h) (mC (fun le h => ⟨h.1, h.2.1.mono le, h.2.2⟩) (mC (fun le h => h) (mC (fun le h => h) (mC (fun le h => h) (mC (fun le h => h) (mC (fun le h => h) (mC (fun le h => h) (mC (fun le h => ⟨h.1, h.2.1.mono le, h.2.2⟩) MonoG.nil))))))))))) ?_ ?_
 ·refine gC (fun vals Fs R leFs hpZ => ?_) ?_
  ·refine XG.op (XOp.move (tv) rfl ?_)
   exact ⟨rfl, rfl⟩
  refine gC (fun vals Fs R leFs hpZ => ?_) ?_
  ·refine XG.op (XOp.move (.int .i64 ((p : Int))) rfl ?_)
   exact ⟨rfl, rfl⟩
  refine gC (fun vals Fs R leFs hpZ => ?_) ?_
  ·replace har := har.mono leFs
   replace ht := ht.mono leFs
   replace hu := hu.mono leFs
   rw [eS (l := [(0, tv), (1, (.int .i64 ((p : Int)) : Value))]) ⟨(hpZ 0 (by decide)), (hpZ 1 (by decide)), trivial⟩]
   refine XG.op (XOp.sliceI 0 p runUnderlying24 sizeOf2 rfl ht rfl ⟨_, rfl⟩ (by omega) (by omega) ?_)
   intro v3 hv3 hn3
   exact ⟨⟨rfl, hv3, hn3⟩, rfl⟩
  refine gC (fun vals Fs R leFs hpZ => ?_) ?_
  ·refine XG.op (XOp.move (uv) rfl ?_)
   exact ⟨rfl, rfl⟩
  refine gC (fun vals Fs R leFs hpZ => ?_) ?_
  ·refine XG.op (XOp.move (tv) rfl ?_)
   exact ⟨rfl, rfl⟩
  refine gC (fun vals Fs R leFs hpZ => ?_) ?_
  ·replace har := har.mono leFs
   replace ht := ht.mono leFs
   replace hu := hu.mono leFs
   refine XG.op (XOp.loadN [arv] isAgg26 sizeOf26 rfl rfl (Rd.ownN [] rfl rfl) ?_)
   exact ⟨rfl, rfl⟩
  refine gC (fun vals Fs R leFs hpZ => ?_) ?_
  ·refine XG.op (XOp.move (tv) rfl ?_)
   exact ⟨rfl, rfl⟩
  refine gC (fun vals Fs R leFs hpZ => ?_) ?_
  ·refine XG.op (XOp.move (.int .i64 ((p : Int))) rfl ?_)
   exact ⟨rfl, rfl⟩
  refine gC (fun vals Fs R leFs hpZ => ?_) ?_
  ·replace har := har.mono leFs
   replace ht := ht.mono leFs
   replace hu := hu.mono leFs
   rw [eS (l := [(5, (.agg #[arv] : Value)), (6, tv), (7, (.int .i64 ((p : Int)) : Value))]) ⟨(hpZ 5 (by decide)), (hpZ 6 (by decide)), (hpZ 7 (by decide)), trivial⟩]
   refine XG.op (XOp.call (args := [.agg #[arv], tv, .int .i64 (p : Int)]) call118 rfl (endAt_ok (p := p) har ht (ho := (by first | assumption | rfl | omega | (left; simp; done) | (right; simp; done))) (hp := (by first | assumption | rfl | omega | (left; simp; done) | (right; simp; done)))) ?_)
   rintro _ _ _ _ ⟨rfl, rfl, rfl⟩
   exact ⟨rfl, rfl⟩
  refine gC (fun vals Fs R leFs hpZ => ?_) ?_
  ·replace har := har.mono leFs
   replace ht := ht.mono leFs
   replace hu := hu.mono leFs
   rw [eS (l := [(4, tv), (8, (.int .i64 (((endN ar t p : Nat) : Int)) : Value))]) ⟨(hpZ 4 (by decide)), (hpZ 8 (by decide)), trivial⟩]
   refine XG.op (XOp.sliceI (endN ar t p) ((t).length) runUnderlying24 sizeOf2 rfl ht ⟨_, rfl⟩ rfl (by omega) (by omega) ?_)
   intro v4 hv4 hn4
   exact ⟨⟨rfl, hv4, hn4⟩, rfl⟩
  exact stepsG.nil
 intro vals F1 le1 hphi
 obtain ⟨e2, f2_1hv, f2_1hn⟩ := hphi 2 (by decide)
 obtain ⟨e9, f9_1hv, f9_1hn⟩ := hphi 9 (by decide)
 generalize hu1 : (vals 2) = u1 at e2 f2_1hv f2_1hn e9 f9_1hv f9_1hn
 generalize hu2 : (vals 9) = u2 at e2 f2_1hv f2_1hn e9 f9_1hv f9_1hn
 rw [eS (l := [(2, u1), (3, uv), (9, u2)]) ⟨hu1, (hphi 3 (by decide)), hu2, trivial⟩]
 replace hu := hu.mono le1
 show XL _ _ _ _ _ _ _ (cellsH b1 [arv] 26 :: L)
 refine cX (XOp.buildSlice (s := 1) [u1, uv, u2] [(.slice none 0 0)] [(0, [u1]), (1, [uv]), (2, [u2])] runUnderlying47 sizeOf24 zeroValue24 rfl (by decide) rfl (.cons (cells_one (IntsF.isSl f2_1hv)) (.cons (cells_one (IntsF.isSl hu)) (.cons (cells_one (IntsF.isSl f9_1hv)) CellsAre.nil))) rfl ?_)
 intro v5 hv5
 have hc1 : RowsC F1 [u1, uv, u2] ([((t.drop 0).take (p - 0)), u, ((t.drop (endN ar t p)).take (((t).length) - (endN ar t p)))] : List (List Int)) := (RowsC.snoc (RowsC.snoc (RowsC.snoc (CO.nil : RowsC F1 [] []) f2_1hv) hu) f9_1hv)
 refine XL.freezeF [] _ _ rfl (fun F2 le2 hz1 => ?_)
 replace hc1 := hc1.mono le2
 have hf1 : RowsF F2 v5 (([((t.drop 0).take (p - 0)), u, ((t.drop (endN ar t p)).take (((t).length) - (endN ar t p)))] : List (List Int))) := CO.fz hc1 (by first | rfl | omega | (rw [List.length_set]; omega) | (simp; done)) hz1.fz
 refine cX (XOp.frzF <| XOp.call (args := [v5]) call186 rfl (Concat_spec hf1 (hg1 := (by simp; omega)) (hn := (by first | assumption | rfl | omega | simp)) (hb := (fun i hi => by match i, hi with | 0, _ => simp; omega | 1, _ => simp; omega | 2, _ => simp; omega))) ?_)
 rintro v6 _ _ _ ⟨rfl, hs1, rfl⟩
 refine ⟨_, _, rfl, fun F3 le3 hz2 => ?_⟩
 have hf2 : IntsF F3 v6 (((([((t.drop 0).take (p - 0)), u, ((t.drop (endN ar t p)).take (((t).length) - (endN ar t p)))] : List (List Int))).flatten)) := intsH.fz (xs := ((([((t.drop 0).take (p - 0)), u, ((t.drop (endN ar t p)).take (((t).length) - (endN ar t p)))] : List (List Int))).flatten)) hz2.fz
 refine XL.as (v6) rfl (XL.nil (X.seq (X.seq (X.region (XL.mv (v6) rfl (cX (XOp.lenS runUnderlying24 rfl hf2.slv (cX (XOp.gtr rfl rfl (XL.nil ?_))))))))))
 refine X.condD (p := ((((((([((t.drop 0).take (p - 0)), u, ((t.drop (endN ar t p)).take (((t).length) - (endN ar t p)))] : List (List Int))).flatten)).length : Nat) : Int) : Int) > 60) rfl (fun h1 => ?_) (fun h1 => ?_)
 ·refine X.seq (X.region (XL.as ((.slice none 0 0)) rfl (XL.as (.bool (false)) rfl (XL.nil (X.ret (thenQ_ret (retEnd (L' := L) [(.slice none 0 0), .bool (false)] (.tuple #[(.slice none 0 0), .bool (false)]) (.tmp rfl (.tmp rfl .nil)) rfl (FLe.trans (FLe.trans le1 le2) le3) rF (sD sR) ?_)))))))
  have hz : putL ar t p u = none := putL_none put_flat (by omega)
  exact ⟨_, by rw [hz]; rfl, by rw [hz]; exact IntsF.nilV, fun h => (by rw [hz] at h; cases h), by rw [hz]; exact Fresh.ofNil _, rfl⟩
 refine X.skip (X.seq (X.region (XL.mv (v6) rfl (XL.as (v6) rfl (XL.as (.bool (true)) rfl (XL.nil (X.ret (retEnd (L' := L) [v6, .bool (true)] (.tuple #[v6, .bool (true)]) (.tmp rfl (.tmp rfl .nil)) rfl (FLe.trans (FLe.trans le1 le2) le3) rF (sD sR) ?_))))))))
 have hz := putL_some (ar := ar) (t := t) (p := p) (u := u) put_flat (by omega)
 exact ⟨_, by rw [hz]; rfl, by rw [hz]; exact hf2, fun _ => notNil_of_pos hf2 (by rw [put_flat]; simp; omega), by rw [hz]; exact (hz2.base (FLe.trans le1 le2)), rfl⟩

/- (impl.Subst).byVar -/
theorem byVar_spec {F : FH} {L : List HP} {sv : Value} {s : List (List Int)} (hs : RowsF F sv s) {i : Nat} (hsl : s.length ≤ 4000000) :
    Does prog 196 [.agg #[sv], .int .i64 ((i : Int))] F (L) (fun v F' L' => F = F' ∧ ∃ (a : Value), (a : Value) = v ∧ (IntsF F' a (s.getD i [])) ∧ (isNil a = decide (s.getD i [] = [])) ∧ L = L') := by
 refine Does.of_X func196 rfl rfl rfl (X.seq (X.region (cX (XOp.box [sv] rfl rfl ?_))))
 intro b1
 refine XL.as ((.slice none 0 0)) rfl (XL.nil (X.seq (X.seq (X.region (XL.mv (.int .i64 ((i : Int))) rfl (cX (XOp.fieldP (0) runUnderlying76 rfl sizeOf47 (by decide) rfl rfl (cX (XOp.load1 isAgg47 rfl (Rd.own [] rfl rfl) (cX (XOp.lenS runUnderlying47 rfl hs.slv (cX (XOp.geq rfl rfl (XL.mv (.bool (decide ((i : Int) ≥ (s.length : Int)))) rfl ?_))))))))))))))
 by_cases h1 : (i : Int) ≥ (s.length : Int)
 ·refine XL.no (t := 10) rfl (vT h1) (XL.no (t := 10) rfl (vT h1) (XL.no (t := 10) rfl (vT h1) (XL.no (t := 10) rfl (vT h1) (XL.no (t := 10) rfl (vT h1) (XL.no (t := 10) rfl (vT h1) (XL.no (t := 10) rfl (vT h1) (cX (XOp.pickT (.bool (true)) (vT h1) rfl (XL.nil (X.condT rfl ?_))))))))))
  refine X.seq (X.region (XL.as ((.slice none 0 0)) rfl (XL.nil (X.ret (thenQ_ret (retEnd (L' := L) [(.slice none 0 0)] ((.slice none 0 0)) (.tmp rfl .nil) rfl rF rF (sD sR) ?_))))))
  have e : s.getD i [] = [] := by first | exact List.eq_nil_of_length_eq_zero (by omega) | (rw [List.getD_eq_getElem?_getD, List.getElem?_eq_none (by omega)]; rfl)
  exact ⟨rfl, _, rfl, by rw [e]; exact IntsF.nilV, by rw [e]; rfl, rfl⟩
 refine XL.yes (t := 10) rfl (vF h1) (XOp.fieldP (0) runUnderlying76 rfl sizeOf47 (by decide) rfl rfl (XL.yes (t := 10) rfl (vF h1) (XOp.load1 isAgg47 rfl (Rd.own [] rfl rfl) (XL.yes (t := 10) rfl (vF h1) (XOp.move (.int .i64 ((i : Int))) rfl (XL.yes (t := 10) rfl (vF h1) (XOp.indexS i runUnderlying47 sizeOf24 rfl rfl rfl hs.slv (by omega) (Nat.mul_one _) ?_)))))))
 obtain ⟨a1, ha1, hr1⟩ := hs.rd (i := i) (by omega)
 refine XL.yes (t := 10) rfl (vF h1) (XOp.load1 isAgg24 rfl (hr1 _) (XL.yes (t := 10) rfl (vF h1) (XOp.lenS runUnderlying24 rfl ha1.slv (XL.yes (t := 10) rfl (vF h1) (XOp.eql rfl rfl (cX (XOp.pickF (.bool (decide ((((((s.getD i [])).length : Nat) : Int) : Int) = 0))) (vF h1) rfl (XL.nil ?_))))))))
 refine X.condD (p := (((((s.getD i [])).length : Nat) : Int) : Int) = 0) rfl (fun h2 => ?_) (fun h2 => ?_)
 ·refine X.seq (X.region (XL.as ((.slice none 0 0)) rfl (XL.nil (X.ret (thenQ_ret (retEnd (L' := L) [(.slice none 0 0)] ((.slice none 0 0)) (.tmp rfl .nil) rfl rF rF (sD sR) ?_))))))
  have e : s.getD i [] = [] := by first | exact List.eq_nil_of_length_eq_zero (by omega) | (rw [List.getD_eq_getElem?_getD, List.getElem?_eq_none (by omega)]; rfl)
  exact ⟨rfl, _, rfl, by rw [e]; exact IntsF.nilV, by rw [e]; rfl, rfl⟩
 refine X.skip (X.seq (X.region (cX (XOp.fieldP (0) runUnderlying76 rfl sizeOf47 (by decide) rfl rfl (cX (XOp.load1 isAgg47 rfl (Rd.own [] rfl rfl) (XL.mv (.int .i64 ((i : Int))) rfl (cX (XOp.indexS i runUnderlying47 sizeOf24 rfl rfl rfl hs.slv (by omega) (Nat.mul_one _) (cX (XOp.load1 isAgg24 rfl (hr1 _) (XL.as (a1) rfl (XL.nil (X.ret (retEnd (L' := L) [a1] (a1) (.tmp rfl .nil) rfl rF rF (sD sR) ?_)))))))))))))))
 have e : s.getD i [] ≠ [] := by intro e; have := congrArg List.length e; simp only [List.length_nil] at this; omega
 exact ⟨rfl, _, rfl, ha1, by rw [notNil_of_pos ha1 (List.length_pos_iff.2 e)]; exact (decide_eq_false e).symm, rfl⟩

/- (impl.Subst).lookup$1 -/
theorem lookup1_spec {F : FH} {L : List HP} {n : Int} {sv : Value} {s : List (List Int)} (hs : RowsF F sv s) {b : Nat} (hzb : FzC F b [sv]) (hsl : s.length ≤ 4000000) (hg : -4000000 ≤ n) :
    Does prog 208 [.int .i64 (n), ptr b 0] F (L) (fun v F' L' => F = F' ∧ ∃ (a : Value), (a : Value) = v ∧ (IntsF F' a (lkN s n)) ∧ (isNil a = decide (lkN s n = [])) ∧ L = L') := by
 refine Does.of_X func208 rfl rfl rfl (X.seq (X.region (XL.as ((.slice none 0 0)) rfl (XL.nil (X.seq (X.seq (X.region (XL.mv (.int .i64 (n)) rfl (cX (XOp.geq rfl rfl (XL.nil ?_)))))))))))
 refine X.condD (p := (n : Int) ≥ 0) rfl (fun h1 => ?_) (fun h1 => ?_)
 ·refine X.seq (X.region (XL.as ((.slice none 0 0)) rfl (XL.nil (X.ret (thenQ_ret (retEnd (L' := L) [(.slice none 0 0)] ((.slice none 0 0)) (.tmp rfl .nil) rfl rF rF sR ?_))))))
  have e : lkN s n = [] := lkN_pos (by omega)
  exact ⟨rfl, _, rfl, by rw [e]; exact IntsF.nilV, by rw [e]; rfl, rfl⟩
 refine X.skip (X.seq (X.region (cX (XOp.loadN [sv] isAgg76 sizeOf76 rfl rfl (FzC.rd hzb rfl) (XL.mv (.int .i64 (n)) rfl (cX (XOp.subR ((-1) - n) rfl rfl (by omega) (by omega) (cX (XOp.call (args := [.agg #[sv], .int .i64 ((((-1) - n).toNat : Nat) : Int)]) call196 (by rw [show ((((-1) - n).toNat : Nat) : Int) = (-1) - n from by omega]; rfl) (byVar_spec (i := ((-1) - n).toNat) hs (hsl := (by first | assumption | rfl | omega | simp))) ?_)))))))))
 rintro _ _ _ _ ⟨rfl, x1, rfl, hr1, hr2, rfl⟩
 refine XL.as (x1) rfl (XL.nil (X.ret (retEnd (L' := L) [x1] (x1) (.tmp rfl .nil) rfl rF rF sR ?_)))
 have e : lkN s n = s.getD (varIx n) [] := lkN_neg (by omega)
 exact ⟨rfl, _, rfl, by rw [e]; exact hr1, by rw [e]; exact hr2, rfl⟩

/- (impl.Subst).lookup -/
theorem lookup_spec {F : FH} {L : List HP} {sv : Value} {s : List (List Int)} (hs : RowsF F sv s) :
    Does prog 195 [.agg #[sv]] F (L) (fun v F' L' => ∃ (b : Nat), (.func (.func 208) #[] #[ptr b 0] : Value) = v ∧ (FzC F' b [sv]) ∧ L = L') := by
 refine Does.of_X func195 rfl rfl rfl (X.seq (X.region (cX (XOp.box [sv] rfl rfl ?_))))
 intro b1
 refine XL.as (.nilFunc) rfl (XL.nil (X.seq (X.region (cX (XOp.makeFuncL [] [ptr b1 0] rfl rfl (XL.as (.func (.func 208) #[] #[ptr b1 0]) rfl (XL.nil (X.freeze [] _ _ rfl (fun F1 le1 hz1 => ?_)))))))))
 have hf1 : FzC F1 b1 [sv] := Fz.cells hz1
 refine X.ret (retEnd (L' := L) [.func (.func 208) #[] #[ptr b1 0]] (.func (.func 208) #[] #[ptr b1 0]) (.tmp rfl .nil) rfl le1 rF sR ?_)
 exact ⟨_, rfl, hf1, rfl⟩

/- impl.fill -/
theorem fill_spec {F : FH} {L : List HP} {sv : Value} {s : List (List Int)} (hs : RowsF F sv s) {tv : Value} {t : List Int} (ht : IntsF F tv t) (hsl : s.length ≤ 4000000) (hsb : ∀ i, (s.getD i []).length ≤ 4000000) (htl : t.length ≤ 4000000) (htg : ∀ k, k < t.length → -4000000 ≤ t.getD k 0) :
    Does prog 158 [.agg #[sv], tv] F (L) (fun v F' L' => ∃ (a : Value), (.tuple #[a, .bool ((fillL s t).isSome)] : Value) = v ∧ (IntsF F' a ((fillL s t).getD [])) ∧ (Fresh F F' (intsH 2 a ((fillL s t).getD []))) ∧ L = L') := by
 refine Does.of_X func158 rfl rfl rfl (X.seq (X.region (cX (XOp.box [sv] rfl rfl ?_))))
 intro b1
 refine XL.as ((.slice none 0 0)) rfl (XL.as (.bool (false)) rfl (XL.nil (X.seq (X.region (cX (XOp.loadN [sv] isAgg76 sizeOf76 rfl rfl (Rd.ownN [] rfl rfl) (cX (XOp.call (args := [.agg #[sv]]) call195 rfl (lookup_spec hs) ?_))))))))
 rintro _ F1 _ le1 ⟨x1, rfl, hr1, rfl⟩
 replace hs := hs.mono le1
 replace ht := ht.mono le1
 refine XL.as (.func (.func 208) #[] #[ptr x1 0]) rfl (XL.nil (X.seq (X.region (XL.mv (tv) rfl (cX (XOp.lenS runUnderlying24 rfl ht.slv (cX (XOp.makeSlice0 (n := (t).length) (bytes := 8) [.int .i64 (0)] runUnderlying24 sizeOf2 typeInfo2 rfl zeroValue2 rfl rfl rfl rfl (by omega) (by omega) ?_))))))))
 intro v1 hv1
 have hs1 : IsSl v1 := by obtain ⟨b0, h0⟩ := hv1; exact ⟨_, _, _, h0⟩
 show XL _ _ _ _ _ _ _ (intsH 2 v1 ([]) :: cellsH b1 [sv] 76 :: L)
 refine XL.as (v1) rfl (XL.nil (X.seq (X.seq (X.region (XL.mv (tv) rfl (cX (XOp.lenS runUnderlying24 rfl ht.slv (XL.mv (.int .i64 (0)) rfl (XL.nil (X.block (X.loop (α := Nat × Value × List Int) (fun xQ => [(6, .func (.func 208) #[] #[ptr x1 0]), (7, xQ.2.1), (16, tv), (17, .int .i64 ((t.length : Int))), (18, .int .i64 (((xQ.1 : Nat) : Int)))]) (fun xQ => intsH 2 xQ.2.1 xQ.2.2 :: cellsH b1 [sv] 76 :: L) (fun xQ F' => F1 = F' ∧ (IsSl xQ.2.1) ∧ (xQ.1 ≤ t.length) ∧ (fillL s t = fillGo s (t.drop xQ.1) xQ.2.2) ∧ (xQ.2.2.length ≤ 60)) (fun xQ => t.length - xQ.1) (0, v1, []) ⟨rfl, rfl, rfl, rfl, rfl, trivial⟩ (sC (sC sR)) ⟨rfl, (hs1), (by (try dsimp only) <;> omega), (rfl), (by simp)⟩ ?_)))))))))))
 rintro ⟨k, ov, os⟩ rE _ _ ⟨rfl, hov, hk, hm, hol⟩
 show X _ _ _ _ (envs [(6, .func (.func 208) #[] #[ptr x1 0]), (7, ov), (16, tv), (17, .int .i64 ((t.length : Int))), (18, .int .i64 ((k : Int)))] rE) _ (intsH 2 ov os :: cellsH b1 [sv] 76 :: L)
 dsimp only at hov hk hm hol
 have htk := htg k
 refine X.seq (X.region (cX (XOp.lss rfl rfl (XL.nil (X.seq ?_)))))
 refine X.condD (p := (k : Int) < (t.length : Int)) rfl (fun h1 => ?_) (fun h1 => ?_)
 ·refine X.skip (X.seq (X.block (X.seq (X.region (cX (XOp.indexS k runUnderlying24 sizeOf2 rfl rfl rfl ht.slv (by omega) (Nat.mul_one _) (cX (XOp.load1 isAgg2 rfl (ht.rd (by omega)) (XL.as (.int .i64 (t.getD k 0)) rfl (XL.nil (X.seq (X.seq (X.region (XL.mv (.func (.func 208) #[] #[ptr x1 0]) rfl (XL.mv (.int .i64 (t.getD k 0)) rfl (cX (XOp.callV (first := []) (captured := [ptr x1 0]) (args := [.int .i64 (t.getD k 0), ptr x1 0]) call208 rfl rfl (lookup1_spec (n := t.getD k 0) hs hr1 (hsl := (by first | assumption | rfl | omega | simp)) (hg := (by first | assumption | rfl | omega | simp))) ?_)))))))))))))))))
  rintro _ _ _ _ ⟨rfl, x2, rfl, hr2, hr3, rfl⟩
  skip
  refine XL.as (x2) rfl (XL.nil (X.seq (X.region (XL.mv (x2) rfl (cX (XOp.eqNil runUnderlying24 rfl rfl (IntsF.isSl hr2) (XL.nil ?_)))))))
  refine X.cond (t := isNil x2) rfl (fun h2 => ?_) (fun h2 => ?_)
  ·refine X.region (XL.mv (ov) rfl (XL.mv (.int .i64 (t.getD k 0)) rfl (cX (XOp.buildSlice (s := 1) [.int .i64 (t.getD k 0)] [.int .i64 (0)] [(0, [.int .i64 (t.getD k 0)])] runUnderlying24 sizeOf2 zeroValue2 rfl (by decide) rfl (.cons rfl CellsAre.nil) rfl ?_))))
   intro v2 hv2
   refine cX (XOp.append1 (u := t.getD k 0) [_] _ runUnderlying24 typeInfo2 rfl rfl rfl rfl rfl rfl (SlV.own [] rfl) (Rd.sl [] rfl rfl) (by (try simp only [List.length_append, List.length_nil, List.length_cons, List.length_singleton, List.length_take, List.length_drop]); omega) ?_)
   intro v3 hs2 hn1
   refine XL.as (v3) rfl (XL.nil (X.seq (X.region (XL.mv (v3) rfl (cX (XOp.lenS runUnderlying24 rfl (intsH.slv [_] rfl) (cX (XOp.gtr rfl rfl (XL.nil ?_)))))))))
   refine X.condD (p := ((((os ++ [t.getD k 0]).length : Nat) : Int) : Int) > 60) rfl (fun h3 => ?_) (fun h3 => ?_)
   ·refine X.seq (X.region (XL.as ((.slice none 0 0)) rfl (XL.as (.bool (false)) rfl (XL.nil (X.ret (blockQ_ret (thenQ_ret (thenQ_ret (blockQ_ret (thenQ_ret (retEnd (L' := L) [(.slice none 0 0), .bool (false)] (.tuple #[(.slice none 0 0), .bool (false)]) (.tmp rfl (.tmp rfl .nil)) rfl le1 rF (sD (sD (sD sR))) ?_)))))))))))
    have hz : fillL s t = none := hm.trans (fillGo_long (a := os ++ [t.getD k 0]) (by omega) (by rw [lk_of_nil (of_decide_eq_true (hr3.symm.trans (by assumption)))]) (by omega))
    exact ⟨_, by rw [hz]; rfl, by rw [hz]; exact IntsF.nilV, by rw [hz]; exact Fresh.ofNil _, rfl⟩
   refine X.skip (X.region (cX (XOp.addR (((k + 1 : Nat) : Int)) rfl rfl (by omega) (by omega) (XL.mv (.int .i64 (((k + 1 : Nat) : Int))) rfl (XL.nil ?_)))))
   exact ⟨(k + 1, v3, os ++ [t.getD k 0]), _, FLe.refl _, rF, ⟨rfl, rfl, rfl, rfl, rfl, trivial⟩, (sD (sC (sC sR))), ⟨rfl, (hs2), (by (try dsimp only) <;> omega), (by dsimp only; exact hm.trans (fillGo_next (by omega) (by rw [lk_of_nil (of_decide_eq_true (hr3.symm.trans (by assumption)))]) (by omega))), (by dsimp only; omega)⟩, (by omega)⟩
  refine X.region ?_
  have hlb : (lkN s (t.getD k 0)).length ≤ 4000000 := lkN_bound hsb
  refine XL.mv (ov) rfl (XL.mv (x2) rfl (cX (XOp.appendI [] _ runUnderlying24 typeInfo2 rfl rfl rfl rfl rfl rfl hr2 (by (try simp only [List.length_append, List.length_nil, List.length_cons, List.length_singleton, List.length_take, List.length_drop]); omega) ?_)))
  intro v4 hs3 hn2 hm1
  refine XL.as (v4) rfl (XL.nil (X.seq (X.region (XL.mv (v4) rfl (cX (XOp.lenS runUnderlying24 rfl (intsH.slv [] rfl) (cX (XOp.gtr rfl rfl (XL.nil ?_)))))))))
  refine X.condD (p := ((((os ++ (lkN s (t.getD k 0))).length : Nat) : Int) : Int) > 60) rfl (fun h4 => ?_) (fun h4 => ?_)
  ·refine X.seq (X.region (XL.as ((.slice none 0 0)) rfl (XL.as (.bool (false)) rfl (XL.nil (X.ret (blockQ_ret (thenQ_ret (thenQ_ret (blockQ_ret (thenQ_ret (retEnd (L' := L) [(.slice none 0 0), .bool (false)] (.tuple #[(.slice none 0 0), .bool (false)]) (.tmp rfl (.tmp rfl .nil)) rfl le1 rF (sD (sD sR)) ?_)))))))))))
   have hz : fillL s t = none := hm.trans (fillGo_long (a := os ++ (lkN s (t.getD k 0))) (by omega) (by rw [lk_of_ne (of_decide_eq_false (hr3.symm.trans (by assumption)))]) (by omega))
   exact ⟨_, by rw [hz]; rfl, by rw [hz]; exact IntsF.nilV, by rw [hz]; exact Fresh.ofNil _, rfl⟩
  refine X.skip (X.region (cX (XOp.addR (((k + 1 : Nat) : Int)) rfl rfl (by omega) (by omega) (XL.mv (.int .i64 (((k + 1 : Nat) : Int))) rfl (XL.nil ?_)))))
  exact ⟨(k + 1, v4, os ++ (lkN s (t.getD k 0))), _, FLe.refl _, rF, ⟨rfl, rfl, rfl, rfl, rfl, trivial⟩, (sC (sC sR)), ⟨rfl, (hs3), (by (try dsimp only) <;> omega), (by dsimp only; exact hm.trans (fillGo_next (by omega) (by rw [lk_of_ne (of_decide_eq_false (hr3.symm.trans (by assumption)))]) (by omega))), (by dsimp only; omega)⟩, (by omega)⟩
 refine X.exit (thenQ_exit (thenQ_exit (blockQ_exit (X.seq (X.region (XL.mv (ov) rfl (XL.as (ov) rfl (XL.as (.bool (true)) rfl (XL.nil (X.freezeF [] _ _ rfl (fun F3 le3 hz1 => ?_)))))))))))
 have hf1 : IntsF F3 ov os := intsH.fz (xs := os) hz1.fz
 refine X.ret (retEnd (L' := L) [ov, .bool (true)] (.tuple #[ov, .bool (true)]) (.tmp rfl (.tmp rfl .nil)) rfl (FLe.trans le1 le3) rF (sD sR) ?_)
 have hz : fillL s t = some os := hm.trans (fillGo_done (by omega))
 exact ⟨_, by rw [hz]; rfl, by rw [hz]; exact hf1, by rw [hz]; exact (hz1.base le1), rfl⟩

/- impl.step -/
theorem step_spec {F : FH} {L : List HP} {arv : Value} {ar : List Int} (har : IntsF F arv ar) {rsv : Value} {rs : List (List Int × List Int)} (hrs : PairsF F rsv rs) {tv : Value} {t : List Int} (ht : IntsF F tv t) {p : Nat} {r : Nat} (hsys : sysOk ar rs = true) (ho : termOk ar t = true) (hp : p < t.length) (hr : r < rs.length) :
    Does prog 106 [.agg #[arv, rsv], tv, .int .i64 ((p : Int)), .int .i64 ((r : Int))] F (L) (fun v F' L' => ∃ (a : Value), (.tuple #[a, .bool ((stepL ar rs t p r).isSome)] : Value) = v ∧ (IntsF F' a ((stepL ar rs t p r).getD [])) ∧ ((stepL ar rs t p r).isSome = true → isNil a = false) ∧ (Fresh F F' (intsH 2 a ((stepL ar rs t p r).getD []))) ∧ L = L') := by
 refine Does.of_X func106 rfl rfl rfl ?_
 have hnn := notNil_of_pos ht (by have := termOk_len ho; omega)
 have htl := termOk_len ho
 have hrl := (sysOk_iff.1 hsys).2.1
 have hsig := (sysOk_iff.1 hsys).1
 have hsl := sigOk_spec hsig
 have hR := ruleOk_iff.1 ((sysOk_iff.1 hsys).2.2 r hr)
 have hRl := hR.left
 have hRr := hR.right
 have hso := sub_ok ho hp
 have hsb := sub_length ho hp
 have hee := endN_spec ho hp
 have hRrl := termOk_len hRr
 have hRg := fun k (hk : k < (rs.getD r ([], [])).2.length) => termOk_ge hRr hk
 have hmp := matchP_len (ar := ar) (p := (rs.getD r ([], [])).1) (t := sub ar t p)
 have hmp2 := hmp.2
 have hmp3 := hmp.1
 refine X.seq (X.region (cX (XOp.box [arv, rsv] rfl rfl ?_)))
 intro b1
 refine XL.as ((.slice none 0 0)) rfl (XL.as (.bool (false)) rfl (XL.nil (X.seq ?_)))
 obtain ⟨a1, a2, ha1, ha2, hr1, hr2⟩ := hrs.rd (i := r) (by omega)
 refine X.drawG [cellsH b1 [arv, rsv] 29] L 19 [[], [], [], [], [], [], [], [], [], [], [], [], [], [], [13], [13], [], [], [13, 17]] [[], [0], [], [2], [], [3, 4], [5], [6], [], [8], [], [], [9, 10, 11], [1, 7, 12], [13], [13, 14], [13, 14], [], [13, 15, 17]] [[], [], [], [], [], [], [], [], [], [], [], [], [], [], [], [], [], [], [17]] (phiG [fun FF us v => v = ptr b1 0, fun FF us v => v = (.agg #[arv] : Value), fun FF us v => v = ptr b1 1, fun FF us v => v = rsv, fun FF us v => v = (.int .i64 ((r : Int)) : Value), fun FF us v => v = (.pointer (some (elemA rsv (r * 2))) : Value), fun FF us v => v = (.pointer (some (elemA rsv (r * 2))) : Value), fun FF us v => v = a1, fun FF us v => v = ptr b1 0, fun FF us v => v = (.agg #[arv] : Value), fun FF us v => v = tv, fun FF us v => v = (.int .i64 ((p : Int)) : Value), fun FF us v => ((v) : Value) = v ∧ (IntsF FF (v) (sub ar t p)) ∧ (isNil (v) = false), fun FF us v => (.tuple #[.agg #[((aggAt (tupAt v 0) 0))], .bool ((matchB ar ((rs.getD r ([], [])).1) ((sub ar t p))).isSome)] : Value) = v ∧ (RowsF FF ((aggAt (tupAt v 0) 0)) (matchP ar ((rs.getD r ([], [])).1) ((sub ar t p)))), fun FF us v => v = (.tuple #[.agg #[((aggAt (tupAt (us.getD 0 undef) 0) 0))], .bool ((matchB ar ((rs.getD r ([], [])).1) ((sub ar t p))).isSome)] : Value), fun FF us v => v = (.agg #[((aggAt (tupAt (us.getD 0 undef) 0) 0))] : Value), fun FF us v => v = (.bool ((matchB ar ((rs.getD r ([], [])).1) ((sub ar t p))).isSome) : Value), fun FF us v => v = ptr (blk v) 0, fun FF us v => True]) (ownL [fun us v => [], fun us v => [], fun us v => [], fun us v => [], fun us v => [], fun us v => [], fun us v => [], fun us v => [], fun us v => [], fun us v => [], fun us v => [], fun us v => [], fun us v => [], fun us v => [], fun us v => [], fun us v => [], fun us v => [], fun us v => [cellsH (blk v) [(.slice none 0 0)] 76], fun us v => [cellsH (blk (us.getD 1 undef)) [((aggAt (tupAt (us.getD 0 undef) 0) 0))] 76]]) mixed rfl rfl (by kernel_rfl) (by kernel_rfl) (MonoG.get (mC (fun le h => h) (mC (fun le h => h) (mC (fun le h => h) (mC (fun le h => h) (mC (fun le h => h) (mC (fun le h => h) (mC (fun le h => h) (mC (fun le h => h) (mC (fun le h => h) (mC (fun le h => h) (mC (fun le h => h) (mC (fun le h => h) (mC (fun le h => ⟨h.1, h.2.1.mono le, h.2.2⟩) (mC (fun le h => ⟨h.1, h.2.mono le⟩) (mC (fun le h => h) (mC (fun le h => h) (mC (fun le h => h) (mC (fun le h => h) (mC (fun le h => h) MonoG.nil)))))))))))))))))))) ?_ ?_
 ·refine gC (fun vals Fs R leFs hpZ => ?_) ?_
  ·refine XG.op (XOp.fieldP (0) runUnderlying29 rfl sizeOf26 (by decide) rfl rfl ?_)
   exact ⟨rfl, rfl⟩
  refine gC (fun vals Fs R leFs hpZ => ?_) ?_
  ·replace har := har.mono leFs
   replace hrs := hrs.mono leFs
   replace ht := ht.mono leFs
   replace ha1 := ha1.mono leFs
   replace ha2 := ha2.mono leFs
   replace hr1 := Rd.monoA hr1 leFs
   replace hr2 := Rd.monoA hr2 leFs
   rw [eS (l := [(0, ptr b1 0)]) ⟨(hpZ 0 (by decide)), trivial⟩]
   refine XG.op (XOp.loadN [arv] isAgg26 sizeOf26 rfl rfl (Rd.ownN [] rfl rfl) ?_)
   exact ⟨rfl, rfl⟩
  refine gC (fun vals Fs R leFs hpZ => ?_) ?_
  ·refine XG.op (XOp.fieldP (1) runUnderlying29 rfl sizeOf27 (by decide) rfl rfl ?_)
   exact ⟨rfl, rfl⟩
  refine gC (fun vals Fs R leFs hpZ => ?_) ?_
  ·replace har := har.mono leFs
   replace hrs := hrs.mono leFs
   replace ht := ht.mono leFs
   replace ha1 := ha1.mono leFs
   replace ha2 := ha2.mono leFs
   replace hr1 := Rd.monoA hr1 leFs
   replace hr2 := Rd.monoA hr2 leFs
   rw [eS (l := [(2, ptr b1 1)]) ⟨(hpZ 2 (by decide)), trivial⟩]
   refine XG.op (XOp.load1 isAgg27 rfl (Rd.own [] rfl rfl) ?_)
   exact ⟨rfl, rfl⟩
  refine gC (fun vals Fs R leFs hpZ => ?_) ?_
  ·refine XG.op (XOp.move (.int .i64 ((r : Int))) rfl ?_)
   exact ⟨rfl, rfl⟩
  refine gC (fun vals Fs R leFs hpZ => ?_) ?_
  ·replace har := har.mono leFs
   replace hrs := hrs.mono leFs
   replace ht := ht.mono leFs
   replace ha1 := ha1.mono leFs
   replace ha2 := ha2.mono leFs
   replace hr1 := Rd.monoA hr1 leFs
   replace hr2 := Rd.monoA hr2 leFs
   rw [eS (l := [(3, rsv), (4, (.int .i64 ((r : Int)) : Value))]) ⟨(hpZ 3 (by decide)), (hpZ 4 (by decide)), trivial⟩]
   refine XG.op (XOp.indexS r runUnderlying27 sizeOf117 rfl rfl rfl hrs.slv (by omega) rfl ?_)
   exact ⟨rfl, rfl⟩
  refine gC (fun vals Fs R leFs hpZ => ?_) ?_
  ·rw [eS (l := [(5, (.pointer (some (elemA rsv (r * 2))) : Value))]) ⟨(hpZ 5 (by decide)), trivial⟩]
   refine XG.op (XOp.fieldE (r * 2) runUnderlying117 rfl sizeOf24 (by decide) rfl rfl ?_)
   exact ⟨rfl, rfl⟩
  refine gC (fun vals Fs R leFs hpZ => ?_) ?_
  ·replace har := har.mono leFs
   replace hrs := hrs.mono leFs
   replace ht := ht.mono leFs
   replace ha1 := ha1.mono leFs
   replace ha2 := ha2.mono leFs
   replace hr1 := Rd.monoA hr1 leFs
   replace hr2 := Rd.monoA hr2 leFs
   rw [eS (l := [(6, (.pointer (some (elemA rsv (r * 2))) : Value))]) ⟨(hpZ 6 (by decide)), trivial⟩]
   refine XG.op (XOp.load1 isAgg24 rfl (hr1 _) ?_)
   exact ⟨rfl, rfl⟩
  refine gC (fun vals Fs R leFs hpZ => ?_) ?_
  ·refine XG.op (XOp.fieldP (0) runUnderlying29 rfl sizeOf26 (by decide) rfl rfl ?_)
   exact ⟨rfl, rfl⟩
  refine gC (fun vals Fs R leFs hpZ => ?_) ?_
  ·replace har := har.mono leFs
   replace hrs := hrs.mono leFs
   replace ht := ht.mono leFs
   replace ha1 := ha1.mono leFs
   replace ha2 := ha2.mono leFs
   replace hr2 := Rd.monoA hr2 leFs
   rw [eS (l := [(8, ptr b1 0)]) ⟨(hpZ 8 (by decide)), trivial⟩]
   refine XG.op (XOp.loadN [arv] isAgg26 sizeOf26 rfl rfl (Rd.ownN [] rfl rfl) ?_)
   exact ⟨rfl, rfl⟩
  refine gC (fun vals Fs R leFs hpZ => ?_) ?_
  ·refine XG.op (XOp.move (tv) rfl ?_)
   exact ⟨rfl, rfl⟩
  refine gC (fun vals Fs R leFs hpZ => ?_) ?_
  ·refine XG.op (XOp.move (.int .i64 ((p : Int))) rfl ?_)
   exact ⟨rfl, rfl⟩
  refine gC (fun vals Fs R leFs hpZ => ?_) ?_
  ·replace har := har.mono leFs
   replace hrs := hrs.mono leFs
   replace ht := ht.mono leFs
   replace ha1 := ha1.mono leFs
   replace ha2 := ha2.mono leFs
   replace hr2 := Rd.monoA hr2 leFs
   rw [eS (l := [(9, (.agg #[arv] : Value)), (10, tv), (11, (.int .i64 ((p : Int)) : Value))]) ⟨(hpZ 9 (by decide)), (hpZ 10 (by decide)), (hpZ 11 (by decide)), trivial⟩]
   refine XG.op (XOp.call (args := [.agg #[arv], tv, .int .i64 (p : Int)]) call138 rfl (subAt_spec (p := p) har ht (ho := (by first | assumption | rfl | omega | simp)) (hp := (by first | assumption | rfl | omega | simp)) (hnn := (by first | assumption | rfl | omega | simp))) ?_)
   rintro v2 _ _ _ ⟨rfl, rfl, hv2, hn2⟩
   exact ⟨⟨rfl, hv2, hn2⟩, rfl⟩
  refine gC (fun vals Fs R leFs hpZ => ?_) ?_
  ·obtain ⟨e12, f12_1ha, f12_1hn⟩ := hpZ 12 (by decide)
   replace har := har.mono leFs
   replace hrs := hrs.mono leFs
   replace ht := ht.mono leFs
   replace ha1 := ha1.mono leFs
   replace ha2 := ha2.mono leFs
   replace hr2 := Rd.monoA hr2 leFs
   rw [eS (l := [(1, (.agg #[arv] : Value)), (7, a1), (12, ((vals 12)))]) ⟨(hpZ 1 (by decide)), (hpZ 7 (by decide)), (e12).symm, trivial⟩]
   refine XG.op (XOp.call (args := [.agg #[arv], a1, ((vals 12))]) call150 rfl (match_spec har ha1 f12_1ha (ho := (by first | assumption | rfl | omega | simp)) (hpo := (by first | assumption | rfl | omega | simp))) ?_)
   rintro _ F2 _ le2 ⟨x2, rfl, hr4, rfl⟩
   replace har := har.mono le2
   replace hrs := hrs.mono le2
   replace ht := ht.mono le2
   replace ha2 := ha2.mono le2
   replace f12_1ha := f12_1ha.mono le2
   replace hr2 := Rd.monoA hr2 le2
   exact ⟨⟨rfl, hr4⟩, rfl⟩
  refine gC (fun vals Fs R leFs hpZ => ?_) ?_
  ·obtain ⟨e13, f13_1hr⟩ := hpZ 13 (by decide)
   rw [eS (l := [(13, (.tuple #[.agg #[((aggAt (tupAt (vals 13) 0) 0))], .bool ((matchB ar ((rs.getD r ([], [])).1) ((sub ar t p))).isSome)] : Value))]) ⟨(e13).symm, trivial⟩]
   refine XG.op (XOp.move (.tuple #[.agg #[((aggAt (tupAt (vals 13) 0) 0))], .bool ((matchB ar ((rs.getD r ([], [])).1) ((sub ar t p))).isSome)]) rfl ?_)
   exact ⟨rfl, rfl⟩
  refine gC (fun vals Fs R leFs hpZ => ?_) ?_
  ·obtain ⟨e13, f13_1hr⟩ := hpZ 13 (by decide)
   have e14 : vals 14 = (.tuple #[.agg #[((aggAt (tupAt (vals 13) 0) 0))], .bool ((matchB ar ((rs.getD r ([], [])).1) ((sub ar t p))).isSome)] : Value) := hpZ 14 (by decide)
   rw [eS (l := [(13, (.tuple #[.agg #[((aggAt (tupAt (vals 13) 0) 0))], .bool ((matchB ar ((rs.getD r ([], [])).1) ((sub ar t p))).isSome)] : Value)), (14, (.tuple #[.agg #[((aggAt (tupAt (vals 13) 0) 0))], .bool ((matchB ar ((rs.getD r ([], [])).1) ((sub ar t p))).isSome)] : Value))]) ⟨(e13).symm, e14, trivial⟩]
   refine XG.op (XOp.extract (.agg #[((aggAt (tupAt (vals 13) 0) 0))]) rfl rfl ?_)
   exact ⟨rfl, rfl⟩
  refine gC (fun vals Fs R leFs hpZ => ?_) ?_
  ·obtain ⟨e13, f13_1hr⟩ := hpZ 13 (by decide)
   have e14 : vals 14 = (.tuple #[.agg #[((aggAt (tupAt (vals 13) 0) 0))], .bool ((matchB ar ((rs.getD r ([], [])).1) ((sub ar t p))).isSome)] : Value) := hpZ 14 (by decide)
   rw [eS (l := [(13, (.tuple #[.agg #[((aggAt (tupAt (vals 13) 0) 0))], .bool ((matchB ar ((rs.getD r ([], [])).1) ((sub ar t p))).isSome)] : Value)), (14, (.tuple #[.agg #[((aggAt (tupAt (vals 13) 0) 0))], .bool ((matchB ar ((rs.getD r ([], [])).1) ((sub ar t p))).isSome)] : Value))]) ⟨(e13).symm, e14, trivial⟩]
   refine XG.op (XOp.extract (.bool ((matchB ar ((rs.getD r ([], [])).1) ((sub ar t p))).isSome)) rfl rfl ?_)
   exact ⟨rfl, rfl⟩
  refine gC (fun vals Fs R leFs hpZ => ?_) ?_
  ·replace har := har.mono leFs
   replace hrs := hrs.mono leFs
   replace ht := ht.mono leFs
   replace ha2 := ha2.mono leFs
   replace hr2 := Rd.monoA hr2 leFs
   refine XG.op (XOp.alloc [(.slice none 0 0)] zeroValue76 rfl ?_)
   intro b3
   exact ⟨rfl, rfl⟩
  refine gC (fun vals Fs R leFs hpZ => ?_) ?_
  ·obtain ⟨e13, f13_1hr⟩ := hpZ 13 (by decide)
   have e15 : vals 15 = (.agg #[((aggAt (tupAt (vals 13) 0) 0))] : Value) := hpZ 15 (by decide)
   have e17 : vals 17 = ptr (blk (vals 17)) 0 := hpZ 17 (by decide)
   replace har := har.mono leFs
   replace hrs := hrs.mono leFs
   replace ht := ht.mono leFs
   replace ha2 := ha2.mono leFs
   replace hr2 := Rd.monoA hr2 leFs
   rw [eS (l := [(13, (.tuple #[.agg #[((aggAt (tupAt (vals 13) 0) 0))], .bool ((matchB ar ((rs.getD r ([], [])).1) ((sub ar t p))).isSome)] : Value)), (15, (.agg #[((aggAt (tupAt (vals 13) 0) 0))] : Value)), (17, ptr (blk (vals 17)) 0)]) ⟨(e13).symm, e15, e17, trivial⟩]
   show XG _ _ _ _ _ (cellsH (blk (vals 17)) [(.slice none 0 0)] 76 :: ([cellsH b1 [arv, rsv] 29] ++ R)) _
   refine XG.op (XOp.storeN [] _ [((aggAt (tupAt (vals 13) 0) 0))] sizeOf76 rfl rfl rfl (ones_cons (one_sl (RowsF.isSl f13_1hr)) ones_nil) rfl rfl rfl ?_)
   exact ⟨trivial, rfl⟩
  exact stepsG.nil
 intro vals F3 le3 hphi
 obtain ⟨e12, f12_1ha, f12_1hn⟩ := hphi 12 (by decide)
 obtain ⟨e13, f13_1hr⟩ := hphi 13 (by decide)
 have e14 : vals 14 = (.tuple #[.agg #[((aggAt (tupAt (vals 13) 0) 0))], .bool ((matchB ar ((rs.getD r ([], [])).1) ((sub ar t p))).isSome)] : Value) := hphi 14 (by decide)
 have e15 : vals 15 = (.agg #[((aggAt (tupAt (vals 13) 0) 0))] : Value) := hphi 15 (by decide)
 have e17 : vals 17 = ptr (blk (vals 17)) 0 := hphi 17 (by decide)
 generalize hu1 : ((vals 12)) = u1 at e12 f12_1ha f12_1hn e13 f13_1hr e14 e15 e17
 generalize hu2 : ((aggAt (tupAt (vals 13) 0) 0)) = u2 at e12 f12_1ha f12_1hn e13 f13_1hr e14 e15 e17
 generalize hu3 : blk (vals 17) = b4 at e12 f12_1ha f12_1hn e13 f13_1hr e14 e15 e17
 rw [eS (l := [(13, (.tuple #[.agg #[u2], .bool ((matchB ar ((rs.getD r ([], [])).1) ((sub ar t p))).isSome)] : Value)), (16, (.bool ((matchB ar ((rs.getD r ([], [])).1) ((sub ar t p))).isSome) : Value)), (17, ptr b4 0)]) ⟨(e13).symm, (hphi 16 (by decide)), e17, trivial⟩]
 replace har := har.mono le3
 replace hrs := hrs.mono le3
 replace ht := ht.mono le3
 replace ha2 := ha2.mono le3
 replace hr2 := Rd.monoA hr2 le3
 show XL _ _ _ _ _ _ _ (cellsH b4 [u2] 76 :: cellsH b1 [arv, rsv] 29 :: L)
 refine XL.as (.bool ((matchB ar ((rs.getD r ([], [])).1) ((sub ar t p))).isSome)) rfl (XL.nil (X.seq (X.seq (X.region (XL.mv (.bool ((matchB ar ((rs.getD r ([], [])).1) ((sub ar t p))).isSome)) rfl (cX (XOp.notB rfl (XL.nil ?_))))))))
 refine X.cond (t := !((matchB ar ((rs.getD r ([], [])).1) ((sub ar t p))).isSome)) rfl (fun h1 => ?_) (fun h1 => ?_)
 ·have hms : (matchB ar (rs.getD r ([], [])).1 (sub ar t p)).isSome = false := by simpa using h1
  refine X.seq (X.region (XL.as ((.slice none 0 0)) rfl (XL.as (.bool (false)) rfl (XL.nil (X.ret (thenQ_ret (retEnd (L' := L) [(.slice none 0 0), .bool (false)] (.tuple #[(.slice none 0 0), .bool (false)]) (.tmp rfl (.tmp rfl .nil)) rfl le3 rF (sD (sD sR)) ?_)))))))
  have hz := stepL_nomatch hms
  exact ⟨_, by rw [hz]; rfl, by rw [hz]; exact IntsF.nilV, fun h => (by rw [hz] at h; cases h), by rw [hz]; exact Fresh.ofNil _, rfl⟩
 have hms : (matchB ar (rs.getD r ([], [])).1 (sub ar t p)).isSome = true := by simpa using h1
 refine X.skip (X.seq ?_)
 refine X.drawG [cellsH b4 [u2] 76, cellsH b1 [arv, rsv] 29] L 12 [[], [], [], [], [], [], [], [], [7], [7], [], [7]] [[], [], [1], [], [2, 3], [4], [5], [0, 6], [7], [7, 8], [7, 8], [7, 9]] [[], [], [], [], [], [], [], [], [], [], [], []] (phiG [fun FF us v => v = (.agg #[u2] : Value), fun FF us v => v = ptr b1 1, fun FF us v => v = rsv, fun FF us v => v = (.int .i64 ((r : Int)) : Value), fun FF us v => v = (.pointer (some (elemA rsv (r * 2))) : Value), fun FF us v => v = (.pointer (some (elemA rsv (r * 2 + 1))) : Value), fun FF us v => v = a2, fun FF us v => (.tuple #[((tupAt v 0)), .bool ((fillL (matchP ar ((rs.getD r ([], [])).1) ((sub ar t p))) ((rs.getD r ([], [])).2)).isSome)] : Value) = v ∧ (IntsF FF ((tupAt v 0)) ((fillL (matchP ar ((rs.getD r ([], [])).1) ((sub ar t p))) ((rs.getD r ([], [])).2)).getD [])), fun FF us v => v = (.tuple #[((tupAt (us.getD 0 undef) 0)), .bool ((fillL (matchP ar ((rs.getD r ([], [])).1) ((sub ar t p))) ((rs.getD r ([], [])).2)).isSome)] : Value), fun FF us v => v = ((tupAt (us.getD 0 undef) 0)), fun FF us v => v = (.bool ((fillL (matchP ar ((rs.getD r ([], [])).1) ((sub ar t p))) ((rs.getD r ([], [])).2)).isSome) : Value), fun FF us v => v = ((tupAt (us.getD 0 undef) 0))]) (ownL [fun us v => [], fun us v => [], fun us v => [], fun us v => [], fun us v => [], fun us v => [], fun us v => [], fun us v => [], fun us v => [], fun us v => [], fun us v => [], fun us v => []]) mixed rfl rfl (by kernel_rfl) (by kernel_rfl) (MonoG.get (mC (fun le h => h) (mC (fun le h => h) (mC (fun le h => h) (mC (fun le h => h) (mC (fun le h => h) (mC (fun le h => h) (mC (fun le h => h) (mC (fun le h => ⟨h.1, h.2.mono le⟩) (mC (fun le h => h) (mC (fun le h => h) (mC (fun le h => h) (mC (fun le h => h) MonoG.nil))))))))))))) ?_ ?_
 ·refine gC (fun vals Fs R leFs hpZ => ?_) ?_
  ·replace har := har.mono leFs
   replace hrs := hrs.mono leFs
   replace ht := ht.mono leFs
   replace ha2 := ha2.mono leFs
   replace f13_1hr := f13_1hr.mono leFs
   replace hr2 := Rd.monoA hr2 leFs
   refine XG.op (XOp.loadN [u2] isAgg76 sizeOf76 rfl rfl (Rd.ownN [] rfl rfl) ?_)
   exact ⟨rfl, rfl⟩
  refine gC (fun vals Fs R leFs hpZ => ?_) ?_
  ·refine XG.op (XOp.fieldP (1) runUnderlying29 rfl sizeOf27 (by decide) rfl rfl ?_)
   exact ⟨rfl, rfl⟩
  refine gC (fun vals Fs R leFs hpZ => ?_) ?_
  ·replace har := har.mono leFs
   replace hrs := hrs.mono leFs
   replace ht := ht.mono leFs
   replace ha2 := ha2.mono leFs
   replace f13_1hr := f13_1hr.mono leFs
   replace hr2 := Rd.monoA hr2 leFs
   rw [eS (l := [(1, ptr b1 1)]) ⟨(hpZ 1 (by decide)), trivial⟩]
   refine XG.op (XOp.load1 isAgg27 rfl (Rd.own [_] rfl rfl) ?_)
   exact ⟨rfl, rfl⟩
  refine gC (fun vals Fs R leFs hpZ => ?_) ?_
  ·refine XG.op (XOp.move (.int .i64 ((r : Int))) rfl ?_)
   exact ⟨rfl, rfl⟩
  refine gC (fun vals Fs R leFs hpZ => ?_) ?_
  ·replace har := har.mono leFs
   replace hrs := hrs.mono leFs
   replace ht := ht.mono leFs
   replace ha2 := ha2.mono leFs
   replace f13_1hr := f13_1hr.mono leFs
   replace hr2 := Rd.monoA hr2 leFs
   rw [eS (l := [(2, rsv), (3, (.int .i64 ((r : Int)) : Value))]) ⟨(hpZ 2 (by decide)), (hpZ 3 (by decide)), trivial⟩]
   refine XG.op (XOp.indexS r runUnderlying27 sizeOf117 rfl rfl rfl hrs.slv (by omega) rfl ?_)
   exact ⟨rfl, rfl⟩
  refine gC (fun vals Fs R leFs hpZ => ?_) ?_
  ·rw [eS (l := [(4, (.pointer (some (elemA rsv (r * 2))) : Value))]) ⟨(hpZ 4 (by decide)), trivial⟩]
   refine XG.op (XOp.fieldE (r * 2 + 1) runUnderlying117 rfl sizeOf24 (by decide) rfl rfl ?_)
   exact ⟨rfl, rfl⟩
  refine gC (fun vals Fs R leFs hpZ => ?_) ?_
  ·replace har := har.mono leFs
   replace ht := ht.mono leFs
   replace ha2 := ha2.mono leFs
   replace f13_1hr := f13_1hr.mono leFs
   replace hr2 := Rd.monoA hr2 leFs
   rw [eS (l := [(5, (.pointer (some (elemA rsv (r * 2 + 1))) : Value))]) ⟨(hpZ 5 (by decide)), trivial⟩]
   refine XG.op (XOp.load1 isAgg24 rfl (hr2 _) ?_)
   exact ⟨rfl, rfl⟩
  refine gC (fun vals Fs R leFs hpZ => ?_) ?_
  ·replace har := har.mono leFs
   replace ht := ht.mono leFs
   replace ha2 := ha2.mono leFs
   replace f13_1hr := f13_1hr.mono leFs
   rw [eS (l := [(0, (.agg #[u2] : Value)), (6, a2)]) ⟨(hpZ 0 (by decide)), (hpZ 6 (by decide)), trivial⟩]
   refine XG.op (XOp.call (args := [.agg #[u2], a2]) call158 rfl (fill_spec f13_1hr ha2 (hsl := (by first | assumption | rfl | omega | simp)) (hsb := (fun i => by have := hmp2 i; omega)) (htl := (by first | assumption | rfl | omega | simp)) (htg := (fun k hk => by have := hRg k hk; omega))) ?_)
   rintro _ F5 _ le5 ⟨x4, rfl, hr7, hr8, rfl⟩
   replace har := har.mono le5
   replace ht := ht.mono le5
   exact ⟨⟨rfl, hr7⟩, rfl⟩
  refine gC (fun vals Fs R leFs hpZ => ?_) ?_
  ·obtain ⟨e7, f7_2hr⟩ := hpZ 7 (by decide)
   rw [eS (l := [(7, (.tuple #[((tupAt (vals 7) 0)), .bool ((fillL (matchP ar ((rs.getD r ([], [])).1) ((sub ar t p))) ((rs.getD r ([], [])).2)).isSome)] : Value))]) ⟨(e7).symm, trivial⟩]
   refine XG.op (XOp.move (.tuple #[((tupAt (vals 7) 0)), .bool ((fillL (matchP ar ((rs.getD r ([], [])).1) ((sub ar t p))) ((rs.getD r ([], [])).2)).isSome)]) rfl ?_)
   exact ⟨rfl, rfl⟩
  refine gC (fun vals Fs R leFs hpZ => ?_) ?_
  ·obtain ⟨e7, f7_2hr⟩ := hpZ 7 (by decide)
   have e8 : vals 8 = (.tuple #[((tupAt (vals 7) 0)), .bool ((fillL (matchP ar ((rs.getD r ([], [])).1) ((sub ar t p))) ((rs.getD r ([], [])).2)).isSome)] : Value) := hpZ 8 (by decide)
   rw [eS (l := [(7, (.tuple #[((tupAt (vals 7) 0)), .bool ((fillL (matchP ar ((rs.getD r ([], [])).1) ((sub ar t p))) ((rs.getD r ([], [])).2)).isSome)] : Value)), (8, (.tuple #[((tupAt (vals 7) 0)), .bool ((fillL (matchP ar ((rs.getD r ([], [])).1) ((sub ar t p))) ((rs.getD r ([], [])).2)).isSome)] : Value))]) ⟨(e7).symm, e8, trivial⟩]
   refine XG.op (XOp.extract (((tupAt (vals 7) 0))) rfl rfl ?_)
   exact ⟨rfl, rfl⟩
  refine gC (fun vals Fs R leFs hpZ => ?_) ?_
  ·obtain ⟨e7, f7_2hr⟩ := hpZ 7 (by decide)
   have e8 : vals 8 = (.tuple #[((tupAt (vals 7) 0)), .bool ((fillL (matchP ar ((rs.getD r ([], [])).1) ((sub ar t p))) ((rs.getD r ([], [])).2)).isSome)] : Value) := hpZ 8 (by decide)
   rw [eS (l := [(7, (.tuple #[((tupAt (vals 7) 0)), .bool ((fillL (matchP ar ((rs.getD r ([], [])).1) ((sub ar t p))) ((rs.getD r ([], [])).2)).isSome)] : Value)), (8, (.tuple #[((tupAt (vals 7) 0)), .bool ((fillL (matchP ar ((rs.getD r ([], [])).1) ((sub ar t p))) ((rs.getD r ([], [])).2)).isSome)] : Value))]) ⟨(e7).symm, e8, trivial⟩]
   refine XG.op (XOp.extract (.bool ((fillL (matchP ar ((rs.getD r ([], [])).1) ((sub ar t p))) ((rs.getD r ([], [])).2)).isSome)) rfl rfl ?_)
   exact ⟨rfl, rfl⟩
  refine gC (fun vals Fs R leFs hpZ => ?_) ?_
  ·obtain ⟨e7, f7_2hr⟩ := hpZ 7 (by decide)
   have e9 : vals 9 = ((tupAt (vals 7) 0)) := hpZ 9 (by decide)
   rw [eS (l := [(7, (.tuple #[((tupAt (vals 7) 0)), .bool ((fillL (matchP ar ((rs.getD r ([], [])).1) ((sub ar t p))) ((rs.getD r ([], [])).2)).isSome)] : Value)), (9, ((tupAt (vals 7) 0)))]) ⟨(e7).symm, e9, trivial⟩]
   refine XG.op (XOp.assign (((tupAt (vals 7) 0))) rfl ?_)
   exact ⟨rfl, rfl⟩
  exact stepsG.nil
 intro vals F6 le6 hphi
 obtain ⟨e7, f7_2hr⟩ := hphi 7 (by decide)
 have e8 : vals 8 = (.tuple #[((tupAt (vals 7) 0)), .bool ((fillL (matchP ar ((rs.getD r ([], [])).1) ((sub ar t p))) ((rs.getD r ([], [])).2)).isSome)] : Value) := hphi 8 (by decide)
 have e9 : vals 9 = ((tupAt (vals 7) 0)) := hphi 9 (by decide)
 have e11 : vals 11 = ((tupAt (vals 7) 0)) := hphi 11 (by decide)
 generalize hu4 : ((tupAt (vals 7) 0)) = u3 at e7 f7_2hr e8 e9 e11
 rw [eS (l := [(7, (.tuple #[u3, .bool ((fillL (matchP ar ((rs.getD r ([], [])).1) ((sub ar t p))) ((rs.getD r ([], [])).2)).isSome)] : Value)), (10, (.bool ((fillL (matchP ar ((rs.getD r ([], [])).1) ((sub ar t p))) ((rs.getD r ([], [])).2)).isSome) : Value)), (11, u3)]) ⟨(e7).symm, (hphi 10 (by decide)), e11, trivial⟩]
 replace har := har.mono le6
 replace ht := ht.mono le6
 show XL _ _ _ _ _ _ _ (cellsH b4 [u2] 76 :: cellsH b1 [arv, rsv] 29 :: L)
 refine XL.as (.bool ((fillL (matchP ar ((rs.getD r ([], [])).1) ((sub ar t p))) ((rs.getD r ([], [])).2)).isSome)) rfl (XL.nil (X.seq (X.seq (X.region (XL.mv (.bool ((fillL (matchP ar ((rs.getD r ([], [])).1) ((sub ar t p))) ((rs.getD r ([], [])).2)).isSome)) rfl (cX (XOp.notB rfl (XL.nil ?_))))))))
 refine X.cond (t := !((fillL (matchP ar ((rs.getD r ([], [])).1) ((sub ar t p))) ((rs.getD r ([], [])).2)).isSome)) rfl (fun h2 => ?_) (fun h2 => ?_)
 ·have hfs : (fillL (matchP ar (rs.getD r ([], [])).1 (sub ar t p)) (rs.getD r ([], [])).2).isSome = false := by simpa using h2
  refine X.seq (X.region (XL.as ((.slice none 0 0)) rfl (XL.as (.bool (false)) rfl (XL.nil (X.ret (thenQ_ret (retEnd (L' := L) [(.slice none 0 0), .bool (false)] (.tuple #[(.slice none 0 0), .bool (false)]) (.tmp rfl (.tmp rfl .nil)) rfl (FLe.trans le3 le6) rF (sD (sD sR)) ?_)))))))
  have hz := stepL_nofill hms hfs
  exact ⟨_, by rw [hz]; rfl, by rw [hz]; exact IntsF.nilV, fun h => (by rw [hz] at h; cases h), by rw [hz]; exact Fresh.ofNil _, rfl⟩
 have hfs : (fillL (matchP ar (rs.getD r ([], [])).1 (sub ar t p)) (rs.getD r ([], [])).2).isSome = true := by simpa using h2
 have hfl := fill_getD_len hfs (by omega)
 refine X.skip (X.seq (X.region (cX (XOp.fieldP (0) runUnderlying29 rfl sizeOf26 (by decide) rfl rfl (cX (XOp.loadN [arv] isAgg26 sizeOf26 rfl rfl (Rd.ownN [_] rfl rfl) (XL.mv (tv) rfl (XL.mv (.int .i64 ((p : Int))) rfl (XL.mv (u3) rfl (cX (XOp.call (args := [.agg #[arv], tv, .int .i64 (p : Int), u3]) call139 rfl (put_spec (p := p) har ht f7_2hr (ho := (by first | assumption | rfl | omega | simp)) (hp := (by first | assumption | rfl | omega | simp)) (hul := (by first | assumption | rfl | omega | simp))) ?_)))))))))))
 rintro _ F7 _ le7 ⟨x5, rfl, hr9, hr10, hr11, rfl⟩
 refine cX (XOp.extract (x5) rfl rfl (cX (XOp.extract (.bool ((putL ar t p ((fillL (matchP ar ((rs.getD r ([], [])).1) ((sub ar t p))) ((rs.getD r ([], [])).2)).getD [])).isSome)) rfl rfl (XL.as (x5) rfl (XL.as (.bool ((putL ar t p ((fillL (matchP ar ((rs.getD r ([], [])).1) ((sub ar t p))) ((rs.getD r ([], [])).2)).getD [])).isSome)) rfl (XL.nil (X.ret (retEnd (L' := L) [x5, .bool ((putL ar t p ((fillL (matchP ar ((rs.getD r ([], [])).1) ((sub ar t p))) ((rs.getD r ([], [])).2)).getD [])).isSome)] (.tuple #[x5, .bool ((putL ar t p ((fillL (matchP ar ((rs.getD r ([], [])).1) ((sub ar t p))) ((rs.getD r ([], [])).2)).getD [])).isSome)]) (.tmp rfl (.tmp rfl .nil)) rfl (FLe.trans (FLe.trans le3 le6) le7) rF (sD (sD sR)) ?_))))))))
 have hz := stepL_put hms hfs
 exact ⟨_, by rw [hz], by rw [hz]; exact hr9, by rw [hz]; exact hr10, by rw [hz]; exact (hr11.base (FLe.trans le3 le6)), rfl⟩
end Go.Proofs.YtmaaifhmhclhdaaGreat
