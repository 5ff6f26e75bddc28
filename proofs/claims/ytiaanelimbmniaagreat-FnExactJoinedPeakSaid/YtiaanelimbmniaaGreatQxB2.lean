/-
  Walks, one after the other (part 3).
-/
import Derived.Test.YtiaanelimbmniaaGreatQxL1
import Derived.Test.YtiaanelimbmniaaGreatQxB1
set_option linter.unusedSimpArgs false
set_option linter.unusedVariables false
namespace Go.Proofs.YtiaanelimbmniaaGreat
open Go X M Tryz

/- laws.eqStep -/
theorem eqStep_spec {F : FH} {L : List HP} {i : Int} {j : Int} {av : Value} {a : List Int} (ha : IntsF F av a) {p : Int} {q : Int} {bv : Value} {b : List Int} (hb : IntsF F bv b) (hbd : a.length ≤ 9223372036854775807 ∨ b.length ≤ 9223372036854775807) :
    Does prog 168 [.agg #[.int .i64 (i), .int .i64 (j), av], .agg #[.int .i64 (p), .int .i64 (q), bv]] F (L) (fun v F' L' => (.bool (decide ((i, j, a) = (p, q, b))) : Value) = v ∧ F = F' ∧ L = L') := by
 refine Does.of_X func168 rfl rfl rfl ?_
 refine X.seq (X.region ?_)
 refine cX (XOp.box [.int .i64 (i), .int .i64 (j), av] rfl rfl ?_)
 intro b1
 refine cX (XOp.box [.int .i64 (p), .int .i64 (q), bv] rfl rfl ?_)
 intro b2
 refine XL.as (.bool (false)) rfl ?_
 refine XL.nil (X.seq (X.seq (X.region ?_)))
 refine cX (XOp.fieldP (b := b1) (0) runUnderlying116 rfl sizeOf2 (by decide) rfl rfl ?_)
 refine cX (XOp.load1 (v := .int .i64 (i)) isAgg2 rfl (Rd.own [_] rfl rfl) ?_)
 refine cX (XOp.fieldP (b := b2) (0) runUnderlying116 rfl sizeOf2 (by decide) rfl rfl ?_)
 refine cX (XOp.load1 (v := .int .i64 (p)) isAgg2 rfl (Rd.own [] rfl rfl) ?_)
 refine cX (XOp.neq (a := i) (b := p) rfl rfl ?_)
 refine XL.nil ?_
 refine X.condD (p := (i : Int) ≠ p) rfl (fun h1 => ?_) (fun h1 => ?_)
 ·refine X.seq (X.region ?_)
  refine XL.as (.bool (false)) rfl ?_
  refine XL.nil ?_
  refine X.ret (thenQ_ret (retEnd (L' := L) [.bool (false)] (.bool (false)) (.tmp rfl .nil) rfl rF rF (sD (sD sR)) ?_))
  exact ⟨(vB (decide_eq_false (by intro e; simp_all))), rfl, rfl⟩
 refine X.skip (X.seq (X.seq (X.region ?_)))
 refine cX (XOp.fieldP (b := b1) (1) runUnderlying116 rfl sizeOf2 (by decide) rfl rfl ?_)
 refine cX (XOp.load1 (v := .int .i64 (j)) isAgg2 rfl (Rd.own [_] rfl rfl) ?_)
 refine cX (XOp.fieldP (b := b2) (1) runUnderlying116 rfl sizeOf2 (by decide) rfl rfl ?_)
 refine cX (XOp.load1 (v := .int .i64 (q)) isAgg2 rfl (Rd.own [] rfl rfl) ?_)
 refine cX (XOp.neq (a := j) (b := q) rfl rfl ?_)
 refine XL.nil ?_
 refine X.condD (p := (j : Int) ≠ q) rfl (fun h2 => ?_) (fun h2 => ?_)
 ·refine X.seq (X.region ?_)
  refine XL.as (.bool (false)) rfl ?_
  refine XL.nil ?_
  refine X.ret (thenQ_ret (retEnd (L' := L) [.bool (false)] (.bool (false)) (.tmp rfl .nil) rfl rF rF (sD (sD sR)) ?_))
  exact ⟨(vB (decide_eq_false (by intro e; simp_all))), rfl, rfl⟩
 refine X.skip (X.seq (X.seq (X.region ?_)))
 refine cX (XOp.fieldP (b := b1) (2) runUnderlying116 rfl sizeOf22 (by decide) rfl rfl ?_)
 refine cX (XOp.load1 (v := av) isAgg22 rfl (Rd.own [_] rfl rfl) ?_)
 refine cX (XOp.fieldP (b := b2) (2) runUnderlying116 rfl sizeOf22 (by decide) rfl rfl ?_)
 refine cX (XOp.load1 (v := bv) isAgg22 rfl (Rd.own [] rfl rfl) ?_)
 refine cX (XOp.call (args := [av, bv]) call15 rfl (eqInt64S_spec ha hb (hbd := (by first | assumption | rfl | omega | (left; simp; done) | (right; simp; done)))) ?_)
 rintro _ _ _ _ ⟨rfl, rfl, rfl⟩
 refine cX (XOp.notD (p := a = b) rfl ?_)
 refine XL.nil ?_
 refine X.condD (p := ¬(a = b)) rfl (fun h3 => ?_) (fun h3 => ?_)
 ·refine X.seq (X.region ?_)
  refine XL.as (.bool (false)) rfl ?_
  refine XL.nil ?_
  refine X.ret (thenQ_ret (retEnd (L' := L) [.bool (false)] (.bool (false)) (.tmp rfl .nil) rfl rF rF (sD (sD sR)) ?_))
  exact ⟨(vB (decide_eq_false (by intro e; simp_all))), rfl, rfl⟩
 refine X.skip (X.seq (X.region ?_))
 refine XL.as (.bool (true)) rfl ?_
 refine XL.nil ?_
 refine X.ret (retEnd (L' := L) [.bool (true)] (.bool (true)) (.tmp rfl .nil) rfl rF rF (sD (sD sR)) ?_)
 exact ⟨(vB (decide_eq_true (by simp_all))), rfl, rfl⟩

/- laws.eqStepS -/
theorem eqStepS_spec {F : FH} {L : List HP} {av : Value} {a : List StepT} (ha : StepsF F av a) {bv : Value} {b : List StepT} (hb : StepsF F bv b) (hal : a.length ≤ 9223372036854775807) (hbd : ∀ i, i < a.length → (a.getD i (0, 0, [])).2.2.length ≤ 9223372036854775807) :
    Does prog 89 [av, bv] F (L) (fun v F' L' => (.bool (decide (a = b)) : Value) = v ∧ F = F' ∧ L = L') := by
 refine Does.of_X func89 rfl rfl rfl ?_
 refine X.seq (X.region ?_)
 refine XL.as (.bool (false)) rfl ?_
 refine XL.nil (X.seq (X.seq (X.region ?_)))
 refine XL.mv (av) rfl ?_
 refine cX (XOp.lenS (v := av) (n := (a).length) runUnderlying55 rfl ha.slv ?_)
 refine XL.mv (bv) rfl ?_
 refine cX (XOp.lenS (v := bv) (n := (b).length) runUnderlying55 rfl hb.slv ?_)
 refine cX (XOp.neq (a := (a.length : Int)) (b := (b.length : Int)) rfl rfl ?_)
 refine XL.nil ?_
 refine X.condD (p := ((a.length : Int) : Int) ≠ (b.length : Int)) rfl (fun h1 => ?_) (fun h1 => ?_)
 ·refine X.seq (X.region ?_)
  refine XL.as (.bool (false)) rfl ?_
  refine XL.nil ?_
  refine X.ret (thenQ_ret (retEnd (L' := L) [.bool (false)] (.bool (false)) (.tmp rfl .nil) rfl rF rF sR ?_))
  exact ⟨(vB (decide_eq_false (fun e => by rw [e] at h1; omega))), rfl, rfl⟩
 refine X.skip (X.seq (X.seq (X.region ?_)))
 refine XL.as (.int .i64 (0)) rfl ?_
 refine XL.nil (X.block ?_)
 refine X.loop (α := Nat) (fun k => [(0, av), (1, bv), (5, .int .i64 ((k : Int)))]) (fun k => L) (fun k F' => F = F' ∧ (k ≤ a.length) ∧ (∀ i, i < k → a.getD i ((0 : Int), (0 : Int), ([] : List Int)) = b.getD i ((0 : Int), (0 : Int), ([] : List Int)))) (fun k => a.length - k) 0 ⟨rfl, rfl, rfl, trivial⟩ sR ⟨rfl, (by (try dsimp only) <;> omega), (fun i hi => absurd hi (by omega))⟩ ?_
 rintro k rE _ _ ⟨rfl, hk, hall⟩
 show X _ _ _ _ (envs [(0, av), (1, bv), (5, .int .i64 ((k : Int)))] rE) _ (L)
 have hbk := hbd k
 refine X.seq (X.seq (X.region ?_))
 refine XL.mv (.int .i64 ((k : Int))) rfl ?_
 refine XL.mv (av) rfl ?_
 refine cX (XOp.lenS (v := av) (n := (a).length) runUnderlying55 rfl ha.slv ?_)
 refine cX (XOp.lss (a := (k : Int)) (b := (a.length : Int)) rfl rfl ?_)
 refine XL.nil ?_
 refine X.condD (p := (k : Int) < (a.length : Int)) rfl (fun h2 => ?_) (fun h2 => ?_)
 ·refine X.skip (X.seq (X.block (X.seq ?_)))
  obtain ⟨a1, ha1, hr1, hr2, hr3⟩ := ha.rd (i := k) (by omega)
  obtain ⟨a2, ha2, hr4, hr5, hr6⟩ := hb.rd (i := k) (by omega)
  refine X.draw [] L 8 [[], [], [], [], [], [], [], []] [[], [], [0, 1], [2], [], [], [4, 5], [6]] (phiL [fun us v => v = av, fun us v => v = (.int .i64 ((k : Int)) : Value), fun us v => v = (.pointer (some (elemA av (k * 3))) : Value), fun us v => v = (.agg #[.int .i64 ((a.getD k (0, 0, [])).1), .int .i64 ((a.getD k (0, 0, [])).2.1), a1] : Value), fun us v => v = bv, fun us v => v = (.int .i64 ((k : Int)) : Value), fun us v => v = (.pointer (some (elemA bv (k * 3))) : Value), fun us v => v = (.agg #[.int .i64 ((b.getD k (0, 0, [])).1), .int .i64 ((b.getD k (0, 0, [])).2.1), a2] : Value)]) (ownL [fun us v => [], fun us v => [], fun us v => [], fun us v => [], fun us v => [], fun us v => [], fun us v => [], fun us v => []]) mixed rfl rfl (by kernel_rfl) ?_ ?_
  ·refine pC (fun vals R hpZ => ?_) ?_
   ·refine XG.op (XOp.move (av) rfl ?_)
    exact ⟨rfl, rfl, rfl⟩
   refine pC (fun vals R hpZ => ?_) ?_
   ·refine XG.op (XOp.move (.int .i64 ((k : Int))) rfl ?_)
    exact ⟨rfl, rfl, rfl⟩
   refine pC (fun vals R hpZ => ?_) ?_
   ·rw [eS (l := [(0, av), (1, (.int .i64 ((k : Int)) : Value))]) ⟨hpZ 0 (by decide), hpZ 1 (by decide), trivial⟩]
    refine XG.op (XOp.indexS (v := av) (i := (k : Int)) (n := (a).length) k runUnderlying55 sizeOf116 rfl rfl rfl ha.slv (by omega) rfl ?_)
    exact ⟨rfl, rfl, rfl⟩
   refine pC (fun vals R hpZ => ?_) ?_
   ·rw [eS (l := [(2, (.pointer (some (elemA av (k * 3))) : Value))]) ⟨hpZ 2 (by decide), trivial⟩]
    refine XG.op (XOp.loadN [.int .i64 ((a.getD k (0, 0, [])).1), .int .i64 ((a.getD k (0, 0, [])).2.1), a1] isAgg116 sizeOf116 rfl rfl (Rd.three (hr1 _) (hr2 _) (hr3 _)) ?_)
    exact ⟨rfl, rfl, rfl⟩
   refine pC (fun vals R hpZ => ?_) ?_
   ·refine XG.op (XOp.move (bv) rfl ?_)
    exact ⟨rfl, rfl, rfl⟩
   refine pC (fun vals R hpZ => ?_) ?_
   ·refine XG.op (XOp.move (.int .i64 ((k : Int))) rfl ?_)
    exact ⟨rfl, rfl, rfl⟩
   refine pC (fun vals R hpZ => ?_) ?_
   ·rw [eS (l := [(4, bv), (5, (.int .i64 ((k : Int)) : Value))]) ⟨hpZ 4 (by decide), hpZ 5 (by decide), trivial⟩]
    refine XG.op (XOp.indexS (v := bv) (i := (k : Int)) (n := (b).length) k runUnderlying55 sizeOf116 rfl rfl rfl hb.slv (by omega) rfl ?_)
    exact ⟨rfl, rfl, rfl⟩
   refine pC (fun vals R hpZ => ?_) ?_
   ·rw [eS (l := [(6, (.pointer (some (elemA bv (k * 3))) : Value))]) ⟨hpZ 6 (by decide), trivial⟩]
    refine XG.op (XOp.loadN [.int .i64 ((b.getD k (0, 0, [])).1), .int .i64 ((b.getD k (0, 0, [])).2.1), a2] isAgg116 sizeOf116 rfl rfl (Rd.three (hr4 _) (hr5 _) (hr6 _)) ?_)
    exact ⟨rfl, rfl, rfl⟩
   exact stepsP.nil
  intro vals hphi
  rw [eS (l := [(3, (.agg #[.int .i64 ((a.getD k (0, 0, [])).1), .int .i64 ((a.getD k (0, 0, [])).2.1), a1] : Value)), (7, (.agg #[.int .i64 ((b.getD k (0, 0, [])).1), .int .i64 ((b.getD k (0, 0, [])).2.1), a2] : Value))]) ⟨(hphi 3 (by decide)), (hphi 7 (by decide)), trivial⟩]
  show XL _ _ _ _ _ _ _ (L)
  refine cX (XOp.call (args := [.agg #[.int .i64 ((a.getD k (0, 0, [])).1), .int .i64 ((a.getD k (0, 0, [])).2.1), a1], .agg #[.int .i64 ((b.getD k (0, 0, [])).1), .int .i64 ((b.getD k (0, 0, [])).2.1), a2]]) call168 rfl (eqStep_spec ha1 ha2 (hbd := (.inl (hbk (by omega))))) ?_)
  rintro _ _ _ _ ⟨rfl, rfl, rfl⟩
  refine cX (XOp.notD (p := (((a.getD k (0, 0, [])).1), ((a.getD k (0, 0, [])).2.1), ((a.getD k (0, 0, [])).2.2)) = (((b.getD k (0, 0, [])).1), ((b.getD k (0, 0, [])).2.1), ((b.getD k (0, 0, [])).2.2))) rfl ?_)
  refine XL.nil ?_
  refine X.condD (p := ¬((((a.getD k (0, 0, [])).1), ((a.getD k (0, 0, [])).2.1), ((a.getD k (0, 0, [])).2.2)) = (((b.getD k (0, 0, [])).1), ((b.getD k (0, 0, [])).2.1), ((b.getD k (0, 0, [])).2.2)))) rfl (fun h3 => ?_) (fun h3 => ?_)
  ·refine X.seq (X.region ?_)
   refine XL.as (.bool (false)) rfl ?_
   refine XL.nil ?_
   refine X.ret (blockQ_ret (thenQ_ret (thenQ_ret (blockQ_ret (thenQ_ret (retEnd (L' := L) [.bool (false)] (.bool (false)) (.tmp rfl .nil) rfl rF rF sR ?_))))))
   exact ⟨(vB (decide_eq_false (fun e => by subst e; simp at *))), rfl, rfl⟩
  refine X.skip (X.region ?_)
  refine XL.mv (.int .i64 ((k : Int))) rfl ?_
  refine cX (XOp.addR (a := (k : Int)) (b := 1) (((k + 1 : Nat) : Int)) rfl rfl (by omega) (by omega) ?_)
  refine XL.as (.int .i64 (((k + 1 : Nat) : Int))) rfl ?_
  refine XL.nil ?_
  exact ⟨k + 1, _, FLe.refl _, rF, ⟨rfl, rfl, rfl, trivial⟩, sR, ⟨rfl, (by (try dsimp only) <;> omega), (fun i hi => (Nat.lt_or_ge i k).elim (fun h => hall i h) (fun h => by obtain rfl : i = k := (by omega); first | assumption | exact Classical.not_not.1 (by assumption)))⟩, (by omega)⟩
 refine X.exit (thenQ_exit (thenQ_exit (blockQ_exit ?_)))
 refine X.seq (X.region ?_)
 refine XL.as (.bool (true)) rfl ?_
 refine XL.nil ?_
 refine X.ret (retEnd (L' := L) [.bool (true)] (.bool (true)) (.tmp rfl .nil) rfl rF rF sR ?_)
 exact ⟨(vB (decide_eq_true (ext_any ((0 : Int), (0 : Int), ([] : List Int)) (by omega) (fun i hi => hall i (by omega))))), rfl, rfl⟩

/- laws.eqWalk -/
theorem eqWalk_spec {F : FH} {L : List HP} {fv : Value} {f : List Int} (hf : IntsF F fv f) {av : Value} {a : List StepT} (ha : StepsF F av a) {gv : Value} {g : List Int} (hg : IntsF F gv g) {bv : Value} {b : List StepT} (hb : StepsF F bv b) (hfl : f.length ≤ 9223372036854775807) (hal : a.length ≤ 9223372036854775807) (hbd : ∀ i, i < a.length → (a.getD i (0, 0, [])).2.2.length ≤ 9223372036854775807) :
    Does prog 36 [.agg #[fv, av], .agg #[gv, bv]] F (L) (fun v F' L' => (.bool (decide (f = g ∧ a = b)) : Value) = v ∧ F = F' ∧ L = L') := by
 refine Does.of_X func36 rfl rfl rfl ?_
 refine X.seq (X.region ?_)
 refine cX (XOp.box [fv, av] rfl rfl ?_)
 intro b1
 refine cX (XOp.box [gv, bv] rfl rfl ?_)
 intro b2
 refine XL.as (.bool (false)) rfl ?_
 refine XL.nil (X.seq (X.seq (X.region ?_)))
 refine cX (XOp.fieldP (b := b1) (0) runUnderlying57 rfl sizeOf22 (by decide) rfl rfl ?_)
 refine cX (XOp.load1 (v := fv) isAgg22 rfl (Rd.own [_] rfl rfl) ?_)
 refine cX (XOp.fieldP (b := b2) (0) runUnderlying57 rfl sizeOf22 (by decide) rfl rfl ?_)
 refine cX (XOp.load1 (v := gv) isAgg22 rfl (Rd.own [] rfl rfl) ?_)
 refine cX (XOp.call (args := [fv, gv]) call15 rfl (eqInt64S_spec hf hg (hbd := (.inl hfl))) ?_)
 rintro _ _ _ _ ⟨rfl, rfl, rfl⟩
 refine cX (XOp.notD (p := f = g) rfl ?_)
 refine XL.nil ?_
 refine X.condD (p := ¬(f = g)) rfl (fun h1 => ?_) (fun h1 => ?_)
 ·refine X.seq (X.region ?_)
  refine XL.as (.bool (false)) rfl ?_
  refine XL.nil ?_
  refine X.ret (thenQ_ret (retEnd (L' := L) [.bool (false)] (.bool (false)) (.tmp rfl .nil) rfl rF rF (sD (sD sR)) ?_))
  exact ⟨(vB (decide_eq_false (by intro e; simp_all))), rfl, rfl⟩
 refine X.skip (X.seq (X.seq (X.region ?_)))
 refine cX (XOp.fieldP (b := b1) (1) runUnderlying57 rfl sizeOf55 (by decide) rfl rfl ?_)
 refine cX (XOp.load1 (v := av) isAgg55 rfl (Rd.own [_] rfl rfl) ?_)
 refine cX (XOp.fieldP (b := b2) (1) runUnderlying57 rfl sizeOf55 (by decide) rfl rfl ?_)
 refine cX (XOp.load1 (v := bv) isAgg55 rfl (Rd.own [] rfl rfl) ?_)
 refine cX (XOp.call (args := [av, bv]) call89 rfl (eqStepS_spec ha hb (hal := (by first | assumption | rfl | omega | simp)) (hbd := (by first | assumption | rfl | omega | simp))) ?_)
 rintro _ _ _ _ ⟨rfl, rfl, rfl⟩
 refine cX (XOp.notD (p := a = b) rfl ?_)
 refine XL.nil ?_
 refine X.condD (p := ¬(a = b)) rfl (fun h2 => ?_) (fun h2 => ?_)
 ·refine X.seq (X.region ?_)
  refine XL.as (.bool (false)) rfl ?_
  refine XL.nil ?_
  refine X.ret (thenQ_ret (retEnd (L' := L) [.bool (false)] (.bool (false)) (.tmp rfl .nil) rfl rF rF (sD (sD sR)) ?_))
  exact ⟨(vB (decide_eq_false (by intro e; simp_all))), rfl, rfl⟩
 refine X.skip (X.seq (X.region ?_))
 refine XL.as (.bool (true)) rfl ?_
 refine XL.nil ?_
 refine X.ret (retEnd (L' := L) [.bool (true)] (.bool (true)) (.tmp rfl .nil) rfl rF rF (sD (sD sR)) ?_)
 exact ⟨(vB (decide_eq_true (by simp_all))), rfl, rfl⟩

/- laws.heldStepS -/
theorem heldStepS_spec {F : FH} {L : List HP} {xv : Value} {x : List StepT} (hx : StepsF F xv x) {z : Int} (hzb : 0 ≤ z ∧ z + ((x.flatMap flatStep).length : Int) ≤ 9000000000) (hxl : x.length ≤ 4000000) :
    Does prog 91 [xv, .int .i64 (z)] F (L) (fun v F' L' => (.int .i64 (heldF (x.flatMap flatStep) z) : Value) = v ∧ F = F' ∧ L = L') := by
 refine Does.of_X func91 rfl rfl rfl ?_
 refine X.seq (X.region ?_)
 refine XL.as (.int .i64 (0)) rfl ?_
 refine XL.nil (X.seq (X.seq (X.region ?_)))
 refine XL.as (.int .i64 (0)) rfl ?_
 refine XL.nil (X.block ?_)
 refine X.loop (α := Nat) (fun k => [(0, xv), (1, .int .i64 (heldF ((x.take k).flatMap flatStep) z)), (5, .int .i64 ((k : Int)))]) (fun k => L) (fun k F' => F = F' ∧ (k ≤ x.length) ∧ (0 ≤ heldF ((x.take k).flatMap flatStep) z)) (fun k => x.length - k) 0 ⟨rfl, (show Value.int .i64 z = .int .i64 (heldF ((x.take 0).flatMap flatStep) z) from congrArg (Value.int .i64) (by simp [heldF_nil])), rfl, trivial⟩ sR ⟨rfl, (by (try dsimp only) <;> omega), (by simp [heldF_nil]; omega)⟩ ?_
 rintro k rE _ _ ⟨rfl, hk, hnn⟩
 show X _ _ _ _ (envs [(0, xv), (1, .int .i64 (heldF ((x.take k).flatMap flatStep) z)), (5, .int .i64 ((k : Int)))] rE) _ (L)
 have hhp := heldF_pos (a := (x.take k).flatMap flatStep) (k := z) (by omega)
 have htl := fun (h : k < x.length) => flat_take_le (f := flatStep) (l := x) ((0 : Int), (0 : Int), ([] : List Int)) h
 have hnx := fun (h : k < x.length) => held_next (f := flatStep) (l := x) (k := k) ((0 : Int), (0 : Int), ([] : List Int)) hzb.1 h (by omega)
 have hsx : k < x.length → (flatStep (x.getD k (0, 0, []))).length = (x.getD k (0, 0, [])).2.2.length + 1 + 1 := fun _ => rfl
 have hun : k < x.length → heldF (flatStep (x.getD k (0, 0, []))) (heldF ((x.take k).flatMap flatStep) z) = (if (x.getD k (0, 0, [])).1 = heldF ((x.take k).flatMap flatStep) z then (if (x.getD k (0, 0, [])).2.1 = heldF ((x.take k).flatMap flatStep) z + 1 then heldF (x.getD k (0, 0, [])).2.2 (heldF ((x.take k).flatMap flatStep) z + 1 + 1) else -1) else -1) := fun _ => by rw [show flatStep (x.getD k (0, 0, [])) = (x.getD k (0, 0, [])).1 :: (x.getD k (0, 0, [])).2.1 :: (x.getD k (0, 0, [])).2.2 from rfl, heldF_cons hnn, heldF_cons (by omega)]
 refine X.seq (X.seq (X.region ?_))
 refine XL.mv (.int .i64 ((k : Int))) rfl ?_
 refine XL.mv (xv) rfl ?_
 refine cX (XOp.lenS (v := xv) (n := (x).length) runUnderlying55 rfl hx.slv ?_)
 refine cX (XOp.lss (a := (k : Int)) (b := (x.length : Int)) rfl rfl ?_)
 refine XL.nil ?_
 refine X.condD (p := (k : Int) < (x.length : Int)) rfl (fun h1 => ?_) (fun h1 => ?_)
 ·refine X.skip (X.seq (X.block (X.seq (X.seq (X.region ?_)))))
  refine XL.mv (xv) rfl ?_
  refine XL.mv (.int .i64 ((k : Int))) rfl ?_
  refine cX (XOp.indexS (v := xv) (i := (k : Int)) (n := (x).length) k runUnderlying55 sizeOf116 rfl rfl rfl hx.slv (by omega) rfl ?_)
  refine cX (XOp.fieldE (v := xv) (k * 3) runUnderlying116 rfl sizeOf2 (by decide) rfl rfl ?_)
  obtain ⟨a1, ha1, hr1, hr2, hr3⟩ := hx.rd (i := k) (by omega)
  refine cX (XOp.load1 (v := .int .i64 ((x.getD k (0, 0, [])).1)) isAgg2 rfl (hr1 _) ?_)
  refine XL.mv (.int .i64 (heldF ((x.take k).flatMap flatStep) z)) rfl ?_
  refine cX (XOp.neq (a := (x.getD k (0, 0, [])).1) (b := heldF ((x.take k).flatMap flatStep) z) rfl rfl ?_)
  refine XL.nil ?_
  refine X.condD (p := ((x.getD k (0, 0, [])).1 : Int) ≠ heldF ((x.take k).flatMap flatStep) z) rfl (fun h2 => ?_) (fun h2 => ?_)
  ·refine X.seq (X.region ?_)
   refine XL.as (.int .i64 (-1)) rfl ?_
   refine XL.nil ?_
   refine X.ret (thenQ_ret (blockQ_ret (thenQ_ret (thenQ_ret (blockQ_ret (thenQ_ret (retEnd (L' := L) [.int .i64 (-1)] (.int .i64 (-1)) (.tmp rfl .nil) rfl rF rF sR ?_)))))))
   exact ⟨(vI (by exact held_fail (k := k) ((0 : Int), (0 : Int), ([] : List Int)) hzb.1 (by omega) (by rw [hnx (by omega), hun (by omega), if_neg (by assumption)]; omega))), rfl, rfl⟩
  refine X.skip (X.seq (X.region ?_))
  refine XL.mv (.int .i64 (heldF ((x.take k).flatMap flatStep) z)) rfl ?_
  refine cX (XOp.addR (a := heldF ((x.take k).flatMap flatStep) z) (b := 1) ((heldF ((x.take k).flatMap flatStep) z) + 1) rfl rfl (by omega) (by omega) ?_)
  refine XL.as (.int .i64 ((heldF ((x.take k).flatMap flatStep) z) + 1)) rfl ?_
  refine XL.nil (X.seq (X.seq (X.region ?_)))
  refine XL.mv (xv) rfl ?_
  refine XL.mv (.int .i64 ((k : Int))) rfl ?_
  refine cX (XOp.indexS (v := xv) (i := (k : Int)) (n := (x).length) k runUnderlying55 sizeOf116 rfl rfl rfl hx.slv (by omega) rfl ?_)
  refine cX (XOp.fieldE (v := xv) (k * 3 + 1) runUnderlying116 rfl sizeOf2 (by decide) rfl rfl ?_)
  refine cX (XOp.load1 (v := .int .i64 ((x.getD k (0, 0, [])).2.1)) isAgg2 rfl (hr2 _) ?_)
  refine XL.mv (.int .i64 ((heldF ((x.take k).flatMap flatStep) z) + 1)) rfl ?_
  refine cX (XOp.neq (a := (x.getD k (0, 0, [])).2.1) (b := (heldF ((x.take k).flatMap flatStep) z) + 1) rfl rfl ?_)
  refine XL.nil ?_
  refine X.condD (p := ((x.getD k (0, 0, [])).2.1 : Int) ≠ (heldF ((x.take k).flatMap flatStep) z) + 1) rfl (fun h3 => ?_) (fun h3 => ?_)
  ·refine X.seq (X.region ?_)
   refine XL.as (.int .i64 (-1)) rfl ?_
   refine XL.nil ?_
   refine X.ret (thenQ_ret (blockQ_ret (thenQ_ret (thenQ_ret (blockQ_ret (thenQ_ret (retEnd (L' := L) [.int .i64 (-1)] (.int .i64 (-1)) (.tmp rfl .nil) rfl rF rF sR ?_)))))))
   exact ⟨(vI (by exact held_fail (k := k) ((0 : Int), (0 : Int), ([] : List Int)) hzb.1 (by omega) (by rw [hnx (by omega), hun (by omega), if_pos (by first | assumption | exact Classical.not_not.1 (by assumption)), if_neg (by assumption)]; omega))), rfl, rfl⟩
  refine X.skip (X.seq (X.region ?_))
  refine XL.mv (.int .i64 ((heldF ((x.take k).flatMap flatStep) z) + 1)) rfl ?_
  refine cX (XOp.addR (a := (heldF ((x.take k).flatMap flatStep) z) + 1) (b := 1) (((heldF ((x.take k).flatMap flatStep) z) + 1) + 1) rfl rfl (by omega) (by omega) ?_)
  refine XL.as (.int .i64 (((heldF ((x.take k).flatMap flatStep) z) + 1) + 1)) rfl ?_
  refine XL.nil (X.seq (X.region ?_))
  refine XL.mv (xv) rfl ?_
  refine XL.mv (.int .i64 ((k : Int))) rfl ?_
  refine cX (XOp.indexS (v := xv) (i := (k : Int)) (n := (x).length) k runUnderlying55 sizeOf116 rfl rfl rfl hx.slv (by omega) rfl ?_)
  refine cX (XOp.fieldE (v := xv) (k * 3 + 2) runUnderlying116 rfl sizeOf22 (by decide) rfl rfl ?_)
  refine cX (XOp.load1 (v := a1) isAgg22 rfl (hr3 _) ?_)
  refine XL.mv (.int .i64 (((heldF ((x.take k).flatMap flatStep) z) + 1) + 1)) rfl ?_
  refine cX (XOp.call (args := [a1, .int .i64 (((heldF ((x.take k).flatMap flatStep) z) + 1) + 1)]) call61 rfl (heldInt64S_spec (z := ((heldF ((x.take k).flatMap flatStep) z) + 1) + 1) ha1 (hzb := (by first | assumption | rfl | omega | simp))) ?_)
  rintro _ _ _ _ ⟨rfl, rfl, rfl⟩
  refine XL.as (.int .i64 (heldF ((x.getD k (0, 0, [])).2.2) (((heldF ((x.take k).flatMap flatStep) z) + 1) + 1))) rfl ?_
  refine XL.nil (X.seq (X.region ?_))
  refine XL.mv (.int .i64 (heldF ((x.getD k (0, 0, [])).2.2) (((heldF ((x.take k).flatMap flatStep) z) + 1) + 1))) rfl ?_
  refine cX (XOp.lss (a := heldF ((x.getD k (0, 0, [])).2.2) (((heldF ((x.take k).flatMap flatStep) z) + 1) + 1)) (b := 0) rfl rfl ?_)
  refine XL.nil ?_
  refine X.condD (p := (heldF ((x.getD k (0, 0, [])).2.2) (((heldF ((x.take k).flatMap flatStep) z) + 1) + 1) : Int) < 0) rfl (fun h4 => ?_) (fun h4 => ?_)
  ·refine X.seq (X.region ?_)
   refine XL.as (.int .i64 (-1)) rfl ?_
   refine XL.nil ?_
   refine X.ret (blockQ_ret (thenQ_ret (thenQ_ret (blockQ_ret (thenQ_ret (retEnd (L' := L) [.int .i64 (-1)] (.int .i64 (-1)) (.tmp rfl .nil) rfl rF rF sR ?_))))))
   exact ⟨(vI (by exact held_fail (k := k) ((0 : Int), (0 : Int), ([] : List Int)) hzb.1 (by omega) (by rw [hnx (by omega), hun (by omega), if_pos (by first | assumption | exact Classical.not_not.1 (by assumption)), if_pos (by first | assumption | exact Classical.not_not.1 (by assumption))]; omega))), rfl, rfl⟩
  refine X.skip (X.region ?_)
  refine XL.mv (.int .i64 ((k : Int))) rfl ?_
  refine cX (XOp.addR (a := (k : Int)) (b := 1) (((k + 1 : Nat) : Int)) rfl rfl (by omega) (by omega) ?_)
  refine XL.as (.int .i64 (((k + 1 : Nat) : Int))) rfl ?_
  refine XL.nil ?_
  exact ⟨k + 1, _, FLe.refl _, rF, ⟨rfl, (vI (by rw [hnx (by omega), hun (by omega), if_pos (by first | assumption | exact Classical.not_not.1 (by assumption)), if_pos (by first | assumption | exact Classical.not_not.1 (by assumption))])), rfl, trivial⟩, sR, ⟨rfl, (by (try dsimp only) <;> omega), (by (try dsimp only); rw [hnx (by omega), hun (by omega), if_pos (by first | assumption | exact Classical.not_not.1 (by assumption)), if_pos (by first | assumption | exact Classical.not_not.1 (by assumption))]; omega)⟩, (by omega)⟩
 refine X.exit (thenQ_exit (thenQ_exit (blockQ_exit ?_)))
 refine X.seq (X.region ?_)
 refine XL.mv (.int .i64 (heldF ((x.take k).flatMap flatStep) z)) rfl ?_
 refine XL.as (.int .i64 (heldF ((x.take k).flatMap flatStep) z)) rfl ?_
 refine XL.nil ?_
 refine X.ret (retEnd (L' := L) [.int .i64 (heldF ((x.take k).flatMap flatStep) z)] (.int .i64 (heldF ((x.take k).flatMap flatStep) z)) (.tmp rfl .nil) rfl rF rF sR ?_)
 exact ⟨(vI (by rw [List.take_of_length_le (by omega)])), rfl, rfl⟩

/- laws.heldWalk -/
theorem heldWalk_spec {F : FH} {L : List HP} {fv : Value} {f : List Int} (hf : IntsF F fv f) {xv : Value} {x : List StepT} (hx : StepsF F xv x) {z : Int} (hzb : 0 ≤ z ∧ z + ((f.length + (x.flatMap flatStep).length : Nat) : Int) ≤ 9000000000) (hxl : x.length ≤ 4000000) :
    Does prog 40 [.agg #[fv, xv], .int .i64 (z)] F (L) (fun v F' L' => (.int .i64 (heldF (f ++ x.flatMap flatStep) z) : Value) = v ∧ F = F' ∧ L = L') := by
 refine Does.of_X func40 rfl rfl rfl ?_
 have hh1 := heldF_range (xs := f) hzb.1
 refine X.seq (X.region ?_)
 refine cX (XOp.box [fv, xv] rfl rfl ?_)
 intro b1
 refine XL.as (.int .i64 (0)) rfl ?_
 refine XL.nil (X.seq (X.region ?_))
 refine cX (XOp.fieldP (b := b1) (0) runUnderlying57 rfl sizeOf22 (by decide) rfl rfl ?_)
 refine cX (XOp.load1 (v := fv) isAgg22 rfl (Rd.own [] rfl rfl) ?_)
 refine XL.mv (.int .i64 (z)) rfl ?_
 refine cX (XOp.call (args := [fv, .int .i64 (z)]) call61 rfl (heldInt64S_spec (z := z) hf (hzb := (by first | assumption | rfl | omega | simp))) ?_)
 rintro _ _ _ _ ⟨rfl, rfl, rfl⟩
 refine XL.as (.int .i64 (heldF f z)) rfl ?_
 refine XL.nil (X.seq (X.seq (X.region ?_)))
 refine XL.mv (.int .i64 (heldF f z)) rfl ?_
 refine cX (XOp.lss (a := heldF f z) (b := 0) rfl rfl ?_)
 refine XL.nil ?_
 refine X.condD (p := (heldF f z : Int) < 0) rfl (fun h1 => ?_) (fun h1 => ?_)
 ·refine X.seq (X.region ?_)
  refine XL.as (.int .i64 (-1)) rfl ?_
  refine XL.nil ?_
  refine X.ret (thenQ_ret (retEnd (L' := L) [.int .i64 (-1)] (.int .i64 (-1)) (.tmp rfl .nil) rfl rF rF (sD sR) ?_))
  exact ⟨(vI (by rw [heldF_append hzb.1, if_pos (by omega)])), rfl, rfl⟩
 refine X.skip (X.seq (X.region ?_))
 refine cX (XOp.fieldP (b := b1) (1) runUnderlying57 rfl sizeOf55 (by decide) rfl rfl ?_)
 refine cX (XOp.load1 (v := xv) isAgg55 rfl (Rd.own [] rfl rfl) ?_)
 refine XL.mv (.int .i64 (heldF f z)) rfl ?_
 refine cX (XOp.call (args := [xv, .int .i64 (heldF f z)]) call91 rfl (heldStepS_spec (z := heldF f z) hx (hzb := (by first | assumption | rfl | omega | simp)) (hxl := (by first | assumption | rfl | omega | simp))) ?_)
 rintro _ _ _ _ ⟨rfl, rfl, rfl⟩
 refine XL.as (.int .i64 (heldF (x.flatMap flatStep) (heldF f z))) rfl ?_
 refine XL.nil (X.seq (X.seq (X.region ?_)))
 refine XL.mv (.int .i64 (heldF (x.flatMap flatStep) (heldF f z))) rfl ?_
 refine cX (XOp.lss (a := heldF (x.flatMap flatStep) (heldF f z)) (b := 0) rfl rfl ?_)
 refine XL.nil ?_
 refine X.condD (p := (heldF (x.flatMap flatStep) (heldF f z) : Int) < 0) rfl (fun h2 => ?_) (fun h2 => ?_)
 ·refine X.seq (X.region ?_)
  refine XL.as (.int .i64 (-1)) rfl ?_
  refine XL.nil ?_
  refine X.ret (thenQ_ret (retEnd (L' := L) [.int .i64 (-1)] (.int .i64 (-1)) (.tmp rfl .nil) rfl rF rF (sD sR) ?_))
  exact ⟨(vI (by rw [heldF_append hzb.1, if_neg (by omega)]; have := (heldF_range (xs := x.flatMap flatStep) (k := heldF f z) (by omega)).1; omega)), rfl, rfl⟩
 refine X.skip (X.seq (X.region ?_))
 refine XL.mv (.int .i64 (heldF (x.flatMap flatStep) (heldF f z))) rfl ?_
 refine XL.as (.int .i64 (heldF (x.flatMap flatStep) (heldF f z))) rfl ?_
 refine XL.nil ?_
 refine X.ret (retEnd (L' := L) [.int .i64 (heldF (x.flatMap flatStep) (heldF f z))] (.int .i64 (heldF (x.flatMap flatStep) (heldF f z))) (.tmp rfl .nil) rfl rF rF (sD sR) ?_)
 exact ⟨(vI (by rw [heldF_append hzb.1, if_neg (by omega)])), rfl, rfl⟩

/- impl.stepArgs -/
theorem stepArgs_spec {F : FH} {L : List HP} {arv : Value} {ar : List Int} (har : IntsF F arv ar) {rsv : Value} {rs : List (List Int × List Int)} (hrs : PairsF F rsv rs) {tv : Value} {t : List Int} (ht : IntsF F tv t) {p : Int} {r : Int} :
    Does prog 227 [.agg #[arv, rsv], tv, .int .i64 (p), .int .i64 (r)] F (L) (fun v F' L' => (.bool (stepAtOk ar rs t p r) : Value) = v ∧ F = F' ∧ L = L') := by
 refine Does.of_X func227 rfl rfl rfl ?_
 refine X.seq (X.region ?_)
 refine cX (XOp.box [arv, rsv] rfl rfl ?_)
 intro b1
 refine XL.as (.bool (false)) rfl ?_
 refine XL.nil (X.seq (X.region ?_))
 refine cX (XOp.loadN [arv, rsv] isAgg37 sizeOf37 rfl rfl (Rd.ownN [] rfl rfl) ?_)
 refine cX (XOp.call (args := [.agg #[arv, rsv]]) call76 rfl (SystemOk_spec har hrs) ?_)
 rintro _ _ _ _ ⟨rfl, rfl, rfl⟩
 refine XL.mv (.bool (sysOk ar rs)) rfl ?_
 by_cases h1 : (sysOk ar rs) = true
 ·refine XL.yes (t := 11) rfl (vB h1) (XOp.fieldP (b := b1) (0) runUnderlying37 rfl sizeOf34 (by decide) rfl rfl ?_)
  refine XL.yes (t := 11) rfl (vB h1) (XOp.loadN [arv] isAgg34 sizeOf34 rfl rfl (Rd.ownN [] rfl rfl) ?_)
  refine XL.yes (t := 11) rfl (vB h1) (XOp.move (tv) rfl ?_)
  refine XL.yes (t := 11) rfl (vB h1) (XOp.move (.int .i64 (p)) rfl ?_)
  refine XL.yes (t := 11) rfl (vB h1) (XOp.call (args := [.agg #[arv], tv, .int .i64 (p)]) call233 rfl (posOk_spec (n := p) har ht) ?_)
  rintro _ _ _ _ ⟨rfl, rfl, rfl⟩
  refine cX (XOp.pickT (.bool (posOk ar t p)) (vB h1) rfl ?_)
  refine XL.mv (.bool (posOk ar t p)) rfl ?_
  by_cases h2 : (posOk ar t p) = true
  ·refine XL.yes (t := 18) rfl (vB h2) (XOp.move (.int .i64 (r)) rfl ?_)
   refine XL.yes (t := 18) rfl (vB h2) (XOp.geq (a := r) (b := 0) rfl rfl ?_)
   refine cX (XOp.pickT (.bool (decide ((r : Int) ≥ 0))) (vB h2) rfl ?_)
   refine XL.mv (.bool (decide ((r : Int) ≥ 0))) rfl ?_
   by_cases h3 : (r : Int) ≥ 0
   ·refine XL.yes (t := 22) rfl (vT h3) (XOp.move (.int .i64 (r)) rfl ?_)
    refine XL.yes (t := 22) rfl (vT h3) (XOp.fieldP (b := b1) (1) runUnderlying37 rfl sizeOf35 (by decide) rfl rfl ?_)
    refine XL.yes (t := 22) rfl (vT h3) (XOp.load1 (v := rsv) isAgg35 rfl (Rd.own [] rfl rfl) ?_)
    refine XL.yes (t := 22) rfl (vT h3) (XOp.lenS (v := rsv) (n := (rs).length) runUnderlying35 rfl hrs.slv ?_)
    refine XL.yes (t := 22) rfl (vT h3) (XOp.lss (a := r) (b := (rs.length : Int)) rfl rfl ?_)
    refine cX (XOp.pickT (.bool (decide ((r : Int) < (rs.length : Int)))) (vT h3) rfl ?_)
    refine XL.as (.bool (decide ((r : Int) < (rs.length : Int)))) rfl ?_
    refine XL.nil ?_
    refine X.ret (retEnd (L' := L) [.bool (decide ((r : Int) < (rs.length : Int)))] (.bool (decide ((r : Int) < (rs.length : Int)))) (.tmp rfl .nil) rfl rF rF (sD sR) ?_)
    exact ⟨(vB (by unfold stepAtOk rightB; cases hA : sysOk ar rs <;> cases hB : termOk ar t <;> simp_all [posOk] <;> omega)), rfl, rfl⟩
   refine XL.no (t := 22) rfl (vF h3) ?_
   refine XL.no (t := 22) rfl (vF h3) ?_
   refine XL.no (t := 22) rfl (vF h3) ?_
   refine XL.no (t := 22) rfl (vF h3) ?_
   refine XL.no (t := 22) rfl (vF h3) ?_
   refine cX (XOp.pickF (.bool (false)) (vF h3) rfl ?_)
   refine XL.as (.bool (false)) rfl ?_
   refine XL.nil ?_
   refine X.ret (retEnd (L' := L) [.bool (false)] (.bool (false)) (.tmp rfl .nil) rfl rF rF (sD sR) ?_)
   exact ⟨(vB (by unfold stepAtOk rightB; cases hA : sysOk ar rs <;> cases hB : termOk ar t <;> simp_all [posOk] <;> omega)), rfl, rfl⟩
  rw [Bool.not_eq_true] at h2
  refine XL.no (t := 18) rfl (vB h2) ?_
  refine XL.no (t := 18) rfl (vB h2) ?_
  refine cX (XOp.pickF (.bool (false)) (vB h2) rfl ?_)
  refine XL.mv (.bool (false)) rfl ?_
  refine XL.no (t := 22) rfl rfl ?_
  refine XL.no (t := 22) rfl rfl ?_
  refine XL.no (t := 22) rfl rfl ?_
  refine XL.no (t := 22) rfl rfl ?_
  refine XL.no (t := 22) rfl rfl ?_
  refine cX (XOp.pickF (.bool (false)) rfl rfl ?_)
  refine XL.as (.bool (false)) rfl ?_
  refine XL.nil ?_
  refine X.ret (retEnd (L' := L) [.bool (false)] (.bool (false)) (.tmp rfl .nil) rfl rF rF (sD sR) ?_)
  exact ⟨(vB (by unfold stepAtOk rightB; cases hA : sysOk ar rs <;> cases hB : termOk ar t <;> simp_all [posOk] <;> omega)), rfl, rfl⟩
 rw [Bool.not_eq_true] at h1
 refine XL.no (t := 11) rfl (vB h1) ?_
 refine XL.no (t := 11) rfl (vB h1) ?_
 refine XL.no (t := 11) rfl (vB h1) ?_
 refine XL.no (t := 11) rfl (vB h1) ?_
 refine XL.no (t := 11) rfl (vB h1) ?_
 refine cX (XOp.pickF (.bool (false)) (vB h1) rfl ?_)
 refine XL.mv (.bool (false)) rfl ?_
 refine XL.no (t := 18) rfl rfl ?_
 refine XL.no (t := 18) rfl rfl ?_
 refine cX (XOp.pickF (.bool (false)) rfl rfl ?_)
 refine XL.mv (.bool (false)) rfl ?_
 refine XL.no (t := 22) rfl rfl ?_
 refine XL.no (t := 22) rfl rfl ?_
 refine XL.no (t := 22) rfl rfl ?_
 refine XL.no (t := 22) rfl rfl ?_
 refine XL.no (t := 22) rfl rfl ?_
 refine cX (XOp.pickF (.bool (false)) rfl rfl ?_)
 refine XL.as (.bool (false)) rfl ?_
 refine XL.nil ?_
 refine X.ret (retEnd (L' := L) [.bool (false)] (.bool (false)) (.tmp rfl .nil) rfl rF rF (sD sR) ?_)
 exact ⟨(vB (by unfold stepAtOk rightB; cases hA : sysOk ar rs <;> cases hB : termOk ar t <;> simp_all [posOk] <;> omega)), rfl, rfl⟩

/- impl.StepAt -/
theorem StepAt_spec {F : FH} {L : List HP} {arv : Value} {ar : List Int} (har : IntsF F arv ar) {rsv : Value} {rs : List (List Int × List Int)} (hrs : PairsF F rsv rs) {tv : Value} {t : List Int} (ht : IntsF F tv t) {p : Int} {r : Int} :
    Does prog 211 [.agg #[arv, rsv], tv, .int .i64 (p), .int .i64 (r)] F (L) (fun v F' L' => ∃ (a : Value), (.tuple #[a, .bool ((stepAtL ar rs t p r).isSome)] : Value) = v ∧ (IntsF F' a ((stepAtL ar rs t p r).getD [])) ∧ (Fresh F F' (intsH 2 a ((stepAtL ar rs t p r).getD []))) ∧ L = L') := by
 refine Does.of_X func211 rfl rfl rfl ?_
 refine X.seq (X.region ?_)
 refine cX (XOp.box [arv, rsv] rfl rfl ?_)
 intro b1
 refine XL.as ((.slice none 0 0)) rfl ?_
 refine XL.as (.bool (false)) rfl ?_
 refine XL.nil (X.seq (X.seq (X.region ?_)))
 refine cX (XOp.loadN [arv, rsv] isAgg37 sizeOf37 rfl rfl (Rd.ownN [] rfl rfl) ?_)
 refine XL.mv (tv) rfl ?_
 refine XL.mv (.int .i64 (p)) rfl ?_
 refine XL.mv (.int .i64 (r)) rfl ?_
 refine cX (XOp.call (args := [.agg #[arv, rsv], tv, .int .i64 (p), .int .i64 (r)]) call227 rfl (stepArgs_spec (p := p) (r := r) har hrs ht) ?_)
 rintro _ _ _ _ ⟨rfl, rfl, rfl⟩
 refine cX (XOp.notB (b := stepAtOk ar rs t p r) rfl ?_)
 refine XL.nil ?_
 refine X.cond (t := !(stepAtOk ar rs t p r)) rfl (fun h1 => ?_) (fun h1 => ?_)
 ·have hz0 : stepAtL ar rs t p r = none := by rw [stepAtL, if_neg (by simpa using h1)]
  refine X.seq (X.region ?_)
  refine XL.as ((.slice none 0 0)) rfl ?_
  refine XL.as (.bool (false)) rfl ?_
  refine XL.nil ?_
  refine X.ret (thenQ_ret (retEnd (L' := L) [(.slice none 0 0), .bool (false)] (.tuple #[(.slice none 0 0), .bool (false)]) (.tmp rfl (.tmp rfl .nil)) rfl rF rF (sD sR) ?_))
  exact ⟨_, by rw [hz0]; rfl, by rw [hz0]; exact IntsF.nilV, by rw [hz0]; exact Fresh.ofNil _, rfl⟩
 have hok : stepAtOk ar rs t p r = true := by simpa using h1
 have hok2 := hok
 unfold stepAtOk rightB at hok2
 simp only [Bool.and_eq_true, decide_eq_true_eq] at hok2
 obtain ⟨⟨⟨hsys, ho⟩, hp1⟩, hr1⟩ := hok2
 refine X.skip (X.seq (X.region ?_))
 refine cX (XOp.loadN [arv, rsv] isAgg37 sizeOf37 rfl rfl (Rd.ownN [] rfl rfl) ?_)
 refine XL.mv (tv) rfl ?_
 refine XL.mv (.int .i64 (p)) rfl ?_
 refine XL.mv (.int .i64 (r)) rfl ?_
 refine cX (XOp.call (args := [.agg #[arv, rsv], tv, .int .i64 (((p).toNat : Nat) : Int), .int .i64 (((r).toNat : Nat) : Int)]) call114 (by rw [show (((p).toNat : Nat) : Int) = p from by omega, show (((r).toNat : Nat) : Int) = r from by omega]; rfl) (step_spec (p := (p).toNat) (r := (r).toNat) har hrs ht (hsys := (by first | assumption | rfl | omega | simp)) (ho := (by first | assumption | rfl | omega | simp)) (hp := (by first | assumption | rfl | omega | simp)) (hr := (by first | assumption | rfl | omega | simp))) ?_)
 rintro _ F1 _ le1 ⟨x1, rfl, hr1, hr2, hr3, rfl⟩
 refine cX (XOp.extract (x1) rfl rfl ?_)
 refine cX (XOp.extract (.bool ((stepL ar rs t ((p).toNat) ((r).toNat)).isSome)) rfl rfl ?_)
 refine XL.as (x1) rfl ?_
 refine XL.as (.bool ((stepL ar rs t ((p).toNat) ((r).toNat)).isSome)) rfl ?_
 refine XL.nil ?_
 refine X.ret (retEnd (L' := L) [x1, .bool ((stepL ar rs t ((p).toNat) ((r).toNat)).isSome)] (.tuple #[x1, .bool ((stepL ar rs t ((p).toNat) ((r).toNat)).isSome)]) (.tmp rfl (.tmp rfl .nil)) rfl le1 rF (sD sR) ?_)
 have e := show stepAtL ar rs t p r = stepL ar rs t p.toNat r.toNat from by rw [stepAtL, if_pos hok]
 exact ⟨_, by rw [e], by rw [e]; exact hr1, by rw [e]; exact hr3, rfl⟩
end Go.Proofs.YtiaanelimbmniaaGreat
set_option linter.unusedSimpArgs false
set_option linter.unusedVariables false
namespace Go.Proofs.YtiaanelimbmniaaGreat
open Go X M Tryz

/- spec.StepAt -/
theorem sStepAt_spec {F : FH} {L : List HP} {arv : Value} {ar : List Int} (har : IntsF F arv ar) {rsv : Value} {rs : List (List Int × List Int)} (hrs : PairsF F rsv rs) {tv : Value} {t : List Int} (ht : IntsF F tv t) {p : Int} {r : Int} (hla : ar.length ≤ 4000000) (hlr : rs.length ≤ 4000000) (hrb : ∀ i, i < rs.length → (rs.getD i ([], [])).1.length ≤ 4000000 ∧ (rs.getD i ([], [])).2.length ≤ 4000000) (hlt : t.length ≤ 4000000) :
    Does prog 163 [.agg #[arv, rsv], tv, .int .i64 (p), .int .i64 (r)] F (L) (fun v F' L' => ∃ (a : Value), (.tuple #[a, .bool ((stepAtL ar rs t p r).isSome)] : Value) = v ∧ (IntsF F' a ((stepAtL ar rs t p r).getD [])) ∧ L = L') := by
 refine Does.of_X func163 rfl rfl rfl ?_
 refine X.seq (X.region ?_)
 refine cX (XOp.box [arv, rsv] rfl rfl ?_)
 intro b1
 refine XL.as ((.slice none 0 0)) rfl ?_
 refine XL.as (.bool (false)) rfl ?_
 refine XL.nil (X.seq (X.seq (X.region ?_)))
 refine cX (XOp.loadN [arv, rsv] isAgg37 sizeOf37 rfl rfl (Rd.ownN [] rfl rfl) ?_)
 refine XL.mv (tv) rfl ?_
 refine cX (XOp.call (args := [.agg #[arv, rsv], tv]) call143 rfl (l7Right_spec har hrs ht (hla := (by first | assumption | rfl | omega | simp)) (hlr := (by first | assumption | rfl | omega | simp)) (hrb := (by first | assumption | rfl | omega | simp)) (hlt := (by first | assumption | rfl | omega | simp))) ?_)
 rintro _ _ _ _ ⟨rfl, rfl, rfl⟩
 refine cX (XOp.notB (b := rightB ar rs t) rfl ?_)
 refine XL.mv (.bool (!(rightB ar rs t))) rfl ?_
 by_cases h1 : (!(rightB ar rs t)) = true
 ·refine XL.no (t := 14) rfl (vB h1) ?_
  refine XL.no (t := 14) rfl (vB h1) ?_
  refine XL.no (t := 14) rfl (vB h1) ?_
  refine XL.no (t := 14) rfl (vB h1) ?_
  refine cX (XOp.pickT (.bool (true)) (vB h1) rfl ?_)
  refine XL.mv (.bool (true)) rfl ?_
  refine XL.no (t := 20) rfl rfl ?_
  refine XL.no (t := 20) rfl rfl ?_
  refine XL.no (t := 20) rfl rfl ?_
  refine XL.no (t := 20) rfl rfl ?_
  refine XL.no (t := 20) rfl rfl ?_
  refine XL.no (t := 20) rfl rfl ?_
  refine XL.no (t := 20) rfl rfl ?_
  refine cX (XOp.pickT (.bool (true)) rfl rfl ?_)
  refine XL.nil ?_
  refine X.condT rfl ?_
  refine X.seq (X.region ?_)
  refine cX (XOp.buildSlice (s := 1) [] [.int .i64 (0)] [] runUnderlying22 sizeOf2 zeroValue2 rfl (by decide) rfl CellsAre.nil rfl ?_)
  intro v1 hv1
  refine XL.as (v1) rfl ?_
  refine XL.as (.bool (false)) rfl ?_
  refine XL.nil ?_
  show X _ _ _ _ _ _ (intsH 2 v1 ([] : List Int) :: cellsH b1 [arv, rsv] 37 :: L)
  refine X.freezeF [] _ _ rfl (fun F1 le1 hz1 => ?_)
  replace har := har.mono le1
  replace hrs := hrs.mono le1
  replace ht := ht.mono le1
  have hf1 : IntsF F1 v1 ([]) := intsH.fz (xs := []) hz1.fz
  refine X.ret (thenQ_ret (retEnd (L' := L) [v1, .bool (false)] (.tuple #[v1, .bool (false)]) (.tmp rfl (.tmp rfl .nil)) rfl le1 rF (sD sR) ?_))
  have hz0 : stepAtL ar rs t p r = none := by rw [stepAtL, if_neg (by unfold stepAtOk; cases hA : rightB ar rs t <;> simp_all <;> omega)]
  exact ⟨_, by rw [hz0]; rfl, by rw [hz0]; exact hf1, rfl⟩
 rw [Bool.not_eq_true] at h1
 refine XL.yes (t := 14) rfl (vB h1) (XOp.move (tv) rfl ?_)
 refine XL.yes (t := 14) rfl (vB h1) (XOp.move (.int .i64 (p)) rfl ?_)
 refine XL.yes (t := 14) rfl (vB h1) (XOp.call (args := [tv, .int .i64 (p)]) call200 rfl (l1There_spec (n := p) ht (hbd := (by first | assumption | rfl | omega | simp))) ?_)
 rintro _ _ _ _ ⟨rfl, rfl, rfl⟩
 refine XL.yes (t := 14) rfl (vB h1) (XOp.notD (p := 0 ≤ p ∧ p < (t.length : Int)) rfl ?_)
 refine cX (XOp.pickF (.bool (decide (¬(0 ≤ p ∧ p < (t.length : Int))))) (vB h1) rfl ?_)
 refine XL.mv (.bool (decide (¬(0 ≤ p ∧ p < (t.length : Int))))) rfl ?_
 by_cases h2 : ¬(0 ≤ p ∧ p < (t.length : Int))
 ·refine XL.no (t := 20) rfl (vT h2) ?_
  refine XL.no (t := 20) rfl (vT h2) ?_
  refine XL.no (t := 20) rfl (vT h2) ?_
  refine XL.no (t := 20) rfl (vT h2) ?_
  refine XL.no (t := 20) rfl (vT h2) ?_
  refine XL.no (t := 20) rfl (vT h2) ?_
  refine XL.no (t := 20) rfl (vT h2) ?_
  refine cX (XOp.pickT (.bool (true)) (vT h2) rfl ?_)
  refine XL.nil ?_
  refine X.condT rfl ?_
  refine X.seq (X.region ?_)
  refine cX (XOp.buildSlice (s := 1) [] [.int .i64 (0)] [] runUnderlying22 sizeOf2 zeroValue2 rfl (by decide) rfl CellsAre.nil rfl ?_)
  intro v2 hv2
  refine XL.as (v2) rfl ?_
  refine XL.as (.bool (false)) rfl ?_
  refine XL.nil ?_
  show X _ _ _ _ _ _ (intsH 2 v2 ([] : List Int) :: cellsH b1 [arv, rsv] 37 :: L)
  refine X.freezeF [] _ _ rfl (fun F2 le2 hz2 => ?_)
  replace har := har.mono le2
  replace hrs := hrs.mono le2
  replace ht := ht.mono le2
  have hf2 : IntsF F2 v2 ([]) := intsH.fz (xs := []) hz2.fz
  refine X.ret (thenQ_ret (retEnd (L' := L) [v2, .bool (false)] (.tuple #[v2, .bool (false)]) (.tmp rfl (.tmp rfl .nil)) rfl le2 rF (sD sR) ?_))
  have hz0 : stepAtL ar rs t p r = none := by rw [stepAtL, if_neg (by unfold stepAtOk; cases hA : rightB ar rs t <;> simp_all <;> omega)]
  exact ⟨_, by rw [hz0]; rfl, by rw [hz0]; exact hf2, rfl⟩
 refine XL.yes (t := 20) rfl (vF h2) (XOp.move (.int .i64 (r)) rfl ?_)
 refine XL.yes (t := 20) rfl (vF h2) (XOp.fieldP (b := b1) (1) runUnderlying37 rfl sizeOf35 (by decide) rfl rfl ?_)
 refine XL.yes (t := 20) rfl (vF h2) (XOp.load1 (v := rsv) isAgg35 rfl (Rd.own [] rfl rfl) ?_)
 refine XL.yes (t := 20) rfl (vF h2) (XOp.lenS (v := rsv) (n := (rs).length) runUnderlying35 rfl hrs.slv ?_)
 refine XL.yes (t := 20) rfl (vF h2) (XOp.subR (a := (rs.length : Int)) (b := 1) (((rs.length : Int)) - 1) rfl rfl (by omega) (by omega) ?_)
 refine XL.yes (t := 20) rfl (vF h2) (XOp.call (args := [.int .i64 (r), .int .i64 (0), .int .i64 (((rs.length : Int)) - 1)]) call98 rfl (l1In_spec (n := r) (a := 0) (b := ((rs.length : Int)) - 1)) ?_)
 rintro _ _ _ _ ⟨rfl, rfl, rfl⟩
 refine XL.yes (t := 20) rfl (vF h2) (XOp.notD (p := 0 ≤ r ∧ r ≤ (((rs.length : Int)) - 1)) rfl ?_)
 refine cX (XOp.pickF (.bool (decide (¬(0 ≤ r ∧ r ≤ (((rs.length : Int)) - 1))))) (vF h2) rfl ?_)
 refine XL.nil ?_
 refine X.condD (p := ¬(0 ≤ r ∧ r ≤ (((rs.length : Int)) - 1))) rfl (fun h3 => ?_) (fun h3 => ?_)
 ·refine X.seq (X.region ?_)
  refine cX (XOp.buildSlice (s := 1) [] [.int .i64 (0)] [] runUnderlying22 sizeOf2 zeroValue2 rfl (by decide) rfl CellsAre.nil rfl ?_)
  intro v3 hv3
  refine XL.as (v3) rfl ?_
  refine XL.as (.bool (false)) rfl ?_
  refine XL.nil ?_
  show X _ _ _ _ _ _ (intsH 2 v3 ([] : List Int) :: cellsH b1 [arv, rsv] 37 :: L)
  refine X.freezeF [] _ _ rfl (fun F3 le3 hz3 => ?_)
  replace har := har.mono le3
  replace hrs := hrs.mono le3
  replace ht := ht.mono le3
  have hf3 : IntsF F3 v3 ([]) := intsH.fz (xs := []) hz3.fz
  refine X.ret (thenQ_ret (retEnd (L' := L) [v3, .bool (false)] (.tuple #[v3, .bool (false)]) (.tmp rfl (.tmp rfl .nil)) rfl le3 rF (sD sR) ?_))
  have hz0 : stepAtL ar rs t p r = none := by rw [stepAtL, if_neg (by unfold stepAtOk; cases hA : rightB ar rs t <;> simp_all <;> omega)]
  exact ⟨_, by rw [hz0]; rfl, by rw [hz0]; exact hf3, rfl⟩
 refine X.skip (X.seq (X.region ?_))
 have hok : stepAtOk ar rs t p r = true := by unfold stepAtOk; cases hA : rightB ar rs t <;> simp_all <;> omega
 have hok2 := hok
 unfold stepAtOk rightB at hok2
 simp only [Bool.and_eq_true, decide_eq_true_eq] at hok2
 obtain ⟨⟨⟨hsys, ho⟩, hp1⟩, hr1⟩ := hok2
 refine cX (XOp.loadN [arv, rsv] isAgg37 sizeOf37 rfl rfl (Rd.ownN [] rfl rfl) ?_)
 refine XL.mv (tv) rfl ?_
 refine XL.mv (.int .i64 (p)) rfl ?_
 refine XL.mv (.int .i64 (r)) rfl ?_
 refine cX (XOp.call (args := [.agg #[arv, rsv], tv, .int .i64 (((p).toNat : Nat) : Int), .int .i64 (((r).toNat : Nat) : Int)]) call101 (by rw [show (((p).toNat : Nat) : Int) = p from by omega, show (((r).toNat : Nat) : Int) = r from by omega]; rfl) (l7Step_spec (p := (p).toNat) (r := (r).toNat) har hrs ht (hsys := (by first | assumption | rfl | omega | simp)) (ho := (by first | assumption | rfl | omega | simp)) (hp := (by first | assumption | rfl | omega | simp)) (hr := (by first | assumption | rfl | omega | simp))) ?_)
 rintro _ F4 _ le4 ⟨x1, rfl, hr1, rfl⟩
 refine cX (XOp.extract (x1) rfl rfl ?_)
 refine cX (XOp.extract (.bool ((stepL ar rs t ((p).toNat) ((r).toNat)).isSome)) rfl rfl ?_)
 refine XL.as (x1) rfl ?_
 refine XL.as (.bool ((stepL ar rs t ((p).toNat) ((r).toNat)).isSome)) rfl ?_
 refine XL.nil ?_
 refine X.ret (retEnd (L' := L) [x1, .bool ((stepL ar rs t ((p).toNat) ((r).toNat)).isSome)] (.tuple #[x1, .bool ((stepL ar rs t ((p).toNat) ((r).toNat)).isSome)]) (.tmp rfl (.tmp rfl .nil)) rfl le4 rF (sD sR) ?_)
 have e := show stepAtL ar rs t p r = stepL ar rs t p.toNat r.toNat from by rw [stepAtL, if_pos hok]
 exact ⟨_, by rw [e], by rw [e]; exact hr1, rfl⟩
end Go.Proofs.YtiaanelimbmniaaGreat
set_option linter.unusedSimpArgs false
set_option linter.unusedVariables false
namespace Go.Proofs.YtiaanelimbmniaaGreat
open Go X M Tryz
end Go.Proofs.YtiaanelimbmniaaGreat
set_option linter.unusedSimpArgs false
set_option linter.unusedVariables false
namespace Go.Proofs.YtiaanelimbmniaaGreat
open Go X M Tryz

/- impl.argsAt -/
theorem argsAt_spec {F : FH} {L : List HP} {arv : Value} {ar : List Int} (har : IntsF F arv ar) {tv : Value} {t : List Int} (ht : IntsF F tv t) {p : Nat} (ho : termOk ar t = true) (hp : p < t.length) :
    Does prog 228 [.agg #[arv], tv, .int .i64 ((p : Int))] F (L) (fun v F' L' => F = F' ∧ IsSl v ∧ intsH 3 v (argsL ar t p) :: L = L') := by
 refine Does.of_X func228 rfl rfl rfl ?_
 have hsl := sigOk_spec (termOk_sig ho)
 have htl := termOk_len ho
 have hsig := termOk_sig ho
 have hA := arity_le hsig (termOk_lt ho hp)
 have hge := termOk_ge ho hp
 have hlt := termOk_lt ho hp
 refine X.seq (X.region ?_)
 refine cX (XOp.box [arv] rfl rfl ?_)
 intro b1
 refine XL.as ((.slice none 0 0)) rfl ?_
 refine XL.nil (X.seq (X.region ?_))
 refine XL.as ((.slice none 0 0)) rfl ?_
 refine XL.nil (X.seq (X.region ?_))
 refine XL.mv (.int .i64 ((p : Int))) rfl ?_
 refine cX (XOp.addR (a := (p : Int)) (b := 1) (((p + 1 : Nat) : Int)) rfl rfl (by omega) (by omega) ?_)
 refine XL.as (.int .i64 (((p + 1 : Nat) : Int))) rfl ?_
 refine XL.nil (X.seq (X.seq ?_))
 refine X.draw [cellsH b1 [arv] 34] L 5 [[], [], [], [], []] [[], [], [], [1, 2], [3]] (phiL [fun us v => v = (.agg #[arv] : Value), fun us v => v = tv, fun us v => v = (.int .i64 ((p : Int)) : Value), fun us v => v = (.pointer (some (elemA tv (p))) : Value), fun us v => v = (.int .i64 (t.getD p 0) : Value)]) (ownL [fun us v => [], fun us v => [], fun us v => [], fun us v => [], fun us v => []]) mixed rfl rfl (by kernel_rfl) ?_ ?_
 ·refine pC (fun vals R hpZ => ?_) ?_
  ·refine XG.op (XOp.loadN [arv] isAgg34 sizeOf34 rfl rfl (Rd.ownN [] rfl rfl) ?_)
   exact ⟨rfl, rfl, rfl⟩
  refine pC (fun vals R hpZ => ?_) ?_
  ·refine XG.op (XOp.move (tv) rfl ?_)
   exact ⟨rfl, rfl, rfl⟩
  refine pC (fun vals R hpZ => ?_) ?_
  ·refine XG.op (XOp.move (.int .i64 ((p : Int))) rfl ?_)
   exact ⟨rfl, rfl, rfl⟩
  refine pC (fun vals R hpZ => ?_) ?_
  ·rw [eS (l := [(1, tv), (2, (.int .i64 ((p : Int)) : Value))]) ⟨hpZ 1 (by decide), hpZ 2 (by decide), trivial⟩]
   refine XG.op (XOp.indexS (v := tv) (i := (p : Int)) (n := (t).length) p runUnderlying22 sizeOf2 rfl rfl rfl ht.slv (by omega) (Nat.mul_one _) ?_)
   exact ⟨rfl, rfl, rfl⟩
  refine pC (fun vals R hpZ => ?_) ?_
  ·rw [eS (l := [(3, (.pointer (some (elemA tv (p))) : Value))]) ⟨hpZ 3 (by decide), trivial⟩]
   refine XG.op (XOp.load1 (v := .int .i64 (t.getD p 0)) isAgg2 rfl (ht.rd (by omega)) ?_)
   exact ⟨rfl, rfl, rfl⟩
  exact stepsP.nil
 intro vals hphi
 rw [eS (l := [(0, (.agg #[arv] : Value)), (4, (.int .i64 (t.getD p 0) : Value))]) ⟨(hphi 0 (by decide)), (hphi 4 (by decide)), trivial⟩]
 show XL _ _ _ _ _ _ _ (cellsH b1 [arv] 34 :: L)
 refine cX (XOp.call (args := [.agg #[arv], .int .i64 (t.getD p 0)]) call232 rfl (arityAt_spec (n := t.getD p 0) har (hn := (by first | assumption | rfl | omega | simp))) ?_)
 rintro _ _ _ _ ⟨rfl, rfl, rfl⟩
 refine XL.as (.int .i64 (arity ar (t.getD p 0))) rfl ?_
 refine XL.nil (X.block ?_)
 refine X.loop (α := Nat × Nat × Value × List Int) (fun xQ => [(1, tv), (3, ptr b1 0), (7, xQ.2.2.1), (8, .int .i64 (((xQ.2.1 : Nat) : Int))), (9, .int .i64 (((xQ.1 : Nat) : Int)))]) (fun xQ => intsH 3 xQ.2.2.1 xQ.2.2.2 :: cellsH b1 [arv] 34 :: L) (fun xQ F' => F = F' ∧ (IsSl xQ.2.2.1) ∧ (Stand ar t xQ.1 xQ.2.1 (endN ar t p)) ∧ (argsL ar t p = xQ.2.2.2 ++ argsGo ar t xQ.1 xQ.2.1) ∧ (xQ.2.2.2.length + xQ.1 ≤ 3)) (fun xQ => xQ.1) ((arity ar (t.getD p 0)).toNat, p + 1, (.slice none 0 0), []) ⟨rfl, rfl, rfl, rfl, (vI (by first | omega | (rw [sArity_eq (by omega)]; omega))), trivial⟩ (Sub.trans (intsH.addNil 3 none _) (sC (sC sR))) ⟨rfl, (⟨_, _, _, rfl⟩), (stand_start ho hp), (rfl), (by rw [List.length_nil]; omega)⟩ ?_
 rintro ⟨m, q, ov, os⟩ rE _ _ ⟨rfl, hov, hS, hos, hol⟩
 show X _ _ _ _ (envs [(1, tv), (3, ptr b1 0), (7, ov), (8, .int .i64 ((q : Int))), (9, .int .i64 ((m : Int)))] rE) _ (intsH 3 ov os :: cellsH b1 [arv] 34 :: L)
 dsimp only at hov hS hos hol
 have hst := fun (h : 1 ≤ m) => stand_step ho (n := m - 1) (by rw [Nat.sub_add_cancel h]; exact hS)
 refine X.seq (X.seq (X.region ?_))
 refine XL.mv (.int .i64 ((m : Int))) rfl ?_
 refine cX (XOp.gtr (a := (m : Int)) (b := 0) rfl rfl ?_)
 refine XL.nil ?_
 refine X.condD (p := (m : Int) > 0) rfl (fun h1 => ?_) (fun h1 => ?_)
 ·refine X.skip (X.seq (X.block (X.seq (X.region ?_))))
  refine XL.mv (ov) rfl ?_
  refine XL.mv (.int .i64 ((q : Int))) rfl ?_
  refine cX (XOp.buildSlice (s := 1) [.int .i64 ((q : Int))] [.int .i64 (0)] [(0, [.int .i64 ((q : Int))])] runUnderlying208 sizeOf3 zeroValue3 rfl (by decide) rfl (.cons rfl CellsAre.nil) rfl ?_)
  intro v1 hv1
  refine cX (XOp.append1 (u := (q : Int)) [_] _ runUnderlying208 typeInfo3 rfl rfl rfl rfl rfl rfl (SlV.own [] rfl) (Rd.sl [] rfl rfl) (by (try simp only [List.length_append, List.length_nil, List.length_cons, List.length_singleton, List.length_take, List.length_drop]); omega) ?_)
  intro v2 hs1 hn1
  refine XL.as (v2) rfl ?_
  refine XL.nil (X.region ?_)
  refine cX (XOp.loadN [arv] isAgg34 sizeOf34 rfl rfl (Rd.ownN [_, _] rfl rfl) ?_)
  refine XL.mv (tv) rfl ?_
  refine XL.mv (.int .i64 ((q : Int))) rfl ?_
  refine cX (XOp.call (args := [.agg #[arv], tv, .int .i64 (q : Int)]) call152 rfl (endAt_ok (p := q) har ht (ho := (by first | assumption | rfl | omega | (left; simp; done) | (right; simp; done))) (hp := (by first | assumption | rfl | omega | (left; simp; done) | (right; simp; done)))) ?_)
  rintro _ _ _ _ ⟨rfl, rfl, rfl⟩
  refine XL.as (.int .i64 (((endN ar t q : Nat) : Int))) rfl ?_
  refine XL.nil (X.region ?_)
  refine XL.mv (.int .i64 ((m : Int))) rfl ?_
  refine cX (XOp.subR (a := (m : Int)) (b := 1) (((m : Int)) - 1) rfl rfl (by omega) (by omega) ?_)
  refine XL.as (.int .i64 (((m : Int)) - 1)) rfl ?_
  refine XL.nil ?_
  exact ⟨(m - 1, endN ar t q, v2, os ++ [(q : Int)]), _, FLe.refl _, rF, ⟨rfl, rfl, rfl, rfl, (vI (by omega)), trivial⟩, (sD (sC (sC sR))), ⟨rfl, (hs1), ((hst (by omega)).2.1), (args_next ho (by omega) hos), (by dsimp only; rw [List.length_append, List.length_singleton]; omega)⟩, (by omega)⟩
 refine X.exit (thenQ_exit (thenQ_exit (blockQ_exit ?_)))
 refine X.seq (X.region ?_)
 refine XL.mv (ov) rfl ?_
 refine XL.as (ov) rfl ?_
 refine XL.nil ?_
 refine X.ret (retEnd (L' := intsH 3 ov os :: L) [ov] (ov) (.tmp rfl .nil) rfl rF rF (sC (sD sR)) ?_)
 refine ⟨rfl, hov, ?_⟩
 have hxs : (argsL ar t p : List Int) = os := by rw [hos, show m = 0 from by omega]; simp [argsGo]
 exact congrArg (fun z => intsH 3 _ z :: L) hxs

/- spec.l1Args -/
theorem l1Args_spec {F : FH} {L : List HP} {arv : Value} {ar : List Int} (har : IntsF F arv ar) {tv : Value} {t : List Int} (ht : IntsF F tv t) {p : Nat} (ho : termOk ar t = true) (hp : p < t.length) :
    Does prog 207 [.agg #[arv], tv, .int .i64 ((p : Int))] F (L) (fun v F' L' => F = F' ∧ IsSl v ∧ intsH 2 v (argsL ar t p) :: L = L') := by
 refine Does.of_X func207 rfl rfl rfl ?_
 have hsl := sigOk_spec (termOk_sig ho)
 have htl := termOk_len ho
 have hsig := termOk_sig ho
 have hA := arity_le hsig (termOk_lt ho hp)
 have hge := termOk_ge ho hp
 have hlt := termOk_lt ho hp
 refine X.seq (X.region ?_)
 refine cX (XOp.box [arv] rfl rfl ?_)
 intro b1
 refine XL.as ((.slice none 0 0)) rfl ?_
 refine XL.nil (X.seq (X.region ?_))
 refine cX (XOp.buildSlice (s := 1) [] [.int .i64 (0)] [] runUnderlying22 sizeOf2 zeroValue2 rfl (by decide) rfl CellsAre.nil rfl ?_)
 intro v1 hv1
 refine XL.as (v1) rfl ?_
 refine XL.nil (X.seq (X.region ?_))
 refine XL.mv (.int .i64 ((p : Int))) rfl ?_
 refine cX (XOp.addR (a := (p : Int)) (b := 1) (((p + 1 : Nat) : Int)) rfl rfl (by omega) (by omega) ?_)
 refine XL.as (.int .i64 (((p + 1 : Nat) : Int))) rfl ?_
 refine XL.nil (X.seq (X.seq ?_))
 refine X.draw [slH 2 1 v1 0 [], cellsH b1 [arv] 34] L 5 [[], [], [], [], []] [[], [], [], [1, 2], [3]] (phiL [fun us v => v = (.agg #[arv] : Value), fun us v => v = tv, fun us v => v = (.int .i64 ((p : Int)) : Value), fun us v => v = (.pointer (some (elemA tv (p))) : Value), fun us v => v = (.int .i64 (t.getD p 0) : Value)]) (ownL [fun us v => [], fun us v => [], fun us v => [], fun us v => [], fun us v => []]) mixed rfl rfl (by kernel_rfl) ?_ ?_
 ·refine pC (fun vals R hpZ => ?_) ?_
  ·refine XG.op (XOp.loadN [arv] isAgg34 sizeOf34 rfl rfl (Rd.ownN [_] rfl rfl) ?_)
   exact ⟨rfl, rfl, rfl⟩
  refine pC (fun vals R hpZ => ?_) ?_
  ·refine XG.op (XOp.move (tv) rfl ?_)
   exact ⟨rfl, rfl, rfl⟩
  refine pC (fun vals R hpZ => ?_) ?_
  ·refine XG.op (XOp.move (.int .i64 ((p : Int))) rfl ?_)
   exact ⟨rfl, rfl, rfl⟩
  refine pC (fun vals R hpZ => ?_) ?_
  ·rw [eS (l := [(1, tv), (2, (.int .i64 ((p : Int)) : Value))]) ⟨hpZ 1 (by decide), hpZ 2 (by decide), trivial⟩]
   refine XG.op (XOp.indexS (v := tv) (i := (p : Int)) (n := (t).length) p runUnderlying22 sizeOf2 rfl rfl rfl ht.slv (by omega) (Nat.mul_one _) ?_)
   exact ⟨rfl, rfl, rfl⟩
  refine pC (fun vals R hpZ => ?_) ?_
  ·rw [eS (l := [(3, (.pointer (some (elemA tv (p))) : Value))]) ⟨hpZ 3 (by decide), trivial⟩]
   refine XG.op (XOp.load1 (v := .int .i64 (t.getD p 0)) isAgg2 rfl (ht.rd (by omega)) ?_)
   exact ⟨rfl, rfl, rfl⟩
  exact stepsP.nil
 intro vals hphi
 rw [eS (l := [(0, (.agg #[arv] : Value)), (4, (.int .i64 (t.getD p 0) : Value))]) ⟨(hphi 0 (by decide)), (hphi 4 (by decide)), trivial⟩]
 show XL _ _ _ _ _ _ _ (slH 2 1 v1 0 [] :: cellsH b1 [arv] 34 :: L)
 refine cX (XOp.call (args := [.agg #[arv], .int .i64 (t.getD p 0)]) call199 rfl (l1Arity_spec (n := t.getD p 0) har (hla := (by first | assumption | rfl | omega | simp))) ?_)
 rintro _ _ _ _ ⟨rfl, rfl, rfl⟩
 refine XL.as (.int .i64 (sArity ar (t.getD p 0))) rfl ?_
 refine XL.nil (X.block ?_)
 refine X.loop (α := Nat × Nat × Value × List Int) (fun xQ => [(1, tv), (3, ptr b1 0), (7, xQ.2.2.1), (8, .int .i64 (((xQ.2.1 : Nat) : Int))), (9, .int .i64 (((xQ.1 : Nat) : Int)))]) (fun xQ => intsH 2 xQ.2.2.1 xQ.2.2.2 :: cellsH b1 [arv] 34 :: L) (fun xQ F' => F = F' ∧ (IsSl xQ.2.2.1) ∧ (Stand ar t xQ.1 xQ.2.1 (endN ar t p)) ∧ (argsL ar t p = xQ.2.2.2 ++ argsGo ar t xQ.1 xQ.2.1) ∧ (xQ.2.2.2.length + xQ.1 ≤ 3)) (fun xQ => xQ.1) ((arity ar (t.getD p 0)).toNat, p + 1, v1, []) ⟨rfl, rfl, rfl, rfl, (vI (by first | omega | (rw [sArity_eq (by omega)]; omega))), trivial⟩ (sC (sC sR)) ⟨rfl, ((isSl_lit hv1)), (stand_start ho hp), (rfl), (by rw [List.length_nil]; omega)⟩ ?_
 rintro ⟨m, q, ov, os⟩ rE _ _ ⟨rfl, hov, hS, hos, hol⟩
 show X _ _ _ _ (envs [(1, tv), (3, ptr b1 0), (7, ov), (8, .int .i64 ((q : Int))), (9, .int .i64 ((m : Int)))] rE) _ (intsH 2 ov os :: cellsH b1 [arv] 34 :: L)
 dsimp only at hov hS hos hol
 have hst := fun (h : 1 ≤ m) => stand_step ho (n := m - 1) (by rw [Nat.sub_add_cancel h]; exact hS)
 refine X.seq (X.seq (X.region ?_))
 refine XL.mv (.int .i64 ((m : Int))) rfl ?_
 refine cX (XOp.gtr (a := (m : Int)) (b := 0) rfl rfl ?_)
 refine XL.nil ?_
 refine X.condD (p := (m : Int) > 0) rfl (fun h1 => ?_) (fun h1 => ?_)
 ·refine X.skip (X.seq (X.block (X.seq (X.region ?_))))
  refine XL.mv (ov) rfl ?_
  refine XL.mv (.int .i64 ((q : Int))) rfl ?_
  refine cX (XOp.buildSlice (s := 1) [.int .i64 ((q : Int))] [.int .i64 (0)] [(0, [.int .i64 ((q : Int))])] runUnderlying22 sizeOf2 zeroValue2 rfl (by decide) rfl (.cons rfl CellsAre.nil) rfl ?_)
  intro v2 hv2
  refine cX (XOp.append1 (u := (q : Int)) [_] _ runUnderlying22 typeInfo2 rfl rfl rfl rfl rfl rfl (SlV.own [] rfl) (Rd.sl [] rfl rfl) (by (try simp only [List.length_append, List.length_nil, List.length_cons, List.length_singleton, List.length_take, List.length_drop]); omega) ?_)
  intro v3 hs1 hn1
  refine XL.as (v3) rfl ?_
  refine XL.nil (X.region ?_)
  refine cX (XOp.loadN [arv] isAgg34 sizeOf34 rfl rfl (Rd.ownN [_, _] rfl rfl) ?_)
  refine XL.mv (tv) rfl ?_
  refine XL.mv (.int .i64 ((q : Int))) rfl ?_
  refine cX (XOp.call (args := [.agg #[arv], tv, .int .i64 (q : Int)]) call139 rfl (l1End_ok (p := q) har ht (ho := (by first | assumption | rfl | omega | (left; simp; done) | (right; simp; done))) (hp := (by first | assumption | rfl | omega | (left; simp; done) | (right; simp; done)))) ?_)
  rintro _ _ _ _ ⟨rfl, rfl, rfl⟩
  refine XL.as (.int .i64 (((endN ar t q : Nat) : Int))) rfl ?_
  refine XL.nil (X.region ?_)
  refine XL.mv (.int .i64 ((m : Int))) rfl ?_
  refine cX (XOp.subR (a := (m : Int)) (b := 1) (((m : Int)) - 1) rfl rfl (by omega) (by omega) ?_)
  refine XL.as (.int .i64 (((m : Int)) - 1)) rfl ?_
  refine XL.nil ?_
  exact ⟨(m - 1, endN ar t q, v3, os ++ [(q : Int)]), _, FLe.refl _, rF, ⟨rfl, rfl, rfl, rfl, (vI (by omega)), trivial⟩, (sD (sC (sC sR))), ⟨rfl, (hs1), ((hst (by omega)).2.1), (args_next ho (by omega) hos), (by dsimp only; rw [List.length_append, List.length_singleton]; omega)⟩, (by omega)⟩
 refine X.exit (thenQ_exit (thenQ_exit (blockQ_exit ?_)))
 refine X.seq (X.region ?_)
 refine XL.mv (ov) rfl ?_
 refine XL.as (ov) rfl ?_
 refine XL.nil ?_
 refine X.ret (retEnd (L' := intsH 2 ov os :: L) [ov] (ov) (.tmp rfl .nil) rfl rF rF (sC (sD sR)) ?_)
 refine ⟨rfl, hov, ?_⟩
 have hxs : (argsL ar t p : List Int) = os := by rw [hos, show m = 0 from by omega]; simp [argsGo]
 exact congrArg (fun z => intsH 2 _ z :: L) hxs

/- spec.l3Inside -/
theorem l3Inside_spec {F : FH} {L : List HP} {arv : Value} {ar : List Int} (har : IntsF F arv ar) {tv : Value} {t : List Int} (ht : IntsF F tv t) {p : Nat} {q : Int} (ho : termOk ar t = true) (hp : p < t.length) :
    Does prog 226 [.agg #[arv], tv, .int .i64 ((p : Int)), .int .i64 (q)] F (L) (fun v F' L' => (.bool (decide ((p : Int) ≤ q ∧ q < (endN ar t p : Int))) : Value) = v ∧ F = F' ∧ L = L') := by
 refine Does.of_X func226 rfl rfl rfl ?_
 have hsl := sigOk_spec (termOk_sig ho)
 have htl := termOk_len ho
 have hsig := termOk_sig ho
 have hee := endN_spec ho hp
 refine X.seq (X.region ?_)
 refine cX (XOp.box [arv] rfl rfl ?_)
 intro b1
 refine XL.as (.bool (false)) rfl ?_
 refine XL.nil (X.seq (X.region ?_))
 refine XL.mv (.int .i64 (q)) rfl ?_
 refine XL.mv (.int .i64 ((p : Int))) rfl ?_
 refine cX (XOp.loadN [arv] isAgg34 sizeOf34 rfl rfl (Rd.ownN [] rfl rfl) ?_)
 refine XL.mv (tv) rfl ?_
 refine XL.mv (.int .i64 ((p : Int))) rfl ?_
 refine cX (XOp.call (args := [.agg #[arv], tv, .int .i64 (p : Int)]) call139 rfl (l1End_ok (p := p) har ht (ho := (by first | assumption | rfl | omega | (left; simp; done) | (right; simp; done))) (hp := (by first | assumption | rfl | omega | (left; simp; done) | (right; simp; done)))) ?_)
 rintro _ _ _ _ ⟨rfl, rfl, rfl⟩
 refine cX (XOp.subR (a := ((endN ar t p : Nat) : Int)) (b := 1) ((((endN ar t p : Nat) : Int)) - 1) rfl rfl (by omega) (by omega) ?_)
 refine cX (XOp.call (args := [.int .i64 (q), .int .i64 ((p : Int)), .int .i64 ((((endN ar t p : Nat) : Int)) - 1)]) call98 rfl (l1In_spec (n := q) (a := (p : Int)) (b := (((endN ar t p : Nat) : Int)) - 1)) ?_)
 rintro _ _ _ _ ⟨rfl, rfl, rfl⟩
 refine XL.as (.bool (decide (((p : Int)) ≤ q ∧ q ≤ ((((endN ar t p : Nat) : Int)) - 1)))) rfl ?_
 refine XL.nil ?_
 refine X.ret (retEnd (L' := L) [.bool (decide (((p : Int)) ≤ q ∧ q ≤ ((((endN ar t p : Nat) : Int)) - 1)))] (.bool (decide (((p : Int)) ≤ q ∧ q ≤ ((((endN ar t p : Nat) : Int)) - 1)))) (.tmp rfl .nil) rfl rF rF (sD sR) ?_)
 exact ⟨(vB (decide_eq_decide.2 (by omega))), rfl, rfl⟩

/- impl.pathTo -/
theorem pathTo_spec {F : FH} {L : List HP} {arv : Value} {ar : List Int} (har : IntsF F arv ar) {tv : Value} {t : List Int} (ht : IntsF F tv t) {x : Nat} (ho : termOk ar t = true) (hx : x < t.length) :
    Does prog 213 [.agg #[arv], tv, .int .i64 ((x : Int))] F (L) (fun v F' L' => F = F' ∧ IsSl v ∧ intsH 2 v (pathL ar t x) :: L = L') := by
 refine Does.of_X func213 rfl rfl rfl ?_
 have hsl := sigOk_spec (termOk_sig ho)
 have htl := termOk_len ho
 have hsig := termOk_sig ho
 have hz0 : endN ar t 0 = t.length := endN_zero ho
 refine X.seq (X.region ?_)
 refine cX (XOp.box [arv] rfl rfl ?_)
 intro b1
 refine XL.as ((.slice none 0 0)) rfl ?_
 refine XL.nil ?_
 refine X.scope ?_
 refine X.seq (X.region ?_)
 refine XL.as ((.slice none 0 0)) rfl ?_
 refine XL.nil (X.seq (X.region ?_))
 refine XL.as (.int .i64 (0)) rfl ?_
 refine XL.nil (X.seq (X.label (X.seq (X.block ?_))))
 refine X.loop (α := Nat × Nat × Value × List Int × FH) (fun xQ => [(1, tv), (2, .int .i64 ((x : Int))), (3, ptr b1 0), (7, xQ.2.2.1), (8, .int .i64 (((xQ.2.1 : Nat) : Int)))]) (fun xQ => intsH 2 xQ.2.2.1 xQ.2.2.2.1 :: cellsH b1 [arv] 34 :: L) (fun xQ F' => xQ.2.2.2.2 = F' ∧ F ≤ xQ.2.2.2.2 ∧ (IsSl xQ.2.2.1) ∧ (xQ.2.1 ≤ x ∧ x < endN ar t xQ.2.1) ∧ (x - xQ.2.1 ≤ xQ.1) ∧ (pathL ar t x = xQ.2.2.2.1 ++ pathGo ar t x xQ.1 xQ.2.1) ∧ (xQ.2.2.2.1.length + xQ.1 ≤ t.length)) (fun xQ => x - xQ.2.1) (t.length, 0, (.slice none 0 0), [], F) ⟨rfl, rfl, rfl, rfl, rfl, trivial⟩ (Sub.trans (intsH.addNil 2 none _) (sC (sC sR))) ⟨rfl, FLe.refl _, (⟨_, _, _, rfl⟩), (⟨Nat.zero_le _, by rw [hz0]; exact hx⟩), (by omega), (rfl), (by simp)⟩ ?_
 rintro ⟨f, p, ov, os, G1⟩ rE _ _ ⟨rfl, leG, hov, hpx, hf, hos, hol⟩
 show X _ _ _ _ (envs [(1, tv), (2, .int .i64 ((x : Int))), (3, ptr b1 0), (7, ov), (8, .int .i64 ((p : Int)))] rE) _ (intsH 2 ov os :: cellsH b1 [arv] 34 :: L)
 replace leG : F ≤ G1 := leG
 dsimp only at hov hpx hf hos hol
 have leG1 := leG
 replace har := har.mono leG1
 replace ht := ht.mono leG1
 refine X.seq (X.seq (X.region ?_))
 refine XL.mv (.int .i64 ((p : Int))) rfl ?_
 refine XL.mv (.int .i64 ((x : Int))) rfl ?_
 refine cX (XOp.neq (a := (p : Int)) (b := (x : Int)) rfl rfl ?_)
 refine XL.nil ?_
 refine X.condD (p := (p : Int) ≠ (x : Int)) rfl (fun h1 => ?_) (fun h1 => ?_)
 ·refine X.skip (X.block (X.seq (X.region ?_)))
  refine cX (XOp.loadN [arv] isAgg34 sizeOf34 rfl rfl (Rd.ownN [_] rfl rfl) ?_)
  refine XL.mv (tv) rfl ?_
  refine XL.mv (.int .i64 ((p : Int))) rfl ?_
  refine cX (XOp.frzF <| XOp.call (args := [.agg #[arv], tv, .int .i64 (p : Int)]) call228 rfl (argsAt_spec (p := p) har ht (ho := (by first | assumption | rfl | omega | simp)) (hp := (by first | assumption | rfl | omega | simp))) ?_)
  rintro v1 _ _ _ ⟨rfl, hs1, rfl⟩
  refine ⟨_, _, rfl, fun F1 le1 hz1 => ?_⟩
  replace har := har.mono le1
  replace ht := ht.mono le1
  have hf1 : IntsF F1 v1 ((argsL ar t p)) := intsH.fz (xs := (argsL ar t p)) hz1.fz
  refine cX (XOp.lenS (v := v1) (n := ((argsL ar t p)).length) runUnderlying208 rfl hf1.slv ?_)
  refine XL.mv (.int .i64 (0)) rfl ?_
  refine XL.nil (X.block ?_)
  refine X.loop (α := Nat) (fun k => [(1, tv), (2, .int .i64 ((x : Int))), (3, ptr b1 0), (7, ov), (8, .int .i64 ((p : Int))), (17, v1), (18, .int .i64 (((((argsL ar t p)).length : Nat) : Int))), (19, .int .i64 ((k : Int)))]) (fun k => intsH 2 ov os :: cellsH b1 [arv] 34 :: L) (fun k F' => F1 = F' ∧ (k ≤ (argsL ar t p).length) ∧ (∀ i, i < k → inAt ar t x ((argsL ar t p).getD i 0) = false)) (fun k => (argsL ar t p).length - k) 0 ⟨rfl, rfl, rfl, rfl, rfl, rfl, rfl, rfl, trivial⟩ (sC (sC sR)) ⟨rfl, (by (try dsimp only) <;> omega), (fun i hi => absurd hi (by omega))⟩ ?_
  rintro k rE _ _ ⟨rfl, hk, hall⟩
  show X _ _ _ _ (envs [(1, tv), (2, .int .i64 ((x : Int))), (3, ptr b1 0), (7, ov), (8, .int .i64 ((p : Int))), (17, v1), (18, .int .i64 (((((argsL ar t p)).length : Nat) : Int))), (19, .int .i64 ((k : Int)))] rE) _ (intsH 2 ov os :: cellsH b1 [arv] 34 :: L)
  have hle := argsL_le ho (show p < t.length by omega)
  have hia := fun (h : k < (argsL ar t p).length) => argsL_in ho (by omega) h
  refine X.seq (X.region ?_)
  refine cX (XOp.lss (a := (k : Int)) (b := ((((argsL ar t p)).length : Nat) : Int)) rfl rfl ?_)
  refine XL.nil (X.seq ?_)
  refine X.condD (p := (k : Int) < ((((argsL ar t p)).length : Nat) : Int)) rfl (fun h2 => ?_) (fun h2 => ?_)
  ·refine X.skip (X.seq (X.block (X.seq (X.region ?_))))
   refine XL.mv (.int .i64 ((k : Int))) rfl ?_
   refine cX (XOp.indexS (v := v1) (i := (k : Int)) (n := ((argsL ar t p)).length) k runUnderlying208 sizeOf3 rfl rfl rfl hf1.slv (by omega) (Nat.mul_one _) ?_)
   refine cX (XOp.load1 (v := .int .i64 (((argsL ar t p)).getD k 0)) isAgg3 rfl (hf1.rd (by omega)) ?_)
   refine XL.as (.int .i64 ((k : Int))) rfl ?_
   refine XL.as (.int .i64 (((argsL ar t p)).getD k 0)) rfl ?_
   refine XL.nil (X.seq (X.region ?_))
   refine cX (XOp.loadN [arv] isAgg34 sizeOf34 rfl rfl (Rd.ownN [_] rfl rfl) ?_)
   refine XL.mv (tv) rfl ?_
   refine XL.mv (.int .i64 (((argsL ar t p)).getD k 0)) rfl ?_
   refine XL.mv (.int .i64 ((x : Int))) rfl ?_
   refine cX (XOp.call (args := [.agg #[arv], tv, .int .i64 (((((argsL ar t p)).getD k 0).toNat : Nat) : Int), .int .i64 ((x : Int))]) call229 (by rw [show (((((argsL ar t p)).getD k 0).toNat : Nat) : Int) = ((argsL ar t p)).getD k 0 from by omega]; rfl) (inside_spec (p := (((argsL ar t p)).getD k 0).toNat) (q := (x : Int)) har ht (ho := (ho)) (hp := (by have := hia (by omega); omega))) ?_)
   rintro _ _ _ _ ⟨rfl, rfl, rfl⟩
   refine XL.nil ?_
   refine X.condD (p := (((((argsL ar t p)).getD k 0).toNat) : Int) ≤ ((x : Int)) ∧ ((x : Int)) < (endN ar t ((((argsL ar t p)).getD k 0).toNat) : Int)) rfl (fun h3 => ?_) (fun h3 => ?_)
   ·have hyes : inAt ar t x ((argsL ar t p).getD k 0) = true := inAt_iff.2 (by have := hia (by omega); omega)
    refine X.seq (X.region ?_)
    refine XL.mv (ov) rfl ?_
    refine XL.mv (.int .i64 ((k : Int))) rfl ?_
    refine cX (XOp.buildSlice (s := 1) [.int .i64 ((k : Int))] [.int .i64 (0)] [(0, [.int .i64 ((k : Int))])] runUnderlying22 sizeOf2 zeroValue2 rfl (by decide) rfl (.cons rfl CellsAre.nil) rfl ?_)
    intro v2 hv1
    refine cX (XOp.append1 (u := (k : Int)) [_] _ runUnderlying22 typeInfo2 rfl rfl rfl rfl rfl rfl (SlV.own [] rfl) (Rd.sl [] rfl rfl) (by (try simp only [List.length_append, List.length_nil, List.length_cons, List.length_singleton, List.length_take, List.length_drop]); omega) ?_)
    intro v3 hs2 hn1
    refine XL.as (v3) rfl ?_
    refine XL.nil (X.seq (X.region ?_))
    refine XL.mv (.int .i64 (((argsL ar t p)).getD k 0)) rfl ?_
    refine XL.as (.int .i64 (((argsL ar t p)).getD k 0)) rfl ?_
    refine XL.nil ?_
    refine X.exit (blockQ_other (by decide) (thenQ_exit (thenQ_exit (blockQ_other (by decide) (blockQ_exit ?_)))))
    exact ⟨(f - 1, ((argsL ar t p).getD k 0).toNat, v3, os ++ [(k : Int)], F1), _, (FLe.trans leG1 le1), rF, ⟨rfl, rfl, rfl, rfl, (vI (by have := hia (by omega); dsimp only; omega)), trivial⟩, (sD (sC (sC sR))), ⟨rfl, (FLe.trans leG1 le1), (hs2), ((by have h9 := inAt_iff.1 hyes; have := hia (by omega); dsimp only; constructor <;> omega)), (by have := hia (by omega); dsimp only; omega), (by (try dsimp only); exact path_next hos hf (by omega) (by omega) hyes hall), (by dsimp only; rw [List.length_append, List.length_singleton]; omega)⟩, (by have h9 := inAt_iff.1 hyes; have := hia (by omega); dsimp only; omega)⟩
   have hno : inAt ar t x ((argsL ar t p).getD k 0) = false := by
     rw [Bool.eq_false_iff]; intro h9; have h8 := inAt_iff.1 h9; have := hia (by omega); omega
   refine X.skip (X.region ?_)
   refine cX (XOp.addR (a := (k : Int)) (b := 1) (((k + 1 : Nat) : Int)) rfl rfl (by omega) (by omega) ?_)
   refine XL.mv (.int .i64 (((k + 1 : Nat) : Int))) rfl ?_
   refine XL.nil ?_
   exact ⟨k + 1, _, FLe.refl _, rF, ⟨rfl, rfl, rfl, rfl, rfl, rfl, rfl, rfl, trivial⟩, (sC (sC sR)), ⟨rfl, (by (try dsimp only) <;> omega), (fun i hi => (Nat.lt_or_ge i k).elim (fun h => hall i h) (fun h => by obtain rfl : i = k := (by omega); exact hno))⟩, (by omega)⟩
  exact (args_some ho (by omega) hpx.2 hx (fun i hi => hall i (by omega))).elim
 refine X.exit (thenQ_exit (thenQ_exit (blockQ_exit ?_)))
 refine X.seq (X.region ?_)
 refine XL.mv (ov) rfl ?_
 refine XL.as (ov) rfl ?_
 refine XL.nil ?_
 refine X.ret (scopeQ_ret (retEnd (L' := intsH 2 ov os :: L) [ov] (ov) (.tmp rfl .nil) rfl rF leG1 (sC (sD sR)) ?_))
 refine ⟨rfl, hov, ?_⟩
 have hxs : (pathL ar t x : List Int) = os := by have h0 : p = x := (by omega); rw [h0] at hos; exact path_end hos
 exact congrArg (fun z => intsH 2 _ z :: L) hxs

/- spec.l3Path -/
theorem l3Path_spec {F : FH} {L : List HP} {arv : Value} {ar : List Int} (har : IntsF F arv ar) {tv : Value} {t : List Int} (ht : IntsF F tv t) {x : Nat} (ho : termOk ar t = true) (hx : x < t.length) :
    Does prog 209 [.agg #[arv], tv, .int .i64 ((x : Int))] F (L) (fun v F' L' => F = F' ∧ IsSl v ∧ intsH 2 v (pathL ar t x) :: L = L') := by
 refine Does.of_X func209 rfl rfl rfl ?_
 have hsl := sigOk_spec (termOk_sig ho)
 have htl := termOk_len ho
 have hsig := termOk_sig ho
 have hz0 : endN ar t 0 = t.length := endN_zero ho
 refine X.seq (X.region ?_)
 refine cX (XOp.box [arv] rfl rfl ?_)
 intro b1
 refine XL.as ((.slice none 0 0)) rfl ?_
 refine XL.nil (X.seq (X.region ?_))
 refine cX (XOp.buildSlice (s := 1) [] [.int .i64 (0)] [] runUnderlying22 sizeOf2 zeroValue2 rfl (by decide) rfl CellsAre.nil rfl ?_)
 intro v1 hv1
 refine XL.as (v1) rfl ?_
 refine XL.nil (X.seq (X.region ?_))
 refine XL.as (.int .i64 (0)) rfl ?_
 refine XL.nil (X.seq (X.block ?_))
 refine X.loop (α := Nat × Nat × Value × List Int × FH) (fun xQ => [(1, tv), (2, .int .i64 ((x : Int))), (3, ptr b1 0), (7, xQ.2.2.1), (8, .int .i64 (((xQ.2.1 : Nat) : Int)))]) (fun xQ => intsH 2 xQ.2.2.1 xQ.2.2.2.1 :: cellsH b1 [arv] 34 :: L) (fun xQ F' => xQ.2.2.2.2 = F' ∧ F ≤ xQ.2.2.2.2 ∧ (IsSl xQ.2.2.1) ∧ (xQ.2.1 ≤ x ∧ x < endN ar t xQ.2.1) ∧ (x - xQ.2.1 ≤ xQ.1) ∧ (pathL ar t x = xQ.2.2.2.1 ++ pathGo ar t x xQ.1 xQ.2.1) ∧ (xQ.2.2.2.1.length + xQ.1 ≤ t.length)) (fun xQ => x - xQ.2.1) (t.length, 0, v1, [], F) ⟨rfl, rfl, rfl, rfl, rfl, trivial⟩ (sC (sC sR)) ⟨rfl, FLe.refl _, ((isSl_lit hv1)), (⟨Nat.zero_le _, by rw [hz0]; exact hx⟩), (by omega), (rfl), (by simp)⟩ ?_
 rintro ⟨f, p, ov, os, G1⟩ rE _ _ ⟨rfl, leG, hov, hpx, hf, hos, hol⟩
 show X _ _ _ _ (envs [(1, tv), (2, .int .i64 ((x : Int))), (3, ptr b1 0), (7, ov), (8, .int .i64 ((p : Int)))] rE) _ (intsH 2 ov os :: cellsH b1 [arv] 34 :: L)
 replace leG : F ≤ G1 := leG
 dsimp only at hov hpx hf hos hol
 have leG1 := leG
 replace har := har.mono leG1
 replace ht := ht.mono leG1
 refine X.seq (X.seq (X.region ?_))
 refine XL.mv (.int .i64 ((p : Int))) rfl ?_
 refine XL.mv (.int .i64 ((x : Int))) rfl ?_
 refine cX (XOp.neq (a := (p : Int)) (b := (x : Int)) rfl rfl ?_)
 refine XL.nil ?_
 refine X.condD (p := (p : Int) ≠ (x : Int)) rfl (fun h1 => ?_) (fun h1 => ?_)
 ·refine X.skip (X.block (X.seq (X.region ?_)))
  refine cX (XOp.loadN [arv] isAgg34 sizeOf34 rfl rfl (Rd.ownN [_] rfl rfl) ?_)
  refine XL.mv (tv) rfl ?_
  refine XL.mv (.int .i64 ((p : Int))) rfl ?_
  refine cX (XOp.frzF <| XOp.call (args := [.agg #[arv], tv, .int .i64 (p : Int)]) call207 rfl (l1Args_spec (p := p) har ht (ho := (by first | assumption | rfl | omega | simp)) (hp := (by first | assumption | rfl | omega | simp))) ?_)
  rintro v2 _ _ _ ⟨rfl, hs1, rfl⟩
  refine ⟨_, _, rfl, fun F1 le1 hz1 => ?_⟩
  replace har := har.mono le1
  replace ht := ht.mono le1
  have hf1 : IntsF F1 v2 ((argsL ar t p)) := intsH.fz (xs := (argsL ar t p)) hz1.fz
  refine XL.as (v2) rfl ?_
  refine XL.nil (X.seq (X.region ?_))
  refine XL.as (.int .i64 (0)) rfl ?_
  refine XL.nil (X.block ?_)
  refine X.loop (α := Nat) (fun k => [(1, tv), (2, .int .i64 ((x : Int))), (3, ptr b1 0), (7, ov), (8, .int .i64 ((p : Int))), (9, v2), (10, .int .i64 ((k : Int)))]) (fun k => intsH 2 ov os :: cellsH b1 [arv] 34 :: L) (fun k F' => F1 = F' ∧ (k ≤ (argsL ar t p).length) ∧ (∀ i, i < k → inAt ar t x ((argsL ar t p).getD i 0) = false)) (fun k => (argsL ar t p).length - k) 0 ⟨rfl, rfl, rfl, rfl, rfl, rfl, rfl, trivial⟩ (sC (sC sR)) ⟨rfl, (by (try dsimp only) <;> omega), (fun i hi => absurd hi (by omega))⟩ ?_
  rintro k rE _ _ ⟨rfl, hk, hall⟩
  show X _ _ _ _ (envs [(1, tv), (2, .int .i64 ((x : Int))), (3, ptr b1 0), (7, ov), (8, .int .i64 ((p : Int))), (9, v2), (10, .int .i64 ((k : Int)))] rE) _ (intsH 2 ov os :: cellsH b1 [arv] 34 :: L)
  have hle := argsL_le ho (show p < t.length by omega)
  have hia := fun (h : k < (argsL ar t p).length) => argsL_in ho (by omega) h
  refine X.seq (X.seq (X.region ?_))
  refine XL.mv (.int .i64 ((k : Int))) rfl ?_
  refine XL.mv (v2) rfl ?_
  refine cX (XOp.lenS (v := v2) (n := ((argsL ar t p)).length) runUnderlying22 rfl hf1.slv ?_)
  refine cX (XOp.lss (a := (k : Int)) (b := ((((argsL ar t p)).length : Nat) : Int)) rfl rfl ?_)
  refine XL.nil ?_
  refine X.condD (p := (k : Int) < ((((argsL ar t p)).length : Nat) : Int)) rfl (fun h2 => ?_) (fun h2 => ?_)
  ·refine X.skip (X.seq (X.block (X.seq ?_)))
   refine X.draw [intsH 2 ov os, cellsH b1 [arv] 34] L 7 [[], [], [], [], [], [], []] [[], [], [], [], [2, 3], [4], []] (phiL [fun us v => v = (.agg #[arv] : Value), fun us v => v = tv, fun us v => v = v2, fun us v => v = (.int .i64 ((k : Int)) : Value), fun us v => v = (.pointer (some (elemA v2 (k))) : Value), fun us v => v = (.int .i64 (((argsL ar t p)).getD k 0) : Value), fun us v => v = (.int .i64 ((x : Int)) : Value)]) (ownL [fun us v => [], fun us v => [], fun us v => [], fun us v => [], fun us v => [], fun us v => [], fun us v => []]) mixed rfl rfl (by kernel_rfl) ?_ ?_
   ·refine pC (fun vals R hpZ => ?_) ?_
    ·refine XG.op (XOp.loadN [arv] isAgg34 sizeOf34 rfl rfl (Rd.ownN [_] rfl rfl) ?_)
     exact ⟨rfl, rfl, rfl⟩
    refine pC (fun vals R hpZ => ?_) ?_
    ·refine XG.op (XOp.move (tv) rfl ?_)
     exact ⟨rfl, rfl, rfl⟩
    refine pC (fun vals R hpZ => ?_) ?_
    ·refine XG.op (XOp.move (v2) rfl ?_)
     exact ⟨rfl, rfl, rfl⟩
    refine pC (fun vals R hpZ => ?_) ?_
    ·refine XG.op (XOp.move (.int .i64 ((k : Int))) rfl ?_)
     exact ⟨rfl, rfl, rfl⟩
    refine pC (fun vals R hpZ => ?_) ?_
    ·rw [eS (l := [(2, v2), (3, (.int .i64 ((k : Int)) : Value))]) ⟨hpZ 2 (by decide), hpZ 3 (by decide), trivial⟩]
     refine XG.op (XOp.indexS (v := v2) (i := (k : Int)) (n := ((argsL ar t p)).length) k runUnderlying22 sizeOf2 rfl rfl rfl hf1.slv (by omega) (Nat.mul_one _) ?_)
     exact ⟨rfl, rfl, rfl⟩
    refine pC (fun vals R hpZ => ?_) ?_
    ·rw [eS (l := [(4, (.pointer (some (elemA v2 (k))) : Value))]) ⟨hpZ 4 (by decide), trivial⟩]
     refine XG.op (XOp.load1 (v := .int .i64 (((argsL ar t p)).getD k 0)) isAgg2 rfl (hf1.rd (by omega)) ?_)
     exact ⟨rfl, rfl, rfl⟩
    refine pC (fun vals R hpZ => ?_) ?_
    ·refine XG.op (XOp.move (.int .i64 ((x : Int))) rfl ?_)
     exact ⟨rfl, rfl, rfl⟩
    exact stepsP.nil
   intro vals hphi
   rw [eS (l := [(0, (.agg #[arv] : Value)), (1, tv), (5, (.int .i64 (((argsL ar t p)).getD k 0) : Value)), (6, (.int .i64 ((x : Int)) : Value))]) ⟨(hphi 0 (by decide)), (hphi 1 (by decide)), (hphi 5 (by decide)), (hphi 6 (by decide)), trivial⟩]
   show XL _ _ _ _ _ _ _ (intsH 2 ov os :: cellsH b1 [arv] 34 :: L)
   refine cX (XOp.call (args := [.agg #[arv], tv, .int .i64 (((((argsL ar t p)).getD k 0).toNat : Nat) : Int), .int .i64 ((x : Int))]) call226 (by rw [show (((((argsL ar t p)).getD k 0).toNat : Nat) : Int) = ((argsL ar t p)).getD k 0 from by omega]; rfl) (l3Inside_spec (p := (((argsL ar t p)).getD k 0).toNat) (q := (x : Int)) har ht (ho := (ho)) (hp := (by have := hia (by omega); omega))) ?_)
   rintro _ _ _ _ ⟨rfl, rfl, rfl⟩
   refine XL.nil ?_
   refine X.condD (p := (((((argsL ar t p)).getD k 0).toNat) : Int) ≤ ((x : Int)) ∧ ((x : Int)) < (endN ar t ((((argsL ar t p)).getD k 0).toNat) : Int)) rfl (fun h3 => ?_) (fun h3 => ?_)
   ·have hyes : inAt ar t x ((argsL ar t p).getD k 0) = true := inAt_iff.2 (by have := hia (by omega); omega)
    refine X.seq (X.region ?_)
    refine XL.mv (ov) rfl ?_
    refine XL.mv (.int .i64 ((k : Int))) rfl ?_
    refine cX (XOp.buildSlice (s := 1) [.int .i64 ((k : Int))] [.int .i64 (0)] [(0, [.int .i64 ((k : Int))])] runUnderlying22 sizeOf2 zeroValue2 rfl (by decide) rfl (.cons rfl CellsAre.nil) rfl ?_)
    intro v3 hv2
    refine cX (XOp.append1 (u := (k : Int)) [_] _ runUnderlying22 typeInfo2 rfl rfl rfl rfl rfl rfl (SlV.own [] rfl) (Rd.sl [] rfl rfl) (by (try simp only [List.length_append, List.length_nil, List.length_cons, List.length_singleton, List.length_take, List.length_drop]); omega) ?_)
    intro v4 hs2 hn1
    refine XL.as (v4) rfl ?_
    refine XL.nil (X.seq (X.region ?_))
    refine XL.mv (v2) rfl ?_
    refine XL.mv (.int .i64 ((k : Int))) rfl ?_
    refine cX (XOp.indexS (v := v2) (i := (k : Int)) (n := ((argsL ar t p)).length) k runUnderlying22 sizeOf2 rfl rfl rfl hf1.slv (by omega) (Nat.mul_one _) ?_)
    refine cX (XOp.load1 (v := .int .i64 (((argsL ar t p)).getD k 0)) isAgg2 rfl (hf1.rd (by omega)) ?_)
    refine XL.as (.int .i64 (((argsL ar t p)).getD k 0)) rfl ?_
    refine XL.nil ?_
    refine X.exit (blockQ_other (by decide) (thenQ_exit (thenQ_exit (blockQ_exit ?_))))
    exact ⟨(f - 1, ((argsL ar t p).getD k 0).toNat, v4, os ++ [(k : Int)], F1), _, (FLe.trans leG1 le1), rF, ⟨rfl, rfl, rfl, rfl, (vI (by have := hia (by omega); dsimp only; omega)), trivial⟩, (sD (sC (sC sR))), ⟨rfl, (FLe.trans leG1 le1), (hs2), ((by have h9 := inAt_iff.1 hyes; have := hia (by omega); dsimp only; constructor <;> omega)), (by have := hia (by omega); dsimp only; omega), (by (try dsimp only); exact path_next hos hf (by omega) (by omega) hyes hall), (by dsimp only; rw [List.length_append, List.length_singleton]; omega)⟩, (by have h9 := inAt_iff.1 hyes; have := hia (by omega); dsimp only; omega)⟩
   have hno : inAt ar t x ((argsL ar t p).getD k 0) = false := by
     rw [Bool.eq_false_iff]; intro h9; have h8 := inAt_iff.1 h9; have := hia (by omega); omega
   refine X.skip (X.region ?_)
   refine XL.mv (.int .i64 ((k : Int))) rfl ?_
   refine cX (XOp.addR (a := (k : Int)) (b := 1) (((k + 1 : Nat) : Int)) rfl rfl (by omega) (by omega) ?_)
   refine XL.as (.int .i64 (((k + 1 : Nat) : Int))) rfl ?_
   refine XL.nil ?_
   exact ⟨k + 1, _, FLe.refl _, rF, ⟨rfl, rfl, rfl, rfl, rfl, rfl, rfl, trivial⟩, (sC (sC sR)), ⟨rfl, (by (try dsimp only) <;> omega), (fun i hi => (Nat.lt_or_ge i k).elim (fun h => hall i h) (fun h => by obtain rfl : i = k := (by omega); exact hno))⟩, (by omega)⟩
  exact (args_some ho (by omega) hpx.2 hx (fun i hi => hall i (by omega))).elim
 refine X.exit (thenQ_exit (thenQ_exit (blockQ_exit ?_)))
 refine X.seq (X.region ?_)
 refine XL.mv (ov) rfl ?_
 refine XL.as (ov) rfl ?_
 refine XL.nil ?_
 refine X.ret (retEnd (L' := intsH 2 ov os :: L) [ov] (ov) (.tmp rfl .nil) rfl rF leG1 (sC (sD sR)) ?_)
 refine ⟨rfl, hov, ?_⟩
 have hxs : (pathL ar t x : List Int) = os := by have h0 : p = x := (by omega); rw [h0] at hos; exact path_end hos
 exact congrArg (fun z => intsH 2 _ z :: L) hxs

/- spec.l3Right -/
theorem l3Right_spec {F : FH} {L : List HP} {arv : Value} {ar : List Int} (har : IntsF F arv ar) {tv : Value} {t : List Int} (ht : IntsF F tv t) {n : Int} (hla : ar.length ≤ 4000000) (hlt : t.length ≤ 4000000) :
    Does prog 208 [.agg #[arv], tv, .int .i64 (n)] F (L) (fun v F' L' => (.bool (posOk ar t n) : Value) = v ∧ F = F' ∧ L = L') := by
 refine Does.of_X func208 rfl rfl rfl ?_
 refine X.seq (X.region ?_)
 refine cX (XOp.box [arv] rfl rfl ?_)
 intro b1
 refine XL.as (.bool (false)) rfl ?_
 refine XL.nil (X.seq (X.region ?_))
 refine cX (XOp.loadN [arv] isAgg34 sizeOf34 rfl rfl (Rd.ownN [] rfl rfl) ?_)
 refine XL.mv (tv) rfl ?_
 refine cX (XOp.call (args := [.agg #[arv], tv]) call70 rfl (sTermOk_spec har ht (hla := (by first | assumption | rfl | omega | simp)) (hlt := (by first | assumption | rfl | omega | simp))) ?_)
 rintro _ _ _ _ ⟨rfl, rfl, rfl⟩
 refine XL.mv (.bool (termOk ar t)) rfl ?_
 by_cases h1 : (termOk ar t) = true
 ·refine XL.yes (t := 10) rfl (vB h1) (XOp.move (tv) rfl ?_)
  refine XL.yes (t := 10) rfl (vB h1) (XOp.move (.int .i64 (n)) rfl ?_)
  refine XL.yes (t := 10) rfl (vB h1) (XOp.call (args := [tv, .int .i64 (n)]) call200 rfl (l1There_spec (n := n) ht (hbd := (by first | assumption | rfl | omega | simp))) ?_)
  rintro _ _ _ _ ⟨rfl, rfl, rfl⟩
  refine cX (XOp.pickT (.bool (decide (0 ≤ n ∧ n < (t.length : Int)))) (vB h1) rfl ?_)
  refine XL.as (.bool (decide (0 ≤ n ∧ n < (t.length : Int)))) rfl ?_
  refine XL.nil ?_
  refine X.ret (retEnd (L' := L) [.bool (decide (0 ≤ n ∧ n < (t.length : Int)))] (.bool (decide (0 ≤ n ∧ n < (t.length : Int)))) (.tmp rfl .nil) rfl rF rF (sD sR) ?_)
  exact ⟨((by unfold posOk; simp_all)), rfl, rfl⟩
 rw [Bool.not_eq_true] at h1
 refine XL.no (t := 10) rfl (vB h1) ?_
 refine XL.no (t := 10) rfl (vB h1) ?_
 refine XL.no (t := 10) rfl (vB h1) ?_
 refine cX (XOp.pickF (.bool (false)) (vB h1) rfl ?_)
 refine XL.as (.bool (false)) rfl ?_
 refine XL.nil ?_
 refine X.ret (retEnd (L' := L) [.bool (false)] (.bool (false)) (.tmp rfl .nil) rfl rF rF (sD sR) ?_)
 exact ⟨((by unfold posOk; simp_all)), rfl, rfl⟩

/- spec.PathOf -/
theorem sPathOf_spec {F : FH} {L : List HP} {arv : Value} {ar : List Int} (har : IntsF F arv ar) {tv : Value} {t : List Int} (ht : IntsF F tv t) {n : Int} (ho : termOk ar t = true) (hn : 0 ≤ n ∧ n < (t.length : Int)) :
    Does prog 165 [.agg #[arv], tv, .int .i64 (n)] F (L) (fun v F' L' => F = F' ∧ IsSl v ∧ intsH 2 v (pathL ar t n.toNat) :: L = L') := by
 refine Does.of_X func165 rfl rfl rfl ?_
 have hsl := sigOk_spec (termOk_sig ho)
 have htl := termOk_len ho
 have hsig := termOk_sig ho
 have hpo : posOk ar t n = true := posOk_iff.2 ⟨ho, hn⟩
 refine X.seq (X.region ?_)
 refine cX (XOp.box [arv] rfl rfl ?_)
 intro b1
 refine XL.as ((.slice none 0 0)) rfl ?_
 refine XL.nil (X.seq (X.seq (X.region ?_)))
 refine cX (XOp.loadN [arv] isAgg34 sizeOf34 rfl rfl (Rd.ownN [] rfl rfl) ?_)
 refine XL.mv (tv) rfl ?_
 refine XL.mv (.int .i64 (n)) rfl ?_
 refine cX (XOp.call (args := [.agg #[arv], tv, .int .i64 (n)]) call208 rfl (l3Right_spec (n := n) har ht (hla := (by first | assumption | rfl | omega | simp)) (hlt := (by first | assumption | rfl | omega | simp))) ?_)
 rintro _ _ _ _ ⟨rfl, rfl, rfl⟩
 refine cX (XOp.notB (b := posOk ar t n) rfl ?_)
 refine XL.nil ?_
 refine X.cond (t := !(posOk ar t n)) rfl (fun h1 => ?_) (fun h1 => ?_)
 ·exact absurd h1 (by simp [hpo])
 refine X.skip (X.seq (X.region ?_))
 refine cX (XOp.loadN [arv] isAgg34 sizeOf34 rfl rfl (Rd.ownN [] rfl rfl) ?_)
 refine XL.mv (tv) rfl ?_
 refine XL.mv (.int .i64 (n)) rfl ?_
 refine cX (XOp.call (args := [.agg #[arv], tv, .int .i64 (((n).toNat : Nat) : Int)]) call209 (by rw [show (((n).toNat : Nat) : Int) = n from by omega]; rfl) (l3Path_spec (x := (n).toNat) har ht (ho := (by first | assumption | rfl | omega | simp)) (hx := (by first | assumption | rfl | omega | simp))) ?_)
 rintro v1 _ _ _ ⟨rfl, hs1, rfl⟩
 refine XL.as (v1) rfl ?_
 refine XL.nil ?_
 refine X.ret (retEnd (L' := intsH 2 v1 ((pathL ar t ((n).toNat))) :: L) [v1] (v1) (.tmp rfl .nil) rfl rF rF (sC (sD sR)) ?_)
 refine ⟨rfl, hs1, ?_⟩
 have hxs : (pathL ar t n.toNat : List Int) = (pathL ar t ((n).toNat)) := rfl
 exact congrArg (fun z => intsH 2 _ z :: L) hxs

/- impl.PlaceOf -/
theorem PlaceOf_spec {F : FH} {L : List HP} {arv : Value} {ar : List Int} (har : IntsF F arv ar) {tv : Value} {t : List Int} (ht : IntsF F tv t) {pathv : Value} {path : List Int} (hpath : IntsF F pathv path) (hlp : path.length ≤ 4000000) :
    Does prog 212 [.agg #[arv], tv, pathv] F (L) (fun v F' L' => (.int .i64 (placeL ar t path) : Value) = v ∧ F = F' ∧ L = L') := by
 refine Does.of_X func212 rfl rfl rfl ?_
 refine X.seq (X.region ?_)
 refine cX (XOp.box [arv] rfl rfl ?_)
 intro b1
 refine XL.as (.int .i64 (0)) rfl ?_
 refine XL.nil (X.seq (X.seq (X.region ?_)))
 refine cX (XOp.loadN [arv] isAgg34 sizeOf34 rfl rfl (Rd.ownN [] rfl rfl) ?_)
 refine XL.mv (tv) rfl ?_
 refine cX (XOp.call (args := [.agg #[arv], tv]) call77 rfl (TermOk_spec har ht) ?_)
 rintro _ _ _ _ ⟨rfl, rfl, rfl⟩
 refine cX (XOp.notB (b := termOk ar t) rfl ?_)
 refine XL.nil ?_
 refine X.cond (t := !(termOk ar t)) rfl (fun h1 => ?_) (fun h1 => ?_)
 ·refine X.seq (X.region ?_)
  refine XL.as (.int .i64 (-1)) rfl ?_
  refine XL.nil ?_
  refine X.ret (thenQ_ret (retEnd (L' := L) [.int .i64 (-1)] (.int .i64 (-1)) (.tmp rfl .nil) rfl rF rF (sD sR) ?_))
  exact ⟨(vI (by unfold placeL; rw [if_neg (by simp_all)])), rfl, rfl⟩
 have ho : termOk ar t = true := by simpa using h1
 have hsl := sigOk_spec (termOk_sig ho)
 have htl := termOk_len ho
 have hsig := termOk_sig ho
 refine X.skip (X.seq (X.region ?_))
 refine XL.as (.int .i64 (0)) rfl ?_
 refine XL.nil (X.seq (X.seq (X.region ?_)))
 refine XL.mv (pathv) rfl ?_
 refine cX (XOp.lenS (v := pathv) (n := (path).length) runUnderlying22 rfl hpath.slv ?_)
 refine XL.mv (.int .i64 (0)) rfl ?_
 refine XL.nil (X.block ?_)
 refine X.loop (α := Nat × Nat × FH) (fun xQ => [(1, tv), (3, ptr b1 0), (7, .int .i64 (((xQ.2.1 : Nat) : Int))), (15, pathv), (16, .int .i64 ((path.length : Int))), (17, .int .i64 (((xQ.1 : Nat) : Int)))]) (fun xQ => cellsH b1 [arv] 34 :: L) (fun xQ F' => xQ.2.2 = F' ∧ F ≤ xQ.2.2 ∧ (xQ.1 ≤ path.length) ∧ (xQ.2.1 < t.length) ∧ (placeGo ar t path 0 = placeGo ar t (path.drop xQ.1) xQ.2.1)) (fun xQ => path.length - xQ.1) (0, 0, F) ⟨rfl, rfl, rfl, rfl, rfl, rfl, trivial⟩ (sC sR) ⟨rfl, FLe.refl _, (by (try dsimp only) <;> omega), (by (try dsimp only) <;> omega), (rfl)⟩ ?_
 rintro ⟨k, q, G1⟩ rE _ _ ⟨rfl, leG, hk, hq, hos⟩
 show X _ _ _ _ (envs [(1, tv), (3, ptr b1 0), (7, .int .i64 ((q : Int))), (15, pathv), (16, .int .i64 ((path.length : Int))), (17, .int .i64 ((k : Int)))] rE) _ (cellsH b1 [arv] 34 :: L)
 replace leG : F ≤ G1 := leG
 dsimp only at hk hq hos
 have hle := argsL_le ho hq
 have hia := fun (i : Nat) (h : i < (argsL ar t q).length) => argsL_in ho hq h
 have leG1 := leG
 replace har := har.mono leG1
 replace ht := ht.mono leG1
 replace hpath := hpath.mono leG1
 refine X.seq (X.region ?_)
 refine cX (XOp.lss (a := (k : Int)) (b := (path.length : Int)) rfl rfl ?_)
 refine XL.nil (X.seq ?_)
 refine X.condD (p := (k : Int) < (path.length : Int)) rfl (fun h2 => ?_) (fun h2 => ?_)
 ·refine X.skip (X.seq (X.block (X.seq (X.region ?_))))
  refine cX (XOp.indexS (v := pathv) (i := (k : Int)) (n := (path).length) k runUnderlying22 sizeOf2 rfl rfl rfl hpath.slv (by omega) (Nat.mul_one _) ?_)
  refine cX (XOp.load1 (v := .int .i64 (path.getD k 0)) isAgg2 rfl (hpath.rd (by omega)) ?_)
  refine XL.as (.int .i64 (path.getD k 0)) rfl ?_
  refine XL.nil (X.seq (X.region ?_))
  refine cX (XOp.loadN [arv] isAgg34 sizeOf34 rfl rfl (Rd.ownN [] rfl rfl) ?_)
  refine XL.mv (tv) rfl ?_
  refine XL.mv (.int .i64 ((q : Int))) rfl ?_
  refine cX (XOp.frzF <| XOp.call (args := [.agg #[arv], tv, .int .i64 (q : Int)]) call228 rfl (argsAt_spec (p := q) har ht (ho := (ho)) (hp := (hq))) ?_)
  rintro v1 _ _ _ ⟨rfl, hs1, rfl⟩
  refine ⟨_, _, rfl, fun F1 le1 hz1 => ?_⟩
  have hf1 : IntsF F1 v1 ((argsL ar t q)) := intsH.fz (xs := (argsL ar t q)) hz1.fz
  refine XL.as (v1) rfl ?_
  refine XL.nil (X.seq (X.seq (X.region ?_)))
  refine XL.mv (.int .i64 (path.getD k 0)) rfl ?_
  refine cX (XOp.lss (a := path.getD k 0) (b := 0) rfl rfl ?_)
  refine XL.mv (.bool (decide ((path.getD k 0 : Int) < 0))) rfl ?_
  by_cases h3 : (path.getD k 0 : Int) < 0
  ·refine XL.no (t := 27) rfl (vT h3) ?_
   refine XL.no (t := 27) rfl (vT h3) ?_
   refine XL.no (t := 27) rfl (vT h3) ?_
   refine XL.no (t := 27) rfl (vT h3) ?_
   refine cX (XOp.pickT (.bool (true)) (vT h3) rfl ?_)
   refine XL.nil ?_
   refine X.condT rfl ?_
   refine X.seq (X.region ?_)
   refine XL.as (.int .i64 (-1)) rfl ?_
   refine XL.nil ?_
   refine X.ret (thenQ_ret (blockQ_ret (thenQ_ret (thenQ_ret (blockQ_ret (thenQ_ret (retEnd (L' := L) [.int .i64 (-1)] (.int .i64 (-1)) (.tmp rfl .nil) rfl rF (FLe.trans leG1 le1) (sD sR) ?_)))))))
   exact ⟨(vI (by unfold placeL; rw [if_pos ho, hos]; exact place_out (by omega) (by omega))), rfl, rfl⟩
  refine XL.yes (t := 27) rfl (vF h3) (XOp.move (.int .i64 (path.getD k 0)) rfl ?_)
  refine XL.yes (t := 27) rfl (vF h3) (XOp.move (v1) rfl ?_)
  refine XL.yes (t := 27) rfl (vF h3) (XOp.lenS (v := v1) (n := ((argsL ar t q)).length) runUnderlying208 rfl hf1.slv ?_)
  refine XL.yes (t := 27) rfl (vF h3) (XOp.geq (a := path.getD k 0) (b := ((((argsL ar t q)).length : Nat) : Int)) rfl rfl ?_)
  refine cX (XOp.pickF (.bool (decide ((path.getD k 0 : Int) ≥ ((((argsL ar t q)).length : Nat) : Int)))) (vF h3) rfl ?_)
  refine XL.nil ?_
  refine X.condD (p := (path.getD k 0 : Int) ≥ ((((argsL ar t q)).length : Nat) : Int)) rfl (fun h4 => ?_) (fun h4 => ?_)
  ·refine X.seq (X.region ?_)
   refine XL.as (.int .i64 (-1)) rfl ?_
   refine XL.nil ?_
   refine X.ret (thenQ_ret (blockQ_ret (thenQ_ret (thenQ_ret (blockQ_ret (thenQ_ret (retEnd (L' := L) [.int .i64 (-1)] (.int .i64 (-1)) (.tmp rfl .nil) rfl rF (FLe.trans leG1 le1) (sD sR) ?_)))))))
   exact ⟨(vI (by unfold placeL; rw [if_pos ho, hos]; exact place_out (by omega) (by omega))), rfl, rfl⟩
  refine X.skip (X.region ?_)
  refine XL.mv (v1) rfl ?_
  refine XL.mv (.int .i64 (path.getD k 0)) rfl ?_
  refine cX (XOp.indexS (v := v1) (i := path.getD k 0) (n := ((argsL ar t q)).length) ((path.getD k 0).toNat) runUnderlying208 sizeOf3 rfl rfl (by omega) hf1.slv (by omega) (Nat.mul_one _) ?_)
  refine cX (XOp.load1 (v := .int .i64 (((argsL ar t q)).getD ((path.getD k 0).toNat) 0)) isAgg3 rfl (hf1.rd (by omega)) ?_)
  refine XL.as (.int .i64 (((argsL ar t q)).getD ((path.getD k 0).toNat) 0)) rfl ?_
  refine XL.nil (X.region ?_)
  refine cX (XOp.addR (a := (k : Int)) (b := 1) (((k + 1 : Nat) : Int)) rfl rfl (by omega) (by omega) ?_)
  refine XL.mv (.int .i64 (((k + 1 : Nat) : Int))) rfl ?_
  refine XL.nil ?_
  exact ⟨(k + 1, ((argsL ar t q).getD (path.getD k 0).toNat 0).toNat, F1), _, (FLe.trans leG1 le1), rF, ⟨rfl, rfl, (vI (by have := hia (path.getD k 0).toNat (by omega); dsimp only; omega)), rfl, rfl, rfl, trivial⟩, (sC sR), ⟨rfl, (FLe.trans leG1 le1), (by (try dsimp only) <;> omega), (by have := hia (path.getD k 0).toNat (by omega); dsimp only; omega), (by dsimp only; exact hos.trans (place_next (by omega) (by omega)))⟩, (by omega)⟩
 refine X.exit (thenQ_exit (thenQ_exit (blockQ_exit ?_)))
 refine X.seq (X.region ?_)
 refine XL.mv (.int .i64 ((q : Int))) rfl ?_
 refine XL.as (.int .i64 ((q : Int))) rfl ?_
 refine XL.nil ?_
 refine X.ret (retEnd (L' := L) [.int .i64 ((q : Int))] (.int .i64 ((q : Int))) (.tmp rfl .nil) rfl rF leG1 (sD sR) ?_)
 exact ⟨(vI (by unfold placeL; rw [if_pos ho, hos]; exact place_end (by omega))), rfl, rfl⟩

/- spec.PlaceOf -/
theorem sPlaceOf_spec {F : FH} {L : List HP} {arv : Value} {ar : List Int} (har : IntsF F arv ar) {tv : Value} {t : List Int} (ht : IntsF F tv t) {pathv : Value} {path : List Int} (hpath : IntsF F pathv path) (hlp : path.length ≤ 4000000) (hla : ar.length ≤ 4000000) (hlt : t.length ≤ 4000000) :
    Does prog 164 [.agg #[arv], tv, pathv] F (L) (fun v F' L' => (.int .i64 (placeL ar t path) : Value) = v ∧ F = F' ∧ L = L') := by
 refine Does.of_X func164 rfl rfl rfl ?_
 refine X.seq (X.region ?_)
 refine cX (XOp.box [arv] rfl rfl ?_)
 intro b1
 refine XL.as (.int .i64 (0)) rfl ?_
 refine XL.nil (X.seq (X.seq (X.region ?_)))
 refine cX (XOp.loadN [arv] isAgg34 sizeOf34 rfl rfl (Rd.ownN [] rfl rfl) ?_)
 refine XL.mv (tv) rfl ?_
 refine cX (XOp.call (args := [.agg #[arv], tv]) call70 rfl (sTermOk_spec har ht (hla := (by first | assumption | rfl | omega | simp)) (hlt := (by first | assumption | rfl | omega | simp))) ?_)
 rintro _ _ _ _ ⟨rfl, rfl, rfl⟩
 refine cX (XOp.notB (b := termOk ar t) rfl ?_)
 refine XL.nil ?_
 refine X.cond (t := !(termOk ar t)) rfl (fun h1 => ?_) (fun h1 => ?_)
 ·refine X.seq (X.region ?_)
  refine XL.as (.int .i64 (-1)) rfl ?_
  refine XL.nil ?_
  refine X.ret (thenQ_ret (retEnd (L' := L) [.int .i64 (-1)] (.int .i64 (-1)) (.tmp rfl .nil) rfl rF rF (sD sR) ?_))
  exact ⟨(vI (by unfold placeL; rw [if_neg (by simp_all)])), rfl, rfl⟩
 have ho : termOk ar t = true := by simpa using h1
 have hsl := sigOk_spec (termOk_sig ho)
 have htl := termOk_len ho
 have hsig := termOk_sig ho
 refine X.skip (X.seq (X.region ?_))
 refine XL.as (.int .i64 (0)) rfl ?_
 refine XL.nil (X.seq (X.seq (X.region ?_)))
 refine XL.as (.int .i64 (0)) rfl ?_
 refine XL.nil (X.block ?_)
 refine X.loop (α := Nat × Nat × FH) (fun xQ => [(1, tv), (2, pathv), (3, ptr b1 0), (7, .int .i64 (((xQ.2.1 : Nat) : Int))), (8, .int .i64 (((xQ.1 : Nat) : Int)))]) (fun xQ => cellsH b1 [arv] 34 :: L) (fun xQ F' => xQ.2.2 = F' ∧ F ≤ xQ.2.2 ∧ (xQ.1 ≤ path.length) ∧ (xQ.2.1 < t.length) ∧ (placeGo ar t path 0 = placeGo ar t (path.drop xQ.1) xQ.2.1)) (fun xQ => path.length - xQ.1) (0, 0, F) ⟨rfl, rfl, rfl, rfl, rfl, trivial⟩ (sC sR) ⟨rfl, FLe.refl _, (by (try dsimp only) <;> omega), (by (try dsimp only) <;> omega), (rfl)⟩ ?_
 rintro ⟨k, q, G1⟩ rE _ _ ⟨rfl, leG, hk, hq, hos⟩
 show X _ _ _ _ (envs [(1, tv), (2, pathv), (3, ptr b1 0), (7, .int .i64 ((q : Int))), (8, .int .i64 ((k : Int)))] rE) _ (cellsH b1 [arv] 34 :: L)
 replace leG : F ≤ G1 := leG
 dsimp only at hk hq hos
 have hle := argsL_le ho hq
 have hia := fun (i : Nat) (h : i < (argsL ar t q).length) => argsL_in ho hq h
 have leG1 := leG
 replace har := har.mono leG1
 replace ht := ht.mono leG1
 replace hpath := hpath.mono leG1
 refine X.seq (X.seq (X.region ?_))
 refine XL.mv (.int .i64 ((k : Int))) rfl ?_
 refine XL.mv (pathv) rfl ?_
 refine cX (XOp.lenS (v := pathv) (n := (path).length) runUnderlying22 rfl hpath.slv ?_)
 refine cX (XOp.lss (a := (k : Int)) (b := (path.length : Int)) rfl rfl ?_)
 refine XL.nil ?_
 refine X.condD (p := (k : Int) < (path.length : Int)) rfl (fun h2 => ?_) (fun h2 => ?_)
 ·refine X.skip (X.seq (X.block (X.seq (X.region ?_))))
  refine cX (XOp.loadN [arv] isAgg34 sizeOf34 rfl rfl (Rd.ownN [] rfl rfl) ?_)
  refine XL.mv (tv) rfl ?_
  refine XL.mv (.int .i64 ((q : Int))) rfl ?_
  refine cX (XOp.frzF <| XOp.call (args := [.agg #[arv], tv, .int .i64 (q : Int)]) call207 rfl (l1Args_spec (p := q) har ht (ho := (ho)) (hp := (hq))) ?_)
  rintro v1 _ _ _ ⟨rfl, hs1, rfl⟩
  refine ⟨_, _, rfl, fun F1 le1 hz1 => ?_⟩
  replace hpath := hpath.mono le1
  have hf1 : IntsF F1 v1 ((argsL ar t q)) := intsH.fz (xs := (argsL ar t q)) hz1.fz
  refine XL.as (v1) rfl ?_
  refine XL.nil (X.seq (X.seq (X.region ?_)))
  refine XL.mv (pathv) rfl ?_
  refine XL.mv (.int .i64 ((k : Int))) rfl ?_
  refine cX (XOp.indexS (v := pathv) (i := (k : Int)) (n := (path).length) k runUnderlying22 sizeOf2 rfl rfl rfl hpath.slv (by omega) (Nat.mul_one _) ?_)
  refine cX (XOp.load1 (v := .int .i64 (path.getD k 0)) isAgg2 rfl (hpath.rd (by omega)) ?_)
  refine XL.mv (v1) rfl ?_
  refine cX (XOp.lenS (v := v1) (n := ((argsL ar t q)).length) runUnderlying22 rfl hf1.slv ?_)
  refine cX (XOp.subR (a := ((((argsL ar t q)).length : Nat) : Int)) (b := 1) ((((((argsL ar t q)).length : Nat) : Int)) - 1) rfl rfl (by omega) (by omega) ?_)
  refine cX (XOp.call (args := [.int .i64 (path.getD k 0), .int .i64 (0), .int .i64 ((((((argsL ar t q)).length : Nat) : Int)) - 1)]) call98 rfl (l1In_spec (n := path.getD k 0) (a := 0) (b := (((((argsL ar t q)).length : Nat) : Int)) - 1)) ?_)
  rintro _ _ _ _ ⟨rfl, rfl, rfl⟩
  refine cX (XOp.notD (p := 0 ≤ (path.getD k 0) ∧ (path.getD k 0) ≤ ((((((argsL ar t q)).length : Nat) : Int)) - 1)) rfl ?_)
  refine XL.nil ?_
  refine X.condD (p := ¬(0 ≤ (path.getD k 0) ∧ (path.getD k 0) ≤ ((((((argsL ar t q)).length : Nat) : Int)) - 1))) rfl (fun h3 => ?_) (fun h3 => ?_)
  ·refine X.seq (X.region ?_)
   refine XL.as (.int .i64 (-1)) rfl ?_
   refine XL.nil ?_
   refine X.ret (thenQ_ret (blockQ_ret (thenQ_ret (thenQ_ret (blockQ_ret (thenQ_ret (retEnd (L' := L) [.int .i64 (-1)] (.int .i64 (-1)) (.tmp rfl .nil) rfl rF (FLe.trans leG1 le1) (sD sR) ?_)))))))
   exact ⟨(vI (by unfold placeL; rw [if_pos ho, hos]; exact place_out (by omega) (by omega))), rfl, rfl⟩
  refine X.skip (X.region ?_)
  refine XL.mv (v1) rfl ?_
  refine XL.mv (pathv) rfl ?_
  refine XL.mv (.int .i64 ((k : Int))) rfl ?_
  refine cX (XOp.indexS (v := pathv) (i := (k : Int)) (n := (path).length) k runUnderlying22 sizeOf2 rfl rfl rfl hpath.slv (by omega) (Nat.mul_one _) ?_)
  refine cX (XOp.load1 (v := .int .i64 (path.getD k 0)) isAgg2 rfl (hpath.rd (by omega)) ?_)
  refine cX (XOp.indexS (v := v1) (i := path.getD k 0) (n := ((argsL ar t q)).length) ((path.getD k 0).toNat) runUnderlying22 sizeOf2 rfl rfl (by omega) hf1.slv (by omega) (Nat.mul_one _) ?_)
  refine cX (XOp.load1 (v := .int .i64 (((argsL ar t q)).getD ((path.getD k 0).toNat) 0)) isAgg2 rfl (hf1.rd (by omega)) ?_)
  refine XL.as (.int .i64 (((argsL ar t q)).getD ((path.getD k 0).toNat) 0)) rfl ?_
  refine XL.nil (X.region ?_)
  refine XL.mv (.int .i64 ((k : Int))) rfl ?_
  refine cX (XOp.addR (a := (k : Int)) (b := 1) (((k + 1 : Nat) : Int)) rfl rfl (by omega) (by omega) ?_)
  refine XL.as (.int .i64 (((k + 1 : Nat) : Int))) rfl ?_
  refine XL.nil ?_
  exact ⟨(k + 1, ((argsL ar t q).getD (path.getD k 0).toNat 0).toNat, F1), _, (FLe.trans leG1 le1), rF, ⟨rfl, rfl, rfl, (vI (by have := hia (path.getD k 0).toNat (by omega); dsimp only; omega)), rfl, trivial⟩, (sC sR), ⟨rfl, (FLe.trans leG1 le1), (by (try dsimp only) <;> omega), (by have := hia (path.getD k 0).toNat (by omega); dsimp only; omega), (by dsimp only; exact hos.trans (place_next (by omega) (by omega)))⟩, (by omega)⟩
 refine X.exit (thenQ_exit (thenQ_exit (blockQ_exit ?_)))
 refine X.seq (X.region ?_)
 refine XL.mv (.int .i64 ((q : Int))) rfl ?_
 refine XL.as (.int .i64 ((q : Int))) rfl ?_
 refine XL.nil ?_
 refine X.ret (retEnd (L' := L) [.int .i64 ((q : Int))] (.int .i64 ((q : Int))) (.tmp rfl .nil) rfl rF leG1 (sD sR) ?_)
 exact ⟨(vI (by unfold placeL; rw [if_pos ho, hos]; exact place_end (by omega))), rfl, rfl⟩

/- impl.ruleIn -/
theorem ruleIn_spec {F : FH} {L : List HP} {arv : Value} {ar : List Int} (har : IntsF F arv ar) {rsv : Value} {rs : List (List Int × List Int)} (hrs : PairsF F rsv rs) {n : Int} :
    Does prog 210 [.agg #[arv, rsv], .int .i64 (n)] F (L) (fun v F' L' => (.bool (decide (0 ≤ n ∧ n < (rs.length : Int))) : Value) = v ∧ F = F' ∧ L = L') := by
 refine Does.of_X func210 rfl rfl rfl ?_
 refine X.seq (X.region ?_)
 refine cX (XOp.box [arv, rsv] rfl rfl ?_)
 intro b1
 refine XL.as (.bool (false)) rfl ?_
 refine XL.nil (X.seq (X.region ?_))
 refine XL.mv (.int .i64 (n)) rfl ?_
 refine cX (XOp.geq (a := n) (b := 0) rfl rfl ?_)
 refine XL.mv (.bool (decide ((n : Int) ≥ 0))) rfl ?_
 by_cases h1 : (n : Int) ≥ 0
 ·refine XL.yes (t := 7) rfl (vT h1) (XOp.move (.int .i64 (n)) rfl ?_)
  refine XL.yes (t := 7) rfl (vT h1) (XOp.fieldP (b := b1) (1) runUnderlying37 rfl sizeOf35 (by decide) rfl rfl ?_)
  refine XL.yes (t := 7) rfl (vT h1) (XOp.load1 (v := rsv) isAgg35 rfl (Rd.own [] rfl rfl) ?_)
  refine XL.yes (t := 7) rfl (vT h1) (XOp.lenS (v := rsv) (n := (rs).length) runUnderlying35 rfl hrs.slv ?_)
  refine XL.yes (t := 7) rfl (vT h1) (XOp.lss (a := n) (b := (rs.length : Int)) rfl rfl ?_)
  refine cX (XOp.pickT (.bool (decide ((n : Int) < (rs.length : Int)))) (vT h1) rfl ?_)
  refine XL.as (.bool (decide ((n : Int) < (rs.length : Int)))) rfl ?_
  refine XL.nil ?_
  refine X.ret (retEnd (L' := L) [.bool (decide ((n : Int) < (rs.length : Int)))] (.bool (decide ((n : Int) < (rs.length : Int)))) (.tmp rfl .nil) rfl rF rF (sD sR) ?_)
  exact ⟨(vB (decide_eq_decide.2 (by omega))), rfl, rfl⟩
 refine XL.no (t := 7) rfl (vF h1) ?_
 refine XL.no (t := 7) rfl (vF h1) ?_
 refine XL.no (t := 7) rfl (vF h1) ?_
 refine XL.no (t := 7) rfl (vF h1) ?_
 refine XL.no (t := 7) rfl (vF h1) ?_
 refine cX (XOp.pickF (.bool (false)) (vF h1) rfl ?_)
 refine XL.as (.bool (false)) rfl ?_
 refine XL.nil ?_
 refine X.ret (retEnd (L' := L) [.bool (false)] (.bool (false)) (.tmp rfl .nil) rfl rF rF (sD sR) ?_)
 exact ⟨(vB (decide_eq_false (by omega))), rfl, rfl⟩

/- spec.l11Rule -/
theorem l11Rule_spec {F : FH} {L : List HP} {arv : Value} {ar : List Int} (har : IntsF F arv ar) {rsv : Value} {rs : List (List Int × List Int)} (hrs : PairsF F rsv rs) {n : Int} (hlr : rs.length ≤ 4000000) :
    Does prog 162 [.agg #[arv, rsv], .int .i64 (n)] F (L) (fun v F' L' => (.bool (decide (0 ≤ n ∧ n < (rs.length : Int))) : Value) = v ∧ F = F' ∧ L = L') := by
 refine Does.of_X func162 rfl rfl rfl ?_
 refine X.seq (X.region ?_)
 refine cX (XOp.box [arv, rsv] rfl rfl ?_)
 intro b1
 refine XL.as (.bool (false)) rfl ?_
 refine XL.nil (X.seq (X.region ?_))
 refine XL.mv (.int .i64 (n)) rfl ?_
 refine cX (XOp.fieldP (b := b1) (1) runUnderlying37 rfl sizeOf35 (by decide) rfl rfl ?_)
 refine cX (XOp.load1 (v := rsv) isAgg35 rfl (Rd.own [] rfl rfl) ?_)
 refine cX (XOp.lenS (v := rsv) (n := (rs).length) runUnderlying35 rfl hrs.slv ?_)
 refine cX (XOp.subR (a := (rs.length : Int)) (b := 1) (((rs.length : Int)) - 1) rfl rfl (by omega) (by omega) ?_)
 refine cX (XOp.call (args := [.int .i64 (n), .int .i64 (0), .int .i64 (((rs.length : Int)) - 1)]) call98 rfl (l1In_spec (n := n) (a := 0) (b := ((rs.length : Int)) - 1)) ?_)
 rintro _ _ _ _ ⟨rfl, rfl, rfl⟩
 refine XL.as (.bool (decide (0 ≤ n ∧ n ≤ (((rs.length : Int)) - 1)))) rfl ?_
 refine XL.nil ?_
 refine X.ret (retEnd (L' := L) [.bool (decide (0 ≤ n ∧ n ≤ (((rs.length : Int)) - 1)))] (.bool (decide (0 ≤ n ∧ n ≤ (((rs.length : Int)) - 1)))) (.tmp rfl .nil) rfl rF rF (sD sR) ?_)
 exact ⟨(vB (decide_eq_decide.2 (by omega))), rfl, rfl⟩

/- impl.peakOk -/
set_option maxRecDepth 20000 in
theorem peakOk_spec {F : FH} {L : List HP} {arv : Value} {ar : List Int} (har : IntsF F arv ar) {rsv : Value} {rs : List (List Int × List Int)} (hrs : PairsF F rsv rs) {tpv : Value} {tp : List Int} (htp : IntsF F tpv tp) {lfv : Value} {lf : List Int} (hlf : IntsF F lfv lf) {rtv : Value} {rt : List Int} (hrt : IntsF F rtv rt) {a : Int} {u : Int} {o : Int} (hsys : sysOk ar rs = true) (hll0 : lf.length ≤ 4000000) (hlr0 : rt.length ≤ 4000000) :
    Does prog 166 [.agg #[arv, rsv], .agg #[tpv, lfv, rtv, .int .i64 (a), .int .i64 (u), .int .i64 (o)]] F (L) (fun v F' L' => (.bool (peakL ar rs tp lf rt a u o) : Value) = v ∧ F = F' ∧ L = L') := by
 refine Does.of_X func166 rfl rfl rfl ?_
 have hrl := (sysOk_iff.1 hsys).2.1
 have hRL := fun (h : 0 ≤ o ∧ o < (rs.length : Int)) => (ruleOk_iff.1 ((sysOk_iff.1 hsys).2.2 o.toNat (by omega))).left
 have hRl := fun (h : 0 ≤ o ∧ o < (rs.length : Int)) => termOk_len (hRL h)
 refine X.seq (X.region ?_)
 refine cX (XOp.box [arv, rsv] rfl rfl ?_)
 intro b1
 refine cX (XOp.box [tpv, lfv, rtv, .int .i64 (a), .int .i64 (u), .int .i64 (o)] rfl rfl ?_)
 intro b2
 refine XL.as (.bool (false)) rfl ?_
 refine XL.nil (X.seq (X.seq (X.region ?_)))
 refine cX (XOp.loadN [arv, rsv] isAgg37 sizeOf37 rfl rfl (Rd.ownN [_] rfl rfl) ?_)
 refine cX (XOp.fieldP (b := b2) (5) runUnderlying74 rfl sizeOf2 (by decide) rfl rfl ?_)
 refine cX (XOp.load1 (v := .int .i64 (o)) isAgg2 rfl (Rd.own [] rfl rfl) ?_)
 refine cX (XOp.call (args := [.agg #[arv, rsv], .int .i64 (o)]) call210 rfl (ruleIn_spec (n := o) har hrs) ?_)
 rintro _ _ _ _ ⟨rfl, rfl, rfl⟩
 refine cX (XOp.notD (p := 0 ≤ o ∧ o < (rs.length : Int)) rfl ?_)
 refine XL.mv (.bool (decide (¬(0 ≤ o ∧ o < (rs.length : Int))))) rfl ?_
 by_cases h1 : ¬(0 ≤ o ∧ o < (rs.length : Int))
 ·refine XL.no (t := 15) rfl (vT h1) ?_
  refine XL.no (t := 15) rfl (vT h1) ?_
  refine XL.no (t := 15) rfl (vT h1) ?_
  refine XL.no (t := 15) rfl (vT h1) ?_
  refine XL.no (t := 15) rfl (vT h1) ?_
  refine cX (XOp.pickT (.bool (true)) (vT h1) rfl ?_)
  refine XL.mv (.bool (true)) rfl ?_
  refine XL.no (t := 22) rfl rfl ?_
  refine XL.no (t := 22) rfl rfl ?_
  refine XL.no (t := 22) rfl rfl ?_
  refine XL.no (t := 22) rfl rfl ?_
  refine XL.noU (t := 26) rfl rfl ?_
  refine XL.noU (t := 26) rfl rfl ?_
  refine XL.noU (t := 26) rfl rfl ?_
  refine XL.noU (t := 26) rfl rfl ?_
  refine XL.noU (t := 26) rfl rfl ?_
  refine XL.no (t := 22) rfl rfl ?_
  refine cX (XOp.pickT (.bool (true)) rfl rfl ?_)
  refine XL.nil ?_
  refine X.condT rfl ?_
  refine X.seq (X.region ?_)
  refine XL.as (.bool (false)) rfl ?_
  refine XL.nil ?_
  refine X.ret (thenQ_ret (retEnd (L' := L) [.bool (false)] (.bool (false)) (.tmp rfl .nil) rfl rF rF (sD (sD sR)) ?_))
  exact ⟨(vB (by refine peakL_no (fun h => ?_); obtain ⟨h1, h2, h3, h4⟩ := h; have h5 := peakArgs_iff.1 h2; first | omega | simp_all | (simp_all; done) | (exfalso; simp_all; omega))), rfl, rfl⟩
 refine XL.yes (t := 15) rfl (vF h1) (XOp.loadN [arv, rsv] isAgg37 sizeOf37 rfl rfl (Rd.ownN [_] rfl rfl) ?_)
 refine XL.yes (t := 15) rfl (vF h1) (XOp.fieldP (b := b2) (4) runUnderlying74 rfl sizeOf2 (by decide) rfl rfl ?_)
 refine XL.yes (t := 15) rfl (vF h1) (XOp.load1 (v := .int .i64 (u)) isAgg2 rfl (Rd.own [] rfl rfl) ?_)
 refine XL.yes (t := 15) rfl (vF h1) (XOp.call (args := [.agg #[arv, rsv], .int .i64 (u)]) call210 rfl (ruleIn_spec (n := u) har hrs) ?_)
 rintro _ _ _ _ ⟨rfl, rfl, rfl⟩
 refine XL.yes (t := 15) rfl (vF h1) (XOp.notD (p := 0 ≤ u ∧ u < (rs.length : Int)) rfl ?_)
 refine cX (XOp.pickF (.bool (decide (¬(0 ≤ u ∧ u < (rs.length : Int))))) (vF h1) rfl ?_)
 refine XL.mv (.bool (decide (¬(0 ≤ u ∧ u < (rs.length : Int))))) rfl ?_
 by_cases h2 : ¬(0 ≤ u ∧ u < (rs.length : Int))
 ·refine XL.no (t := 22) rfl (vT h2) ?_
  refine XL.no (t := 22) rfl (vT h2) ?_
  refine XL.no (t := 22) rfl (vT h2) ?_
  refine XL.no (t := 22) rfl (vT h2) ?_
  refine XL.noU (t := 26) rfl rfl ?_
  refine XL.noU (t := 26) rfl rfl ?_
  refine XL.noU (t := 26) rfl rfl ?_
  refine XL.noU (t := 26) rfl rfl ?_
  refine XL.noU (t := 26) rfl rfl ?_
  refine XL.no (t := 22) rfl (vT h2) ?_
  refine cX (XOp.pickT (.bool (true)) (vT h2) rfl ?_)
  refine XL.nil ?_
  refine X.condT rfl ?_
  refine X.seq (X.region ?_)
  refine XL.as (.bool (false)) rfl ?_
  refine XL.nil ?_
  refine X.ret (thenQ_ret (retEnd (L' := L) [.bool (false)] (.bool (false)) (.tmp rfl .nil) rfl rF rF (sD (sD sR)) ?_))
  exact ⟨(vB (by refine peakL_no (fun h => ?_); obtain ⟨h1, h2, h3, h4⟩ := h; have h5 := peakArgs_iff.1 h2; first | omega | simp_all | (simp_all; done) | (exfalso; simp_all; omega))), rfl, rfl⟩
 refine XL.yes (t := 22) rfl (vF h2) (XOp.fieldP (b := b2) (3) runUnderlying74 rfl sizeOf2 (by decide) rfl rfl ?_)
 refine XL.yes (t := 22) rfl (vF h2) (XOp.load1 (v := .int .i64 (a)) isAgg2 rfl (Rd.own [] rfl rfl) ?_)
 refine XL.yes (t := 22) rfl (vF h2) (XOp.eql (a := a) (b := 0) rfl rfl ?_)
 refine XL.yes (t := 22) rfl (vF h2) (XOp.move (.bool (decide ((a : Int) = 0))) rfl ?_)
 by_cases h3 : (a : Int) = 0
 ·refine XL.yes (t := 26) rfl (vT h3) (XOp.fieldP (b := b2) (5) runUnderlying74 rfl sizeOf2 (by decide) rfl rfl ?_)
  refine XL.yes (t := 26) rfl (vT h3) (XOp.load1 (v := .int .i64 (o)) isAgg2 rfl (Rd.own [] rfl rfl) ?_)
  refine XL.yes (t := 26) rfl (vT h3) (XOp.fieldP (b := b2) (4) runUnderlying74 rfl sizeOf2 (by decide) rfl rfl ?_)
  refine XL.yes (t := 26) rfl (vT h3) (XOp.load1 (v := .int .i64 (u)) isAgg2 rfl (Rd.own [] rfl rfl) ?_)
  refine XL.yes (t := 26) rfl (vT h3) (XOp.eql (a := o) (b := u) rfl rfl ?_)
  refine XL.yes (t := 22) rfl (vF h2) (XOp.pickT (.bool (decide ((o : Int) = u))) (vT h3) rfl ?_)
  refine cX (XOp.pickF (.bool (decide ((o : Int) = u))) (vF h2) rfl ?_)
  refine XL.nil ?_
  refine X.condD (p := (o : Int) = u) rfl (fun h4 => ?_) (fun h4 => ?_)
  ·refine X.seq (X.region ?_)
   refine XL.as (.bool (false)) rfl ?_
   refine XL.nil ?_
   refine X.ret (thenQ_ret (retEnd (L' := L) [.bool (false)] (.bool (false)) (.tmp rfl .nil) rfl rF rF (sD (sD sR)) ?_))
   exact ⟨(vB (by refine peakL_no (fun h => ?_); obtain ⟨h1, h2, h3, h4⟩ := h; have h5 := peakArgs_iff.1 h2; first | omega | simp_all | (simp_all; done) | (exfalso; simp_all; omega))), rfl, rfl⟩
  refine X.skip (X.seq (X.region ?_))
  refine cX (XOp.fieldP (b := b1) (1) runUnderlying37 rfl sizeOf35 (by decide) rfl rfl ?_)
  refine cX (XOp.load1 (v := rsv) isAgg35 rfl (Rd.own [_] rfl rfl) ?_)
  refine cX (XOp.fieldP (b := b2) (5) runUnderlying74 rfl sizeOf2 (by decide) rfl rfl ?_)
  refine cX (XOp.load1 (v := .int .i64 (o)) isAgg2 rfl (Rd.own [] rfl rfl) ?_)
  refine cX (XOp.indexS (v := rsv) (i := o) (n := (rs).length) ((o).toNat) runUnderlying35 sizeOf121 rfl rfl (by omega) hrs.slv (by omega) rfl ?_)
  refine cX (XOp.fieldE (v := rsv) (((o).toNat) * 2) runUnderlying121 rfl sizeOf22 (by decide) rfl rfl ?_)
  obtain ⟨a1, a2, ha1, ha2, hr1, hr2⟩ := hrs.rd (i := (o).toNat) (by omega)
  refine cX (XOp.load1 (v := a1) isAgg22 rfl (hr1 _) ?_)
  refine XL.as (a1) rfl ?_
  refine XL.nil (X.seq (X.seq (X.region ?_)))
  refine cX (XOp.fieldP (b := b2) (3) runUnderlying74 rfl sizeOf2 (by decide) rfl rfl ?_)
  refine cX (XOp.load1 (v := .int .i64 (a)) isAgg2 rfl (Rd.own [] rfl rfl) ?_)
  refine cX (XOp.lss (a := a) (b := 0) rfl rfl ?_)
  refine XL.mv (.bool (decide ((a : Int) < 0))) rfl ?_
  by_cases h5 : (a : Int) < 0
  ·refine XL.no (t := 44) rfl (vT h5) ?_
   refine XL.no (t := 44) rfl (vT h5) ?_
   refine XL.no (t := 44) rfl (vT h5) ?_
   refine XL.no (t := 44) rfl (vT h5) ?_
   refine XL.no (t := 44) rfl (vT h5) ?_
   refine cX (XOp.pickT (.bool (true)) (vT h5) rfl ?_)
   refine XL.mv (.bool (true)) rfl ?_
   refine XL.no (t := 51) rfl rfl ?_
   refine XL.no (t := 51) rfl rfl ?_
   refine XL.no (t := 51) rfl rfl ?_
   refine XL.no (t := 51) rfl rfl ?_
   refine XL.no (t := 51) rfl rfl ?_
   refine XL.no (t := 51) rfl rfl ?_
   refine cX (XOp.pickT (.bool (true)) rfl rfl ?_)
   refine XL.nil ?_
   refine X.condT rfl ?_
   refine X.seq (X.region ?_)
   refine XL.as (.bool (false)) rfl ?_
   refine XL.nil ?_
   refine X.ret (thenQ_ret (retEnd (L' := L) [.bool (false)] (.bool (false)) (.tmp rfl .nil) rfl rF rF (sD (sD sR)) ?_))
   exact ⟨(vB (by refine peakL_no (fun h => ?_); obtain ⟨h1, h2, h3, h4⟩ := h; have h5 := peakArgs_iff.1 h2; first | omega | simp_all | (simp_all; done) | (exfalso; simp_all; omega))), rfl, rfl⟩
  refine XL.yes (t := 44) rfl (vF h5) (XOp.fieldP (b := b2) (3) runUnderlying74 rfl sizeOf2 (by decide) rfl rfl ?_)
  refine XL.yes (t := 44) rfl (vF h5) (XOp.load1 (v := .int .i64 (a)) isAgg2 rfl (Rd.own [] rfl rfl) ?_)
  refine XL.yes (t := 44) rfl (vF h5) (XOp.move (a1) rfl ?_)
  refine XL.yes (t := 44) rfl (vF h5) (XOp.lenS (v := a1) (n := ((rs.getD ((o).toNat) ([], [])).1).length) runUnderlying22 rfl ha1.slv ?_)
  refine XL.yes (t := 44) rfl (vF h5) (XOp.geq (a := a) (b := ((((rs.getD ((o).toNat) ([], [])).1).length : Nat) : Int)) rfl rfl ?_)
  refine cX (XOp.pickF (.bool (decide ((a : Int) ≥ ((((rs.getD ((o).toNat) ([], [])).1).length : Nat) : Int)))) (vF h5) rfl ?_)
  refine XL.mv (.bool (decide ((a : Int) ≥ ((((rs.getD ((o).toNat) ([], [])).1).length : Nat) : Int)))) rfl ?_
  by_cases h6 : (a : Int) ≥ ((((rs.getD ((o).toNat) ([], [])).1).length : Nat) : Int)
  ·refine XL.no (t := 51) rfl (vT h6) ?_
   refine XL.no (t := 51) rfl (vT h6) ?_
   refine XL.no (t := 51) rfl (vT h6) ?_
   refine XL.no (t := 51) rfl (vT h6) ?_
   refine XL.no (t := 51) rfl (vT h6) ?_
   refine XL.no (t := 51) rfl (vT h6) ?_
   refine cX (XOp.pickT (.bool (true)) (vT h6) rfl ?_)
   refine XL.nil ?_
   refine X.condT rfl ?_
   refine X.seq (X.region ?_)
   refine XL.as (.bool (false)) rfl ?_
   refine XL.nil ?_
   refine X.ret (thenQ_ret (retEnd (L' := L) [.bool (false)] (.bool (false)) (.tmp rfl .nil) rfl rF rF (sD (sD sR)) ?_))
   exact ⟨(vB (by refine peakL_no (fun h => ?_); obtain ⟨h1, h2, h3, h4⟩ := h; have h5 := peakArgs_iff.1 h2; first | omega | simp_all | (simp_all; done) | (exfalso; simp_all; omega))), rfl, rfl⟩
  refine XL.yes (t := 51) rfl (vF h6) (XOp.move (a1) rfl ?_)
  refine XL.yes (t := 51) rfl (vF h6) (XOp.fieldP (b := b2) (3) runUnderlying74 rfl sizeOf2 (by decide) rfl rfl ?_)
  refine XL.yes (t := 51) rfl (vF h6) (XOp.load1 (v := .int .i64 (a)) isAgg2 rfl (Rd.own [] rfl rfl) ?_)
  refine XL.yes (t := 51) rfl (vF h6) (XOp.indexS (v := a1) (i := a) (n := ((rs.getD ((o).toNat) ([], [])).1).length) ((a).toNat) runUnderlying22 sizeOf2 rfl rfl (by omega) ha1.slv (by omega) (Nat.mul_one _) ?_)
  refine XL.yes (t := 51) rfl (vF h6) (XOp.load1 (v := .int .i64 (((rs.getD ((o).toNat) ([], [])).1).getD ((a).toNat) 0)) isAgg2 rfl (ha1.rd (by omega)) ?_)
  refine XL.yes (t := 51) rfl (vF h6) (XOp.lss (a := ((rs.getD ((o).toNat) ([], [])).1).getD ((a).toNat) 0) (b := 0) rfl rfl ?_)
  refine cX (XOp.pickF (.bool (decide ((((rs.getD ((o).toNat) ([], [])).1).getD ((a).toNat) 0 : Int) < 0))) (vF h6) rfl ?_)
  refine XL.nil ?_
  refine X.condD (p := (((rs.getD ((o).toNat) ([], [])).1).getD ((a).toNat) 0 : Int) < 0) rfl (fun h7 => ?_) (fun h7 => ?_)
  ·refine X.seq (X.region ?_)
   refine XL.as (.bool (false)) rfl ?_
   refine XL.nil ?_
   refine X.ret (thenQ_ret (retEnd (L' := L) [.bool (false)] (.bool (false)) (.tmp rfl .nil) rfl rF rF (sD (sD sR)) ?_))
   exact ⟨(vB (by refine peakL_no (fun h => ?_); obtain ⟨h1, h2, h3, h4⟩ := h; have h5 := peakArgs_iff.1 h2; first | omega | simp_all | (simp_all; done) | (exfalso; simp_all; omega))), rfl, rfl⟩
  refine X.skip (X.seq (X.region ?_))
  refine cX (XOp.loadN [arv, rsv] isAgg37 sizeOf37 rfl rfl (Rd.ownN [_] rfl rfl) ?_)
  refine cX (XOp.fieldP (b := b2) (0) runUnderlying74 rfl sizeOf22 (by decide) rfl rfl ?_)
  refine cX (XOp.load1 (v := tpv) isAgg22 rfl (Rd.own [] rfl rfl) ?_)
  refine cX (XOp.fieldP (b := b2) (5) runUnderlying74 rfl sizeOf2 (by decide) rfl rfl ?_)
  refine cX (XOp.load1 (v := .int .i64 (o)) isAgg2 rfl (Rd.own [] rfl rfl) ?_)
  refine cX (XOp.call (args := [.agg #[arv, rsv], tpv, .int .i64 (0), .int .i64 (o)]) call211 rfl (StepAt_spec (p := 0) (r := o) har hrs htp) ?_)
  rintro _ F1 _ le1 ⟨x1, rfl, hr3, hr4, rfl⟩
  replace har := har.mono le1
  replace hrs := hrs.mono le1
  replace htp := htp.mono le1
  replace hlf := hlf.mono le1
  replace hrt := hrt.mono le1
  replace ha1 := ha1.mono le1
  refine XL.mv (.tuple #[x1, .bool ((stepAtL ar rs tp 0 o).isSome)]) rfl ?_
  refine cX (XOp.extract (x1) rfl rfl ?_)
  refine cX (XOp.extract (.bool ((stepAtL ar rs tp 0 o).isSome)) rfl rfl ?_)
  refine XL.as (x1) rfl ?_
  refine XL.as (.bool ((stepAtL ar rs tp 0 o).isSome)) rfl ?_
  refine XL.nil (X.seq (X.seq (X.region ?_)))
  refine XL.mv (.bool ((stepAtL ar rs tp 0 o).isSome)) rfl ?_
  refine cX (XOp.notB (b := (stepAtL ar rs tp 0 o).isSome) rfl ?_)
  refine XL.mv (.bool (!((stepAtL ar rs tp 0 o).isSome))) rfl ?_
  by_cases h8 : (!((stepAtL ar rs tp 0 o).isSome)) = true
  ·have hst1 : (stepAtL ar rs tp 0 o).isSome = false := by simpa using h8
   refine XL.no (t := 70) rfl (vB h8) ?_
   refine XL.no (t := 70) rfl (vB h8) ?_
   refine XL.no (t := 70) rfl (vB h8) ?_
   refine XL.no (t := 70) rfl (vB h8) ?_
   refine XL.no (t := 70) rfl (vB h8) ?_
   refine cX (XOp.pickT (.bool (true)) (vB h8) rfl ?_)
   refine XL.nil ?_
   refine X.condT rfl ?_
   refine X.seq (X.region ?_)
   refine XL.as (.bool (false)) rfl ?_
   refine XL.nil ?_
   refine X.ret (thenQ_ret (retEnd (L' := L) [.bool (false)] (.bool (false)) (.tmp rfl .nil) rfl rF le1 (sD (sD sR)) ?_))
   exact ⟨(vB (peakL_no (fun h => by first | exact opt_no1 hst1 h.2.2.1 | exact opt_no2 hst2 h.2.2.1))), rfl, rfl⟩
  rw [Bool.not_eq_true] at h8
  have hst1 : (stepAtL ar rs tp 0 o).isSome = true := by simpa using h8
  refine XL.yes (t := 70) rfl (vB h8) (XOp.move (x1) rfl ?_)
  refine XL.yes (t := 70) rfl (vB h8) (XOp.fieldP (b := b2) (2) runUnderlying74 rfl sizeOf22 (by decide) rfl rfl ?_)
  refine XL.yes (t := 70) rfl (vB h8) (XOp.load1 (v := rtv) isAgg22 rfl (Rd.own [] rfl rfl) ?_)
  refine XL.yes (t := 70) rfl (vB h8) (XOp.call (args := [x1, rtv]) call115 rfl (Equal_spec hr3 hrt (hbd := (by first | assumption | rfl | omega | (left; simp; done) | (right; simp; done)))) ?_)
  rintro _ _ _ _ ⟨rfl, rfl, rfl⟩
  refine XL.yes (t := 70) rfl (vB h8) (XOp.notD (p := ((stepAtL ar rs tp 0 o).getD []) = rt) rfl ?_)
  refine cX (XOp.pickF (.bool (decide (¬(((stepAtL ar rs tp 0 o).getD []) = rt)))) (vB h8) rfl ?_)
  refine XL.nil ?_
  refine X.condD (p := ¬(((stepAtL ar rs tp 0 o).getD []) = rt)) rfl (fun h9 => ?_) (fun h9 => ?_)
  ·have hst2 : (stepAtL ar rs tp 0 o).getD [] ≠ rt := h9
   refine X.seq (X.region ?_)
   refine XL.as (.bool (false)) rfl ?_
   refine XL.nil ?_
   refine X.ret (thenQ_ret (retEnd (L' := L) [.bool (false)] (.bool (false)) (.tmp rfl .nil) rfl rF le1 (sD (sD sR)) ?_))
   exact ⟨(vB (peakL_no (fun h => by first | exact opt_no1 hst1 h.2.2.1 | exact opt_no2 hst2 h.2.2.1))), rfl, rfl⟩
  have hst2 : (stepAtL ar rs tp 0 o).getD [] = rt := Classical.not_not.1 h9
  refine X.skip (X.seq ?_)
  refine X.drawG [cellsH b2 [tpv, lfv, rtv, .int .i64 (a), .int .i64 (u), .int .i64 (o)] 74, cellsH b1 [arv, rsv] 37] L 10 [[], [], [], [], [], [], [], [], [], []] [[], [0], [], [2], [], [4], [], [], [7], [5, 6, 8]] [[], [], [], [], [], [], [], [], [], []] (phiG [fun FF us v => v = ptr b1 0, fun FF us v => v = (.agg #[arv] : Value), fun FF us v => v = ptr b2 0, fun FF us v => v = tpv, fun FF us v => v = ptr b1 0, fun FF us v => v = (.agg #[arv] : Value), fun FF us v => v = a1, fun FF us v => v = ptr b2 3, fun FF us v => v = (.int .i64 (a) : Value), fun FF us v => ((v) : Value) = v ∧ (IntsF FF (v) (pathL ar ((rs.getD ((o).toNat) ([], [])).1) ((a).toNat)))]) (ownL [fun us v => [], fun us v => [], fun us v => [], fun us v => [], fun us v => [], fun us v => [], fun us v => [], fun us v => [], fun us v => [], fun us v => []]) mixed rfl rfl (by kernel_rfl) (by kernel_rfl) (MonoG.get (mC (fun le h => h) (mC (fun le h => h) (mC (fun le h => h) (mC (fun le h => h) (mC (fun le h => h) (mC (fun le h => h) (mC (fun le h => h) (mC (fun le h => h) (mC (fun le h => h) (mC (fun le h => ⟨h.1, h.2.mono le⟩) MonoG.nil))))))))))) ?_ ?_
  ·refine gC (fun vals Fs R leFs hpZ => ?_) ?_
   ·refine XG.op (XOp.fieldP (b := b1) (0) runUnderlying37 rfl sizeOf34 (by decide) rfl rfl ?_)
    exact ⟨rfl, rfl⟩
   refine gC (fun vals Fs R leFs hpZ => ?_) ?_
   ·replace har := har.mono leFs
    replace hrs := hrs.mono leFs
    replace htp := htp.mono leFs
    replace hlf := hlf.mono leFs
    replace hrt := hrt.mono leFs
    replace ha1 := ha1.mono leFs
    rw [eS (l := [(0, ptr b1 0)]) ⟨(hpZ 0 (by decide)), trivial⟩]
    refine XG.op (XOp.loadN [arv] isAgg34 sizeOf34 rfl rfl (Rd.ownN [_] rfl rfl) ?_)
    exact ⟨rfl, rfl⟩
   refine gC (fun vals Fs R leFs hpZ => ?_) ?_
   ·refine XG.op (XOp.fieldP (b := b2) (0) runUnderlying74 rfl sizeOf22 (by decide) rfl rfl ?_)
    exact ⟨rfl, rfl⟩
   refine gC (fun vals Fs R leFs hpZ => ?_) ?_
   ·replace har := har.mono leFs
    replace hrs := hrs.mono leFs
    replace htp := htp.mono leFs
    replace hlf := hlf.mono leFs
    replace hrt := hrt.mono leFs
    replace ha1 := ha1.mono leFs
    rw [eS (l := [(2, ptr b2 0)]) ⟨(hpZ 2 (by decide)), trivial⟩]
    refine XG.op (XOp.load1 (v := tpv) isAgg22 rfl (Rd.own [] rfl rfl) ?_)
    exact ⟨rfl, rfl⟩
   refine gC (fun vals Fs R leFs hpZ => ?_) ?_
   ·refine XG.op (XOp.fieldP (b := b1) (0) runUnderlying37 rfl sizeOf34 (by decide) rfl rfl ?_)
    exact ⟨rfl, rfl⟩
   refine gC (fun vals Fs R leFs hpZ => ?_) ?_
   ·replace har := har.mono leFs
    replace hrs := hrs.mono leFs
    replace htp := htp.mono leFs
    replace hlf := hlf.mono leFs
    replace hrt := hrt.mono leFs
    replace ha1 := ha1.mono leFs
    rw [eS (l := [(4, ptr b1 0)]) ⟨(hpZ 4 (by decide)), trivial⟩]
    refine XG.op (XOp.loadN [arv] isAgg34 sizeOf34 rfl rfl (Rd.ownN [_] rfl rfl) ?_)
    exact ⟨rfl, rfl⟩
   refine gC (fun vals Fs R leFs hpZ => ?_) ?_
   ·refine XG.op (XOp.move (a1) rfl ?_)
    exact ⟨rfl, rfl⟩
   refine gC (fun vals Fs R leFs hpZ => ?_) ?_
   ·refine XG.op (XOp.fieldP (b := b2) (3) runUnderlying74 rfl sizeOf2 (by decide) rfl rfl ?_)
    exact ⟨rfl, rfl⟩
   refine gC (fun vals Fs R leFs hpZ => ?_) ?_
   ·replace har := har.mono leFs
    replace hrs := hrs.mono leFs
    replace htp := htp.mono leFs
    replace hlf := hlf.mono leFs
    replace hrt := hrt.mono leFs
    replace ha1 := ha1.mono leFs
    rw [eS (l := [(7, ptr b2 3)]) ⟨(hpZ 7 (by decide)), trivial⟩]
    refine XG.op (XOp.load1 (v := .int .i64 (a)) isAgg2 rfl (Rd.own [] rfl rfl) ?_)
    exact ⟨rfl, rfl⟩
   refine gC (fun vals Fs R leFs hpZ => ?_) ?_
   ·replace har := har.mono leFs
    replace hrs := hrs.mono leFs
    replace htp := htp.mono leFs
    replace hlf := hlf.mono leFs
    replace hrt := hrt.mono leFs
    replace ha1 := ha1.mono leFs
    rw [eS (l := [(5, (.agg #[arv] : Value)), (6, a1), (8, (.int .i64 (a) : Value))]) ⟨(hpZ 5 (by decide)), (hpZ 6 (by decide)), (hpZ 8 (by decide)), trivial⟩]
    refine XG.op (XOp.frzF <| XOp.call (args := [.agg #[arv], a1, .int .i64 (((a).toNat : Nat) : Int)]) call213 (by rw [show (((a).toNat : Nat) : Int) = a from by omega]; rfl) (pathTo_spec (x := (a).toNat) har ha1 (ho := (hRL (by omega))) (hx := (by omega))) ?_)
    rintro v2 _ _ _ ⟨rfl, hs2, rfl⟩
    refine ⟨_, _, rfl, fun F2 le2 hz1 => ?_⟩
    replace har := har.mono le2
    replace hrs := hrs.mono le2
    replace htp := htp.mono le2
    replace hlf := hlf.mono le2
    replace hrt := hrt.mono le2
    have hf1 : IntsF F2 v2 ((pathL ar ((rs.getD ((o).toNat) ([], [])).1) ((a).toNat))) := intsH.fz (xs := (pathL ar ((rs.getD ((o).toNat) ([], [])).1) ((a).toNat))) hz1.fz
    exact ⟨⟨rfl, hf1⟩, rfl⟩
   exact stepsG.nil
  intro vals F3 le3 hphi
  obtain ⟨e9, f9_1ha⟩ := hphi 9 (by decide)
  generalize hu1 : ((vals 9)) = u1 at e9 f9_1ha
  rw [eS (l := [(1, (.agg #[arv] : Value)), (3, tpv), (9, u1)]) ⟨(hphi 1 (by decide)), (hphi 3 (by decide)), hu1, trivial⟩]
  replace har := har.mono le3
  replace hrs := hrs.mono le3
  replace htp := htp.mono le3
  replace hlf := hlf.mono le3
  replace hrt := hrt.mono le3
  show XL _ _ _ _ _ _ _ (cellsH b2 [tpv, lfv, rtv, .int .i64 (a), .int .i64 (u), .int .i64 (o)] 74 :: cellsH b1 [arv, rsv] 37 :: L)
  refine cX (XOp.call (args := [.agg #[arv], tpv, u1]) call212 rfl (PlaceOf_spec har htp f9_1ha (hlp := (by have := pathL_len ar (rs.getD o.toNat ([], [])).1 a.toNat; have := hRl (by omega); omega))) ?_)
  rintro _ _ _ _ ⟨rfl, rfl, rfl⟩
  refine XL.as (.int .i64 (placeL ar tp ((pathL ar ((rs.getD ((o).toNat) ([], [])).1) ((a).toNat))))) rfl ?_
  refine XL.nil (X.seq (X.region ?_))
  refine cX (XOp.loadN [arv, rsv] isAgg37 sizeOf37 rfl rfl (Rd.ownN [_] rfl rfl) ?_)
  refine cX (XOp.fieldP (b := b2) (0) runUnderlying74 rfl sizeOf22 (by decide) rfl rfl ?_)
  refine cX (XOp.load1 (v := tpv) isAgg22 rfl (Rd.own [] rfl rfl) ?_)
  refine XL.mv (.int .i64 (placeL ar tp ((pathL ar ((rs.getD ((o).toNat) ([], [])).1) ((a).toNat))))) rfl ?_
  refine cX (XOp.fieldP (b := b2) (4) runUnderlying74 rfl sizeOf2 (by decide) rfl rfl ?_)
  refine cX (XOp.load1 (v := .int .i64 (u)) isAgg2 rfl (Rd.own [] rfl rfl) ?_)
  refine cX (XOp.call (args := [.agg #[arv, rsv], tpv, .int .i64 (placeL ar tp ((pathL ar ((rs.getD ((o).toNat) ([], [])).1) ((a).toNat)))), .int .i64 (u)]) call211 rfl (StepAt_spec (p := placeL ar tp ((pathL ar ((rs.getD ((o).toNat) ([], [])).1) ((a).toNat)))) (r := u) har hrs htp) ?_)
  rintro _ F4 _ le4 ⟨x2, rfl, hr5, hr6, rfl⟩
  replace har := har.mono le4
  replace hrs := hrs.mono le4
  replace htp := htp.mono le4
  replace hlf := hlf.mono le4
  replace hrt := hrt.mono le4
  refine XL.mv (.tuple #[x2, .bool ((stepAtL ar rs tp (placeL ar tp ((pathL ar ((rs.getD ((o).toNat) ([], [])).1) ((a).toNat)))) u).isSome)]) rfl ?_
  refine cX (XOp.extract (x2) rfl rfl ?_)
  refine cX (XOp.extract (.bool ((stepAtL ar rs tp (placeL ar tp ((pathL ar ((rs.getD ((o).toNat) ([], [])).1) ((a).toNat)))) u).isSome)) rfl rfl ?_)
  refine XL.as (x2) rfl ?_
  refine XL.as (.bool ((stepAtL ar rs tp (placeL ar tp ((pathL ar ((rs.getD ((o).toNat) ([], [])).1) ((a).toNat)))) u).isSome)) rfl ?_
  refine XL.nil (X.seq (X.region ?_))
  refine XL.mv (.bool ((stepAtL ar rs tp (placeL ar tp ((pathL ar ((rs.getD ((o).toNat) ([], [])).1) ((a).toNat)))) u).isSome)) rfl ?_
  refine XL.mv (.bool ((stepAtL ar rs tp (placeL ar tp ((pathL ar ((rs.getD ((o).toNat) ([], [])).1) ((a).toNat)))) u).isSome)) rfl ?_
  by_cases h10 : ((stepAtL ar rs tp (placeL ar tp ((pathL ar ((rs.getD ((o).toNat) ([], [])).1) ((a).toNat)))) u).isSome) = true
  ·refine XL.yes (t := 99) rfl (vB h10) (XOp.move (x2) rfl ?_)
   refine XL.yes (t := 99) rfl (vB h10) (XOp.fieldP (b := b2) (1) runUnderlying74 rfl sizeOf22 (by decide) rfl rfl ?_)
   refine XL.yes (t := 99) rfl (vB h10) (XOp.load1 (v := lfv) isAgg22 rfl (Rd.own [] rfl rfl) ?_)
   refine XL.yes (t := 99) rfl (vB h10) (XOp.call (args := [x2, lfv]) call115 rfl (Equal_spec hr5 hlf (hbd := (by first | assumption | rfl | omega | (left; simp; done) | (right; simp; done)))) ?_)
   rintro _ _ _ _ ⟨rfl, rfl, rfl⟩
   refine cX (XOp.pickT (.bool (decide (((stepAtL ar rs tp (placeL ar tp ((pathL ar ((rs.getD ((o).toNat) ([], [])).1) ((a).toNat)))) u).getD []) = lf))) (vB h10) rfl ?_)
   refine XL.as (.bool (decide (((stepAtL ar rs tp (placeL ar tp ((pathL ar ((rs.getD ((o).toNat) ([], [])).1) ((a).toNat)))) u).getD []) = lf))) rfl ?_
   refine XL.nil ?_
   refine X.ret (retEnd (L' := L) [.bool (decide (((stepAtL ar rs tp (placeL ar tp ((pathL ar ((rs.getD ((o).toNat) ([], [])).1) ((a).toNat)))) u).getD []) = lf))] (.bool (decide (((stepAtL ar rs tp (placeL ar tp ((pathL ar ((rs.getD ((o).toNat) ([], [])).1) ((a).toNat)))) u).getD []) = lf))) (.tmp rfl .nil) rfl rF (FLe.trans (FLe.trans le1 le3) le4) (sD (sD sR)) ?_)
   exact ⟨(vB (by rw [Bool.eq_iff_iff, peakL_iff, decide_eq_true_eq]; exact ⟨fun h => (getD_some (by assumption)).1 h.2.2.2, fun h => ⟨hsys, peakArgs_iff.2 (by omega), (getD_some hst1).2 hst2, (getD_some (by assumption)).2 h⟩⟩)), rfl, rfl⟩
  rw [Bool.not_eq_true] at h10
  refine XL.no (t := 99) rfl (vB h10) ?_
  refine XL.no (t := 99) rfl (vB h10) ?_
  refine XL.no (t := 99) rfl (vB h10) ?_
  refine XL.no (t := 99) rfl (vB h10) ?_
  refine cX (XOp.pickF (.bool (false)) (vB h10) rfl ?_)
  refine XL.as (.bool (false)) rfl ?_
  refine XL.nil ?_
  refine X.ret (retEnd (L' := L) [.bool (false)] (.bool (false)) (.tmp rfl .nil) rfl rF (FLe.trans (FLe.trans le1 le3) le4) (sD (sD sR)) ?_)
  exact ⟨(vB (peakL_no (fun h => opt_no1 (by assumption) h.2.2.2))), rfl, rfl⟩
 refine XL.no (t := 26) rfl (vF h3) ?_
 refine XL.no (t := 26) rfl (vF h3) ?_
 refine XL.no (t := 26) rfl (vF h3) ?_
 refine XL.no (t := 26) rfl (vF h3) ?_
 refine XL.no (t := 26) rfl (vF h3) ?_
 refine XL.yes (t := 22) rfl (vF h2) (XOp.pickF (.bool (false)) (vF h3) rfl ?_)
 refine cX (XOp.pickF (.bool (false)) (vF h2) rfl ?_)
 refine XL.nil ?_
 refine X.condF rfl ?_
 refine X.skip (X.seq (X.region ?_))
 refine cX (XOp.fieldP (b := b1) (1) runUnderlying37 rfl sizeOf35 (by decide) rfl rfl ?_)
 refine cX (XOp.load1 (v := rsv) isAgg35 rfl (Rd.own [_] rfl rfl) ?_)
 refine cX (XOp.fieldP (b := b2) (5) runUnderlying74 rfl sizeOf2 (by decide) rfl rfl ?_)
 refine cX (XOp.load1 (v := .int .i64 (o)) isAgg2 rfl (Rd.own [] rfl rfl) ?_)
 refine cX (XOp.indexS (v := rsv) (i := o) (n := (rs).length) ((o).toNat) runUnderlying35 sizeOf121 rfl rfl (by omega) hrs.slv (by omega) rfl ?_)
 refine cX (XOp.fieldE (v := rsv) (((o).toNat) * 2) runUnderlying121 rfl sizeOf22 (by decide) rfl rfl ?_)
 obtain ⟨a3, a4, ha3, ha4, hr7, hr8⟩ := hrs.rd (i := (o).toNat) (by omega)
 refine cX (XOp.load1 (v := a3) isAgg22 rfl (hr7 _) ?_)
 refine XL.as (a3) rfl ?_
 refine XL.nil (X.seq (X.seq (X.region ?_)))
 refine cX (XOp.fieldP (b := b2) (3) runUnderlying74 rfl sizeOf2 (by decide) rfl rfl ?_)
 refine cX (XOp.load1 (v := .int .i64 (a)) isAgg2 rfl (Rd.own [] rfl rfl) ?_)
 refine cX (XOp.lss (a := a) (b := 0) rfl rfl ?_)
 refine XL.mv (.bool (decide ((a : Int) < 0))) rfl ?_
 by_cases h11 : (a : Int) < 0
 ·refine XL.no (t := 44) rfl (vT h11) ?_
  refine XL.no (t := 44) rfl (vT h11) ?_
  refine XL.no (t := 44) rfl (vT h11) ?_
  refine XL.no (t := 44) rfl (vT h11) ?_
  refine XL.no (t := 44) rfl (vT h11) ?_
  refine cX (XOp.pickT (.bool (true)) (vT h11) rfl ?_)
  refine XL.mv (.bool (true)) rfl ?_
  refine XL.no (t := 51) rfl rfl ?_
  refine XL.no (t := 51) rfl rfl ?_
  refine XL.no (t := 51) rfl rfl ?_
  refine XL.no (t := 51) rfl rfl ?_
  refine XL.no (t := 51) rfl rfl ?_
  refine XL.no (t := 51) rfl rfl ?_
  refine cX (XOp.pickT (.bool (true)) rfl rfl ?_)
  refine XL.nil ?_
  refine X.condT rfl ?_
  refine X.seq (X.region ?_)
  refine XL.as (.bool (false)) rfl ?_
  refine XL.nil ?_
  refine X.ret (thenQ_ret (retEnd (L' := L) [.bool (false)] (.bool (false)) (.tmp rfl .nil) rfl rF rF (sD (sD sR)) ?_))
  exact ⟨(vB (by refine peakL_no (fun h => ?_); obtain ⟨h1, h2, h3, h4⟩ := h; have h5 := peakArgs_iff.1 h2; first | omega | simp_all | (simp_all; done) | (exfalso; simp_all; omega))), rfl, rfl⟩
 refine XL.yes (t := 44) rfl (vF h11) (XOp.fieldP (b := b2) (3) runUnderlying74 rfl sizeOf2 (by decide) rfl rfl ?_)
 refine XL.yes (t := 44) rfl (vF h11) (XOp.load1 (v := .int .i64 (a)) isAgg2 rfl (Rd.own [] rfl rfl) ?_)
 refine XL.yes (t := 44) rfl (vF h11) (XOp.move (a3) rfl ?_)
 refine XL.yes (t := 44) rfl (vF h11) (XOp.lenS (v := a3) (n := ((rs.getD ((o).toNat) ([], [])).1).length) runUnderlying22 rfl ha3.slv ?_)
 refine XL.yes (t := 44) rfl (vF h11) (XOp.geq (a := a) (b := ((((rs.getD ((o).toNat) ([], [])).1).length : Nat) : Int)) rfl rfl ?_)
 refine cX (XOp.pickF (.bool (decide ((a : Int) ≥ ((((rs.getD ((o).toNat) ([], [])).1).length : Nat) : Int)))) (vF h11) rfl ?_)
 refine XL.mv (.bool (decide ((a : Int) ≥ ((((rs.getD ((o).toNat) ([], [])).1).length : Nat) : Int)))) rfl ?_
 by_cases h12 : (a : Int) ≥ ((((rs.getD ((o).toNat) ([], [])).1).length : Nat) : Int)
 ·refine XL.no (t := 51) rfl (vT h12) ?_
  refine XL.no (t := 51) rfl (vT h12) ?_
  refine XL.no (t := 51) rfl (vT h12) ?_
  refine XL.no (t := 51) rfl (vT h12) ?_
  refine XL.no (t := 51) rfl (vT h12) ?_
  refine XL.no (t := 51) rfl (vT h12) ?_
  refine cX (XOp.pickT (.bool (true)) (vT h12) rfl ?_)
  refine XL.nil ?_
  refine X.condT rfl ?_
  refine X.seq (X.region ?_)
  refine XL.as (.bool (false)) rfl ?_
  refine XL.nil ?_
  refine X.ret (thenQ_ret (retEnd (L' := L) [.bool (false)] (.bool (false)) (.tmp rfl .nil) rfl rF rF (sD (sD sR)) ?_))
  exact ⟨(vB (by refine peakL_no (fun h => ?_); obtain ⟨h1, h2, h3, h4⟩ := h; have h5 := peakArgs_iff.1 h2; first | omega | simp_all | (simp_all; done) | (exfalso; simp_all; omega))), rfl, rfl⟩
 refine XL.yes (t := 51) rfl (vF h12) (XOp.move (a3) rfl ?_)
 refine XL.yes (t := 51) rfl (vF h12) (XOp.fieldP (b := b2) (3) runUnderlying74 rfl sizeOf2 (by decide) rfl rfl ?_)
 refine XL.yes (t := 51) rfl (vF h12) (XOp.load1 (v := .int .i64 (a)) isAgg2 rfl (Rd.own [] rfl rfl) ?_)
 refine XL.yes (t := 51) rfl (vF h12) (XOp.indexS (v := a3) (i := a) (n := ((rs.getD ((o).toNat) ([], [])).1).length) ((a).toNat) runUnderlying22 sizeOf2 rfl rfl (by omega) ha3.slv (by omega) (Nat.mul_one _) ?_)
 refine XL.yes (t := 51) rfl (vF h12) (XOp.load1 (v := .int .i64 (((rs.getD ((o).toNat) ([], [])).1).getD ((a).toNat) 0)) isAgg2 rfl (ha3.rd (by omega)) ?_)
 refine XL.yes (t := 51) rfl (vF h12) (XOp.lss (a := ((rs.getD ((o).toNat) ([], [])).1).getD ((a).toNat) 0) (b := 0) rfl rfl ?_)
 refine cX (XOp.pickF (.bool (decide ((((rs.getD ((o).toNat) ([], [])).1).getD ((a).toNat) 0 : Int) < 0))) (vF h12) rfl ?_)
 refine XL.nil ?_
 refine X.condD (p := (((rs.getD ((o).toNat) ([], [])).1).getD ((a).toNat) 0 : Int) < 0) rfl (fun h13 => ?_) (fun h13 => ?_)
 ·refine X.seq (X.region ?_)
  refine XL.as (.bool (false)) rfl ?_
  refine XL.nil ?_
  refine X.ret (thenQ_ret (retEnd (L' := L) [.bool (false)] (.bool (false)) (.tmp rfl .nil) rfl rF rF (sD (sD sR)) ?_))
  exact ⟨(vB (by refine peakL_no (fun h => ?_); obtain ⟨h1, h2, h3, h4⟩ := h; have h5 := peakArgs_iff.1 h2; first | omega | simp_all | (simp_all; done) | (exfalso; simp_all; omega))), rfl, rfl⟩
 refine X.skip (X.seq (X.region ?_))
 refine cX (XOp.loadN [arv, rsv] isAgg37 sizeOf37 rfl rfl (Rd.ownN [_] rfl rfl) ?_)
 refine cX (XOp.fieldP (b := b2) (0) runUnderlying74 rfl sizeOf22 (by decide) rfl rfl ?_)
 refine cX (XOp.load1 (v := tpv) isAgg22 rfl (Rd.own [] rfl rfl) ?_)
 refine cX (XOp.fieldP (b := b2) (5) runUnderlying74 rfl sizeOf2 (by decide) rfl rfl ?_)
 refine cX (XOp.load1 (v := .int .i64 (o)) isAgg2 rfl (Rd.own [] rfl rfl) ?_)
 refine cX (XOp.call (args := [.agg #[arv, rsv], tpv, .int .i64 (0), .int .i64 (o)]) call211 rfl (StepAt_spec (p := 0) (r := o) har hrs htp) ?_)
 rintro _ F5 _ le5 ⟨x3, rfl, hr9, hr10, rfl⟩
 replace har := har.mono le5
 replace hrs := hrs.mono le5
 replace htp := htp.mono le5
 replace hlf := hlf.mono le5
 replace hrt := hrt.mono le5
 replace ha3 := ha3.mono le5
 refine XL.mv (.tuple #[x3, .bool ((stepAtL ar rs tp 0 o).isSome)]) rfl ?_
 refine cX (XOp.extract (x3) rfl rfl ?_)
 refine cX (XOp.extract (.bool ((stepAtL ar rs tp 0 o).isSome)) rfl rfl ?_)
 refine XL.as (x3) rfl ?_
 refine XL.as (.bool ((stepAtL ar rs tp 0 o).isSome)) rfl ?_
 refine XL.nil (X.seq (X.seq (X.region ?_)))
 refine XL.mv (.bool ((stepAtL ar rs tp 0 o).isSome)) rfl ?_
 refine cX (XOp.notB (b := (stepAtL ar rs tp 0 o).isSome) rfl ?_)
 refine XL.mv (.bool (!((stepAtL ar rs tp 0 o).isSome))) rfl ?_
 by_cases h14 : (!((stepAtL ar rs tp 0 o).isSome)) = true
 ·have hst1 : (stepAtL ar rs tp 0 o).isSome = false := by simpa using h14
  refine XL.no (t := 70) rfl (vB h14) ?_
  refine XL.no (t := 70) rfl (vB h14) ?_
  refine XL.no (t := 70) rfl (vB h14) ?_
  refine XL.no (t := 70) rfl (vB h14) ?_
  refine XL.no (t := 70) rfl (vB h14) ?_
  refine cX (XOp.pickT (.bool (true)) (vB h14) rfl ?_)
  refine XL.nil ?_
  refine X.condT rfl ?_
  refine X.seq (X.region ?_)
  refine XL.as (.bool (false)) rfl ?_
  refine XL.nil ?_
  refine X.ret (thenQ_ret (retEnd (L' := L) [.bool (false)] (.bool (false)) (.tmp rfl .nil) rfl rF le5 (sD (sD sR)) ?_))
  exact ⟨(vB (peakL_no (fun h => by first | exact opt_no1 hst1 h.2.2.1 | exact opt_no2 hst2 h.2.2.1))), rfl, rfl⟩
 rw [Bool.not_eq_true] at h14
 have hst1 : (stepAtL ar rs tp 0 o).isSome = true := by simpa using h14
 refine XL.yes (t := 70) rfl (vB h14) (XOp.move (x3) rfl ?_)
 refine XL.yes (t := 70) rfl (vB h14) (XOp.fieldP (b := b2) (2) runUnderlying74 rfl sizeOf22 (by decide) rfl rfl ?_)
 refine XL.yes (t := 70) rfl (vB h14) (XOp.load1 (v := rtv) isAgg22 rfl (Rd.own [] rfl rfl) ?_)
 refine XL.yes (t := 70) rfl (vB h14) (XOp.call (args := [x3, rtv]) call115 rfl (Equal_spec hr9 hrt (hbd := (by first | assumption | rfl | omega | (left; simp; done) | (right; simp; done)))) ?_)
 rintro _ _ _ _ ⟨rfl, rfl, rfl⟩
 refine XL.yes (t := 70) rfl (vB h14) (XOp.notD (p := ((stepAtL ar rs tp 0 o).getD []) = rt) rfl ?_)
 refine cX (XOp.pickF (.bool (decide (¬(((stepAtL ar rs tp 0 o).getD []) = rt)))) (vB h14) rfl ?_)
 refine XL.nil ?_
 refine X.condD (p := ¬(((stepAtL ar rs tp 0 o).getD []) = rt)) rfl (fun h15 => ?_) (fun h15 => ?_)
 ·have hst2 : (stepAtL ar rs tp 0 o).getD [] ≠ rt := h15
  refine X.seq (X.region ?_)
  refine XL.as (.bool (false)) rfl ?_
  refine XL.nil ?_
  refine X.ret (thenQ_ret (retEnd (L' := L) [.bool (false)] (.bool (false)) (.tmp rfl .nil) rfl rF le5 (sD (sD sR)) ?_))
  exact ⟨(vB (peakL_no (fun h => by first | exact opt_no1 hst1 h.2.2.1 | exact opt_no2 hst2 h.2.2.1))), rfl, rfl⟩
 have hst2 : (stepAtL ar rs tp 0 o).getD [] = rt := Classical.not_not.1 h15
 refine X.skip (X.seq ?_)
 refine X.drawG [cellsH b2 [tpv, lfv, rtv, .int .i64 (a), .int .i64 (u), .int .i64 (o)] 74, cellsH b1 [arv, rsv] 37] L 10 [[], [], [], [], [], [], [], [], [], []] [[], [0], [], [2], [], [4], [], [], [7], [5, 6, 8]] [[], [], [], [], [], [], [], [], [], []] (phiG [fun FF us v => v = ptr b1 0, fun FF us v => v = (.agg #[arv] : Value), fun FF us v => v = ptr b2 0, fun FF us v => v = tpv, fun FF us v => v = ptr b1 0, fun FF us v => v = (.agg #[arv] : Value), fun FF us v => v = a3, fun FF us v => v = ptr b2 3, fun FF us v => v = (.int .i64 (a) : Value), fun FF us v => ((v) : Value) = v ∧ (IntsF FF (v) (pathL ar ((rs.getD ((o).toNat) ([], [])).1) ((a).toNat)))]) (ownL [fun us v => [], fun us v => [], fun us v => [], fun us v => [], fun us v => [], fun us v => [], fun us v => [], fun us v => [], fun us v => [], fun us v => []]) mixed rfl rfl (by kernel_rfl) (by kernel_rfl) (MonoG.get (mC (fun le h => h) (mC (fun le h => h) (mC (fun le h => h) (mC (fun le h => h) (mC (fun le h => h) (mC (fun le h => h) (mC (fun le h => h) (mC (fun le h => h) (mC (fun le h => h) (mC (fun le h => ⟨h.1, h.2.mono le⟩) MonoG.nil))))))))))) ?_ ?_
 ·refine gC (fun vals Fs R leFs hpZ => ?_) ?_
  ·refine XG.op (XOp.fieldP (b := b1) (0) runUnderlying37 rfl sizeOf34 (by decide) rfl rfl ?_)
   exact ⟨rfl, rfl⟩
  refine gC (fun vals Fs R leFs hpZ => ?_) ?_
  ·replace har := har.mono leFs
   replace hrs := hrs.mono leFs
   replace htp := htp.mono leFs
   replace hlf := hlf.mono leFs
   replace ha3 := ha3.mono leFs
   rw [eS (l := [(0, ptr b1 0)]) ⟨(hpZ 0 (by decide)), trivial⟩]
   refine XG.op (XOp.loadN [arv] isAgg34 sizeOf34 rfl rfl (Rd.ownN [_] rfl rfl) ?_)
   exact ⟨rfl, rfl⟩
  refine gC (fun vals Fs R leFs hpZ => ?_) ?_
  ·refine XG.op (XOp.fieldP (b := b2) (0) runUnderlying74 rfl sizeOf22 (by decide) rfl rfl ?_)
   exact ⟨rfl, rfl⟩
  refine gC (fun vals Fs R leFs hpZ => ?_) ?_
  ·replace har := har.mono leFs
   replace hrs := hrs.mono leFs
   replace htp := htp.mono leFs
   replace hlf := hlf.mono leFs
   replace ha3 := ha3.mono leFs
   rw [eS (l := [(2, ptr b2 0)]) ⟨(hpZ 2 (by decide)), trivial⟩]
   refine XG.op (XOp.load1 (v := tpv) isAgg22 rfl (Rd.own [] rfl rfl) ?_)
   exact ⟨rfl, rfl⟩
  refine gC (fun vals Fs R leFs hpZ => ?_) ?_
  ·refine XG.op (XOp.fieldP (b := b1) (0) runUnderlying37 rfl sizeOf34 (by decide) rfl rfl ?_)
   exact ⟨rfl, rfl⟩
  refine gC (fun vals Fs R leFs hpZ => ?_) ?_
  ·replace har := har.mono leFs
   replace hrs := hrs.mono leFs
   replace htp := htp.mono leFs
   replace hlf := hlf.mono leFs
   replace ha3 := ha3.mono leFs
   rw [eS (l := [(4, ptr b1 0)]) ⟨(hpZ 4 (by decide)), trivial⟩]
   refine XG.op (XOp.loadN [arv] isAgg34 sizeOf34 rfl rfl (Rd.ownN [_] rfl rfl) ?_)
   exact ⟨rfl, rfl⟩
  refine gC (fun vals Fs R leFs hpZ => ?_) ?_
  ·refine XG.op (XOp.move (a3) rfl ?_)
   exact ⟨rfl, rfl⟩
  refine gC (fun vals Fs R leFs hpZ => ?_) ?_
  ·refine XG.op (XOp.fieldP (b := b2) (3) runUnderlying74 rfl sizeOf2 (by decide) rfl rfl ?_)
   exact ⟨rfl, rfl⟩
  refine gC (fun vals Fs R leFs hpZ => ?_) ?_
  ·replace har := har.mono leFs
   replace hrs := hrs.mono leFs
   replace htp := htp.mono leFs
   replace hlf := hlf.mono leFs
   replace ha3 := ha3.mono leFs
   rw [eS (l := [(7, ptr b2 3)]) ⟨(hpZ 7 (by decide)), trivial⟩]
   refine XG.op (XOp.load1 (v := .int .i64 (a)) isAgg2 rfl (Rd.own [] rfl rfl) ?_)
   exact ⟨rfl, rfl⟩
  refine gC (fun vals Fs R leFs hpZ => ?_) ?_
  ·replace har := har.mono leFs
   replace hrs := hrs.mono leFs
   replace htp := htp.mono leFs
   replace hlf := hlf.mono leFs
   replace ha3 := ha3.mono leFs
   rw [eS (l := [(5, (.agg #[arv] : Value)), (6, a3), (8, (.int .i64 (a) : Value))]) ⟨(hpZ 5 (by decide)), (hpZ 6 (by decide)), (hpZ 8 (by decide)), trivial⟩]
   refine XG.op (XOp.frzF <| XOp.call (args := [.agg #[arv], a3, .int .i64 (((a).toNat : Nat) : Int)]) call213 (by rw [show (((a).toNat : Nat) : Int) = a from by omega]; rfl) (pathTo_spec (x := (a).toNat) har ha3 (ho := (hRL (by omega))) (hx := (by omega))) ?_)
   rintro v4 _ _ _ ⟨rfl, hs4, rfl⟩
   refine ⟨_, _, rfl, fun F6 le6 hz2 => ?_⟩
   replace har := har.mono le6
   replace hrs := hrs.mono le6
   replace htp := htp.mono le6
   replace hlf := hlf.mono le6
   have hf2 : IntsF F6 v4 ((pathL ar ((rs.getD ((o).toNat) ([], [])).1) ((a).toNat))) := intsH.fz (xs := (pathL ar ((rs.getD ((o).toNat) ([], [])).1) ((a).toNat))) hz2.fz
   exact ⟨⟨rfl, hf2⟩, rfl⟩
  exact stepsG.nil
 intro vals F7 le7 hphi
 obtain ⟨e9, f9_2ha⟩ := hphi 9 (by decide)
 generalize hu2 : ((vals 9)) = u2 at e9 f9_2ha
 rw [eS (l := [(1, (.agg #[arv] : Value)), (3, tpv), (9, u2)]) ⟨(hphi 1 (by decide)), (hphi 3 (by decide)), hu2, trivial⟩]
 replace har := har.mono le7
 replace hrs := hrs.mono le7
 replace htp := htp.mono le7
 replace hlf := hlf.mono le7
 show XL _ _ _ _ _ _ _ (cellsH b2 [tpv, lfv, rtv, .int .i64 (a), .int .i64 (u), .int .i64 (o)] 74 :: cellsH b1 [arv, rsv] 37 :: L)
 refine cX (XOp.call (args := [.agg #[arv], tpv, u2]) call212 rfl (PlaceOf_spec har htp f9_2ha (hlp := (by have := pathL_len ar (rs.getD o.toNat ([], [])).1 a.toNat; have := hRl (by omega); omega))) ?_)
 rintro _ _ _ _ ⟨rfl, rfl, rfl⟩
 refine XL.as (.int .i64 (placeL ar tp ((pathL ar ((rs.getD ((o).toNat) ([], [])).1) ((a).toNat))))) rfl ?_
 refine XL.nil (X.seq (X.region ?_))
 refine cX (XOp.loadN [arv, rsv] isAgg37 sizeOf37 rfl rfl (Rd.ownN [_] rfl rfl) ?_)
 refine cX (XOp.fieldP (b := b2) (0) runUnderlying74 rfl sizeOf22 (by decide) rfl rfl ?_)
 refine cX (XOp.load1 (v := tpv) isAgg22 rfl (Rd.own [] rfl rfl) ?_)
 refine XL.mv (.int .i64 (placeL ar tp ((pathL ar ((rs.getD ((o).toNat) ([], [])).1) ((a).toNat))))) rfl ?_
 refine cX (XOp.fieldP (b := b2) (4) runUnderlying74 rfl sizeOf2 (by decide) rfl rfl ?_)
 refine cX (XOp.load1 (v := .int .i64 (u)) isAgg2 rfl (Rd.own [] rfl rfl) ?_)
 refine cX (XOp.call (args := [.agg #[arv, rsv], tpv, .int .i64 (placeL ar tp ((pathL ar ((rs.getD ((o).toNat) ([], [])).1) ((a).toNat)))), .int .i64 (u)]) call211 rfl (StepAt_spec (p := placeL ar tp ((pathL ar ((rs.getD ((o).toNat) ([], [])).1) ((a).toNat)))) (r := u) har hrs htp) ?_)
 rintro _ F8 _ le8 ⟨x4, rfl, hr11, hr12, rfl⟩
 replace hlf := hlf.mono le8
 refine XL.mv (.tuple #[x4, .bool ((stepAtL ar rs tp (placeL ar tp ((pathL ar ((rs.getD ((o).toNat) ([], [])).1) ((a).toNat)))) u).isSome)]) rfl ?_
 refine cX (XOp.extract (x4) rfl rfl ?_)
 refine cX (XOp.extract (.bool ((stepAtL ar rs tp (placeL ar tp ((pathL ar ((rs.getD ((o).toNat) ([], [])).1) ((a).toNat)))) u).isSome)) rfl rfl ?_)
 refine XL.as (x4) rfl ?_
 refine XL.as (.bool ((stepAtL ar rs tp (placeL ar tp ((pathL ar ((rs.getD ((o).toNat) ([], [])).1) ((a).toNat)))) u).isSome)) rfl ?_
 refine XL.nil (X.seq (X.region ?_))
 refine XL.mv (.bool ((stepAtL ar rs tp (placeL ar tp ((pathL ar ((rs.getD ((o).toNat) ([], [])).1) ((a).toNat)))) u).isSome)) rfl ?_
 refine XL.mv (.bool ((stepAtL ar rs tp (placeL ar tp ((pathL ar ((rs.getD ((o).toNat) ([], [])).1) ((a).toNat)))) u).isSome)) rfl ?_
 by_cases h16 : ((stepAtL ar rs tp (placeL ar tp ((pathL ar ((rs.getD ((o).toNat) ([], [])).1) ((a).toNat)))) u).isSome) = true
 ·refine XL.yes (t := 99) rfl (vB h16) (XOp.move (x4) rfl ?_)
  refine XL.yes (t := 99) rfl (vB h16) (XOp.fieldP (b := b2) (1) runUnderlying74 rfl sizeOf22 (by decide) rfl rfl ?_)
  refine XL.yes (t := 99) rfl (vB h16) (XOp.load1 (v := lfv) isAgg22 rfl (Rd.own [] rfl rfl) ?_)
  refine XL.yes (t := 99) rfl (vB h16) (XOp.call (args := [x4, lfv]) call115 rfl (Equal_spec hr11 hlf (hbd := (by first | assumption | rfl | omega | (left; simp; done) | (right; simp; done)))) ?_)
  rintro _ _ _ _ ⟨rfl, rfl, rfl⟩
  refine cX (XOp.pickT (.bool (decide (((stepAtL ar rs tp (placeL ar tp ((pathL ar ((rs.getD ((o).toNat) ([], [])).1) ((a).toNat)))) u).getD []) = lf))) (vB h16) rfl ?_)
  refine XL.as (.bool (decide (((stepAtL ar rs tp (placeL ar tp ((pathL ar ((rs.getD ((o).toNat) ([], [])).1) ((a).toNat)))) u).getD []) = lf))) rfl ?_
  refine XL.nil ?_
  refine X.ret (retEnd (L' := L) [.bool (decide (((stepAtL ar rs tp (placeL ar tp ((pathL ar ((rs.getD ((o).toNat) ([], [])).1) ((a).toNat)))) u).getD []) = lf))] (.bool (decide (((stepAtL ar rs tp (placeL ar tp ((pathL ar ((rs.getD ((o).toNat) ([], [])).1) ((a).toNat)))) u).getD []) = lf))) (.tmp rfl .nil) rfl rF (FLe.trans (FLe.trans le5 le7) le8) (sD (sD sR)) ?_)
  exact ⟨(vB (by rw [Bool.eq_iff_iff, peakL_iff, decide_eq_true_eq]; exact ⟨fun h => (getD_some (by assumption)).1 h.2.2.2, fun h => ⟨hsys, peakArgs_iff.2 (by omega), (getD_some hst1).2 hst2, (getD_some (by assumption)).2 h⟩⟩)), rfl, rfl⟩
 rw [Bool.not_eq_true] at h16
 refine XL.no (t := 99) rfl (vB h16) ?_
 refine XL.no (t := 99) rfl (vB h16) ?_
 refine XL.no (t := 99) rfl (vB h16) ?_
 refine XL.no (t := 99) rfl (vB h16) ?_
 refine cX (XOp.pickF (.bool (false)) (vB h16) rfl ?_)
 refine XL.as (.bool (false)) rfl ?_
 refine XL.nil ?_
 refine X.ret (retEnd (L' := L) [.bool (false)] (.bool (false)) (.tmp rfl .nil) rfl rF (FLe.trans (FLe.trans le5 le7) le8) (sD (sD sR)) ?_)
 exact ⟨(vB (peakL_no (fun h => opt_no1 (by assumption) h.2.2.2))), rfl, rfl⟩

/- impl.PeakOk -/
theorem PeakOk_spec {F : FH} {L : List HP} {arv : Value} {ar : List Int} (har : IntsF F arv ar) {rsv : Value} {rs : List (List Int × List Int)} (hrs : PairsF F rsv rs) {tpv : Value} {tp : List Int} (htp : IntsF F tpv tp) {lfv : Value} {lf : List Int} (hlf : IntsF F lfv lf) {rtv : Value} {rt : List Int} (hrt : IntsF F rtv rt) {a : Int} {u : Int} {o : Int} (hll0 : lf.length ≤ 4000000) (hlr0 : rt.length ≤ 4000000) :
    Does prog 86 [.agg #[arv, rsv], .agg #[tpv, lfv, rtv, .int .i64 (a), .int .i64 (u), .int .i64 (o)]] F (L) (fun v F' L' => (.bool (peakL ar rs tp lf rt a u o) : Value) = v ∧ F = F' ∧ L = L') := by
 refine Does.of_X func86 rfl rfl rfl ?_
 refine X.seq (X.region ?_)
 refine cX (XOp.box [arv, rsv] rfl rfl ?_)
 intro b1
 refine cX (XOp.box [tpv, lfv, rtv, .int .i64 (a), .int .i64 (u), .int .i64 (o)] rfl rfl ?_)
 intro b2
 refine XL.as (.bool (false)) rfl ?_
 refine XL.nil (X.seq (X.region ?_))
 refine cX (XOp.loadN [arv, rsv] isAgg37 sizeOf37 rfl rfl (Rd.ownN [_] rfl rfl) ?_)
 refine cX (XOp.call (args := [.agg #[arv, rsv]]) call76 rfl (SystemOk_spec har hrs) ?_)
 rintro _ _ _ _ ⟨rfl, rfl, rfl⟩
 refine XL.mv (.bool (sysOk ar rs)) rfl ?_
 by_cases h1 : (sysOk ar rs) = true
 ·refine XL.yes (t := 7) rfl (vB h1) (XOp.loadN [arv, rsv] isAgg37 sizeOf37 rfl rfl (Rd.ownN [_] rfl rfl) ?_)
  refine XL.yes (t := 7) rfl (vB h1) (XOp.loadN [tpv, lfv, rtv, .int .i64 (a), .int .i64 (u), .int .i64 (o)] isAgg74 sizeOf74 rfl rfl (Rd.ownN [] rfl rfl) ?_)
  refine XL.yes (t := 7) rfl (vB h1) (XOp.call (args := [.agg #[arv, rsv], .agg #[tpv, lfv, rtv, .int .i64 (a), .int .i64 (u), .int .i64 (o)]]) call166 rfl (peakOk_spec har hrs htp hlf hrt (hsys := (by first | assumption | rfl | omega | simp)) (hll0 := (by first | assumption | rfl | omega | simp)) (hlr0 := (by first | assumption | rfl | omega | simp))) ?_)
  rintro _ _ _ _ ⟨rfl, rfl, rfl⟩
  refine cX (XOp.pickT (.bool (peakL ar rs tp lf rt a u o)) (vB h1) rfl ?_)
  refine XL.as (.bool (peakL ar rs tp lf rt a u o)) rfl ?_
  refine XL.nil ?_
  refine X.ret (retEnd (L' := L) [.bool (peakL ar rs tp lf rt a u o)] (.bool (peakL ar rs tp lf rt a u o)) (.tmp rfl .nil) rfl rF rF (sD (sD sR)) ?_)
  exact ⟨rfl, rfl, rfl⟩
 rw [Bool.not_eq_true] at h1
 refine XL.no (t := 7) rfl (vB h1) ?_
 refine XL.no (t := 7) rfl (vB h1) ?_
 refine XL.no (t := 7) rfl (vB h1) ?_
 refine cX (XOp.pickF (.bool (false)) (vB h1) rfl ?_)
 refine XL.as (.bool (false)) rfl ?_
 refine XL.nil ?_
 refine X.ret (retEnd (L' := L) [.bool (false)] (.bool (false)) (.tmp rfl .nil) rfl rF rF (sD (sD sR)) ?_)
 exact ⟨(vB (peakL_no (fun h => by have := h.1; simp_all))), rfl, rfl⟩

/- spec.PeakOk -/
set_option maxRecDepth 20000 in
theorem sPeakOk_spec {F : FH} {L : List HP} {arv : Value} {ar : List Int} (har : IntsF F arv ar) {rsv : Value} {rs : List (List Int × List Int)} (hrs : PairsF F rsv rs) {tpv : Value} {tp : List Int} (htp : IntsF F tpv tp) {lfv : Value} {lf : List Int} (hlf : IntsF F lfv lf) {rtv : Value} {rt : List Int} (hrt : IntsF F rtv rt) {a : Int} {u : Int} {o : Int} (hla : ar.length ≤ 4000000) (hlr : rs.length ≤ 4000000) (hrb : ∀ i, i < rs.length → (rs.getD i ([], [])).1.length ≤ 4000000 ∧ (rs.getD i ([], [])).2.length ≤ 4000000) (hlt0 : tp.length ≤ 4000000) (hll0 : lf.length ≤ 4000000) (hlr0 : rt.length ≤ 4000000) :
    Does prog 84 [.agg #[arv, rsv], .agg #[tpv, lfv, rtv, .int .i64 (a), .int .i64 (u), .int .i64 (o)]] F (L) (fun v F' L' => (.bool (peakL ar rs tp lf rt a u o) : Value) = v ∧ F = F' ∧ L = L') := by
 refine Does.of_X func84 rfl rfl rfl ?_
 refine X.seq (X.region ?_)
 refine cX (XOp.box [arv, rsv] rfl rfl ?_)
 intro b1
 refine cX (XOp.box [tpv, lfv, rtv, .int .i64 (a), .int .i64 (u), .int .i64 (o)] rfl rfl ?_)
 intro b2
 refine XL.as (.bool (false)) rfl ?_
 refine XL.nil (X.seq (X.seq (X.region ?_)))
 refine cX (XOp.loadN [arv, rsv] isAgg37 sizeOf37 rfl rfl (Rd.ownN [_] rfl rfl) ?_)
 refine cX (XOp.call (args := [.agg #[arv, rsv]]) call63 rfl (sSystemOk_spec har hrs (hla := (by first | assumption | rfl | omega | simp)) (hlr := (by first | assumption | rfl | omega | simp)) (hrb := (by first | assumption | rfl | omega | simp))) ?_)
 rintro _ _ _ _ ⟨rfl, rfl, rfl⟩
 refine cX (XOp.notB (b := sysOk ar rs) rfl ?_)
 refine XL.mv (.bool (!(sysOk ar rs))) rfl ?_
 by_cases h1 : (!(sysOk ar rs)) = true
 ·refine XL.no (t := 13) rfl (vB h1) ?_
  refine XL.no (t := 13) rfl (vB h1) ?_
  refine XL.no (t := 13) rfl (vB h1) ?_
  refine XL.no (t := 13) rfl (vB h1) ?_
  refine XL.no (t := 13) rfl (vB h1) ?_
  refine cX (XOp.pickT (.bool (true)) (vB h1) rfl ?_)
  refine XL.mv (.bool (true)) rfl ?_
  refine XL.no (t := 20) rfl rfl ?_
  refine XL.no (t := 20) rfl rfl ?_
  refine XL.no (t := 20) rfl rfl ?_
  refine XL.no (t := 20) rfl rfl ?_
  refine XL.no (t := 20) rfl rfl ?_
  refine cX (XOp.pickT (.bool (true)) rfl rfl ?_)
  refine XL.nil ?_
  refine X.condT rfl ?_
  refine X.seq (X.region ?_)
  refine XL.as (.bool (false)) rfl ?_
  refine XL.nil ?_
  refine X.ret (thenQ_ret (retEnd (L' := L) [.bool (false)] (.bool (false)) (.tmp rfl .nil) rfl rF rF (sD (sD sR)) ?_))
  exact ⟨(vB (by refine peakL_no (fun h => ?_); obtain ⟨h1, h2, h3, h4⟩ := h; have h5 := peakArgs_iff.1 h2; first | omega | simp_all | (simp_all; done) | (exfalso; simp_all; omega))), rfl, rfl⟩
 rw [Bool.not_eq_true] at h1
 refine XL.yes (t := 13) rfl (vB h1) (XOp.loadN [arv, rsv] isAgg37 sizeOf37 rfl rfl (Rd.ownN [_] rfl rfl) ?_)
 refine XL.yes (t := 13) rfl (vB h1) (XOp.fieldP (b := b2) (5) runUnderlying74 rfl sizeOf2 (by decide) rfl rfl ?_)
 refine XL.yes (t := 13) rfl (vB h1) (XOp.load1 (v := .int .i64 (o)) isAgg2 rfl (Rd.own [] rfl rfl) ?_)
 refine XL.yes (t := 13) rfl (vB h1) (XOp.call (args := [.agg #[arv, rsv], .int .i64 (o)]) call162 rfl (l11Rule_spec (n := o) har hrs (hlr := (by first | assumption | rfl | omega | simp))) ?_)
 rintro _ _ _ _ ⟨rfl, rfl, rfl⟩
 refine XL.yes (t := 13) rfl (vB h1) (XOp.notD (p := 0 ≤ o ∧ o < (rs.length : Int)) rfl ?_)
 refine cX (XOp.pickF (.bool (decide (¬(0 ≤ o ∧ o < (rs.length : Int))))) (vB h1) rfl ?_)
 refine XL.mv (.bool (decide (¬(0 ≤ o ∧ o < (rs.length : Int))))) rfl ?_
 by_cases h2 : ¬(0 ≤ o ∧ o < (rs.length : Int))
 ·refine XL.no (t := 20) rfl (vT h2) ?_
  refine XL.no (t := 20) rfl (vT h2) ?_
  refine XL.no (t := 20) rfl (vT h2) ?_
  refine XL.no (t := 20) rfl (vT h2) ?_
  refine XL.no (t := 20) rfl (vT h2) ?_
  refine cX (XOp.pickT (.bool (true)) (vT h2) rfl ?_)
  refine XL.nil ?_
  refine X.condT rfl ?_
  refine X.seq (X.region ?_)
  refine XL.as (.bool (false)) rfl ?_
  refine XL.nil ?_
  refine X.ret (thenQ_ret (retEnd (L' := L) [.bool (false)] (.bool (false)) (.tmp rfl .nil) rfl rF rF (sD (sD sR)) ?_))
  exact ⟨(vB (by refine peakL_no (fun h => ?_); obtain ⟨h1, h2, h3, h4⟩ := h; have h5 := peakArgs_iff.1 h2; first | omega | simp_all | (simp_all; done) | (exfalso; simp_all; omega))), rfl, rfl⟩
 refine XL.yes (t := 20) rfl (vF h2) (XOp.loadN [arv, rsv] isAgg37 sizeOf37 rfl rfl (Rd.ownN [_] rfl rfl) ?_)
 refine XL.yes (t := 20) rfl (vF h2) (XOp.fieldP (b := b2) (4) runUnderlying74 rfl sizeOf2 (by decide) rfl rfl ?_)
 refine XL.yes (t := 20) rfl (vF h2) (XOp.load1 (v := .int .i64 (u)) isAgg2 rfl (Rd.own [] rfl rfl) ?_)
 refine XL.yes (t := 20) rfl (vF h2) (XOp.call (args := [.agg #[arv, rsv], .int .i64 (u)]) call162 rfl (l11Rule_spec (n := u) har hrs (hlr := (by first | assumption | rfl | omega | simp))) ?_)
 rintro _ _ _ _ ⟨rfl, rfl, rfl⟩
 refine XL.yes (t := 20) rfl (vF h2) (XOp.notD (p := 0 ≤ u ∧ u < (rs.length : Int)) rfl ?_)
 refine cX (XOp.pickF (.bool (decide (¬(0 ≤ u ∧ u < (rs.length : Int))))) (vF h2) rfl ?_)
 refine XL.nil ?_
 refine X.condD (p := ¬(0 ≤ u ∧ u < (rs.length : Int))) rfl (fun h3 => ?_) (fun h3 => ?_)
 ·refine X.seq (X.region ?_)
  refine XL.as (.bool (false)) rfl ?_
  refine XL.nil ?_
  refine X.ret (thenQ_ret (retEnd (L' := L) [.bool (false)] (.bool (false)) (.tmp rfl .nil) rfl rF rF (sD (sD sR)) ?_))
  exact ⟨(vB (by refine peakL_no (fun h => ?_); obtain ⟨h1, h2, h3, h4⟩ := h; have h5 := peakArgs_iff.1 h2; first | omega | simp_all | (simp_all; done) | (exfalso; simp_all; omega))), rfl, rfl⟩
 refine X.skip (X.seq (X.region ?_))
 have hsys : sysOk ar rs = true := by simp_all
 have hRL := fun (h : 0 ≤ o ∧ o < (rs.length : Int)) => (ruleOk_iff.1 ((sysOk_iff.1 hsys).2.2 o.toNat (by omega))).left
 have hRl := fun (h : 0 ≤ o ∧ o < (rs.length : Int)) => termOk_len (hRL h)
 refine cX (XOp.fieldP (b := b1) (1) runUnderlying37 rfl sizeOf35 (by decide) rfl rfl ?_)
 refine cX (XOp.load1 (v := rsv) isAgg35 rfl (Rd.own [_] rfl rfl) ?_)
 refine cX (XOp.fieldP (b := b2) (5) runUnderlying74 rfl sizeOf2 (by decide) rfl rfl ?_)
 refine cX (XOp.load1 (v := .int .i64 (o)) isAgg2 rfl (Rd.own [] rfl rfl) ?_)
 refine cX (XOp.indexS (v := rsv) (i := o) (n := (rs).length) ((o).toNat) runUnderlying35 sizeOf121 rfl rfl (by omega) hrs.slv (by omega) rfl ?_)
 refine cX (XOp.fieldE (v := rsv) (((o).toNat) * 2) runUnderlying121 rfl sizeOf22 (by decide) rfl rfl ?_)
 obtain ⟨a1, a2, ha1, ha2, hr1, hr2⟩ := hrs.rd (i := (o).toNat) (by omega)
 refine cX (XOp.load1 (v := a1) isAgg22 rfl (hr1 _) ?_)
 refine XL.as (a1) rfl ?_
 refine XL.nil (X.seq (X.seq (X.region ?_)))
 refine cX (XOp.fieldP (b := b2) (3) runUnderlying74 rfl sizeOf2 (by decide) rfl rfl ?_)
 refine cX (XOp.load1 (v := .int .i64 (a)) isAgg2 rfl (Rd.own [] rfl rfl) ?_)
 refine XL.mv (a1) rfl ?_
 refine cX (XOp.lenS (v := a1) (n := ((rs.getD ((o).toNat) ([], [])).1).length) runUnderlying22 rfl ha1.slv ?_)
 refine cX (XOp.subR (a := ((((rs.getD ((o).toNat) ([], [])).1).length : Nat) : Int)) (b := 1) ((((((rs.getD ((o).toNat) ([], [])).1).length : Nat) : Int)) - 1) rfl rfl (by omega) (by omega) ?_)
 refine cX (XOp.call (args := [.int .i64 (a), .int .i64 (0), .int .i64 ((((((rs.getD ((o).toNat) ([], [])).1).length : Nat) : Int)) - 1)]) call98 rfl (l1In_spec (n := a) (a := 0) (b := (((((rs.getD ((o).toNat) ([], [])).1).length : Nat) : Int)) - 1)) ?_)
 rintro _ _ _ _ ⟨rfl, rfl, rfl⟩
 refine cX (XOp.notD (p := 0 ≤ a ∧ a ≤ ((((((rs.getD ((o).toNat) ([], [])).1).length : Nat) : Int)) - 1)) rfl ?_)
 refine XL.mv (.bool (decide (¬(0 ≤ a ∧ a ≤ ((((((rs.getD ((o).toNat) ([], [])).1).length : Nat) : Int)) - 1))))) rfl ?_
 by_cases h4 : ¬(0 ≤ a ∧ a ≤ ((((((rs.getD ((o).toNat) ([], [])).1).length : Nat) : Int)) - 1))
 ·refine XL.no (t := 41) rfl (vT h4) ?_
  refine XL.no (t := 41) rfl (vT h4) ?_
  refine XL.no (t := 41) rfl (vT h4) ?_
  refine XL.no (t := 41) rfl (vT h4) ?_
  refine XL.no (t := 41) rfl (vT h4) ?_
  refine XL.no (t := 41) rfl (vT h4) ?_
  refine cX (XOp.pickT (.bool (true)) (vT h4) rfl ?_)
  refine XL.mv (.bool (true)) rfl ?_
  refine XL.no (t := 49) rfl rfl ?_
  refine XL.no (t := 49) rfl rfl ?_
  refine XL.no (t := 49) rfl rfl ?_
  refine XL.no (t := 49) rfl rfl ?_
  refine XL.noU (t := 53) rfl rfl ?_
  refine XL.noU (t := 53) rfl rfl ?_
  refine XL.noU (t := 53) rfl rfl ?_
  refine XL.noU (t := 53) rfl rfl ?_
  refine XL.noU (t := 53) rfl rfl ?_
  refine XL.no (t := 49) rfl rfl ?_
  refine cX (XOp.pickT (.bool (true)) rfl rfl ?_)
  refine XL.nil ?_
  refine X.condT rfl ?_
  refine X.seq (X.region ?_)
  refine XL.as (.bool (false)) rfl ?_
  refine XL.nil ?_
  refine X.ret (thenQ_ret (retEnd (L' := L) [.bool (false)] (.bool (false)) (.tmp rfl .nil) rfl rF rF (sD (sD sR)) ?_))
  exact ⟨(vB (by refine peakL_no (fun h => ?_); obtain ⟨h1, h2, h3, h4⟩ := h; have h5 := peakArgs_iff.1 h2; first | omega | simp_all | (simp_all; done) | (exfalso; simp_all; omega))), rfl, rfl⟩
 refine XL.yes (t := 41) rfl (vF h4) (XOp.move (a1) rfl ?_)
 refine XL.yes (t := 41) rfl (vF h4) (XOp.fieldP (b := b2) (3) runUnderlying74 rfl sizeOf2 (by decide) rfl rfl ?_)
 refine XL.yes (t := 41) rfl (vF h4) (XOp.load1 (v := .int .i64 (a)) isAgg2 rfl (Rd.own [] rfl rfl) ?_)
 refine XL.yes (t := 41) rfl (vF h4) (XOp.indexS (v := a1) (i := a) (n := ((rs.getD ((o).toNat) ([], [])).1).length) ((a).toNat) runUnderlying22 sizeOf2 rfl rfl (by omega) ha1.slv (by omega) (Nat.mul_one _) ?_)
 refine XL.yes (t := 41) rfl (vF h4) (XOp.load1 (v := .int .i64 (((rs.getD ((o).toNat) ([], [])).1).getD ((a).toNat) 0)) isAgg2 rfl (ha1.rd (by omega)) ?_)
 refine XL.yes (t := 41) rfl (vF h4) (XOp.lss (a := ((rs.getD ((o).toNat) ([], [])).1).getD ((a).toNat) 0) (b := 0) rfl rfl ?_)
 refine cX (XOp.pickF (.bool (decide ((((rs.getD ((o).toNat) ([], [])).1).getD ((a).toNat) 0 : Int) < 0))) (vF h4) rfl ?_)
 refine XL.mv (.bool (decide ((((rs.getD ((o).toNat) ([], [])).1).getD ((a).toNat) 0 : Int) < 0))) rfl ?_
 by_cases h5 : (((rs.getD ((o).toNat) ([], [])).1).getD ((a).toNat) 0 : Int) < 0
 ·refine XL.no (t := 49) rfl (vT h5) ?_
  refine XL.no (t := 49) rfl (vT h5) ?_
  refine XL.no (t := 49) rfl (vT h5) ?_
  refine XL.no (t := 49) rfl (vT h5) ?_
  refine XL.noU (t := 53) rfl rfl ?_
  refine XL.noU (t := 53) rfl rfl ?_
  refine XL.noU (t := 53) rfl rfl ?_
  refine XL.noU (t := 53) rfl rfl ?_
  refine XL.noU (t := 53) rfl rfl ?_
  refine XL.no (t := 49) rfl (vT h5) ?_
  refine cX (XOp.pickT (.bool (true)) (vT h5) rfl ?_)
  refine XL.nil ?_
  refine X.condT rfl ?_
  refine X.seq (X.region ?_)
  refine XL.as (.bool (false)) rfl ?_
  refine XL.nil ?_
  refine X.ret (thenQ_ret (retEnd (L' := L) [.bool (false)] (.bool (false)) (.tmp rfl .nil) rfl rF rF (sD (sD sR)) ?_))
  exact ⟨(vB (by refine peakL_no (fun h => ?_); obtain ⟨h1, h2, h3, h4⟩ := h; have h5 := peakArgs_iff.1 h2; first | omega | simp_all | (simp_all; done) | (exfalso; simp_all; omega))), rfl, rfl⟩
 refine XL.yes (t := 49) rfl (vF h5) (XOp.fieldP (b := b2) (3) runUnderlying74 rfl sizeOf2 (by decide) rfl rfl ?_)
 refine XL.yes (t := 49) rfl (vF h5) (XOp.load1 (v := .int .i64 (a)) isAgg2 rfl (Rd.own [] rfl rfl) ?_)
 refine XL.yes (t := 49) rfl (vF h5) (XOp.eql (a := a) (b := 0) rfl rfl ?_)
 refine XL.yes (t := 49) rfl (vF h5) (XOp.move (.bool (decide ((a : Int) = 0))) rfl ?_)
 by_cases h6 : (a : Int) = 0
 ·refine XL.yes (t := 53) rfl (vT h6) (XOp.fieldP (b := b2) (5) runUnderlying74 rfl sizeOf2 (by decide) rfl rfl ?_)
  refine XL.yes (t := 53) rfl (vT h6) (XOp.load1 (v := .int .i64 (o)) isAgg2 rfl (Rd.own [] rfl rfl) ?_)
  refine XL.yes (t := 53) rfl (vT h6) (XOp.fieldP (b := b2) (4) runUnderlying74 rfl sizeOf2 (by decide) rfl rfl ?_)
  refine XL.yes (t := 53) rfl (vT h6) (XOp.load1 (v := .int .i64 (u)) isAgg2 rfl (Rd.own [] rfl rfl) ?_)
  refine XL.yes (t := 53) rfl (vT h6) (XOp.eql (a := o) (b := u) rfl rfl ?_)
  refine XL.yes (t := 49) rfl (vF h5) (XOp.pickT (.bool (decide ((o : Int) = u))) (vT h6) rfl ?_)
  refine cX (XOp.pickF (.bool (decide ((o : Int) = u))) (vF h5) rfl ?_)
  refine XL.nil ?_
  refine X.condD (p := (o : Int) = u) rfl (fun h7 => ?_) (fun h7 => ?_)
  ·refine X.seq (X.region ?_)
   refine XL.as (.bool (false)) rfl ?_
   refine XL.nil ?_
   refine X.ret (thenQ_ret (retEnd (L' := L) [.bool (false)] (.bool (false)) (.tmp rfl .nil) rfl rF rF (sD (sD sR)) ?_))
   exact ⟨(vB (by refine peakL_no (fun h => ?_); obtain ⟨h1, h2, h3, h4⟩ := h; have h5 := peakArgs_iff.1 h2; first | omega | simp_all | (simp_all; done) | (exfalso; simp_all; omega))), rfl, rfl⟩
  refine X.skip (X.seq (X.region ?_))
  refine cX (XOp.loadN [arv, rsv] isAgg37 sizeOf37 rfl rfl (Rd.ownN [_] rfl rfl) ?_)
  refine cX (XOp.fieldP (b := b2) (0) runUnderlying74 rfl sizeOf22 (by decide) rfl rfl ?_)
  refine cX (XOp.load1 (v := tpv) isAgg22 rfl (Rd.own [] rfl rfl) ?_)
  refine cX (XOp.fieldP (b := b2) (5) runUnderlying74 rfl sizeOf2 (by decide) rfl rfl ?_)
  refine cX (XOp.load1 (v := .int .i64 (o)) isAgg2 rfl (Rd.own [] rfl rfl) ?_)
  refine cX (XOp.call (args := [.agg #[arv, rsv], tpv, .int .i64 (0), .int .i64 (o)]) call163 rfl (sStepAt_spec (p := 0) (r := o) har hrs htp (hla := (by first | assumption | rfl | omega | simp)) (hlr := (by first | assumption | rfl | omega | simp)) (hrb := (by first | assumption | rfl | omega | simp)) (hlt := (by first | assumption | rfl | omega | simp))) ?_)
  rintro _ F1 _ le1 ⟨x1, rfl, hr3, rfl⟩
  replace har := har.mono le1
  replace hrs := hrs.mono le1
  replace htp := htp.mono le1
  replace hlf := hlf.mono le1
  replace hrt := hrt.mono le1
  replace ha1 := ha1.mono le1
  refine XL.mv (.tuple #[x1, .bool ((stepAtL ar rs tp 0 o).isSome)]) rfl ?_
  refine cX (XOp.extract (x1) rfl rfl ?_)
  refine cX (XOp.extract (.bool ((stepAtL ar rs tp 0 o).isSome)) rfl rfl ?_)
  refine XL.as (x1) rfl ?_
  refine XL.as (.bool ((stepAtL ar rs tp 0 o).isSome)) rfl ?_
  refine XL.nil (X.seq (X.seq (X.region ?_)))
  refine XL.mv (.bool ((stepAtL ar rs tp 0 o).isSome)) rfl ?_
  refine cX (XOp.notB (b := (stepAtL ar rs tp 0 o).isSome) rfl ?_)
  refine XL.mv (.bool (!((stepAtL ar rs tp 0 o).isSome))) rfl ?_
  by_cases h8 : (!((stepAtL ar rs tp 0 o).isSome)) = true
  ·have hst1 : (stepAtL ar rs tp 0 o).isSome = false := by simpa using h8
   refine XL.no (t := 72) rfl (vB h8) ?_
   refine XL.no (t := 72) rfl (vB h8) ?_
   refine XL.no (t := 72) rfl (vB h8) ?_
   refine XL.no (t := 72) rfl (vB h8) ?_
   refine XL.no (t := 72) rfl (vB h8) ?_
   refine cX (XOp.pickT (.bool (true)) (vB h8) rfl ?_)
   refine XL.nil ?_
   refine X.condT rfl ?_
   refine X.seq (X.region ?_)
   refine XL.as (.bool (false)) rfl ?_
   refine XL.nil ?_
   refine X.ret (thenQ_ret (retEnd (L' := L) [.bool (false)] (.bool (false)) (.tmp rfl .nil) rfl rF le1 (sD (sD sR)) ?_))
   exact ⟨(vB (peakL_no (fun h => by first | exact opt_no1 hst1 h.2.2.1 | exact opt_no2 hst2 h.2.2.1))), rfl, rfl⟩
  rw [Bool.not_eq_true] at h8
  have hst1 : (stepAtL ar rs tp 0 o).isSome = true := by simpa using h8
  refine XL.yes (t := 72) rfl (vB h8) (XOp.move (x1) rfl ?_)
  refine XL.yes (t := 72) rfl (vB h8) (XOp.fieldP (b := b2) (2) runUnderlying74 rfl sizeOf22 (by decide) rfl rfl ?_)
  refine XL.yes (t := 72) rfl (vB h8) (XOp.load1 (v := rtv) isAgg22 rfl (Rd.own [] rfl rfl) ?_)
  refine XL.yes (t := 72) rfl (vB h8) (XOp.call (args := [x1, rtv]) call96 rfl (SameTerm_spec hr3 hrt (hbd := (by first | assumption | rfl | omega | (left; simp; done) | (right; simp; done)))) ?_)
  rintro _ _ _ _ ⟨rfl, rfl, rfl⟩
  refine XL.yes (t := 72) rfl (vB h8) (XOp.notD (p := ((stepAtL ar rs tp 0 o).getD []) = rt) rfl ?_)
  refine cX (XOp.pickF (.bool (decide (¬(((stepAtL ar rs tp 0 o).getD []) = rt)))) (vB h8) rfl ?_)
  refine XL.nil ?_
  refine X.condD (p := ¬(((stepAtL ar rs tp 0 o).getD []) = rt)) rfl (fun h9 => ?_) (fun h9 => ?_)
  ·have hst2 : (stepAtL ar rs tp 0 o).getD [] ≠ rt := h9
   refine X.seq (X.region ?_)
   refine XL.as (.bool (false)) rfl ?_
   refine XL.nil ?_
   refine X.ret (thenQ_ret (retEnd (L' := L) [.bool (false)] (.bool (false)) (.tmp rfl .nil) rfl rF le1 (sD (sD sR)) ?_))
   exact ⟨(vB (peakL_no (fun h => by first | exact opt_no1 hst1 h.2.2.1 | exact opt_no2 hst2 h.2.2.1))), rfl, rfl⟩
  have hst2 : (stepAtL ar rs tp 0 o).getD [] = rt := Classical.not_not.1 h9
  refine X.skip (X.seq ?_)
  refine X.drawG [cellsH b2 [tpv, lfv, rtv, .int .i64 (a), .int .i64 (u), .int .i64 (o)] 74, cellsH b1 [arv, rsv] 37] L 21 [[], [], [], [], [], [], [], [], [], [], [], [], [], [], [], [], [], [16], [16], [], [16]] [[], [], [1], [], [3], [], [5], [], [7], [], [], [10], [8, 9, 11], [4, 6, 12], [], [14], [0, 2, 13, 15], [16], [16, 17], [16, 17], [16, 18]] [[], [], [], [], [], [], [], [], [], [], [], [], [], [], [], [], [], [], [], [], []] (phiG [fun FF us v => v = (.agg #[arv, rsv] : Value), fun FF us v => v = ptr b2 0, fun FF us v => v = tpv, fun FF us v => v = ptr b1 0, fun FF us v => v = (.agg #[arv] : Value), fun FF us v => v = ptr b2 0, fun FF us v => v = tpv, fun FF us v => v = ptr b1 0, fun FF us v => v = (.agg #[arv] : Value), fun FF us v => v = a1, fun FF us v => v = ptr b2 3, fun FF us v => v = (.int .i64 (a) : Value), fun FF us v => ((v) : Value) = v ∧ (IntsF FF (v) (pathL ar ((rs.getD ((o).toNat) ([], [])).1) a.toNat)), fun FF us v => v = (.int .i64 (placeL ar tp ((pathL ar ((rs.getD ((o).toNat) ([], [])).1) a.toNat))) : Value), fun FF us v => v = ptr b2 4, fun FF us v => v = (.int .i64 (u) : Value), fun FF us v => (.tuple #[((tupAt v 0)), .bool ((stepAtL ar rs tp (placeL ar tp ((pathL ar ((rs.getD ((o).toNat) ([], [])).1) a.toNat))) u).isSome)] : Value) = v ∧ (IntsF FF ((tupAt v 0)) ((stepAtL ar rs tp (placeL ar tp ((pathL ar ((rs.getD ((o).toNat) ([], [])).1) a.toNat))) u).getD [])), fun FF us v => v = (.tuple #[((tupAt (us.getD 0 undef) 0)), .bool ((stepAtL ar rs tp (placeL ar tp ((pathL ar ((rs.getD ((o).toNat) ([], [])).1) a.toNat))) u).isSome)] : Value), fun FF us v => v = ((tupAt (us.getD 0 undef) 0)), fun FF us v => v = (.bool ((stepAtL ar rs tp (placeL ar tp ((pathL ar ((rs.getD ((o).toNat) ([], [])).1) a.toNat))) u).isSome) : Value), fun FF us v => v = ((tupAt (us.getD 0 undef) 0))]) (ownL [fun us v => [], fun us v => [], fun us v => [], fun us v => [], fun us v => [], fun us v => [], fun us v => [], fun us v => [], fun us v => [], fun us v => [], fun us v => [], fun us v => [], fun us v => [], fun us v => [], fun us v => [], fun us v => [], fun us v => [], fun us v => [], fun us v => [], fun us v => [], fun us v => []]) mixed rfl rfl (by kernel_rfl) (by kernel_rfl) (MonoG.get (mC (fun le h => h) (mC (fun le h => h) (mC (fun le h => h) (mC (fun le h => h) (mC (fun le h => h) (mC (fun le h => h) (mC (fun le h => h) (mC (fun le h => h) (mC (fun le h => h) (mC (fun le h => h) (mC (fun le h => h) (mC (fun le h => h) (mC (fun le h => ⟨h.1, h.2.mono le⟩) (mC (fun le h => h) (mC (fun le h => h) (mC (fun le h => h) (mC (fun le h => ⟨h.1, h.2.mono le⟩) (mC (fun le h => h) (mC (fun le h => h) (mC (fun le h => h) (mC (fun le h => h) MonoG.nil)))))))))))))))))))))) ?_ ?_
  ·refine gC (fun vals Fs R leFs hpZ => ?_) ?_
   ·replace har := har.mono leFs
    replace hrs := hrs.mono leFs
    replace htp := htp.mono leFs
    replace hlf := hlf.mono leFs
    replace hrt := hrt.mono leFs
    replace ha1 := ha1.mono leFs
    refine XG.op (XOp.loadN [arv, rsv] isAgg37 sizeOf37 rfl rfl (Rd.ownN [_] rfl rfl) ?_)
    exact ⟨rfl, rfl⟩
   refine gC (fun vals Fs R leFs hpZ => ?_) ?_
   ·refine XG.op (XOp.fieldP (b := b2) (0) runUnderlying74 rfl sizeOf22 (by decide) rfl rfl ?_)
    exact ⟨rfl, rfl⟩
   refine gC (fun vals Fs R leFs hpZ => ?_) ?_
   ·replace har := har.mono leFs
    replace hrs := hrs.mono leFs
    replace htp := htp.mono leFs
    replace hlf := hlf.mono leFs
    replace hrt := hrt.mono leFs
    replace ha1 := ha1.mono leFs
    rw [eS (l := [(1, ptr b2 0)]) ⟨(hpZ 1 (by decide)), trivial⟩]
    refine XG.op (XOp.load1 (v := tpv) isAgg22 rfl (Rd.own [] rfl rfl) ?_)
    exact ⟨rfl, rfl⟩
   refine gC (fun vals Fs R leFs hpZ => ?_) ?_
   ·refine XG.op (XOp.fieldP (b := b1) (0) runUnderlying37 rfl sizeOf34 (by decide) rfl rfl ?_)
    exact ⟨rfl, rfl⟩
   refine gC (fun vals Fs R leFs hpZ => ?_) ?_
   ·replace har := har.mono leFs
    replace hrs := hrs.mono leFs
    replace htp := htp.mono leFs
    replace hlf := hlf.mono leFs
    replace hrt := hrt.mono leFs
    replace ha1 := ha1.mono leFs
    rw [eS (l := [(3, ptr b1 0)]) ⟨(hpZ 3 (by decide)), trivial⟩]
    refine XG.op (XOp.loadN [arv] isAgg34 sizeOf34 rfl rfl (Rd.ownN [_] rfl rfl) ?_)
    exact ⟨rfl, rfl⟩
   refine gC (fun vals Fs R leFs hpZ => ?_) ?_
   ·refine XG.op (XOp.fieldP (b := b2) (0) runUnderlying74 rfl sizeOf22 (by decide) rfl rfl ?_)
    exact ⟨rfl, rfl⟩
   refine gC (fun vals Fs R leFs hpZ => ?_) ?_
   ·replace har := har.mono leFs
    replace hrs := hrs.mono leFs
    replace htp := htp.mono leFs
    replace hlf := hlf.mono leFs
    replace hrt := hrt.mono leFs
    replace ha1 := ha1.mono leFs
    rw [eS (l := [(5, ptr b2 0)]) ⟨(hpZ 5 (by decide)), trivial⟩]
    refine XG.op (XOp.load1 (v := tpv) isAgg22 rfl (Rd.own [] rfl rfl) ?_)
    exact ⟨rfl, rfl⟩
   refine gC (fun vals Fs R leFs hpZ => ?_) ?_
   ·refine XG.op (XOp.fieldP (b := b1) (0) runUnderlying37 rfl sizeOf34 (by decide) rfl rfl ?_)
    exact ⟨rfl, rfl⟩
   refine gC (fun vals Fs R leFs hpZ => ?_) ?_
   ·replace har := har.mono leFs
    replace hrs := hrs.mono leFs
    replace htp := htp.mono leFs
    replace hlf := hlf.mono leFs
    replace hrt := hrt.mono leFs
    replace ha1 := ha1.mono leFs
    rw [eS (l := [(7, ptr b1 0)]) ⟨(hpZ 7 (by decide)), trivial⟩]
    refine XG.op (XOp.loadN [arv] isAgg34 sizeOf34 rfl rfl (Rd.ownN [_] rfl rfl) ?_)
    exact ⟨rfl, rfl⟩
   refine gC (fun vals Fs R leFs hpZ => ?_) ?_
   ·refine XG.op (XOp.move (a1) rfl ?_)
    exact ⟨rfl, rfl⟩
   refine gC (fun vals Fs R leFs hpZ => ?_) ?_
   ·refine XG.op (XOp.fieldP (b := b2) (3) runUnderlying74 rfl sizeOf2 (by decide) rfl rfl ?_)
    exact ⟨rfl, rfl⟩
   refine gC (fun vals Fs R leFs hpZ => ?_) ?_
   ·replace har := har.mono leFs
    replace hrs := hrs.mono leFs
    replace htp := htp.mono leFs
    replace hlf := hlf.mono leFs
    replace hrt := hrt.mono leFs
    replace ha1 := ha1.mono leFs
    rw [eS (l := [(10, ptr b2 3)]) ⟨(hpZ 10 (by decide)), trivial⟩]
    refine XG.op (XOp.load1 (v := .int .i64 (a)) isAgg2 rfl (Rd.own [] rfl rfl) ?_)
    exact ⟨rfl, rfl⟩
   refine gC (fun vals Fs R leFs hpZ => ?_) ?_
   ·replace har := har.mono leFs
    replace hrs := hrs.mono leFs
    replace htp := htp.mono leFs
    replace hlf := hlf.mono leFs
    replace hrt := hrt.mono leFs
    replace ha1 := ha1.mono leFs
    rw [eS (l := [(8, (.agg #[arv] : Value)), (9, a1), (11, (.int .i64 (a) : Value))]) ⟨(hpZ 8 (by decide)), (hpZ 9 (by decide)), (hpZ 11 (by decide)), trivial⟩]
    refine XG.op (XOp.frzF <| XOp.call (args := [.agg #[arv], a1, .int .i64 (a)]) call165 rfl (sPathOf_spec (n := a) har ha1 (ho := (hRL (by omega))) (hn := (by omega))) ?_)
    rintro v2 _ _ _ ⟨rfl, hs2, rfl⟩
    refine ⟨_, _, rfl, fun F3 le3 hz1 => ?_⟩
    replace har := har.mono le3
    replace hrs := hrs.mono le3
    replace htp := htp.mono le3
    replace hlf := hlf.mono le3
    replace hrt := hrt.mono le3
    replace ha1 := ha1.mono le3
    have hf1 : IntsF F3 v2 ((pathL ar ((rs.getD ((o).toNat) ([], [])).1) a.toNat)) := intsH.fz (xs := (pathL ar ((rs.getD ((o).toNat) ([], [])).1) a.toNat)) hz1.fz
    exact ⟨⟨rfl, hf1⟩, rfl⟩
   refine gC (fun vals Fs R leFs hpZ => ?_) ?_
   ·obtain ⟨e12, f12_1ha⟩ := hpZ 12 (by decide)
    replace har := har.mono leFs
    replace hrs := hrs.mono leFs
    replace htp := htp.mono leFs
    replace hlf := hlf.mono leFs
    replace hrt := hrt.mono leFs
    replace ha1 := ha1.mono leFs
    rw [eS (l := [(4, (.agg #[arv] : Value)), (6, tpv), (12, ((vals 12)))]) ⟨(hpZ 4 (by decide)), (hpZ 6 (by decide)), (e12).symm, trivial⟩]
    refine XG.op (XOp.call (args := [.agg #[arv], tpv, ((vals 12))]) call164 rfl (sPlaceOf_spec har htp f12_1ha (hlp := (by have := pathL_len ar (rs.getD o.toNat ([], [])).1 a.toNat; have := hRl (by omega); omega)) (hla := (by first | assumption | rfl | omega | simp)) (hlt := (by first | assumption | rfl | omega | simp))) ?_)
    rintro _ _ _ _ ⟨rfl, rfl, rfl⟩
    exact ⟨rfl, rfl⟩
   refine gC (fun vals Fs R leFs hpZ => ?_) ?_
   ·refine XG.op (XOp.fieldP (b := b2) (4) runUnderlying74 rfl sizeOf2 (by decide) rfl rfl ?_)
    exact ⟨rfl, rfl⟩
   refine gC (fun vals Fs R leFs hpZ => ?_) ?_
   ·replace har := har.mono leFs
    replace hrs := hrs.mono leFs
    replace htp := htp.mono leFs
    replace hlf := hlf.mono leFs
    replace hrt := hrt.mono leFs
    replace ha1 := ha1.mono leFs
    rw [eS (l := [(14, ptr b2 4)]) ⟨(hpZ 14 (by decide)), trivial⟩]
    refine XG.op (XOp.load1 (v := .int .i64 (u)) isAgg2 rfl (Rd.own [] rfl rfl) ?_)
    exact ⟨rfl, rfl⟩
   refine gC (fun vals Fs R leFs hpZ => ?_) ?_
   ·replace har := har.mono leFs
    replace hrs := hrs.mono leFs
    replace htp := htp.mono leFs
    replace hlf := hlf.mono leFs
    replace hrt := hrt.mono leFs
    replace ha1 := ha1.mono leFs
    rw [eS (l := [(0, (.agg #[arv, rsv] : Value)), (2, tpv), (13, (.int .i64 (placeL ar tp ((pathL ar ((rs.getD ((o).toNat) ([], [])).1) a.toNat))) : Value)), (15, (.int .i64 (u) : Value))]) ⟨(hpZ 0 (by decide)), (hpZ 2 (by decide)), (hpZ 13 (by decide)), (hpZ 15 (by decide)), trivial⟩]
    refine XG.op (XOp.call (args := [.agg #[arv, rsv], tpv, .int .i64 (placeL ar tp ((pathL ar ((rs.getD ((o).toNat) ([], [])).1) a.toNat))), .int .i64 (u)]) call163 rfl (sStepAt_spec (p := placeL ar tp ((pathL ar ((rs.getD ((o).toNat) ([], [])).1) a.toNat))) (r := u) har hrs htp (hla := (by first | assumption | rfl | omega | simp)) (hlr := (by first | assumption | rfl | omega | simp)) (hrb := (by first | assumption | rfl | omega | simp)) (hlt := (by first | assumption | rfl | omega | simp))) ?_)
    rintro _ F4 _ le4 ⟨x3, rfl, hr5, rfl⟩
    replace har := har.mono le4
    replace hrs := hrs.mono le4
    replace htp := htp.mono le4
    replace hlf := hlf.mono le4
    replace hrt := hrt.mono le4
    replace ha1 := ha1.mono le4
    exact ⟨⟨rfl, hr5⟩, rfl⟩
   refine gC (fun vals Fs R leFs hpZ => ?_) ?_
   ·obtain ⟨e16, f16_1hr⟩ := hpZ 16 (by decide)
    rw [eS (l := [(16, (.tuple #[((tupAt (vals 16) 0)), .bool ((stepAtL ar rs tp (placeL ar tp ((pathL ar ((rs.getD ((o).toNat) ([], [])).1) a.toNat))) u).isSome)] : Value))]) ⟨(e16).symm, trivial⟩]
    refine XG.op (XOp.move (.tuple #[((tupAt (vals 16) 0)), .bool ((stepAtL ar rs tp (placeL ar tp ((pathL ar ((rs.getD ((o).toNat) ([], [])).1) a.toNat))) u).isSome)]) rfl ?_)
    exact ⟨rfl, rfl⟩
   refine gC (fun vals Fs R leFs hpZ => ?_) ?_
   ·obtain ⟨e16, f16_1hr⟩ := hpZ 16 (by decide)
    have e17 : vals 17 = (.tuple #[((tupAt (vals 16) 0)), .bool ((stepAtL ar rs tp (placeL ar tp ((pathL ar ((rs.getD ((o).toNat) ([], [])).1) a.toNat))) u).isSome)] : Value) := hpZ 17 (by decide)
    rw [eS (l := [(16, (.tuple #[((tupAt (vals 16) 0)), .bool ((stepAtL ar rs tp (placeL ar tp ((pathL ar ((rs.getD ((o).toNat) ([], [])).1) a.toNat))) u).isSome)] : Value)), (17, (.tuple #[((tupAt (vals 16) 0)), .bool ((stepAtL ar rs tp (placeL ar tp ((pathL ar ((rs.getD ((o).toNat) ([], [])).1) a.toNat))) u).isSome)] : Value))]) ⟨(e16).symm, e17, trivial⟩]
    refine XG.op (XOp.extract (((tupAt (vals 16) 0))) rfl rfl ?_)
    exact ⟨rfl, rfl⟩
   refine gC (fun vals Fs R leFs hpZ => ?_) ?_
   ·obtain ⟨e16, f16_1hr⟩ := hpZ 16 (by decide)
    have e17 : vals 17 = (.tuple #[((tupAt (vals 16) 0)), .bool ((stepAtL ar rs tp (placeL ar tp ((pathL ar ((rs.getD ((o).toNat) ([], [])).1) a.toNat))) u).isSome)] : Value) := hpZ 17 (by decide)
    rw [eS (l := [(16, (.tuple #[((tupAt (vals 16) 0)), .bool ((stepAtL ar rs tp (placeL ar tp ((pathL ar ((rs.getD ((o).toNat) ([], [])).1) a.toNat))) u).isSome)] : Value)), (17, (.tuple #[((tupAt (vals 16) 0)), .bool ((stepAtL ar rs tp (placeL ar tp ((pathL ar ((rs.getD ((o).toNat) ([], [])).1) a.toNat))) u).isSome)] : Value))]) ⟨(e16).symm, e17, trivial⟩]
    refine XG.op (XOp.extract (.bool ((stepAtL ar rs tp (placeL ar tp ((pathL ar ((rs.getD ((o).toNat) ([], [])).1) a.toNat))) u).isSome)) rfl rfl ?_)
    exact ⟨rfl, rfl⟩
   refine gC (fun vals Fs R leFs hpZ => ?_) ?_
   ·obtain ⟨e16, f16_1hr⟩ := hpZ 16 (by decide)
    have e18 : vals 18 = ((tupAt (vals 16) 0)) := hpZ 18 (by decide)
    rw [eS (l := [(16, (.tuple #[((tupAt (vals 16) 0)), .bool ((stepAtL ar rs tp (placeL ar tp ((pathL ar ((rs.getD ((o).toNat) ([], [])).1) a.toNat))) u).isSome)] : Value)), (18, ((tupAt (vals 16) 0)))]) ⟨(e16).symm, e18, trivial⟩]
    refine XG.op (XOp.assign (((tupAt (vals 16) 0))) rfl ?_)
    exact ⟨rfl, rfl⟩
   exact stepsG.nil
  intro vals F5 le5 hphi
  obtain ⟨e12, f12_1ha⟩ := hphi 12 (by decide)
  obtain ⟨e16, f16_1hr⟩ := hphi 16 (by decide)
  have e17 : vals 17 = (.tuple #[((tupAt (vals 16) 0)), .bool ((stepAtL ar rs tp (placeL ar tp ((pathL ar ((rs.getD ((o).toNat) ([], [])).1) a.toNat))) u).isSome)] : Value) := hphi 17 (by decide)
  have e18 : vals 18 = ((tupAt (vals 16) 0)) := hphi 18 (by decide)
  have e20 : vals 20 = ((tupAt (vals 16) 0)) := hphi 20 (by decide)
  generalize hu1 : ((vals 12)) = u1 at e12 f12_1ha e16 f16_1hr e17 e18 e20
  generalize hu2 : ((tupAt (vals 16) 0)) = u2 at e12 f12_1ha e16 f16_1hr e17 e18 e20
  rw [eS (l := [(16, (.tuple #[u2, .bool ((stepAtL ar rs tp (placeL ar tp ((pathL ar ((rs.getD ((o).toNat) ([], [])).1) a.toNat))) u).isSome)] : Value)), (19, (.bool ((stepAtL ar rs tp (placeL ar tp ((pathL ar ((rs.getD ((o).toNat) ([], [])).1) a.toNat))) u).isSome) : Value)), (20, u2)]) ⟨(e16).symm, (hphi 19 (by decide)), e20, trivial⟩]
  replace har := har.mono le5
  replace hrs := hrs.mono le5
  replace htp := htp.mono le5
  replace hlf := hlf.mono le5
  replace hrt := hrt.mono le5
  replace ha1 := ha1.mono le5
  show XL _ _ _ _ _ _ _ (cellsH b2 [tpv, lfv, rtv, .int .i64 (a), .int .i64 (u), .int .i64 (o)] 74 :: cellsH b1 [arv, rsv] 37 :: L)
  refine XL.as (.bool ((stepAtL ar rs tp (placeL ar tp ((pathL ar ((rs.getD ((o).toNat) ([], [])).1) a.toNat))) u).isSome)) rfl ?_
  refine XL.nil (X.seq (X.region ?_))
  refine XL.mv (.bool ((stepAtL ar rs tp (placeL ar tp ((pathL ar ((rs.getD ((o).toNat) ([], [])).1) a.toNat))) u).isSome)) rfl ?_
  refine XL.mv (.bool ((stepAtL ar rs tp (placeL ar tp ((pathL ar ((rs.getD ((o).toNat) ([], [])).1) a.toNat))) u).isSome)) rfl ?_
  by_cases h10 : ((stepAtL ar rs tp (placeL ar tp ((pathL ar ((rs.getD ((o).toNat) ([], [])).1) a.toNat))) u).isSome) = true
  ·refine XL.yes (t := 100) rfl (vB h10) (XOp.move (u2) rfl ?_)
   refine XL.yes (t := 100) rfl (vB h10) (XOp.fieldP (b := b2) (1) runUnderlying74 rfl sizeOf22 (by decide) rfl rfl ?_)
   refine XL.yes (t := 100) rfl (vB h10) (XOp.load1 (v := lfv) isAgg22 rfl (Rd.own [] rfl rfl) ?_)
   refine XL.yes (t := 100) rfl (vB h10) (XOp.call (args := [u2, lfv]) call96 rfl (SameTerm_spec f16_1hr hlf (hbd := (by first | assumption | rfl | omega | (left; simp; done) | (right; simp; done)))) ?_)
   rintro _ _ _ _ ⟨rfl, rfl, rfl⟩
   refine cX (XOp.pickT (.bool (decide (((stepAtL ar rs tp (placeL ar tp ((pathL ar ((rs.getD ((o).toNat) ([], [])).1) a.toNat))) u).getD []) = lf))) (vB h10) rfl ?_)
   refine XL.as (.bool (decide (((stepAtL ar rs tp (placeL ar tp ((pathL ar ((rs.getD ((o).toNat) ([], [])).1) a.toNat))) u).getD []) = lf))) rfl ?_
   refine XL.nil ?_
   refine X.ret (retEnd (L' := L) [.bool (decide (((stepAtL ar rs tp (placeL ar tp ((pathL ar ((rs.getD ((o).toNat) ([], [])).1) a.toNat))) u).getD []) = lf))] (.bool (decide (((stepAtL ar rs tp (placeL ar tp ((pathL ar ((rs.getD ((o).toNat) ([], [])).1) a.toNat))) u).getD []) = lf))) (.tmp rfl .nil) rfl rF (FLe.trans le1 le5) (sD (sD sR)) ?_)
   exact ⟨(vB (by rw [Bool.eq_iff_iff, peakL_iff, decide_eq_true_eq]; exact ⟨fun h => (getD_some (by assumption)).1 h.2.2.2, fun h => ⟨hsys, peakArgs_iff.2 (by omega), (getD_some hst1).2 hst2, (getD_some (by assumption)).2 h⟩⟩)), rfl, rfl⟩
  rw [Bool.not_eq_true] at h10
  refine XL.no (t := 100) rfl (vB h10) ?_
  refine XL.no (t := 100) rfl (vB h10) ?_
  refine XL.no (t := 100) rfl (vB h10) ?_
  refine XL.no (t := 100) rfl (vB h10) ?_
  refine cX (XOp.pickF (.bool (false)) (vB h10) rfl ?_)
  refine XL.as (.bool (false)) rfl ?_
  refine XL.nil ?_
  refine X.ret (retEnd (L' := L) [.bool (false)] (.bool (false)) (.tmp rfl .nil) rfl rF (FLe.trans le1 le5) (sD (sD sR)) ?_)
  exact ⟨(vB (peakL_no (fun h => opt_no1 (by assumption) h.2.2.2))), rfl, rfl⟩
 refine XL.no (t := 53) rfl (vF h6) ?_
 refine XL.no (t := 53) rfl (vF h6) ?_
 refine XL.no (t := 53) rfl (vF h6) ?_
 refine XL.no (t := 53) rfl (vF h6) ?_
 refine XL.no (t := 53) rfl (vF h6) ?_
 refine XL.yes (t := 49) rfl (vF h5) (XOp.pickF (.bool (false)) (vF h6) rfl ?_)
 refine cX (XOp.pickF (.bool (false)) (vF h5) rfl ?_)
 refine XL.nil ?_
 refine X.condF rfl ?_
 refine X.skip (X.seq (X.region ?_))
 refine cX (XOp.loadN [arv, rsv] isAgg37 sizeOf37 rfl rfl (Rd.ownN [_] rfl rfl) ?_)
 refine cX (XOp.fieldP (b := b2) (0) runUnderlying74 rfl sizeOf22 (by decide) rfl rfl ?_)
 refine cX (XOp.load1 (v := tpv) isAgg22 rfl (Rd.own [] rfl rfl) ?_)
 refine cX (XOp.fieldP (b := b2) (5) runUnderlying74 rfl sizeOf2 (by decide) rfl rfl ?_)
 refine cX (XOp.load1 (v := .int .i64 (o)) isAgg2 rfl (Rd.own [] rfl rfl) ?_)
 refine cX (XOp.call (args := [.agg #[arv, rsv], tpv, .int .i64 (0), .int .i64 (o)]) call163 rfl (sStepAt_spec (p := 0) (r := o) har hrs htp (hla := (by first | assumption | rfl | omega | simp)) (hlr := (by first | assumption | rfl | omega | simp)) (hrb := (by first | assumption | rfl | omega | simp)) (hlt := (by first | assumption | rfl | omega | simp))) ?_)
 rintro _ F6 _ le6 ⟨x4, rfl, hr6, rfl⟩
 replace har := har.mono le6
 replace hrs := hrs.mono le6
 replace htp := htp.mono le6
 replace hlf := hlf.mono le6
 replace hrt := hrt.mono le6
 replace ha1 := ha1.mono le6
 refine XL.mv (.tuple #[x4, .bool ((stepAtL ar rs tp 0 o).isSome)]) rfl ?_
 refine cX (XOp.extract (x4) rfl rfl ?_)
 refine cX (XOp.extract (.bool ((stepAtL ar rs tp 0 o).isSome)) rfl rfl ?_)
 refine XL.as (x4) rfl ?_
 refine XL.as (.bool ((stepAtL ar rs tp 0 o).isSome)) rfl ?_
 refine XL.nil (X.seq (X.seq (X.region ?_)))
 refine XL.mv (.bool ((stepAtL ar rs tp 0 o).isSome)) rfl ?_
 refine cX (XOp.notB (b := (stepAtL ar rs tp 0 o).isSome) rfl ?_)
 refine XL.mv (.bool (!((stepAtL ar rs tp 0 o).isSome))) rfl ?_
 by_cases h11 : (!((stepAtL ar rs tp 0 o).isSome)) = true
 ·have hst1 : (stepAtL ar rs tp 0 o).isSome = false := by simpa using h11
  refine XL.no (t := 72) rfl (vB h11) ?_
  refine XL.no (t := 72) rfl (vB h11) ?_
  refine XL.no (t := 72) rfl (vB h11) ?_
  refine XL.no (t := 72) rfl (vB h11) ?_
  refine XL.no (t := 72) rfl (vB h11) ?_
  refine cX (XOp.pickT (.bool (true)) (vB h11) rfl ?_)
  refine XL.nil ?_
  refine X.condT rfl ?_
  refine X.seq (X.region ?_)
  refine XL.as (.bool (false)) rfl ?_
  refine XL.nil ?_
  refine X.ret (thenQ_ret (retEnd (L' := L) [.bool (false)] (.bool (false)) (.tmp rfl .nil) rfl rF le6 (sD (sD sR)) ?_))
  exact ⟨(vB (peakL_no (fun h => by first | exact opt_no1 hst1 h.2.2.1 | exact opt_no2 hst2 h.2.2.1))), rfl, rfl⟩
 rw [Bool.not_eq_true] at h11
 have hst1 : (stepAtL ar rs tp 0 o).isSome = true := by simpa using h11
 refine XL.yes (t := 72) rfl (vB h11) (XOp.move (x4) rfl ?_)
 refine XL.yes (t := 72) rfl (vB h11) (XOp.fieldP (b := b2) (2) runUnderlying74 rfl sizeOf22 (by decide) rfl rfl ?_)
 refine XL.yes (t := 72) rfl (vB h11) (XOp.load1 (v := rtv) isAgg22 rfl (Rd.own [] rfl rfl) ?_)
 refine XL.yes (t := 72) rfl (vB h11) (XOp.call (args := [x4, rtv]) call96 rfl (SameTerm_spec hr6 hrt (hbd := (by first | assumption | rfl | omega | (left; simp; done) | (right; simp; done)))) ?_)
 rintro _ _ _ _ ⟨rfl, rfl, rfl⟩
 refine XL.yes (t := 72) rfl (vB h11) (XOp.notD (p := ((stepAtL ar rs tp 0 o).getD []) = rt) rfl ?_)
 refine cX (XOp.pickF (.bool (decide (¬(((stepAtL ar rs tp 0 o).getD []) = rt)))) (vB h11) rfl ?_)
 refine XL.nil ?_
 refine X.condD (p := ¬(((stepAtL ar rs tp 0 o).getD []) = rt)) rfl (fun h12 => ?_) (fun h12 => ?_)
 ·have hst2 : (stepAtL ar rs tp 0 o).getD [] ≠ rt := h12
  refine X.seq (X.region ?_)
  refine XL.as (.bool (false)) rfl ?_
  refine XL.nil ?_
  refine X.ret (thenQ_ret (retEnd (L' := L) [.bool (false)] (.bool (false)) (.tmp rfl .nil) rfl rF le6 (sD (sD sR)) ?_))
  exact ⟨(vB (peakL_no (fun h => by first | exact opt_no1 hst1 h.2.2.1 | exact opt_no2 hst2 h.2.2.1))), rfl, rfl⟩
 have hst2 : (stepAtL ar rs tp 0 o).getD [] = rt := Classical.not_not.1 h12
 refine X.skip (X.seq ?_)
 refine X.drawG [cellsH b2 [tpv, lfv, rtv, .int .i64 (a), .int .i64 (u), .int .i64 (o)] 74, cellsH b1 [arv, rsv] 37] L 21 [[], [], [], [], [], [], [], [], [], [], [], [], [], [], [], [], [], [16], [16], [], [16]] [[], [], [1], [], [3], [], [5], [], [7], [], [], [10], [8, 9, 11], [4, 6, 12], [], [14], [0, 2, 13, 15], [16], [16, 17], [16, 17], [16, 18]] [[], [], [], [], [], [], [], [], [], [], [], [], [], [], [], [], [], [], [], [], []] (phiG [fun FF us v => v = (.agg #[arv, rsv] : Value), fun FF us v => v = ptr b2 0, fun FF us v => v = tpv, fun FF us v => v = ptr b1 0, fun FF us v => v = (.agg #[arv] : Value), fun FF us v => v = ptr b2 0, fun FF us v => v = tpv, fun FF us v => v = ptr b1 0, fun FF us v => v = (.agg #[arv] : Value), fun FF us v => v = a1, fun FF us v => v = ptr b2 3, fun FF us v => v = (.int .i64 (a) : Value), fun FF us v => ((v) : Value) = v ∧ (IntsF FF (v) (pathL ar ((rs.getD ((o).toNat) ([], [])).1) a.toNat)), fun FF us v => v = (.int .i64 (placeL ar tp ((pathL ar ((rs.getD ((o).toNat) ([], [])).1) a.toNat))) : Value), fun FF us v => v = ptr b2 4, fun FF us v => v = (.int .i64 (u) : Value), fun FF us v => (.tuple #[((tupAt v 0)), .bool ((stepAtL ar rs tp (placeL ar tp ((pathL ar ((rs.getD ((o).toNat) ([], [])).1) a.toNat))) u).isSome)] : Value) = v ∧ (IntsF FF ((tupAt v 0)) ((stepAtL ar rs tp (placeL ar tp ((pathL ar ((rs.getD ((o).toNat) ([], [])).1) a.toNat))) u).getD [])), fun FF us v => v = (.tuple #[((tupAt (us.getD 0 undef) 0)), .bool ((stepAtL ar rs tp (placeL ar tp ((pathL ar ((rs.getD ((o).toNat) ([], [])).1) a.toNat))) u).isSome)] : Value), fun FF us v => v = ((tupAt (us.getD 0 undef) 0)), fun FF us v => v = (.bool ((stepAtL ar rs tp (placeL ar tp ((pathL ar ((rs.getD ((o).toNat) ([], [])).1) a.toNat))) u).isSome) : Value), fun FF us v => v = ((tupAt (us.getD 0 undef) 0))]) (ownL [fun us v => [], fun us v => [], fun us v => [], fun us v => [], fun us v => [], fun us v => [], fun us v => [], fun us v => [], fun us v => [], fun us v => [], fun us v => [], fun us v => [], fun us v => [], fun us v => [], fun us v => [], fun us v => [], fun us v => [], fun us v => [], fun us v => [], fun us v => [], fun us v => []]) mixed rfl rfl (by kernel_rfl) (by kernel_rfl) (MonoG.get (mC (fun le h => h) (mC (fun le h => h) (mC (fun le h => h) (mC (fun le h => h) (mC (fun le h => h) (mC (fun le h => h) (mC (fun le h => h) (mC (fun le h => h) (mC (fun le h => h) (mC (fun le h => h) (mC (fun le h => h) (mC (fun le h => h) (mC (fun le h => ⟨h.1, h.2.mono le⟩) (mC (fun le h => h) (mC (fun le h => h) (mC (fun le h => h) (mC (fun le h => ⟨h.1, h.2.mono le⟩) (mC (fun le h => h) (mC (fun le h => h) (mC (fun le h => h) (mC (fun le h => h) MonoG.nil)))))))))))))))))))))) ?_ ?_
 ·refine gC (fun vals Fs R leFs hpZ => ?_) ?_
  ·replace har := har.mono leFs
   replace hrs := hrs.mono leFs
   replace htp := htp.mono leFs
   replace hlf := hlf.mono leFs
   replace ha1 := ha1.mono leFs
   refine XG.op (XOp.loadN [arv, rsv] isAgg37 sizeOf37 rfl rfl (Rd.ownN [_] rfl rfl) ?_)
   exact ⟨rfl, rfl⟩
  refine gC (fun vals Fs R leFs hpZ => ?_) ?_
  ·refine XG.op (XOp.fieldP (b := b2) (0) runUnderlying74 rfl sizeOf22 (by decide) rfl rfl ?_)
   exact ⟨rfl, rfl⟩
  refine gC (fun vals Fs R leFs hpZ => ?_) ?_
  ·replace har := har.mono leFs
   replace hrs := hrs.mono leFs
   replace htp := htp.mono leFs
   replace hlf := hlf.mono leFs
   replace ha1 := ha1.mono leFs
   rw [eS (l := [(1, ptr b2 0)]) ⟨(hpZ 1 (by decide)), trivial⟩]
   refine XG.op (XOp.load1 (v := tpv) isAgg22 rfl (Rd.own [] rfl rfl) ?_)
   exact ⟨rfl, rfl⟩
  refine gC (fun vals Fs R leFs hpZ => ?_) ?_
  ·refine XG.op (XOp.fieldP (b := b1) (0) runUnderlying37 rfl sizeOf34 (by decide) rfl rfl ?_)
   exact ⟨rfl, rfl⟩
  refine gC (fun vals Fs R leFs hpZ => ?_) ?_
  ·replace har := har.mono leFs
   replace hrs := hrs.mono leFs
   replace htp := htp.mono leFs
   replace hlf := hlf.mono leFs
   replace ha1 := ha1.mono leFs
   rw [eS (l := [(3, ptr b1 0)]) ⟨(hpZ 3 (by decide)), trivial⟩]
   refine XG.op (XOp.loadN [arv] isAgg34 sizeOf34 rfl rfl (Rd.ownN [_] rfl rfl) ?_)
   exact ⟨rfl, rfl⟩
  refine gC (fun vals Fs R leFs hpZ => ?_) ?_
  ·refine XG.op (XOp.fieldP (b := b2) (0) runUnderlying74 rfl sizeOf22 (by decide) rfl rfl ?_)
   exact ⟨rfl, rfl⟩
  refine gC (fun vals Fs R leFs hpZ => ?_) ?_
  ·replace har := har.mono leFs
   replace hrs := hrs.mono leFs
   replace htp := htp.mono leFs
   replace hlf := hlf.mono leFs
   replace ha1 := ha1.mono leFs
   rw [eS (l := [(5, ptr b2 0)]) ⟨(hpZ 5 (by decide)), trivial⟩]
   refine XG.op (XOp.load1 (v := tpv) isAgg22 rfl (Rd.own [] rfl rfl) ?_)
   exact ⟨rfl, rfl⟩
  refine gC (fun vals Fs R leFs hpZ => ?_) ?_
  ·refine XG.op (XOp.fieldP (b := b1) (0) runUnderlying37 rfl sizeOf34 (by decide) rfl rfl ?_)
   exact ⟨rfl, rfl⟩
  refine gC (fun vals Fs R leFs hpZ => ?_) ?_
  ·replace har := har.mono leFs
   replace hrs := hrs.mono leFs
   replace htp := htp.mono leFs
   replace hlf := hlf.mono leFs
   replace ha1 := ha1.mono leFs
   rw [eS (l := [(7, ptr b1 0)]) ⟨(hpZ 7 (by decide)), trivial⟩]
   refine XG.op (XOp.loadN [arv] isAgg34 sizeOf34 rfl rfl (Rd.ownN [_] rfl rfl) ?_)
   exact ⟨rfl, rfl⟩
  refine gC (fun vals Fs R leFs hpZ => ?_) ?_
  ·refine XG.op (XOp.move (a1) rfl ?_)
   exact ⟨rfl, rfl⟩
  refine gC (fun vals Fs R leFs hpZ => ?_) ?_
  ·refine XG.op (XOp.fieldP (b := b2) (3) runUnderlying74 rfl sizeOf2 (by decide) rfl rfl ?_)
   exact ⟨rfl, rfl⟩
  refine gC (fun vals Fs R leFs hpZ => ?_) ?_
  ·replace har := har.mono leFs
   replace hrs := hrs.mono leFs
   replace htp := htp.mono leFs
   replace hlf := hlf.mono leFs
   replace ha1 := ha1.mono leFs
   rw [eS (l := [(10, ptr b2 3)]) ⟨(hpZ 10 (by decide)), trivial⟩]
   refine XG.op (XOp.load1 (v := .int .i64 (a)) isAgg2 rfl (Rd.own [] rfl rfl) ?_)
   exact ⟨rfl, rfl⟩
  refine gC (fun vals Fs R leFs hpZ => ?_) ?_
  ·replace har := har.mono leFs
   replace hrs := hrs.mono leFs
   replace htp := htp.mono leFs
   replace hlf := hlf.mono leFs
   replace ha1 := ha1.mono leFs
   rw [eS (l := [(8, (.agg #[arv] : Value)), (9, a1), (11, (.int .i64 (a) : Value))]) ⟨(hpZ 8 (by decide)), (hpZ 9 (by decide)), (hpZ 11 (by decide)), trivial⟩]
   refine XG.op (XOp.frzF <| XOp.call (args := [.agg #[arv], a1, .int .i64 (a)]) call165 rfl (sPathOf_spec (n := a) har ha1 (ho := (hRL (by omega))) (hn := (by omega))) ?_)
   rintro v4 _ _ _ ⟨rfl, hs4, rfl⟩
   refine ⟨_, _, rfl, fun F8 le8 hz2 => ?_⟩
   replace har := har.mono le8
   replace hrs := hrs.mono le8
   replace htp := htp.mono le8
   replace hlf := hlf.mono le8
   have hf2 : IntsF F8 v4 ((pathL ar ((rs.getD ((o).toNat) ([], [])).1) a.toNat)) := intsH.fz (xs := (pathL ar ((rs.getD ((o).toNat) ([], [])).1) a.toNat)) hz2.fz
   exact ⟨⟨rfl, hf2⟩, rfl⟩
  refine gC (fun vals Fs R leFs hpZ => ?_) ?_
  ·obtain ⟨e12, f12_2ha⟩ := hpZ 12 (by decide)
   replace har := har.mono leFs
   replace hrs := hrs.mono leFs
   replace htp := htp.mono leFs
   replace hlf := hlf.mono leFs
   rw [eS (l := [(4, (.agg #[arv] : Value)), (6, tpv), (12, ((vals 12)))]) ⟨(hpZ 4 (by decide)), (hpZ 6 (by decide)), (e12).symm, trivial⟩]
   refine XG.op (XOp.call (args := [.agg #[arv], tpv, ((vals 12))]) call164 rfl (sPlaceOf_spec har htp f12_2ha (hlp := (by have := pathL_len ar (rs.getD o.toNat ([], [])).1 a.toNat; have := hRl (by omega); omega)) (hla := (by first | assumption | rfl | omega | simp)) (hlt := (by first | assumption | rfl | omega | simp))) ?_)
   rintro _ _ _ _ ⟨rfl, rfl, rfl⟩
   exact ⟨rfl, rfl⟩
  refine gC (fun vals Fs R leFs hpZ => ?_) ?_
  ·refine XG.op (XOp.fieldP (b := b2) (4) runUnderlying74 rfl sizeOf2 (by decide) rfl rfl ?_)
   exact ⟨rfl, rfl⟩
  refine gC (fun vals Fs R leFs hpZ => ?_) ?_
  ·replace har := har.mono leFs
   replace hrs := hrs.mono leFs
   replace htp := htp.mono leFs
   replace hlf := hlf.mono leFs
   rw [eS (l := [(14, ptr b2 4)]) ⟨(hpZ 14 (by decide)), trivial⟩]
   refine XG.op (XOp.load1 (v := .int .i64 (u)) isAgg2 rfl (Rd.own [] rfl rfl) ?_)
   exact ⟨rfl, rfl⟩
  refine gC (fun vals Fs R leFs hpZ => ?_) ?_
  ·replace har := har.mono leFs
   replace hrs := hrs.mono leFs
   replace htp := htp.mono leFs
   replace hlf := hlf.mono leFs
   rw [eS (l := [(0, (.agg #[arv, rsv] : Value)), (2, tpv), (13, (.int .i64 (placeL ar tp ((pathL ar ((rs.getD ((o).toNat) ([], [])).1) a.toNat))) : Value)), (15, (.int .i64 (u) : Value))]) ⟨(hpZ 0 (by decide)), (hpZ 2 (by decide)), (hpZ 13 (by decide)), (hpZ 15 (by decide)), trivial⟩]
   refine XG.op (XOp.call (args := [.agg #[arv, rsv], tpv, .int .i64 (placeL ar tp ((pathL ar ((rs.getD ((o).toNat) ([], [])).1) a.toNat))), .int .i64 (u)]) call163 rfl (sStepAt_spec (p := placeL ar tp ((pathL ar ((rs.getD ((o).toNat) ([], [])).1) a.toNat))) (r := u) har hrs htp (hla := (by first | assumption | rfl | omega | simp)) (hlr := (by first | assumption | rfl | omega | simp)) (hrb := (by first | assumption | rfl | omega | simp)) (hlt := (by first | assumption | rfl | omega | simp))) ?_)
   rintro _ F9 _ le9 ⟨x6, rfl, hr8, rfl⟩
   replace hlf := hlf.mono le9
   exact ⟨⟨rfl, hr8⟩, rfl⟩
  refine gC (fun vals Fs R leFs hpZ => ?_) ?_
  ·obtain ⟨e16, f16_2hr⟩ := hpZ 16 (by decide)
   rw [eS (l := [(16, (.tuple #[((tupAt (vals 16) 0)), .bool ((stepAtL ar rs tp (placeL ar tp ((pathL ar ((rs.getD ((o).toNat) ([], [])).1) a.toNat))) u).isSome)] : Value))]) ⟨(e16).symm, trivial⟩]
   refine XG.op (XOp.move (.tuple #[((tupAt (vals 16) 0)), .bool ((stepAtL ar rs tp (placeL ar tp ((pathL ar ((rs.getD ((o).toNat) ([], [])).1) a.toNat))) u).isSome)]) rfl ?_)
   exact ⟨rfl, rfl⟩
  refine gC (fun vals Fs R leFs hpZ => ?_) ?_
  ·obtain ⟨e16, f16_2hr⟩ := hpZ 16 (by decide)
   have e17 : vals 17 = (.tuple #[((tupAt (vals 16) 0)), .bool ((stepAtL ar rs tp (placeL ar tp ((pathL ar ((rs.getD ((o).toNat) ([], [])).1) a.toNat))) u).isSome)] : Value) := hpZ 17 (by decide)
   rw [eS (l := [(16, (.tuple #[((tupAt (vals 16) 0)), .bool ((stepAtL ar rs tp (placeL ar tp ((pathL ar ((rs.getD ((o).toNat) ([], [])).1) a.toNat))) u).isSome)] : Value)), (17, (.tuple #[((tupAt (vals 16) 0)), .bool ((stepAtL ar rs tp (placeL ar tp ((pathL ar ((rs.getD ((o).toNat) ([], [])).1) a.toNat))) u).isSome)] : Value))]) ⟨(e16).symm, e17, trivial⟩]
   refine XG.op (XOp.extract (((tupAt (vals 16) 0))) rfl rfl ?_)
   exact ⟨rfl, rfl⟩
  refine gC (fun vals Fs R leFs hpZ => ?_) ?_
  ·obtain ⟨e16, f16_2hr⟩ := hpZ 16 (by decide)
   have e17 : vals 17 = (.tuple #[((tupAt (vals 16) 0)), .bool ((stepAtL ar rs tp (placeL ar tp ((pathL ar ((rs.getD ((o).toNat) ([], [])).1) a.toNat))) u).isSome)] : Value) := hpZ 17 (by decide)
   rw [eS (l := [(16, (.tuple #[((tupAt (vals 16) 0)), .bool ((stepAtL ar rs tp (placeL ar tp ((pathL ar ((rs.getD ((o).toNat) ([], [])).1) a.toNat))) u).isSome)] : Value)), (17, (.tuple #[((tupAt (vals 16) 0)), .bool ((stepAtL ar rs tp (placeL ar tp ((pathL ar ((rs.getD ((o).toNat) ([], [])).1) a.toNat))) u).isSome)] : Value))]) ⟨(e16).symm, e17, trivial⟩]
   refine XG.op (XOp.extract (.bool ((stepAtL ar rs tp (placeL ar tp ((pathL ar ((rs.getD ((o).toNat) ([], [])).1) a.toNat))) u).isSome)) rfl rfl ?_)
   exact ⟨rfl, rfl⟩
  refine gC (fun vals Fs R leFs hpZ => ?_) ?_
  ·obtain ⟨e16, f16_2hr⟩ := hpZ 16 (by decide)
   have e18 : vals 18 = ((tupAt (vals 16) 0)) := hpZ 18 (by decide)
   rw [eS (l := [(16, (.tuple #[((tupAt (vals 16) 0)), .bool ((stepAtL ar rs tp (placeL ar tp ((pathL ar ((rs.getD ((o).toNat) ([], [])).1) a.toNat))) u).isSome)] : Value)), (18, ((tupAt (vals 16) 0)))]) ⟨(e16).symm, e18, trivial⟩]
   refine XG.op (XOp.assign (((tupAt (vals 16) 0))) rfl ?_)
   exact ⟨rfl, rfl⟩
  exact stepsG.nil
 intro vals F10 le10 hphi
 obtain ⟨e12, f12_2ha⟩ := hphi 12 (by decide)
 obtain ⟨e16, f16_2hr⟩ := hphi 16 (by decide)
 have e17 : vals 17 = (.tuple #[((tupAt (vals 16) 0)), .bool ((stepAtL ar rs tp (placeL ar tp ((pathL ar ((rs.getD ((o).toNat) ([], [])).1) a.toNat))) u).isSome)] : Value) := hphi 17 (by decide)
 have e18 : vals 18 = ((tupAt (vals 16) 0)) := hphi 18 (by decide)
 have e20 : vals 20 = ((tupAt (vals 16) 0)) := hphi 20 (by decide)
 generalize hu3 : ((vals 12)) = u3 at e12 f12_2ha e16 f16_2hr e17 e18 e20
 generalize hu4 : ((tupAt (vals 16) 0)) = u4 at e12 f12_2ha e16 f16_2hr e17 e18 e20
 rw [eS (l := [(16, (.tuple #[u4, .bool ((stepAtL ar rs tp (placeL ar tp ((pathL ar ((rs.getD ((o).toNat) ([], [])).1) a.toNat))) u).isSome)] : Value)), (19, (.bool ((stepAtL ar rs tp (placeL ar tp ((pathL ar ((rs.getD ((o).toNat) ([], [])).1) a.toNat))) u).isSome) : Value)), (20, u4)]) ⟨(e16).symm, (hphi 19 (by decide)), e20, trivial⟩]
 replace hlf := hlf.mono le10
 show XL _ _ _ _ _ _ _ (cellsH b2 [tpv, lfv, rtv, .int .i64 (a), .int .i64 (u), .int .i64 (o)] 74 :: cellsH b1 [arv, rsv] 37 :: L)
 refine XL.as (.bool ((stepAtL ar rs tp (placeL ar tp ((pathL ar ((rs.getD ((o).toNat) ([], [])).1) a.toNat))) u).isSome)) rfl ?_
 refine XL.nil (X.seq (X.region ?_))
 refine XL.mv (.bool ((stepAtL ar rs tp (placeL ar tp ((pathL ar ((rs.getD ((o).toNat) ([], [])).1) a.toNat))) u).isSome)) rfl ?_
 refine XL.mv (.bool ((stepAtL ar rs tp (placeL ar tp ((pathL ar ((rs.getD ((o).toNat) ([], [])).1) a.toNat))) u).isSome)) rfl ?_
 by_cases h13 : ((stepAtL ar rs tp (placeL ar tp ((pathL ar ((rs.getD ((o).toNat) ([], [])).1) a.toNat))) u).isSome) = true
 ·refine XL.yes (t := 100) rfl (vB h13) (XOp.move (u4) rfl ?_)
  refine XL.yes (t := 100) rfl (vB h13) (XOp.fieldP (b := b2) (1) runUnderlying74 rfl sizeOf22 (by decide) rfl rfl ?_)
  refine XL.yes (t := 100) rfl (vB h13) (XOp.load1 (v := lfv) isAgg22 rfl (Rd.own [] rfl rfl) ?_)
  refine XL.yes (t := 100) rfl (vB h13) (XOp.call (args := [u4, lfv]) call96 rfl (SameTerm_spec f16_2hr hlf (hbd := (by first | assumption | rfl | omega | (left; simp; done) | (right; simp; done)))) ?_)
  rintro _ _ _ _ ⟨rfl, rfl, rfl⟩
  refine cX (XOp.pickT (.bool (decide (((stepAtL ar rs tp (placeL ar tp ((pathL ar ((rs.getD ((o).toNat) ([], [])).1) a.toNat))) u).getD []) = lf))) (vB h13) rfl ?_)
  refine XL.as (.bool (decide (((stepAtL ar rs tp (placeL ar tp ((pathL ar ((rs.getD ((o).toNat) ([], [])).1) a.toNat))) u).getD []) = lf))) rfl ?_
  refine XL.nil ?_
  refine X.ret (retEnd (L' := L) [.bool (decide (((stepAtL ar rs tp (placeL ar tp ((pathL ar ((rs.getD ((o).toNat) ([], [])).1) a.toNat))) u).getD []) = lf))] (.bool (decide (((stepAtL ar rs tp (placeL ar tp ((pathL ar ((rs.getD ((o).toNat) ([], [])).1) a.toNat))) u).getD []) = lf))) (.tmp rfl .nil) rfl rF (FLe.trans le6 le10) (sD (sD sR)) ?_)
  exact ⟨(vB (by rw [Bool.eq_iff_iff, peakL_iff, decide_eq_true_eq]; exact ⟨fun h => (getD_some (by assumption)).1 h.2.2.2, fun h => ⟨hsys, peakArgs_iff.2 (by omega), (getD_some hst1).2 hst2, (getD_some (by assumption)).2 h⟩⟩)), rfl, rfl⟩
 rw [Bool.not_eq_true] at h13
 refine XL.no (t := 100) rfl (vB h13) ?_
 refine XL.no (t := 100) rfl (vB h13) ?_
 refine XL.no (t := 100) rfl (vB h13) ?_
 refine XL.no (t := 100) rfl (vB h13) ?_
 refine cX (XOp.pickF (.bool (false)) (vB h13) rfl ?_)
 refine XL.as (.bool (false)) rfl ?_
 refine XL.nil ?_
 refine X.ret (retEnd (L' := L) [.bool (false)] (.bool (false)) (.tmp rfl .nil) rfl rF (FLe.trans le6 le10) (sD (sD sR)) ?_)
 exact ⟨(vB (peakL_no (fun h => opt_no1 (by assumption) h.2.2.2))), rfl, rfl⟩

/- laws.toPeak -/
theorem toPeak_spec {F : FH} {L : List HP} {tpv : Value} {tp : List Int} (htp : IntsF F tpv tp) {lfv : Value} {lf : List Int} (hlf : IntsF F lfv lf) {rtv : Value} {rt : List Int} (hrt : IntsF F rtv rt) {a : Int} {u : Int} {o : Int} (htl : tp.length ≤ 4000000) (hll : lf.length ≤ 4000000) (hrl : rt.length ≤ 4000000) :
    Does prog 34 [.agg #[tpv, lfv, rtv, .int .i64 (a), .int .i64 (u), .int .i64 (o)]] F (L) (fun v F' L' => ∃ (x : Value), ∃ (y : Value), ∃ (w : Value), (.agg #[x, y, w, .int .i64 (a), .int .i64 (u), .int .i64 (o)] : Value) = v ∧ (IntsF F' x tp) ∧ (IntsF F' y lf) ∧ (IntsF F' w rt) ∧ (Fresh F F' (star [intsH 2 x tp, intsH 2 y lf, intsH 2 w rt])) ∧ L = L') := by
 refine Does.of_X func34 rfl rfl rfl ?_
 refine X.seq (X.region ?_)
 refine cX (XOp.box [tpv, lfv, rtv, .int .i64 (a), .int .i64 (u), .int .i64 (o)] rfl rfl ?_)
 intro b1
 refine cX (XOp.alloc [(.slice none 0 0), (.slice none 0 0), (.slice none 0 0), .int .i64 (0), .int .i64 (0), .int .i64 (0)] zeroValue74 rfl ?_)
 intro b2
 refine XL.nil (X.seq (X.region ?_))
 refine cX (XOp.alloc [(.slice none 0 0), (.slice none 0 0), (.slice none 0 0), .int .i64 (0), .int .i64 (0), .int .i64 (0)] zeroValue74 rfl ?_)
 intro b3
 refine XL.nil (X.seq (X.region ?_))
 refine cX (XOp.fieldP (b := b1) (0) runUnderlying70 rfl sizeOf22 (by decide) rfl rfl ?_)
 refine cX (XOp.load1 (v := tpv) isAgg22 rfl (Rd.own [_, _] rfl rfl) ?_)
 refine cX (XOp.frzF <| XOp.call (args := [tpv]) call11 rfl (toInt64S_spec htp (hlx := (by first | assumption | rfl | omega | simp))) ?_)
 rintro v1 _ _ _ ⟨rfl, hs1, rfl⟩
 refine ⟨_, _, rfl, fun F1 le1 hz1 => ?_⟩
 replace hlf := hlf.mono le1
 replace hrt := hrt.mono le1
 have hf1 : IntsF F1 v1 ((tp)) := intsH.fz (xs := (tp)) hz1.fz
 refine cX (XOp.fieldP (b := b3) (0) runUnderlying74 rfl sizeOf22 (by decide) rfl rfl ?_)
 refine cX (XOp.store1 (v := v1) [] _ [v1, (.slice none 0 0), (.slice none 0 0), .int .i64 (0), .int .i64 (0), .int .i64 (0)] sizeOf22 rfl rfl (one_sl (IntsF.isSl hf1)) rfl rfl rfl ?_)
 refine XL.nil (X.seq (X.region ?_))
 refine cX (XOp.fieldP (b := b1) (1) runUnderlying70 rfl sizeOf22 (by decide) rfl rfl ?_)
 refine cX (XOp.load1 (v := lfv) isAgg22 rfl (Rd.own [_, _] rfl rfl) ?_)
 refine cX (XOp.frzF <| XOp.call (args := [lfv]) call11 rfl (toInt64S_spec hlf (hlx := (by first | assumption | rfl | omega | simp))) ?_)
 rintro v2 _ _ _ ⟨rfl, hs2, rfl⟩
 refine ⟨_, _, rfl, fun F2 le2 hz2 => ?_⟩
 replace hrt := hrt.mono le2
 replace hf1 := hf1.mono le2
 have hf2 : IntsF F2 v2 ((lf)) := intsH.fz (xs := (lf)) hz2.fz
 refine cX (XOp.fieldP (b := b3) (1) runUnderlying74 rfl sizeOf22 (by decide) rfl rfl ?_)
 refine cX (XOp.store1 (v := v2) [] _ [v1, v2, (.slice none 0 0), .int .i64 (0), .int .i64 (0), .int .i64 (0)] sizeOf22 rfl rfl (one_sl (IntsF.isSl hf2)) rfl rfl rfl ?_)
 refine XL.nil (X.seq (X.region ?_))
 refine cX (XOp.fieldP (b := b1) (2) runUnderlying70 rfl sizeOf22 (by decide) rfl rfl ?_)
 refine cX (XOp.load1 (v := rtv) isAgg22 rfl (Rd.own [_, _] rfl rfl) ?_)
 refine cX (XOp.frzF <| XOp.call (args := [rtv]) call11 rfl (toInt64S_spec hrt (hlx := (by first | assumption | rfl | omega | simp))) ?_)
 rintro v3 _ _ _ ⟨rfl, hs3, rfl⟩
 refine ⟨_, _, rfl, fun F3 le3 hz3 => ?_⟩
 replace hf1 := hf1.mono le3
 replace hf2 := hf2.mono le3
 have hf3 : IntsF F3 v3 ((rt)) := intsH.fz (xs := (rt)) hz3.fz
 refine cX (XOp.fieldP (b := b3) (2) runUnderlying74 rfl sizeOf22 (by decide) rfl rfl ?_)
 refine cX (XOp.store1 (v := v3) [] _ [v1, v2, v3, .int .i64 (0), .int .i64 (0), .int .i64 (0)] sizeOf22 rfl rfl (one_sl (IntsF.isSl hf3)) rfl rfl rfl ?_)
 refine XL.nil (X.seq (X.region ?_))
 refine cX (XOp.fieldP (b := b1) (3) runUnderlying70 rfl sizeOf2 (by decide) rfl rfl ?_)
 refine cX (XOp.load1 (v := .int .i64 (a)) isAgg2 rfl (Rd.own [_, _] rfl rfl) ?_)
 refine cX (XOp.fieldP (b := b3) (3) runUnderlying74 rfl sizeOf2 (by decide) rfl rfl ?_)
 refine cX (XOp.store1 (v := .int .i64 (a)) [] _ [v1, v2, v3, .int .i64 (a), .int .i64 (0), .int .i64 (0)] sizeOf2 rfl rfl rfl rfl rfl rfl ?_)
 refine XL.nil (X.seq (X.region ?_))
 refine cX (XOp.fieldP (b := b1) (4) runUnderlying70 rfl sizeOf2 (by decide) rfl rfl ?_)
 refine cX (XOp.load1 (v := .int .i64 (u)) isAgg2 rfl (Rd.own [_, _] rfl rfl) ?_)
 refine cX (XOp.fieldP (b := b3) (4) runUnderlying74 rfl sizeOf2 (by decide) rfl rfl ?_)
 refine cX (XOp.store1 (v := .int .i64 (u)) [] _ [v1, v2, v3, .int .i64 (a), .int .i64 (u), .int .i64 (0)] sizeOf2 rfl rfl rfl rfl rfl rfl ?_)
 refine XL.nil (X.seq (X.region ?_))
 refine cX (XOp.fieldP (b := b1) (5) runUnderlying70 rfl sizeOf2 (by decide) rfl rfl ?_)
 refine cX (XOp.load1 (v := .int .i64 (o)) isAgg2 rfl (Rd.own [_, _] rfl rfl) ?_)
 refine cX (XOp.fieldP (b := b3) (5) runUnderlying74 rfl sizeOf2 (by decide) rfl rfl ?_)
 refine cX (XOp.store1 (v := .int .i64 (o)) [] _ [v1, v2, v3, .int .i64 (a), .int .i64 (u), .int .i64 (o)] sizeOf2 rfl rfl rfl rfl rfl rfl ?_)
 refine XL.nil (X.seq (X.region ?_))
 refine cX (XOp.loadN [v1, v2, v3, .int .i64 (a), .int .i64 (u), .int .i64 (o)] isAgg74 sizeOf74 rfl rfl (Rd.ownN [] rfl rfl) ?_)
 refine cX (XOp.storeN (vs := [v1, v2, v3, .int .i64 (a), .int .i64 (u), .int .i64 (o)]) [_] _ [v1, v2, v3, .int .i64 (a), .int .i64 (u), .int .i64 (o)] sizeOf74 rfl rfl rfl (ones_cons (one_sl (IntsF.isSl hf1)) (ones_cons (one_sl (IntsF.isSl hf2)) (ones_cons (one_sl (IntsF.isSl hf3)) (ones_cons rfl (ones_cons rfl (ones_cons rfl ones_nil)))))) rfl rfl rfl ?_)
 refine XL.nil ?_
 refine X.ret (retEnd (L' := L) [.agg #[v1, v2, v3, .int .i64 (a), .int .i64 (u), .int .i64 (o)]] (.agg #[v1, v2, v3, .int .i64 (a), .int .i64 (u), .int .i64 (o)]) (.cell rfl (loadNV [v1, v2, v3, .int .i64 (a), .int .i64 (u), .int .i64 (o)] isAgg74 sizeOf74 rfl (Rd.ownN [_] rfl rfl)) .nil) rfl (FLe.trans (FLe.trans le1 le2) le3) rF (sD (sD (sD sR))) ?_)
 exact ⟨_, _, _, rfl, hf1, hf2, hf3, (Fresh.app (Fresh.app (Fresh.one hz1) le1 (Fresh.one hz2) le2) (FLe.trans le1 le2) (Fresh.one hz3) le3), rfl⟩

/- laws.szPeak -/
theorem szPeak_spec {F : FH} {L : List HP} {tpv : Value} {tp : List Int} (htp : IntsF F tpv tp) {lfv : Value} {lf : List Int} (hlf : IntsF F lfv lf) {rtv : Value} {rt : List Int} (hrt : IntsF F rtv rt) {a : Int} {u : Int} {o : Int} {z : Int} (hz : 0 ≤ z ∧ z ≤ 4000000) (htl : tp.length ≤ 9223372036854775807) (hll : lf.length ≤ 9223372036854775807) (hrl : rt.length ≤ 9223372036854775807) :
    Does prog 32 [.agg #[tpv, lfv, rtv, .int .i64 (a), .int .i64 (u), .int .i64 (o)], .int .i64 (z)] F (L) (fun v F' L' => (.int .i64 (dec z ((tp.length + lf.length) + rt.length)) : Value) = v ∧ F = F' ∧ L = L') := by
 refine Does.of_X func32 rfl rfl rfl ?_
 have hdr := dec_range z tp.length
 have hdr2 := dec_range (dec z tp.length) lf.length
 refine X.seq (X.region ?_)
 refine cX (XOp.box [tpv, lfv, rtv, .int .i64 (a), .int .i64 (u), .int .i64 (o)] rfl rfl ?_)
 intro b1
 refine XL.as (.int .i64 (0)) rfl ?_
 refine XL.nil (X.seq (X.region ?_))
 refine cX (XOp.fieldP (b := b1) (0) runUnderlying70 rfl sizeOf22 (by decide) rfl rfl ?_)
 refine cX (XOp.load1 (v := tpv) isAgg22 rfl (Rd.own [] rfl rfl) ?_)
 refine XL.mv (.int .i64 (z)) rfl ?_
 refine cX (XOp.call (args := [tpv, .int .i64 (z)]) call83 rfl (szInt64S_spec (z := z) htp (hz := (by first | assumption | rfl | omega | simp)) (hlx := (by first | assumption | rfl | omega | simp))) ?_)
 rintro _ _ _ _ ⟨rfl, rfl, rfl⟩
 refine XL.as (.int .i64 (dec z tp.length)) rfl ?_
 refine XL.nil (X.seq (X.seq (X.region ?_)))
 refine XL.mv (.int .i64 (dec z tp.length)) rfl ?_
 refine cX (XOp.lss (a := dec z tp.length) (b := 0) rfl rfl ?_)
 refine XL.nil ?_
 refine X.condD (p := (dec z tp.length : Int) < 0) rfl (fun h1 => ?_) (fun h1 => ?_)
 ·refine X.seq (X.region ?_)
  refine XL.as (.int .i64 (-1)) rfl ?_
  refine XL.nil ?_
  refine X.ret (thenQ_ret (retEnd (L' := L) [.int .i64 (-1)] (.int .i64 (-1)) (.tmp rfl .nil) rfl rF rF (sD sR) ?_))
  exact ⟨(vI (by unfold dec at *; (repeat' split) <;> omega)), rfl, rfl⟩
 refine X.skip (X.seq (X.region ?_))
 refine cX (XOp.fieldP (b := b1) (1) runUnderlying70 rfl sizeOf22 (by decide) rfl rfl ?_)
 refine cX (XOp.load1 (v := lfv) isAgg22 rfl (Rd.own [] rfl rfl) ?_)
 refine XL.mv (.int .i64 (dec z tp.length)) rfl ?_
 refine cX (XOp.call (args := [lfv, .int .i64 (dec z tp.length)]) call83 rfl (szInt64S_spec (z := dec z tp.length) hlf (hz := (by first | assumption | rfl | omega | simp)) (hlx := (by first | assumption | rfl | omega | simp))) ?_)
 rintro _ _ _ _ ⟨rfl, rfl, rfl⟩
 refine XL.as (.int .i64 (dec (dec z tp.length) lf.length)) rfl ?_
 refine XL.nil (X.seq (X.seq (X.region ?_)))
 refine XL.mv (.int .i64 (dec (dec z tp.length) lf.length)) rfl ?_
 refine cX (XOp.lss (a := dec (dec z tp.length) lf.length) (b := 0) rfl rfl ?_)
 refine XL.nil ?_
 refine X.condD (p := (dec (dec z tp.length) lf.length : Int) < 0) rfl (fun h2 => ?_) (fun h2 => ?_)
 ·refine X.seq (X.region ?_)
  refine XL.as (.int .i64 (-1)) rfl ?_
  refine XL.nil ?_
  refine X.ret (thenQ_ret (retEnd (L' := L) [.int .i64 (-1)] (.int .i64 (-1)) (.tmp rfl .nil) rfl rF rF (sD sR) ?_))
  exact ⟨(vI (by unfold dec at *; (repeat' split) <;> omega)), rfl, rfl⟩
 refine X.skip (X.seq (X.region ?_))
 refine cX (XOp.fieldP (b := b1) (2) runUnderlying70 rfl sizeOf22 (by decide) rfl rfl ?_)
 refine cX (XOp.load1 (v := rtv) isAgg22 rfl (Rd.own [] rfl rfl) ?_)
 refine XL.mv (.int .i64 (dec (dec z tp.length) lf.length)) rfl ?_
 refine cX (XOp.call (args := [rtv, .int .i64 (dec (dec z tp.length) lf.length)]) call83 rfl (szInt64S_spec (z := dec (dec z tp.length) lf.length) hrt (hz := (by first | assumption | rfl | omega | simp)) (hlx := (by first | assumption | rfl | omega | simp))) ?_)
 rintro _ _ _ _ ⟨rfl, rfl, rfl⟩
 refine XL.as (.int .i64 (dec (dec (dec z tp.length) lf.length) rt.length)) rfl ?_
 refine XL.nil (X.seq (X.seq (X.region ?_)))
 refine XL.mv (.int .i64 (dec (dec (dec z tp.length) lf.length) rt.length)) rfl ?_
 refine cX (XOp.lss (a := dec (dec (dec z tp.length) lf.length) rt.length) (b := 0) rfl rfl ?_)
 refine XL.nil ?_
 refine X.condD (p := (dec (dec (dec z tp.length) lf.length) rt.length : Int) < 0) rfl (fun h3 => ?_) (fun h3 => ?_)
 ·refine X.seq (X.region ?_)
  refine XL.as (.int .i64 (-1)) rfl ?_
  refine XL.nil ?_
  refine X.ret (thenQ_ret (retEnd (L' := L) [.int .i64 (-1)] (.int .i64 (-1)) (.tmp rfl .nil) rfl rF rF (sD sR) ?_))
  exact ⟨(vI (by unfold dec at *; (repeat' split) <;> omega)), rfl, rfl⟩
 refine X.skip (X.seq (X.region ?_))
 refine XL.mv (.int .i64 (dec (dec (dec z tp.length) lf.length) rt.length)) rfl ?_
 refine XL.as (.int .i64 (dec (dec (dec z tp.length) lf.length) rt.length)) rfl ?_
 refine XL.nil ?_
 refine X.ret (retEnd (L' := L) [.int .i64 (dec (dec (dec z tp.length) lf.length) rt.length)] (.int .i64 (dec (dec (dec z tp.length) lf.length) rt.length)) (.tmp rfl .nil) rfl rF rF (sD sR) ?_)
 exact ⟨(vI (by unfold dec at *; (repeat' split) <;> omega)), rfl, rfl⟩

/- laws.eqPeak -/
theorem eqPeak_spec {F : FH} {L : List HP} {tpv : Value} {tp : List Int} (htp : IntsF F tpv tp) {lfv : Value} {lf : List Int} (hlf : IntsF F lfv lf) {rtv : Value} {rt : List Int} (hrt : IntsF F rtv rt) {a : Int} {u : Int} {o : Int} {tqv : Value} {tq : List Int} (htq : IntsF F tqv tq) {lgv : Value} {lg : List Int} (hlg : IntsF F lgv lg) {ruv : Value} {ru : List Int} (hru : IntsF F ruv ru) {a9 : Int} {u9 : Int} {o9 : Int} (htl : tp.length ≤ 9223372036854775807) (hll : lf.length ≤ 9223372036854775807) (hrl : rt.length ≤ 9223372036854775807) :
    Does prog 37 [.agg #[tpv, lfv, rtv, .int .i64 (a), .int .i64 (u), .int .i64 (o)], .agg #[tqv, lgv, ruv, .int .i64 (a9), .int .i64 (u9), .int .i64 (o9)]] F (L) (fun v F' L' => (.bool (decide (((tp = tq ∧ lf = lg) ∧ rt = ru) ∧ (a = a9 ∧ u = u9 ∧ o = o9))) : Value) = v ∧ F = F' ∧ L = L') := by
 refine Does.of_X func37 rfl rfl rfl ?_
 refine X.seq (X.region ?_)
 refine cX (XOp.box [tpv, lfv, rtv, .int .i64 (a), .int .i64 (u), .int .i64 (o)] rfl rfl ?_)
 intro b1
 refine cX (XOp.box [tqv, lgv, ruv, .int .i64 (a9), .int .i64 (u9), .int .i64 (o9)] rfl rfl ?_)
 intro b2
 refine XL.as (.bool (false)) rfl ?_
 refine XL.nil (X.seq (X.seq (X.region ?_)))
 refine cX (XOp.fieldP (b := b1) (0) runUnderlying74 rfl sizeOf22 (by decide) rfl rfl ?_)
 refine cX (XOp.load1 (v := tpv) isAgg22 rfl (Rd.own [_] rfl rfl) ?_)
 refine cX (XOp.fieldP (b := b2) (0) runUnderlying74 rfl sizeOf22 (by decide) rfl rfl ?_)
 refine cX (XOp.load1 (v := tqv) isAgg22 rfl (Rd.own [] rfl rfl) ?_)
 refine cX (XOp.call (args := [tpv, tqv]) call15 rfl (eqInt64S_spec htp htq (hbd := (by first | assumption | rfl | omega | (left; simp; done) | (right; simp; done)))) ?_)
 rintro _ _ _ _ ⟨rfl, rfl, rfl⟩
 refine cX (XOp.notD (p := tp = tq) rfl ?_)
 refine XL.nil ?_
 refine X.condD (p := ¬(tp = tq)) rfl (fun h1 => ?_) (fun h1 => ?_)
 ·refine X.seq (X.region ?_)
  refine XL.as (.bool (false)) rfl ?_
  refine XL.nil ?_
  refine X.ret (thenQ_ret (retEnd (L' := L) [.bool (false)] (.bool (false)) (.tmp rfl .nil) rfl rF rF (sD (sD sR)) ?_))
  exact ⟨(vB (decide_eq_false (by intro e; simp_all))), rfl, rfl⟩
 refine X.skip (X.seq (X.seq (X.region ?_)))
 refine cX (XOp.fieldP (b := b1) (1) runUnderlying74 rfl sizeOf22 (by decide) rfl rfl ?_)
 refine cX (XOp.load1 (v := lfv) isAgg22 rfl (Rd.own [_] rfl rfl) ?_)
 refine cX (XOp.fieldP (b := b2) (1) runUnderlying74 rfl sizeOf22 (by decide) rfl rfl ?_)
 refine cX (XOp.load1 (v := lgv) isAgg22 rfl (Rd.own [] rfl rfl) ?_)
 refine cX (XOp.call (args := [lfv, lgv]) call15 rfl (eqInt64S_spec hlf hlg (hbd := (by first | assumption | rfl | omega | (left; simp; done) | (right; simp; done)))) ?_)
 rintro _ _ _ _ ⟨rfl, rfl, rfl⟩
 refine cX (XOp.notD (p := lf = lg) rfl ?_)
 refine XL.nil ?_
 refine X.condD (p := ¬(lf = lg)) rfl (fun h2 => ?_) (fun h2 => ?_)
 ·refine X.seq (X.region ?_)
  refine XL.as (.bool (false)) rfl ?_
  refine XL.nil ?_
  refine X.ret (thenQ_ret (retEnd (L' := L) [.bool (false)] (.bool (false)) (.tmp rfl .nil) rfl rF rF (sD (sD sR)) ?_))
  exact ⟨(vB (decide_eq_false (by intro e; simp_all))), rfl, rfl⟩
 refine X.skip (X.seq (X.seq (X.region ?_)))
 refine cX (XOp.fieldP (b := b1) (2) runUnderlying74 rfl sizeOf22 (by decide) rfl rfl ?_)
 refine cX (XOp.load1 (v := rtv) isAgg22 rfl (Rd.own [_] rfl rfl) ?_)
 refine cX (XOp.fieldP (b := b2) (2) runUnderlying74 rfl sizeOf22 (by decide) rfl rfl ?_)
 refine cX (XOp.load1 (v := ruv) isAgg22 rfl (Rd.own [] rfl rfl) ?_)
 refine cX (XOp.call (args := [rtv, ruv]) call15 rfl (eqInt64S_spec hrt hru (hbd := (by first | assumption | rfl | omega | (left; simp; done) | (right; simp; done)))) ?_)
 rintro _ _ _ _ ⟨rfl, rfl, rfl⟩
 refine cX (XOp.notD (p := rt = ru) rfl ?_)
 refine XL.nil ?_
 refine X.condD (p := ¬(rt = ru)) rfl (fun h3 => ?_) (fun h3 => ?_)
 ·refine X.seq (X.region ?_)
  refine XL.as (.bool (false)) rfl ?_
  refine XL.nil ?_
  refine X.ret (thenQ_ret (retEnd (L' := L) [.bool (false)] (.bool (false)) (.tmp rfl .nil) rfl rF rF (sD (sD sR)) ?_))
  exact ⟨(vB (decide_eq_false (by intro e; simp_all))), rfl, rfl⟩
 refine X.skip (X.seq (X.seq (X.region ?_)))
 refine cX (XOp.fieldP (b := b1) (3) runUnderlying74 rfl sizeOf2 (by decide) rfl rfl ?_)
 refine cX (XOp.load1 (v := .int .i64 (a)) isAgg2 rfl (Rd.own [_] rfl rfl) ?_)
 refine cX (XOp.fieldP (b := b2) (3) runUnderlying74 rfl sizeOf2 (by decide) rfl rfl ?_)
 refine cX (XOp.load1 (v := .int .i64 (a9)) isAgg2 rfl (Rd.own [] rfl rfl) ?_)
 refine cX (XOp.neq (a := a) (b := a9) rfl rfl ?_)
 refine XL.nil ?_
 refine X.condD (p := (a : Int) ≠ a9) rfl (fun h4 => ?_) (fun h4 => ?_)
 ·refine X.seq (X.region ?_)
  refine XL.as (.bool (false)) rfl ?_
  refine XL.nil ?_
  refine X.ret (thenQ_ret (retEnd (L' := L) [.bool (false)] (.bool (false)) (.tmp rfl .nil) rfl rF rF (sD (sD sR)) ?_))
  exact ⟨(vB (decide_eq_false (by intro e; simp_all))), rfl, rfl⟩
 refine X.skip (X.seq (X.seq (X.region ?_)))
 refine cX (XOp.fieldP (b := b1) (4) runUnderlying74 rfl sizeOf2 (by decide) rfl rfl ?_)
 refine cX (XOp.load1 (v := .int .i64 (u)) isAgg2 rfl (Rd.own [_] rfl rfl) ?_)
 refine cX (XOp.fieldP (b := b2) (4) runUnderlying74 rfl sizeOf2 (by decide) rfl rfl ?_)
 refine cX (XOp.load1 (v := .int .i64 (u9)) isAgg2 rfl (Rd.own [] rfl rfl) ?_)
 refine cX (XOp.neq (a := u) (b := u9) rfl rfl ?_)
 refine XL.nil ?_
 refine X.condD (p := (u : Int) ≠ u9) rfl (fun h5 => ?_) (fun h5 => ?_)
 ·refine X.seq (X.region ?_)
  refine XL.as (.bool (false)) rfl ?_
  refine XL.nil ?_
  refine X.ret (thenQ_ret (retEnd (L' := L) [.bool (false)] (.bool (false)) (.tmp rfl .nil) rfl rF rF (sD (sD sR)) ?_))
  exact ⟨(vB (decide_eq_false (by intro e; simp_all))), rfl, rfl⟩
 refine X.skip (X.seq (X.seq (X.region ?_)))
 refine cX (XOp.fieldP (b := b1) (5) runUnderlying74 rfl sizeOf2 (by decide) rfl rfl ?_)
 refine cX (XOp.load1 (v := .int .i64 (o)) isAgg2 rfl (Rd.own [_] rfl rfl) ?_)
 refine cX (XOp.fieldP (b := b2) (5) runUnderlying74 rfl sizeOf2 (by decide) rfl rfl ?_)
 refine cX (XOp.load1 (v := .int .i64 (o9)) isAgg2 rfl (Rd.own [] rfl rfl) ?_)
 refine cX (XOp.neq (a := o) (b := o9) rfl rfl ?_)
 refine XL.nil ?_
 refine X.condD (p := (o : Int) ≠ o9) rfl (fun h6 => ?_) (fun h6 => ?_)
 ·refine X.seq (X.region ?_)
  refine XL.as (.bool (false)) rfl ?_
  refine XL.nil ?_
  refine X.ret (thenQ_ret (retEnd (L' := L) [.bool (false)] (.bool (false)) (.tmp rfl .nil) rfl rF rF (sD (sD sR)) ?_))
  exact ⟨(vB (decide_eq_false (by intro e; simp_all))), rfl, rfl⟩
 refine X.skip (X.seq (X.region ?_))
 refine XL.as (.bool (true)) rfl ?_
 refine XL.nil ?_
 refine X.ret (retEnd (L' := L) [.bool (true)] (.bool (true)) (.tmp rfl .nil) rfl rF rF (sD (sD sR)) ?_)
 exact ⟨(vB (decide_eq_true (by simp_all))), rfl, rfl⟩
end Go.Proofs.YtiaanelimbmniaaGreat
