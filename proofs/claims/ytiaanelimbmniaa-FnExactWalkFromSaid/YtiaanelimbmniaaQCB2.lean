/-
  Walks, one after the other (part 3).
-/
import Derived.Test.YtiaanelimbmniaaQCL1
import Derived.Test.YtiaanelimbmniaaQCB1
set_option linter.unusedSimpArgs false
set_option linter.unusedVariables false
namespace Go.Proofs.Ytiaanelimbmniaa
open Go X M Try

/- laws.eqStep -/
theorem eqStep_spec {F : FH} {L : List HP} {i : Int} {j : Int} {av : Value} {a : List Int} (ha : IntsF F av a) {p : Int} {q : Int} {bv : Value} {b : List Int} (hb : IntsF F bv b) (hbd : a.length ≤ 9223372036854775807 ∨ b.length ≤ 9223372036854775807) :
    Does prog 98 [.agg #[.int .i64 (i), .int .i64 (j), av], .agg #[.int .i64 (p), .int .i64 (q), bv]] F (L) (fun v F' L' => (.bool (decide ((i, j, a) = (p, q, b))) : Value) = v ∧ F = F' ∧ L = L') := by
 refine Does.of_X func98 rfl rfl rfl ?_
 refine X.seq (X.region ?_)
 refine cX (XOp.box [.int .i64 (i), .int .i64 (j), av] rfl rfl ?_)
 intro b1
 refine cX (XOp.box [.int .i64 (p), .int .i64 (q), bv] rfl rfl ?_)
 intro b2
 refine XL.as (.bool (false)) rfl ?_
 refine XL.nil (X.seq (X.seq (X.region ?_)))
 refine cX (XOp.fieldP (b := b1) (0) runUnderlying77 rfl sizeOf2 (by decide) rfl rfl ?_)
 refine cX (XOp.load1 (v := .int .i64 (i)) isAgg2 rfl (Rd.own [_] rfl rfl) ?_)
 refine cX (XOp.fieldP (b := b2) (0) runUnderlying77 rfl sizeOf2 (by decide) rfl rfl ?_)
 refine cX (XOp.load1 (v := .int .i64 (p)) isAgg2 rfl (Rd.own [] rfl rfl) ?_)
 refine cX (XOp.neq (a := i) (b := p) rfl rfl ?_)
 refine XL.nil ?_
 refine X.condD (p := (i : Int) ≠ p) rfl (fun h1 => ?_) (fun h1 => ?_)
 ·refine X.seq (X.region ?_)
  refine XL.as (.bool (false)) rfl ?_
  refine XL.nil ?_
  refine X.ret (thenQ_ret (retEnd (L' := L) [.bool (false)] (.bool (false)) (.tmp rfl .nil) rfl rF rF (sD (sD sR)) ?_))
  exact ⟨(vB (decide_eq_false (by intro e; simp_all))), rfl, rfl⟩
 refine X.skip (X.seq (X.seq (X.region ?_)))
 refine cX (XOp.fieldP (b := b1) (1) runUnderlying77 rfl sizeOf2 (by decide) rfl rfl ?_)
 refine cX (XOp.load1 (v := .int .i64 (j)) isAgg2 rfl (Rd.own [_] rfl rfl) ?_)
 refine cX (XOp.fieldP (b := b2) (1) runUnderlying77 rfl sizeOf2 (by decide) rfl rfl ?_)
 refine cX (XOp.load1 (v := .int .i64 (q)) isAgg2 rfl (Rd.own [] rfl rfl) ?_)
 refine cX (XOp.neq (a := j) (b := q) rfl rfl ?_)
 refine XL.nil ?_
 refine X.condD (p := (j : Int) ≠ q) rfl (fun h2 => ?_) (fun h2 => ?_)
 ·refine X.seq (X.region ?_)
  refine XL.as (.bool (false)) rfl ?_
  refine XL.nil ?_
  refine X.ret (thenQ_ret (retEnd (L' := L) [.bool (false)] (.bool (false)) (.tmp rfl .nil) rfl rF rF (sD (sD sR)) ?_))
  exact ⟨(vB (decide_eq_false (by intro e; simp_all))), rfl, rfl⟩
 refine X.skip (X.seq (X.seq (X.region ?_)))
 refine cX (XOp.fieldP (b := b1) (2) runUnderlying77 rfl sizeOf22 (by decide) rfl rfl ?_)
 refine cX (XOp.load1 (v := av) isAgg22 rfl (Rd.own [_] rfl rfl) ?_)
 refine cX (XOp.fieldP (b := b2) (2) runUnderlying77 rfl sizeOf22 (by decide) rfl rfl ?_)
 refine cX (XOp.load1 (v := bv) isAgg22 rfl (Rd.own [] rfl rfl) ?_)
 refine cX (XOp.call (args := [av, bv]) call16 rfl (eqInt64S_spec ha hb (hbd := (by first | assumption | rfl | omega | (left; simp; done) | (right; simp; done)))) ?_)
 rintro _ _ _ _ ⟨rfl, rfl, rfl⟩
 refine cX (XOp.notD (p := a = b) rfl ?_)
 refine XL.nil ?_
 refine X.condD (p := ¬(a = b)) rfl (fun h3 => ?_) (fun h3 => ?_)
 ·refine X.seq (X.region ?_)
  refine XL.as (.bool (false)) rfl ?_
  refine XL.nil ?_
  refine X.ret (thenQ_ret (retEnd (L' := L) [.bool (false)] (.bool (false)) (.tmp rfl .nil) rfl rF rF (sD (sD sR)) ?_))
  exact ⟨(vB (decide_eq_false (by intro e; simp_all))), rfl, rfl⟩
 refine X.skip (X.seq (X.region ?_))
 refine XL.as (.bool (true)) rfl ?_
 refine XL.nil ?_
 refine X.ret (retEnd (L' := L) [.bool (true)] (.bool (true)) (.tmp rfl .nil) rfl rF rF (sD (sD sR)) ?_)
 exact ⟨(vB (decide_eq_true (by simp_all))), rfl, rfl⟩

/- laws.eqStepS -/
theorem eqStepS_spec {F : FH} {L : List HP} {av : Value} {a : List StepT} (ha : StepsF F av a) {bv : Value} {b : List StepT} (hb : StepsF F bv b) (hal : a.length ≤ 9223372036854775807) (hbd : ∀ i, i < a.length → (a.getD i (0, 0, [])).2.2.length ≤ 9223372036854775807) :
    Does prog 58 [av, bv] F (L) (fun v F' L' => (.bool (decide (a = b)) : Value) = v ∧ F = F' ∧ L = L') := by
 refine Does.of_X func58 rfl rfl rfl ?_
 refine X.seq (X.region ?_)
 refine XL.as (.bool (false)) rfl ?_
 refine XL.nil (X.seq (X.seq (X.region ?_)))
 refine XL.mv (av) rfl ?_
 refine cX (XOp.lenS (v := av) (n := (a).length) runUnderlying39 rfl ha.slv ?_)
 refine XL.mv (bv) rfl ?_
 refine cX (XOp.lenS (v := bv) (n := (b).length) runUnderlying39 rfl hb.slv ?_)
 refine cX (XOp.neq (a := (a.length : Int)) (b := (b.length : Int)) rfl rfl ?_)
 refine XL.nil ?_
 refine X.condD (p := ((a.length : Int) : Int) ≠ (b.length : Int)) rfl (fun h1 => ?_) (fun h1 => ?_)
 ·refine X.seq (X.region ?_)
  refine XL.as (.bool (false)) rfl ?_
  refine XL.nil ?_
  refine X.ret (thenQ_ret (retEnd (L' := L) [.bool (false)] (.bool (false)) (.tmp rfl .nil) rfl rF rF sR ?_))
  exact ⟨(vB (decide_eq_false (fun e => by rw [e] at h1; omega))), rfl, rfl⟩
 refine X.skip (X.seq (X.seq (X.region ?_)))
 refine XL.as (.int .i64 (0)) rfl ?_
 refine XL.nil (X.block ?_)
 refine X.loop (α := Nat) (fun k => [(0, av), (1, bv), (5, .int .i64 ((k : Int)))]) (fun k => L) (fun k F' => F = F' ∧ (k ≤ a.length) ∧ (∀ i, i < k → a.getD i ((0 : Int), (0 : Int), ([] : List Int)) = b.getD i ((0 : Int), (0 : Int), ([] : List Int)))) (fun k => a.length - k) 0 ⟨rfl, rfl, rfl, trivial⟩ sR ⟨rfl, (by (try dsimp only) <;> omega), (fun i hi => absurd hi (by omega))⟩ ?_
 rintro k rE _ _ ⟨rfl, hk, hall⟩
 show X _ _ _ _ (envs [(0, av), (1, bv), (5, .int .i64 ((k : Int)))] rE) _ (L)
 have hbk := hbd k
 refine X.seq (X.seq (X.region ?_))
 refine XL.mv (.int .i64 ((k : Int))) rfl ?_
 refine XL.mv (av) rfl ?_
 refine cX (XOp.lenS (v := av) (n := (a).length) runUnderlying39 rfl ha.slv ?_)
 refine cX (XOp.lss (a := (k : Int)) (b := (a.length : Int)) rfl rfl ?_)
 refine XL.nil ?_
 refine X.condD (p := (k : Int) < (a.length : Int)) rfl (fun h2 => ?_) (fun h2 => ?_)
 ·refine X.skip (X.seq (X.block (X.seq ?_)))
  obtain ⟨a1, ha1, hr1, hr2, hr3⟩ := ha.rd (i := k) (by omega)
  obtain ⟨a2, ha2, hr4, hr5, hr6⟩ := hb.rd (i := k) (by omega)
  refine X.draw [] L 8 [[], [], [], [], [], [], [], []] [[], [], [0, 1], [2], [], [], [4, 5], [6]] (phiL [fun us v => v = av, fun us v => v = (.int .i64 ((k : Int)) : Value), fun us v => v = (.pointer (some (elemA av (k * 3))) : Value), fun us v => v = (.agg #[.int .i64 ((a.getD k (0, 0, [])).1), .int .i64 ((a.getD k (0, 0, [])).2.1), a1] : Value), fun us v => v = bv, fun us v => v = (.int .i64 ((k : Int)) : Value), fun us v => v = (.pointer (some (elemA bv (k * 3))) : Value), fun us v => v = (.agg #[.int .i64 ((b.getD k (0, 0, [])).1), .int .i64 ((b.getD k (0, 0, [])).2.1), a2] : Value)]) (ownL [fun us v => [], fun us v => [], fun us v => [], fun us v => [], fun us v => [], fun us v => [], fun us v => [], fun us v => []]) mixed rfl rfl (by kernel_rfl) ?_ ?_
  ·refine pC (fun vals R hpZ => ?_) ?_
   ·refine XG.op (XOp.move (av) rfl ?_)
    exact ⟨rfl, rfl, rfl⟩
   refine pC (fun vals R hpZ => ?_) ?_
   ·refine XG.op (XOp.move (.int .i64 ((k : Int))) rfl ?_)
    exact ⟨rfl, rfl, rfl⟩
   refine pC (fun vals R hpZ => ?_) ?_
   ·rw [eS (l := [(0, av), (1, (.int .i64 ((k : Int)) : Value))]) ⟨hpZ 0 (by decide), hpZ 1 (by decide), trivial⟩]
    refine XG.op (XOp.indexS (v := av) (i := (k : Int)) (n := (a).length) k runUnderlying39 sizeOf77 rfl rfl rfl ha.slv (by omega) rfl ?_)
    exact ⟨rfl, rfl, rfl⟩
   refine pC (fun vals R hpZ => ?_) ?_
   ·rw [eS (l := [(2, (.pointer (some (elemA av (k * 3))) : Value))]) ⟨hpZ 2 (by decide), trivial⟩]
    refine XG.op (XOp.loadN [.int .i64 ((a.getD k (0, 0, [])).1), .int .i64 ((a.getD k (0, 0, [])).2.1), a1] isAgg77 sizeOf77 rfl rfl (Rd.three (hr1 _) (hr2 _) (hr3 _)) ?_)
    exact ⟨rfl, rfl, rfl⟩
   refine pC (fun vals R hpZ => ?_) ?_
   ·refine XG.op (XOp.move (bv) rfl ?_)
    exact ⟨rfl, rfl, rfl⟩
   refine pC (fun vals R hpZ => ?_) ?_
   ·refine XG.op (XOp.move (.int .i64 ((k : Int))) rfl ?_)
    exact ⟨rfl, rfl, rfl⟩
   refine pC (fun vals R hpZ => ?_) ?_
   ·rw [eS (l := [(4, bv), (5, (.int .i64 ((k : Int)) : Value))]) ⟨hpZ 4 (by decide), hpZ 5 (by decide), trivial⟩]
    refine XG.op (XOp.indexS (v := bv) (i := (k : Int)) (n := (b).length) k runUnderlying39 sizeOf77 rfl rfl rfl hb.slv (by omega) rfl ?_)
    exact ⟨rfl, rfl, rfl⟩
   refine pC (fun vals R hpZ => ?_) ?_
   ·rw [eS (l := [(6, (.pointer (some (elemA bv (k * 3))) : Value))]) ⟨hpZ 6 (by decide), trivial⟩]
    refine XG.op (XOp.loadN [.int .i64 ((b.getD k (0, 0, [])).1), .int .i64 ((b.getD k (0, 0, [])).2.1), a2] isAgg77 sizeOf77 rfl rfl (Rd.three (hr4 _) (hr5 _) (hr6 _)) ?_)
    exact ⟨rfl, rfl, rfl⟩
   exact stepsP.nil
  intro vals hphi
  rw [eS (l := [(3, (.agg #[.int .i64 ((a.getD k (0, 0, [])).1), .int .i64 ((a.getD k (0, 0, [])).2.1), a1] : Value)), (7, (.agg #[.int .i64 ((b.getD k (0, 0, [])).1), .int .i64 ((b.getD k (0, 0, [])).2.1), a2] : Value))]) ⟨(hphi 3 (by decide)), (hphi 7 (by decide)), trivial⟩]
  show XL _ _ _ _ _ _ _ (L)
  refine cX (XOp.call (args := [.agg #[.int .i64 ((a.getD k (0, 0, [])).1), .int .i64 ((a.getD k (0, 0, [])).2.1), a1], .agg #[.int .i64 ((b.getD k (0, 0, [])).1), .int .i64 ((b.getD k (0, 0, [])).2.1), a2]]) call98 rfl (eqStep_spec ha1 ha2 (hbd := (.inl (hbk (by omega))))) ?_)
  rintro _ _ _ _ ⟨rfl, rfl, rfl⟩
  refine cX (XOp.notD (p := (((a.getD k (0, 0, [])).1), ((a.getD k (0, 0, [])).2.1), ((a.getD k (0, 0, [])).2.2)) = (((b.getD k (0, 0, [])).1), ((b.getD k (0, 0, [])).2.1), ((b.getD k (0, 0, [])).2.2))) rfl ?_)
  refine XL.nil ?_
  refine X.condD (p := ¬((((a.getD k (0, 0, [])).1), ((a.getD k (0, 0, [])).2.1), ((a.getD k (0, 0, [])).2.2)) = (((b.getD k (0, 0, [])).1), ((b.getD k (0, 0, [])).2.1), ((b.getD k (0, 0, [])).2.2)))) rfl (fun h3 => ?_) (fun h3 => ?_)
  ·refine X.seq (X.region ?_)
   refine XL.as (.bool (false)) rfl ?_
   refine XL.nil ?_
   refine X.ret (blockQ_ret (thenQ_ret (thenQ_ret (blockQ_ret (thenQ_ret (retEnd (L' := L) [.bool (false)] (.bool (false)) (.tmp rfl .nil) rfl rF rF sR ?_))))))
   exact ⟨(vB (decide_eq_false (fun e => by subst e; simp at *))), rfl, rfl⟩
  refine X.skip (X.region ?_)
  refine XL.mv (.int .i64 ((k : Int))) rfl ?_
  refine cX (XOp.addR (a := (k : Int)) (b := 1) (((k + 1 : Nat) : Int)) rfl rfl (by omega) (by omega) ?_)
  refine XL.as (.int .i64 (((k + 1 : Nat) : Int))) rfl ?_
  refine XL.nil ?_
  exact ⟨k + 1, _, FLe.refl _, rF, ⟨rfl, rfl, rfl, trivial⟩, sR, ⟨rfl, (by (try dsimp only) <;> omega), (fun i hi => (Nat.lt_or_ge i k).elim (fun h => hall i h) (fun h => by obtain rfl : i = k := (by omega); first | assumption | exact Classical.not_not.1 (by assumption)))⟩, (by omega)⟩
 refine X.exit (thenQ_exit (thenQ_exit (blockQ_exit ?_)))
 refine X.seq (X.region ?_)
 refine XL.as (.bool (true)) rfl ?_
 refine XL.nil ?_
 refine X.ret (retEnd (L' := L) [.bool (true)] (.bool (true)) (.tmp rfl .nil) rfl rF rF sR ?_)
 exact ⟨(vB (decide_eq_true (ext_any ((0 : Int), (0 : Int), ([] : List Int)) (by omega) (fun i hi => hall i (by omega))))), rfl, rfl⟩

/- laws.eqWalk -/
theorem eqWalk_spec {F : FH} {L : List HP} {fv : Value} {f : List Int} (hf : IntsF F fv f) {av : Value} {a : List StepT} (ha : StepsF F av a) {gv : Value} {g : List Int} (hg : IntsF F gv g) {bv : Value} {b : List StepT} (hb : StepsF F bv b) (hfl : f.length ≤ 9223372036854775807) (hal : a.length ≤ 9223372036854775807) (hbd : ∀ i, i < a.length → (a.getD i (0, 0, [])).2.2.length ≤ 9223372036854775807) :
    Does prog 21 [.agg #[fv, av], .agg #[gv, bv]] F (L) (fun v F' L' => (.bool (decide (f = g ∧ a = b)) : Value) = v ∧ F = F' ∧ L = L') := by
 refine Does.of_X func21 rfl rfl rfl ?_
 refine X.seq (X.region ?_)
 refine cX (XOp.box [fv, av] rfl rfl ?_)
 intro b1
 refine cX (XOp.box [gv, bv] rfl rfl ?_)
 intro b2
 refine XL.as (.bool (false)) rfl ?_
 refine XL.nil (X.seq (X.seq (X.region ?_)))
 refine cX (XOp.fieldP (b := b1) (0) runUnderlying41 rfl sizeOf22 (by decide) rfl rfl ?_)
 refine cX (XOp.load1 (v := fv) isAgg22 rfl (Rd.own [_] rfl rfl) ?_)
 refine cX (XOp.fieldP (b := b2) (0) runUnderlying41 rfl sizeOf22 (by decide) rfl rfl ?_)
 refine cX (XOp.load1 (v := gv) isAgg22 rfl (Rd.own [] rfl rfl) ?_)
 refine cX (XOp.call (args := [fv, gv]) call16 rfl (eqInt64S_spec hf hg (hbd := (.inl hfl))) ?_)
 rintro _ _ _ _ ⟨rfl, rfl, rfl⟩
 refine cX (XOp.notD (p := f = g) rfl ?_)
 refine XL.nil ?_
 refine X.condD (p := ¬(f = g)) rfl (fun h1 => ?_) (fun h1 => ?_)
 ·refine X.seq (X.region ?_)
  refine XL.as (.bool (false)) rfl ?_
  refine XL.nil ?_
  refine X.ret (thenQ_ret (retEnd (L' := L) [.bool (false)] (.bool (false)) (.tmp rfl .nil) rfl rF rF (sD (sD sR)) ?_))
  exact ⟨(vB (decide_eq_false (by intro e; simp_all))), rfl, rfl⟩
 refine X.skip (X.seq (X.seq (X.region ?_)))
 refine cX (XOp.fieldP (b := b1) (1) runUnderlying41 rfl sizeOf39 (by decide) rfl rfl ?_)
 refine cX (XOp.load1 (v := av) isAgg39 rfl (Rd.own [_] rfl rfl) ?_)
 refine cX (XOp.fieldP (b := b2) (1) runUnderlying41 rfl sizeOf39 (by decide) rfl rfl ?_)
 refine cX (XOp.load1 (v := bv) isAgg39 rfl (Rd.own [] rfl rfl) ?_)
 refine cX (XOp.call (args := [av, bv]) call58 rfl (eqStepS_spec ha hb (hal := (by first | assumption | rfl | omega | simp)) (hbd := (by first | assumption | rfl | omega | simp))) ?_)
 rintro _ _ _ _ ⟨rfl, rfl, rfl⟩
 refine cX (XOp.notD (p := a = b) rfl ?_)
 refine XL.nil ?_
 refine X.condD (p := ¬(a = b)) rfl (fun h2 => ?_) (fun h2 => ?_)
 ·refine X.seq (X.region ?_)
  refine XL.as (.bool (false)) rfl ?_
  refine XL.nil ?_
  refine X.ret (thenQ_ret (retEnd (L' := L) [.bool (false)] (.bool (false)) (.tmp rfl .nil) rfl rF rF (sD (sD sR)) ?_))
  exact ⟨(vB (decide_eq_false (by intro e; simp_all))), rfl, rfl⟩
 refine X.skip (X.seq (X.region ?_))
 refine XL.as (.bool (true)) rfl ?_
 refine XL.nil ?_
 refine X.ret (retEnd (L' := L) [.bool (true)] (.bool (true)) (.tmp rfl .nil) rfl rF rF (sD (sD sR)) ?_)
 exact ⟨(vB (decide_eq_true (by simp_all))), rfl, rfl⟩

/- laws.heldStepS -/
theorem heldStepS_spec {F : FH} {L : List HP} {xv : Value} {x : List StepT} (hx : StepsF F xv x) {z : Int} (hzb : 0 ≤ z ∧ z + ((x.flatMap flatStep).length : Int) ≤ 9000000000) (hxl : x.length ≤ 4000000) :
    Does prog 63 [xv, .int .i64 (z)] F (L) (fun v F' L' => (.int .i64 (heldF (x.flatMap flatStep) z) : Value) = v ∧ F = F' ∧ L = L') := by
 refine Does.of_X func63 rfl rfl rfl ?_
 refine X.seq (X.region ?_)
 refine XL.as (.int .i64 (0)) rfl ?_
 refine XL.nil (X.seq (X.seq (X.region ?_)))
 refine XL.as (.int .i64 (0)) rfl ?_
 refine XL.nil (X.block ?_)
 refine X.loop (α := Nat) (fun k => [(0, xv), (1, .int .i64 (heldF ((x.take k).flatMap flatStep) z)), (5, .int .i64 ((k : Int)))]) (fun k => L) (fun k F' => F = F' ∧ (k ≤ x.length) ∧ (0 ≤ heldF ((x.take k).flatMap flatStep) z)) (fun k => x.length - k) 0 ⟨rfl, (show Value.int .i64 z = .int .i64 (heldF ((x.take 0).flatMap flatStep) z) from congrArg (Value.int .i64) (by simp [heldF_nil])), rfl, trivial⟩ sR ⟨rfl, (by (try dsimp only) <;> omega), (by simp [heldF_nil]; omega)⟩ ?_
 rintro k rE _ _ ⟨rfl, hk, hnn⟩
 show X _ _ _ _ (envs [(0, xv), (1, .int .i64 (heldF ((x.take k).flatMap flatStep) z)), (5, .int .i64 ((k : Int)))] rE) _ (L)
 have hhp := heldF_pos (a := (x.take k).flatMap flatStep) (k := z) (by omega)
 have htl := fun (h : k < x.length) => flat_take_le (f := flatStep) (l := x) ((0 : Int), (0 : Int), ([] : List Int)) h
 have hnx := fun (h : k < x.length) => held_next (f := flatStep) (l := x) (k := k) ((0 : Int), (0 : Int), ([] : List Int)) hzb.1 h (by omega)
 have hsx : k < x.length → (flatStep (x.getD k (0, 0, []))).length = (x.getD k (0, 0, [])).2.2.length + 1 + 1 := fun _ => rfl
 have hun : k < x.length → heldF (flatStep (x.getD k (0, 0, []))) (heldF ((x.take k).flatMap flatStep) z) = (if (x.getD k (0, 0, [])).1 = heldF ((x.take k).flatMap flatStep) z then (if (x.getD k (0, 0, [])).2.1 = heldF ((x.take k).flatMap flatStep) z + 1 then heldF (x.getD k (0, 0, [])).2.2 (heldF ((x.take k).flatMap flatStep) z + 1 + 1) else -1) else -1) := fun _ => by rw [show flatStep (x.getD k (0, 0, [])) = (x.getD k (0, 0, [])).1 :: (x.getD k (0, 0, [])).2.1 :: (x.getD k (0, 0, [])).2.2 from rfl, heldF_cons hnn, heldF_cons (by omega)]
 refine X.seq (X.seq (X.region ?_))
 refine XL.mv (.int .i64 ((k : Int))) rfl ?_
 refine XL.mv (xv) rfl ?_
 refine cX (XOp.lenS (v := xv) (n := (x).length) runUnderlying39 rfl hx.slv ?_)
 refine cX (XOp.lss (a := (k : Int)) (b := (x.length : Int)) rfl rfl ?_)
 refine XL.nil ?_
 refine X.condD (p := (k : Int) < (x.length : Int)) rfl (fun h1 => ?_) (fun h1 => ?_)
 ·refine X.skip (X.seq (X.block (X.seq (X.seq (X.region ?_)))))
  refine XL.mv (xv) rfl ?_
  refine XL.mv (.int .i64 ((k : Int))) rfl ?_
  refine cX (XOp.indexS (v := xv) (i := (k : Int)) (n := (x).length) k runUnderlying39 sizeOf77 rfl rfl rfl hx.slv (by omega) rfl ?_)
  refine cX (XOp.fieldE (v := xv) (k * 3) runUnderlying77 rfl sizeOf2 (by decide) rfl rfl ?_)
  obtain ⟨a1, ha1, hr1, hr2, hr3⟩ := hx.rd (i := k) (by omega)
  refine cX (XOp.load1 (v := .int .i64 ((x.getD k (0, 0, [])).1)) isAgg2 rfl (hr1 _) ?_)
  refine XL.mv (.int .i64 (heldF ((x.take k).flatMap flatStep) z)) rfl ?_
  refine cX (XOp.neq (a := (x.getD k (0, 0, [])).1) (b := heldF ((x.take k).flatMap flatStep) z) rfl rfl ?_)
  refine XL.nil ?_
  refine X.condD (p := ((x.getD k (0, 0, [])).1 : Int) ≠ heldF ((x.take k).flatMap flatStep) z) rfl (fun h2 => ?_) (fun h2 => ?_)
  ·refine X.seq (X.region ?_)
   refine XL.as (.int .i64 (-1)) rfl ?_
   refine XL.nil ?_
   refine X.ret (thenQ_ret (blockQ_ret (thenQ_ret (thenQ_ret (blockQ_ret (thenQ_ret (retEnd (L' := L) [.int .i64 (-1)] (.int .i64 (-1)) (.tmp rfl .nil) rfl rF rF sR ?_)))))))
   exact ⟨(vI (by exact held_fail (k := k) ((0 : Int), (0 : Int), ([] : List Int)) hzb.1 (by omega) (by rw [hnx (by omega), hun (by omega), if_neg (by assumption)]; omega))), rfl, rfl⟩
  refine X.skip (X.seq (X.region ?_))
  refine XL.mv (.int .i64 (heldF ((x.take k).flatMap flatStep) z)) rfl ?_
  refine cX (XOp.addR (a := heldF ((x.take k).flatMap flatStep) z) (b := 1) ((heldF ((x.take k).flatMap flatStep) z) + 1) rfl rfl (by omega) (by omega) ?_)
  refine XL.as (.int .i64 ((heldF ((x.take k).flatMap flatStep) z) + 1)) rfl ?_
  refine XL.nil (X.seq (X.seq (X.region ?_)))
  refine XL.mv (xv) rfl ?_
  refine XL.mv (.int .i64 ((k : Int))) rfl ?_
  refine cX (XOp.indexS (v := xv) (i := (k : Int)) (n := (x).length) k runUnderlying39 sizeOf77 rfl rfl rfl hx.slv (by omega) rfl ?_)
  refine cX (XOp.fieldE (v := xv) (k * 3 + 1) runUnderlying77 rfl sizeOf2 (by decide) rfl rfl ?_)
  refine cX (XOp.load1 (v := .int .i64 ((x.getD k (0, 0, [])).2.1)) isAgg2 rfl (hr2 _) ?_)
  refine XL.mv (.int .i64 ((heldF ((x.take k).flatMap flatStep) z) + 1)) rfl ?_
  refine cX (XOp.neq (a := (x.getD k (0, 0, [])).2.1) (b := (heldF ((x.take k).flatMap flatStep) z) + 1) rfl rfl ?_)
  refine XL.nil ?_
  refine X.condD (p := ((x.getD k (0, 0, [])).2.1 : Int) ≠ (heldF ((x.take k).flatMap flatStep) z) + 1) rfl (fun h3 => ?_) (fun h3 => ?_)
  ·refine X.seq (X.region ?_)
   refine XL.as (.int .i64 (-1)) rfl ?_
   refine XL.nil ?_
   refine X.ret (thenQ_ret (blockQ_ret (thenQ_ret (thenQ_ret (blockQ_ret (thenQ_ret (retEnd (L' := L) [.int .i64 (-1)] (.int .i64 (-1)) (.tmp rfl .nil) rfl rF rF sR ?_)))))))
   exact ⟨(vI (by exact held_fail (k := k) ((0 : Int), (0 : Int), ([] : List Int)) hzb.1 (by omega) (by rw [hnx (by omega), hun (by omega), if_pos (by first | assumption | exact Classical.not_not.1 (by assumption)), if_neg (by assumption)]; omega))), rfl, rfl⟩
  refine X.skip (X.seq (X.region ?_))
  refine XL.mv (.int .i64 ((heldF ((x.take k).flatMap flatStep) z) + 1)) rfl ?_
  refine cX (XOp.addR (a := (heldF ((x.take k).flatMap flatStep) z) + 1) (b := 1) (((heldF ((x.take k).flatMap flatStep) z) + 1) + 1) rfl rfl (by omega) (by omega) ?_)
  refine XL.as (.int .i64 (((heldF ((x.take k).flatMap flatStep) z) + 1) + 1)) rfl ?_
  refine XL.nil (X.seq (X.region ?_))
  refine XL.mv (xv) rfl ?_
  refine XL.mv (.int .i64 ((k : Int))) rfl ?_
  refine cX (XOp.indexS (v := xv) (i := (k : Int)) (n := (x).length) k runUnderlying39 sizeOf77 rfl rfl rfl hx.slv (by omega) rfl ?_)
  refine cX (XOp.fieldE (v := xv) (k * 3 + 2) runUnderlying77 rfl sizeOf22 (by decide) rfl rfl ?_)
  refine cX (XOp.load1 (v := a1) isAgg22 rfl (hr3 _) ?_)
  refine XL.mv (.int .i64 (((heldF ((x.take k).flatMap flatStep) z) + 1) + 1)) rfl ?_
  refine cX (XOp.call (args := [a1, .int .i64 (((heldF ((x.take k).flatMap flatStep) z) + 1) + 1)]) call62 rfl (heldInt64S_spec (z := ((heldF ((x.take k).flatMap flatStep) z) + 1) + 1) ha1 (hzb := (by first | assumption | rfl | omega | simp))) ?_)
  rintro _ _ _ _ ⟨rfl, rfl, rfl⟩
  refine XL.as (.int .i64 (heldF ((x.getD k (0, 0, [])).2.2) (((heldF ((x.take k).flatMap flatStep) z) + 1) + 1))) rfl ?_
  refine XL.nil (X.seq (X.region ?_))
  refine XL.mv (.int .i64 (heldF ((x.getD k (0, 0, [])).2.2) (((heldF ((x.take k).flatMap flatStep) z) + 1) + 1))) rfl ?_
  refine cX (XOp.lss (a := heldF ((x.getD k (0, 0, [])).2.2) (((heldF ((x.take k).flatMap flatStep) z) + 1) + 1)) (b := 0) rfl rfl ?_)
  refine XL.nil ?_
  refine X.condD (p := (heldF ((x.getD k (0, 0, [])).2.2) (((heldF ((x.take k).flatMap flatStep) z) + 1) + 1) : Int) < 0) rfl (fun h4 => ?_) (fun h4 => ?_)
  ·refine X.seq (X.region ?_)
   refine XL.as (.int .i64 (-1)) rfl ?_
   refine XL.nil ?_
   refine X.ret (blockQ_ret (thenQ_ret (thenQ_ret (blockQ_ret (thenQ_ret (retEnd (L' := L) [.int .i64 (-1)] (.int .i64 (-1)) (.tmp rfl .nil) rfl rF rF sR ?_))))))
   exact ⟨(vI (by exact held_fail (k := k) ((0 : Int), (0 : Int), ([] : List Int)) hzb.1 (by omega) (by rw [hnx (by omega), hun (by omega), if_pos (by first | assumption | exact Classical.not_not.1 (by assumption)), if_pos (by first | assumption | exact Classical.not_not.1 (by assumption))]; omega))), rfl, rfl⟩
  refine X.skip (X.region ?_)
  refine XL.mv (.int .i64 ((k : Int))) rfl ?_
  refine cX (XOp.addR (a := (k : Int)) (b := 1) (((k + 1 : Nat) : Int)) rfl rfl (by omega) (by omega) ?_)
  refine XL.as (.int .i64 (((k + 1 : Nat) : Int))) rfl ?_
  refine XL.nil ?_
  exact ⟨k + 1, _, FLe.refl _, rF, ⟨rfl, (vI (by rw [hnx (by omega), hun (by omega), if_pos (by first | assumption | exact Classical.not_not.1 (by assumption)), if_pos (by first | assumption | exact Classical.not_not.1 (by assumption))])), rfl, trivial⟩, sR, ⟨rfl, (by (try dsimp only) <;> omega), (by (try dsimp only); rw [hnx (by omega), hun (by omega), if_pos (by first | assumption | exact Classical.not_not.1 (by assumption)), if_pos (by first | assumption | exact Classical.not_not.1 (by assumption))]; omega)⟩, (by omega)⟩
 refine X.exit (thenQ_exit (thenQ_exit (blockQ_exit ?_)))
 refine X.seq (X.region ?_)
 refine XL.mv (.int .i64 (heldF ((x.take k).flatMap flatStep) z)) rfl ?_
 refine XL.as (.int .i64 (heldF ((x.take k).flatMap flatStep) z)) rfl ?_
 refine XL.nil ?_
 refine X.ret (retEnd (L' := L) [.int .i64 (heldF ((x.take k).flatMap flatStep) z)] (.int .i64 (heldF ((x.take k).flatMap flatStep) z)) (.tmp rfl .nil) rfl rF rF sR ?_)
 exact ⟨(vI (by rw [List.take_of_length_le (by omega)])), rfl, rfl⟩

/- laws.heldWalk -/
theorem heldWalk_spec {F : FH} {L : List HP} {fv : Value} {f : List Int} (hf : IntsF F fv f) {xv : Value} {x : List StepT} (hx : StepsF F xv x) {z : Int} (hzb : 0 ≤ z ∧ z + ((f.length + (x.flatMap flatStep).length : Nat) : Int) ≤ 9000000000) (hxl : x.length ≤ 4000000) :
    Does prog 25 [.agg #[fv, xv], .int .i64 (z)] F (L) (fun v F' L' => (.int .i64 (heldF (f ++ x.flatMap flatStep) z) : Value) = v ∧ F = F' ∧ L = L') := by
 refine Does.of_X func25 rfl rfl rfl ?_
 have hh1 := heldF_range (xs := f) hzb.1
 refine X.seq (X.region ?_)
 refine cX (XOp.box [fv, xv] rfl rfl ?_)
 intro b1
 refine XL.as (.int .i64 (0)) rfl ?_
 refine XL.nil (X.seq (X.region ?_))
 refine cX (XOp.fieldP (b := b1) (0) runUnderlying41 rfl sizeOf22 (by decide) rfl rfl ?_)
 refine cX (XOp.load1 (v := fv) isAgg22 rfl (Rd.own [] rfl rfl) ?_)
 refine XL.mv (.int .i64 (z)) rfl ?_
 refine cX (XOp.call (args := [fv, .int .i64 (z)]) call62 rfl (heldInt64S_spec (z := z) hf (hzb := (by first | assumption | rfl | omega | simp))) ?_)
 rintro _ _ _ _ ⟨rfl, rfl, rfl⟩
 refine XL.as (.int .i64 (heldF f z)) rfl ?_
 refine XL.nil (X.seq (X.seq (X.region ?_)))
 refine XL.mv (.int .i64 (heldF f z)) rfl ?_
 refine cX (XOp.lss (a := heldF f z) (b := 0) rfl rfl ?_)
 refine XL.nil ?_
 refine X.condD (p := (heldF f z : Int) < 0) rfl (fun h1 => ?_) (fun h1 => ?_)
 ·refine X.seq (X.region ?_)
  refine XL.as (.int .i64 (-1)) rfl ?_
  refine XL.nil ?_
  refine X.ret (thenQ_ret (retEnd (L' := L) [.int .i64 (-1)] (.int .i64 (-1)) (.tmp rfl .nil) rfl rF rF (sD sR) ?_))
  exact ⟨(vI (by rw [heldF_append hzb.1, if_pos (by omega)])), rfl, rfl⟩
 refine X.skip (X.seq (X.region ?_))
 refine cX (XOp.fieldP (b := b1) (1) runUnderlying41 rfl sizeOf39 (by decide) rfl rfl ?_)
 refine cX (XOp.load1 (v := xv) isAgg39 rfl (Rd.own [] rfl rfl) ?_)
 refine XL.mv (.int .i64 (heldF f z)) rfl ?_
 refine cX (XOp.call (args := [xv, .int .i64 (heldF f z)]) call63 rfl (heldStepS_spec (z := heldF f z) hx (hzb := (by first | assumption | rfl | omega | simp)) (hxl := (by first | assumption | rfl | omega | simp))) ?_)
 rintro _ _ _ _ ⟨rfl, rfl, rfl⟩
 refine XL.as (.int .i64 (heldF (x.flatMap flatStep) (heldF f z))) rfl ?_
 refine XL.nil (X.seq (X.seq (X.region ?_)))
 refine XL.mv (.int .i64 (heldF (x.flatMap flatStep) (heldF f z))) rfl ?_
 refine cX (XOp.lss (a := heldF (x.flatMap flatStep) (heldF f z)) (b := 0) rfl rfl ?_)
 refine XL.nil ?_
 refine X.condD (p := (heldF (x.flatMap flatStep) (heldF f z) : Int) < 0) rfl (fun h2 => ?_) (fun h2 => ?_)
 ·refine X.seq (X.region ?_)
  refine XL.as (.int .i64 (-1)) rfl ?_
  refine XL.nil ?_
  refine X.ret (thenQ_ret (retEnd (L' := L) [.int .i64 (-1)] (.int .i64 (-1)) (.tmp rfl .nil) rfl rF rF (sD sR) ?_))
  exact ⟨(vI (by rw [heldF_append hzb.1, if_neg (by omega)]; have := (heldF_range (xs := x.flatMap flatStep) (k := heldF f z) (by omega)).1; omega)), rfl, rfl⟩
 refine X.skip (X.seq (X.region ?_))
 refine XL.mv (.int .i64 (heldF (x.flatMap flatStep) (heldF f z))) rfl ?_
 refine XL.as (.int .i64 (heldF (x.flatMap flatStep) (heldF f z))) rfl ?_
 refine XL.nil ?_
 refine X.ret (retEnd (L' := L) [.int .i64 (heldF (x.flatMap flatStep) (heldF f z))] (.int .i64 (heldF (x.flatMap flatStep) (heldF f z))) (.tmp rfl .nil) rfl rF rF (sD sR) ?_)
 exact ⟨(vI (by rw [heldF_append hzb.1, if_neg (by omega)])), rfl, rfl⟩

/- impl.stepArgs -/
theorem stepArgs_spec {F : FH} {L : List HP} {arv : Value} {ar : List Int} (har : IntsF F arv ar) {rsv : Value} {rs : List (List Int × List Int)} (hrs : PairsF F rsv rs) {tv : Value} {t : List Int} (ht : IntsF F tv t) {p : Int} {r : Int} :
    Does prog 118 [.agg #[arv, rsv], tv, .int .i64 (p), .int .i64 (r)] F (L) (fun v F' L' => (.bool (stepAtOk ar rs t p r) : Value) = v ∧ F = F' ∧ L = L') := by
 refine Does.of_X func118 rfl rfl rfl ?_
 refine X.seq (X.region ?_)
 refine cX (XOp.box [arv, rsv] rfl rfl ?_)
 intro b1
 refine XL.as (.bool (false)) rfl ?_
 refine XL.nil (X.seq (X.region ?_))
 refine cX (XOp.loadN [arv, rsv] isAgg33 sizeOf33 rfl rfl (Rd.ownN [] rfl rfl) ?_)
 refine cX (XOp.call (args := [.agg #[arv, rsv]]) call55 rfl (SystemOk_spec har hrs) ?_)
 rintro _ _ _ _ ⟨rfl, rfl, rfl⟩
 refine XL.mv (.bool (sysOk ar rs)) rfl ?_
 by_cases h1 : (sysOk ar rs) = true
 ·refine XL.yes (t := 11) rfl (vB h1) (XOp.fieldP (b := b1) (0) runUnderlying33 rfl sizeOf30 (by decide) rfl rfl ?_)
  refine XL.yes (t := 11) rfl (vB h1) (XOp.loadN [arv] isAgg30 sizeOf30 rfl rfl (Rd.ownN [] rfl rfl) ?_)
  refine XL.yes (t := 11) rfl (vB h1) (XOp.move (tv) rfl ?_)
  refine XL.yes (t := 11) rfl (vB h1) (XOp.move (.int .i64 (p)) rfl ?_)
  refine XL.yes (t := 11) rfl (vB h1) (XOp.call (args := [.agg #[arv], tv, .int .i64 (p)]) call140 rfl (posOk_spec (n := p) har ht) ?_)
  rintro _ _ _ _ ⟨rfl, rfl, rfl⟩
  refine cX (XOp.pickT (.bool (posOk ar t p)) (vB h1) rfl ?_)
  refine XL.mv (.bool (posOk ar t p)) rfl ?_
  by_cases h2 : (posOk ar t p) = true
  ·refine XL.yes (t := 18) rfl (vB h2) (XOp.move (.int .i64 (r)) rfl ?_)
   refine XL.yes (t := 18) rfl (vB h2) (XOp.geq (a := r) (b := 0) rfl rfl ?_)
   refine cX (XOp.pickT (.bool (decide ((r : Int) ≥ 0))) (vB h2) rfl ?_)
   refine XL.mv (.bool (decide ((r : Int) ≥ 0))) rfl ?_
   by_cases h3 : (r : Int) ≥ 0
   ·refine XL.yes (t := 22) rfl (vT h3) (XOp.move (.int .i64 (r)) rfl ?_)
    refine XL.yes (t := 22) rfl (vT h3) (XOp.fieldP (b := b1) (1) runUnderlying33 rfl sizeOf31 (by decide) rfl rfl ?_)
    refine XL.yes (t := 22) rfl (vT h3) (XOp.load1 (v := rsv) isAgg31 rfl (Rd.own [] rfl rfl) ?_)
    refine XL.yes (t := 22) rfl (vT h3) (XOp.lenS (v := rsv) (n := (rs).length) runUnderlying31 rfl hrs.slv ?_)
    refine XL.yes (t := 22) rfl (vT h3) (XOp.lss (a := r) (b := (rs.length : Int)) rfl rfl ?_)
    refine cX (XOp.pickT (.bool (decide ((r : Int) < (rs.length : Int)))) (vT h3) rfl ?_)
    refine XL.as (.bool (decide ((r : Int) < (rs.length : Int)))) rfl ?_
    refine XL.nil ?_
    refine X.ret (retEnd (L' := L) [.bool (decide ((r : Int) < (rs.length : Int)))] (.bool (decide ((r : Int) < (rs.length : Int)))) (.tmp rfl .nil) rfl rF rF (sD sR) ?_)
    exact ⟨(vB (by unfold stepAtOk rightB; cases hA : sysOk ar rs <;> cases hB : termOk ar t <;> simp_all [posOk] <;> omega)), rfl, rfl⟩
   refine XL.no (t := 22) rfl (vF h3) ?_
   refine XL.no (t := 22) rfl (vF h3) ?_
   refine XL.no (t := 22) rfl (vF h3) ?_
   refine XL.no (t := 22) rfl (vF h3) ?_
   refine XL.no (t := 22) rfl (vF h3) ?_
   refine cX (XOp.pickF (.bool (false)) (vF h3) rfl ?_)
   refine XL.as (.bool (false)) rfl ?_
   refine XL.nil ?_
   refine X.ret (retEnd (L' := L) [.bool (false)] (.bool (false)) (.tmp rfl .nil) rfl rF rF (sD sR) ?_)
   exact ⟨(vB (by unfold stepAtOk rightB; cases hA : sysOk ar rs <;> cases hB : termOk ar t <;> simp_all [posOk] <;> omega)), rfl, rfl⟩
  rw [Bool.not_eq_true] at h2
  refine XL.no (t := 18) rfl (vB h2) ?_
  refine XL.no (t := 18) rfl (vB h2) ?_
  refine cX (XOp.pickF (.bool (false)) (vB h2) rfl ?_)
  refine XL.mv (.bool (false)) rfl ?_
  refine XL.no (t := 22) rfl rfl ?_
  refine XL.no (t := 22) rfl rfl ?_
  refine XL.no (t := 22) rfl rfl ?_
  refine XL.no (t := 22) rfl rfl ?_
  refine XL.no (t := 22) rfl rfl ?_
  refine cX (XOp.pickF (.bool (false)) rfl rfl ?_)
  refine XL.as (.bool (false)) rfl ?_
  refine XL.nil ?_
  refine X.ret (retEnd (L' := L) [.bool (false)] (.bool (false)) (.tmp rfl .nil) rfl rF rF (sD sR) ?_)
  exact ⟨(vB (by unfold stepAtOk rightB; cases hA : sysOk ar rs <;> cases hB : termOk ar t <;> simp_all [posOk] <;> omega)), rfl, rfl⟩
 rw [Bool.not_eq_true] at h1
 refine XL.no (t := 11) rfl (vB h1) ?_
 refine XL.no (t := 11) rfl (vB h1) ?_
 refine XL.no (t := 11) rfl (vB h1) ?_
 refine XL.no (t := 11) rfl (vB h1) ?_
 refine XL.no (t := 11) rfl (vB h1) ?_
 refine cX (XOp.pickF (.bool (false)) (vB h1) rfl ?_)
 refine XL.mv (.bool (false)) rfl ?_
 refine XL.no (t := 18) rfl rfl ?_
 refine XL.no (t := 18) rfl rfl ?_
 refine cX (XOp.pickF (.bool (false)) rfl rfl ?_)
 refine XL.mv (.bool (false)) rfl ?_
 refine XL.no (t := 22) rfl rfl ?_
 refine XL.no (t := 22) rfl rfl ?_
 refine XL.no (t := 22) rfl rfl ?_
 refine XL.no (t := 22) rfl rfl ?_
 refine XL.no (t := 22) rfl rfl ?_
 refine cX (XOp.pickF (.bool (false)) rfl rfl ?_)
 refine XL.as (.bool (false)) rfl ?_
 refine XL.nil ?_
 refine X.ret (retEnd (L' := L) [.bool (false)] (.bool (false)) (.tmp rfl .nil) rfl rF rF (sD sR) ?_)
 exact ⟨(vB (by unfold stepAtOk rightB; cases hA : sysOk ar rs <;> cases hB : termOk ar t <;> simp_all [posOk] <;> omega)), rfl, rfl⟩

/- impl.StepAt -/
theorem StepAt_spec {F : FH} {L : List HP} {arv : Value} {ar : List Int} (har : IntsF F arv ar) {rsv : Value} {rs : List (List Int × List Int)} (hrs : PairsF F rsv rs) {tv : Value} {t : List Int} (ht : IntsF F tv t) {p : Int} {r : Int} :
    Does prog 96 [.agg #[arv, rsv], tv, .int .i64 (p), .int .i64 (r)] F (L) (fun v F' L' => ∃ (a : Value), (.tuple #[a, .bool ((stepAtL ar rs t p r).isSome)] : Value) = v ∧ (IntsF F' a ((stepAtL ar rs t p r).getD [])) ∧ (Fresh F F' (intsH 2 a ((stepAtL ar rs t p r).getD []))) ∧ L = L') := by
 refine Does.of_X func96 rfl rfl rfl ?_
 refine X.seq (X.region ?_)
 refine cX (XOp.box [arv, rsv] rfl rfl ?_)
 intro b1
 refine XL.as ((.slice none 0 0)) rfl ?_
 refine XL.as (.bool (false)) rfl ?_
 refine XL.nil (X.seq (X.seq (X.region ?_)))
 refine cX (XOp.loadN [arv, rsv] isAgg33 sizeOf33 rfl rfl (Rd.ownN [] rfl rfl) ?_)
 refine XL.mv (tv) rfl ?_
 refine XL.mv (.int .i64 (p)) rfl ?_
 refine XL.mv (.int .i64 (r)) rfl ?_
 refine cX (XOp.call (args := [.agg #[arv, rsv], tv, .int .i64 (p), .int .i64 (r)]) call118 rfl (stepArgs_spec (p := p) (r := r) har hrs ht) ?_)
 rintro _ _ _ _ ⟨rfl, rfl, rfl⟩
 refine cX (XOp.notB (b := stepAtOk ar rs t p r) rfl ?_)
 refine XL.nil ?_
 refine X.cond (t := !(stepAtOk ar rs t p r)) rfl (fun h1 => ?_) (fun h1 => ?_)
 ·have hz0 : stepAtL ar rs t p r = none := by rw [stepAtL, if_neg (by simpa using h1)]
  refine X.seq (X.region ?_)
  refine XL.as ((.slice none 0 0)) rfl ?_
  refine XL.as (.bool (false)) rfl ?_
  refine XL.nil ?_
  refine X.ret (thenQ_ret (retEnd (L' := L) [(.slice none 0 0), .bool (false)] (.tuple #[(.slice none 0 0), .bool (false)]) (.tmp rfl (.tmp rfl .nil)) rfl rF rF (sD sR) ?_))
  exact ⟨_, by rw [hz0]; rfl, by rw [hz0]; exact IntsF.nilV, by rw [hz0]; exact Fresh.ofNil _, rfl⟩
 have hok : stepAtOk ar rs t p r = true := by simpa using h1
 have hok2 := hok
 unfold stepAtOk rightB at hok2
 simp only [Bool.and_eq_true, decide_eq_true_eq] at hok2
 obtain ⟨⟨⟨hsys, ho⟩, hp1⟩, hr1⟩ := hok2
 refine X.skip (X.seq (X.region ?_))
 refine cX (XOp.loadN [arv, rsv] isAgg33 sizeOf33 rfl rfl (Rd.ownN [] rfl rfl) ?_)
 refine XL.mv (tv) rfl ?_
 refine XL.mv (.int .i64 (p)) rfl ?_
 refine XL.mv (.int .i64 (r)) rfl ?_
 refine cX (XOp.call (args := [.agg #[arv, rsv], tv, .int .i64 (((p).toNat : Nat) : Int), .int .i64 (((r).toNat : Nat) : Int)]) call119 (by rw [show (((p).toNat : Nat) : Int) = p from by omega, show (((r).toNat : Nat) : Int) = r from by omega]; rfl) (step_spec (p := (p).toNat) (r := (r).toNat) har hrs ht (hsys := (by first | assumption | rfl | omega | simp)) (ho := (by first | assumption | rfl | omega | simp)) (hp := (by first | assumption | rfl | omega | simp)) (hr := (by first | assumption | rfl | omega | simp))) ?_)
 rintro _ F1 _ le1 ⟨x1, rfl, hr1, hr2, hr3, rfl⟩
 refine cX (XOp.extract (x1) rfl rfl ?_)
 refine cX (XOp.extract (.bool ((stepL ar rs t ((p).toNat) ((r).toNat)).isSome)) rfl rfl ?_)
 refine XL.as (x1) rfl ?_
 refine XL.as (.bool ((stepL ar rs t ((p).toNat) ((r).toNat)).isSome)) rfl ?_
 refine XL.nil ?_
 refine X.ret (retEnd (L' := L) [x1, .bool ((stepL ar rs t ((p).toNat) ((r).toNat)).isSome)] (.tuple #[x1, .bool ((stepL ar rs t ((p).toNat) ((r).toNat)).isSome)]) (.tmp rfl (.tmp rfl .nil)) rfl le1 rF (sD sR) ?_)
 have e := show stepAtL ar rs t p r = stepL ar rs t p.toNat r.toNat from by rw [stepAtL, if_pos hok]
 exact ⟨_, by rw [e], by rw [e]; exact hr1, by rw [e]; exact hr3, rfl⟩
end Go.Proofs.Ytiaanelimbmniaa
set_option linter.unusedSimpArgs false
set_option linter.unusedVariables false
namespace Go.Proofs.Ytiaanelimbmniaa
open Go X M Try

/- (impl.Walk).end -/
theorem walkEnd_spec {F : FH} {L : List HP} {fv : Value} {f : List Int} (hf : IntsF F fv f) {ssv : Value} {ss : List StepT} (hss : StepsF F ssv ss) (hlss : ss.length ≤ 4000000) :
    Does prog 97 [.agg #[fv, ssv]] F (L) (fun v F' L' => F = F' ∧ ∃ (a : Value), (a : Value) = v ∧ (IntsF F' a (endL f ss)) ∧ L = L') := by
 refine Does.of_X func97 rfl rfl rfl ?_
 refine X.seq (X.region ?_)
 refine cX (XOp.box [fv, ssv] rfl rfl ?_)
 intro b1
 refine XL.as ((.slice none 0 0)) rfl ?_
 refine XL.nil (X.seq (X.seq (X.region ?_)))
 refine cX (XOp.fieldP (b := b1) (1) runUnderlying41 rfl sizeOf39 (by decide) rfl rfl ?_)
 refine cX (XOp.load1 (v := ssv) isAgg39 rfl (Rd.own [] rfl rfl) ?_)
 refine cX (XOp.lenS (v := ssv) (n := (ss).length) runUnderlying39 rfl hss.slv ?_)
 refine XL.as (.int .i64 ((ss.length : Int))) rfl ?_
 refine XL.nil (X.seq (X.region ?_))
 refine XL.mv (.int .i64 ((ss.length : Int))) rfl ?_
 refine cX (XOp.gtr (a := (ss.length : Int)) (b := 0) rfl rfl ?_)
 refine XL.nil ?_
 refine X.condD (p := ((ss.length : Int) : Int) > 0) rfl (fun h1 => ?_) (fun h1 => ?_)
 ·refine X.seq (X.region ?_)
  refine cX (XOp.fieldP (b := b1) (1) runUnderlying41 rfl sizeOf39 (by decide) rfl rfl ?_)
  refine cX (XOp.load1 (v := ssv) isAgg39 rfl (Rd.own [] rfl rfl) ?_)
  refine XL.mv (.int .i64 ((ss.length : Int))) rfl ?_
  refine cX (XOp.subR (a := (ss.length : Int)) (b := 1) (((((ss).length) - 1 : Nat) : Int)) rfl rfl (by omega) (by omega) ?_)
  refine cX (XOp.indexS (v := ssv) (i := ((((ss).length) - 1 : Nat) : Int)) (n := (ss).length) (((ss).length) - 1) runUnderlying39 sizeOf77 rfl rfl rfl hss.slv (by omega) rfl ?_)
  refine cX (XOp.fieldE (v := ssv) ((((ss).length) - 1) * 3 + 2) runUnderlying77 rfl sizeOf22 (by decide) rfl rfl ?_)
  obtain ⟨a1, ha1, hr1, hr2, hr3⟩ := hss.rd (i := ((ss).length) - 1) (by omega)
  refine cX (XOp.load1 (v := a1) isAgg22 rfl (hr3 _) ?_)
  refine XL.as (a1) rfl ?_
  refine XL.nil ?_
  refine X.ret (thenQ_ret (retEnd (L' := L) [a1] (a1) (.tmp rfl .nil) rfl rF rF (sD sR) ?_))
  exact ⟨rfl, _, rfl, by rw [endL, if_neg (by omega)]; exact ha1, rfl⟩
 refine X.skip (X.seq (X.region ?_))
 refine cX (XOp.fieldP (b := b1) (0) runUnderlying41 rfl sizeOf22 (by decide) rfl rfl ?_)
 refine cX (XOp.load1 (v := fv) isAgg22 rfl (Rd.own [] rfl rfl) ?_)
 refine XL.as (fv) rfl ?_
 refine XL.nil ?_
 refine X.ret (retEnd (L' := L) [fv] (fv) (.tmp rfl .nil) rfl rF rF (sD sR) ?_)
 exact ⟨rfl, _, rfl, by rw [endL, if_pos (by omega)]; exact hf, rfl⟩

/- spec.StepAt -/
theorem sStepAt_spec {F : FH} {L : List HP} {arv : Value} {ar : List Int} (har : IntsF F arv ar) {rsv : Value} {rs : List (List Int × List Int)} (hrs : PairsF F rsv rs) {tv : Value} {t : List Int} (ht : IntsF F tv t) {p : Int} {r : Int} (hla : ar.length ≤ 4000000) (hlr : rs.length ≤ 4000000) (hrb : ∀ i, i < rs.length → (rs.getD i ([], [])).1.length ≤ 4000000 ∧ (rs.getD i ([], [])).2.length ≤ 4000000) (hlt : t.length ≤ 4000000) :
    Does prog 54 [.agg #[arv, rsv], tv, .int .i64 (p), .int .i64 (r)] F (L) (fun v F' L' => ∃ (a : Value), (.tuple #[a, .bool ((stepAtL ar rs t p r).isSome)] : Value) = v ∧ (IntsF F' a ((stepAtL ar rs t p r).getD [])) ∧ L = L') := by
 refine Does.of_X func54 rfl rfl rfl ?_
 refine X.seq (X.region ?_)
 refine cX (XOp.box [arv, rsv] rfl rfl ?_)
 intro b1
 refine XL.as ((.slice none 0 0)) rfl ?_
 refine XL.as (.bool (false)) rfl ?_
 refine XL.nil (X.seq (X.seq (X.region ?_)))
 refine cX (XOp.loadN [arv, rsv] isAgg33 sizeOf33 rfl rfl (Rd.ownN [] rfl rfl) ?_)
 refine XL.mv (tv) rfl ?_
 refine cX (XOp.call (args := [.agg #[arv, rsv], tv]) call53 rfl (l7Right_spec har hrs ht (hla := (by first | assumption | rfl | omega | simp)) (hlr := (by first | assumption | rfl | omega | simp)) (hrb := (by first | assumption | rfl | omega | simp)) (hlt := (by first | assumption | rfl | omega | simp))) ?_)
 rintro _ _ _ _ ⟨rfl, rfl, rfl⟩
 refine cX (XOp.notB (b := rightB ar rs t) rfl ?_)
 refine XL.mv (.bool (!(rightB ar rs t))) rfl ?_
 by_cases h1 : (!(rightB ar rs t)) = true
 ·refine XL.no (t := 14) rfl (vB h1) ?_
  refine XL.no (t := 14) rfl (vB h1) ?_
  refine XL.no (t := 14) rfl (vB h1) ?_
  refine XL.no (t := 14) rfl (vB h1) ?_
  refine cX (XOp.pickT (.bool (true)) (vB h1) rfl ?_)
  refine XL.mv (.bool (true)) rfl ?_
  refine XL.no (t := 20) rfl rfl ?_
  refine XL.no (t := 20) rfl rfl ?_
  refine XL.no (t := 20) rfl rfl ?_
  refine XL.no (t := 20) rfl rfl ?_
  refine XL.no (t := 20) rfl rfl ?_
  refine XL.no (t := 20) rfl rfl ?_
  refine XL.no (t := 20) rfl rfl ?_
  refine cX (XOp.pickT (.bool (true)) rfl rfl ?_)
  refine XL.nil ?_
  refine X.condT rfl ?_
  refine X.seq (X.region ?_)
  refine cX (XOp.buildSlice (s := 1) [] [.int .i64 (0)] [] runUnderlying22 sizeOf2 zeroValue2 rfl (by decide) rfl CellsAre.nil rfl ?_)
  intro v1 hv1
  refine XL.as (v1) rfl ?_
  refine XL.as (.bool (false)) rfl ?_
  refine XL.nil ?_
  show X _ _ _ _ _ _ (intsH 2 v1 ([] : List Int) :: cellsH b1 [arv, rsv] 33 :: L)
  refine X.freezeF [] _ _ rfl (fun F1 le1 hz1 => ?_)
  replace har := har.mono le1
  replace hrs := hrs.mono le1
  replace ht := ht.mono le1
  have hf1 : IntsF F1 v1 ([]) := intsH.fz (xs := []) hz1.fz
  refine X.ret (thenQ_ret (retEnd (L' := L) [v1, .bool (false)] (.tuple #[v1, .bool (false)]) (.tmp rfl (.tmp rfl .nil)) rfl le1 rF (sD sR) ?_))
  have hz0 : stepAtL ar rs t p r = none := by rw [stepAtL, if_neg (by unfold stepAtOk; cases hA : rightB ar rs t <;> simp_all <;> omega)]
  exact ⟨_, by rw [hz0]; rfl, by rw [hz0]; exact hf1, rfl⟩
 rw [Bool.not_eq_true] at h1
 refine XL.yes (t := 14) rfl (vB h1) (XOp.move (tv) rfl ?_)
 refine XL.yes (t := 14) rfl (vB h1) (XOp.move (.int .i64 (p)) rfl ?_)
 refine XL.yes (t := 14) rfl (vB h1) (XOp.call (args := [tv, .int .i64 (p)]) call88 rfl (l1There_spec (n := p) ht (hbd := (by first | assumption | rfl | omega | simp))) ?_)
 rintro _ _ _ _ ⟨rfl, rfl, rfl⟩
 refine XL.yes (t := 14) rfl (vB h1) (XOp.notD (p := 0 ≤ p ∧ p < (t.length : Int)) rfl ?_)
 refine cX (XOp.pickF (.bool (decide (¬(0 ≤ p ∧ p < (t.length : Int))))) (vB h1) rfl ?_)
 refine XL.mv (.bool (decide (¬(0 ≤ p ∧ p < (t.length : Int))))) rfl ?_
 by_cases h2 : ¬(0 ≤ p ∧ p < (t.length : Int))
 ·refine XL.no (t := 20) rfl (vT h2) ?_
  refine XL.no (t := 20) rfl (vT h2) ?_
  refine XL.no (t := 20) rfl (vT h2) ?_
  refine XL.no (t := 20) rfl (vT h2) ?_
  refine XL.no (t := 20) rfl (vT h2) ?_
  refine XL.no (t := 20) rfl (vT h2) ?_
  refine XL.no (t := 20) rfl (vT h2) ?_
  refine cX (XOp.pickT (.bool (true)) (vT h2) rfl ?_)
  refine XL.nil ?_
  refine X.condT rfl ?_
  refine X.seq (X.region ?_)
  refine cX (XOp.buildSlice (s := 1) [] [.int .i64 (0)] [] runUnderlying22 sizeOf2 zeroValue2 rfl (by decide) rfl CellsAre.nil rfl ?_)
  intro v2 hv2
  refine XL.as (v2) rfl ?_
  refine XL.as (.bool (false)) rfl ?_
  refine XL.nil ?_
  show X _ _ _ _ _ _ (intsH 2 v2 ([] : List Int) :: cellsH b1 [arv, rsv] 33 :: L)
  refine X.freezeF [] _ _ rfl (fun F2 le2 hz2 => ?_)
  replace har := har.mono le2
  replace hrs := hrs.mono le2
  replace ht := ht.mono le2
  have hf2 : IntsF F2 v2 ([]) := intsH.fz (xs := []) hz2.fz
  refine X.ret (thenQ_ret (retEnd (L' := L) [v2, .bool (false)] (.tuple #[v2, .bool (false)]) (.tmp rfl (.tmp rfl .nil)) rfl le2 rF (sD sR) ?_))
  have hz0 : stepAtL ar rs t p r = none := by rw [stepAtL, if_neg (by unfold stepAtOk; cases hA : rightB ar rs t <;> simp_all <;> omega)]
  exact ⟨_, by rw [hz0]; rfl, by rw [hz0]; exact hf2, rfl⟩
 refine XL.yes (t := 20) rfl (vF h2) (XOp.move (.int .i64 (r)) rfl ?_)
 refine XL.yes (t := 20) rfl (vF h2) (XOp.fieldP (b := b1) (1) runUnderlying33 rfl sizeOf31 (by decide) rfl rfl ?_)
 refine XL.yes (t := 20) rfl (vF h2) (XOp.load1 (v := rsv) isAgg31 rfl (Rd.own [] rfl rfl) ?_)
 refine XL.yes (t := 20) rfl (vF h2) (XOp.lenS (v := rsv) (n := (rs).length) runUnderlying31 rfl hrs.slv ?_)
 refine XL.yes (t := 20) rfl (vF h2) (XOp.subR (a := (rs.length : Int)) (b := 1) (((rs.length : Int)) - 1) rfl rfl (by omega) (by omega) ?_)
 refine XL.yes (t := 20) rfl (vF h2) (XOp.call (args := [.int .i64 (r), .int .i64 (0), .int .i64 (((rs.length : Int)) - 1)]) call81 rfl (l1In_spec (n := r) (a := 0) (b := ((rs.length : Int)) - 1)) ?_)
 rintro _ _ _ _ ⟨rfl, rfl, rfl⟩
 refine XL.yes (t := 20) rfl (vF h2) (XOp.notD (p := 0 ≤ r ∧ r ≤ (((rs.length : Int)) - 1)) rfl ?_)
 refine cX (XOp.pickF (.bool (decide (¬(0 ≤ r ∧ r ≤ (((rs.length : Int)) - 1))))) (vF h2) rfl ?_)
 refine XL.nil ?_
 refine X.condD (p := ¬(0 ≤ r ∧ r ≤ (((rs.length : Int)) - 1))) rfl (fun h3 => ?_) (fun h3 => ?_)
 ·refine X.seq (X.region ?_)
  refine cX (XOp.buildSlice (s := 1) [] [.int .i64 (0)] [] runUnderlying22 sizeOf2 zeroValue2 rfl (by decide) rfl CellsAre.nil rfl ?_)
  intro v3 hv3
  refine XL.as (v3) rfl ?_
  refine XL.as (.bool (false)) rfl ?_
  refine XL.nil ?_
  show X _ _ _ _ _ _ (intsH 2 v3 ([] : List Int) :: cellsH b1 [arv, rsv] 33 :: L)
  refine X.freezeF [] _ _ rfl (fun F3 le3 hz3 => ?_)
  replace har := har.mono le3
  replace hrs := hrs.mono le3
  replace ht := ht.mono le3
  have hf3 : IntsF F3 v3 ([]) := intsH.fz (xs := []) hz3.fz
  refine X.ret (thenQ_ret (retEnd (L' := L) [v3, .bool (false)] (.tuple #[v3, .bool (false)]) (.tmp rfl (.tmp rfl .nil)) rfl le3 rF (sD sR) ?_))
  have hz0 : stepAtL ar rs t p r = none := by rw [stepAtL, if_neg (by unfold stepAtOk; cases hA : rightB ar rs t <;> simp_all <;> omega)]
  exact ⟨_, by rw [hz0]; rfl, by rw [hz0]; exact hf3, rfl⟩
 refine X.skip (X.seq (X.region ?_))
 have hok : stepAtOk ar rs t p r = true := by unfold stepAtOk; cases hA : rightB ar rs t <;> simp_all <;> omega
 have hok2 := hok
 unfold stepAtOk rightB at hok2
 simp only [Bool.and_eq_true, decide_eq_true_eq] at hok2
 obtain ⟨⟨⟨hsys, ho⟩, hp1⟩, hr1⟩ := hok2
 refine cX (XOp.loadN [arv, rsv] isAgg33 sizeOf33 rfl rfl (Rd.ownN [] rfl rfl) ?_)
 refine XL.mv (tv) rfl ?_
 refine XL.mv (.int .i64 (p)) rfl ?_
 refine XL.mv (.int .i64 (r)) rfl ?_
 refine cX (XOp.call (args := [.agg #[arv, rsv], tv, .int .i64 (((p).toNat : Nat) : Int), .int .i64 (((r).toNat : Nat) : Int)]) call89 (by rw [show (((p).toNat : Nat) : Int) = p from by omega, show (((r).toNat : Nat) : Int) = r from by omega]; rfl) (l7Step_spec (p := (p).toNat) (r := (r).toNat) har hrs ht (hsys := (by first | assumption | rfl | omega | simp)) (ho := (by first | assumption | rfl | omega | simp)) (hp := (by first | assumption | rfl | omega | simp)) (hr := (by first | assumption | rfl | omega | simp))) ?_)
 rintro _ F4 _ le4 ⟨x1, rfl, hr1, rfl⟩
 refine cX (XOp.extract (x1) rfl rfl ?_)
 refine cX (XOp.extract (.bool ((stepL ar rs t ((p).toNat) ((r).toNat)).isSome)) rfl rfl ?_)
 refine XL.as (x1) rfl ?_
 refine XL.as (.bool ((stepL ar rs t ((p).toNat) ((r).toNat)).isSome)) rfl ?_
 refine XL.nil ?_
 refine X.ret (retEnd (L' := L) [x1, .bool ((stepL ar rs t ((p).toNat) ((r).toNat)).isSome)] (.tuple #[x1, .bool ((stepL ar rs t ((p).toNat) ((r).toNat)).isSome)]) (.tmp rfl (.tmp rfl .nil)) rfl le4 rF (sD sR) ?_)
 have e := show stepAtL ar rs t p r = stepL ar rs t p.toNat r.toNat from by rw [stepAtL, if_pos hok]
 exact ⟨_, by rw [e], by rw [e]; exact hr1, rfl⟩
end Go.Proofs.Ytiaanelimbmniaa
set_option linter.unusedSimpArgs false
set_option linter.unusedVariables false
namespace Go.Proofs.Ytiaanelimbmniaa
open Go X M Try
end Go.Proofs.Ytiaanelimbmniaa
set_option linter.unusedSimpArgs false
set_option linter.unusedVariables false
namespace Go.Proofs.Ytiaanelimbmniaa
open Go X M Try
end Go.Proofs.Ytiaanelimbmniaa
set_option linter.unusedSimpArgs false
set_option linter.unusedVariables false
namespace Go.Proofs.Ytiaanelimbmniaa
open Go X M Try
end Go.Proofs.Ytiaanelimbmniaa
set_option linter.unusedSimpArgs false
set_option linter.unusedVariables false
namespace Go.Proofs.Ytiaanelimbmniaa
open Go X M Try
end Go.Proofs.Ytiaanelimbmniaa
set_option linter.unusedSimpArgs false
set_option linter.unusedVariables false
namespace Go.Proofs.Ytiaanelimbmniaa
open Go X M Try
end Go.Proofs.Ytiaanelimbmniaa
set_option linter.unusedSimpArgs false
set_option linter.unusedVariables false
namespace Go.Proofs.Ytiaanelimbmniaa
open Go X M Try
end Go.Proofs.Ytiaanelimbmniaa
set_option linter.unusedSimpArgs false
set_option linter.unusedVariables false
namespace Go.Proofs.Ytiaanelimbmniaa
open Go X M Try
end Go.Proofs.Ytiaanelimbmniaa
set_option linter.unusedSimpArgs false
set_option linter.unusedVariables false
namespace Go.Proofs.Ytiaanelimbmniaa
open Go X M Try

/- (impl.Walk).end -/
theorem walkEndO_spec {F : FH} {L : List HP} {fv sv : Value} {f : List Int} {ss : List StepT} {cs : List Value} {m : Nat} (hf : IntsF F fv f) (hsv : IsSl sv) (hC : StepsC F cs ss) (hm : m = ss.length) (hlss : ss.length ≤ 4000000) :
    Does prog 97 [.agg #[fv, sv]] F (slH 77 3 sv m cs :: L) (fun v F' L' => (F = F' ∧ ∃ a : Value, a = v ∧ IntsF F a (endL f ss)) ∧ slH 77 3 sv m cs :: L = L') := by
 refine Does.of_X func97 rfl rfl rfl ?_
 refine X.seq (X.region ?_)
 refine cX (XOp.box [fv, sv] rfl rfl ?_)
 intro b1
 refine XL.as ((.slice none 0 0)) rfl ?_
 refine XL.nil (X.seq (X.seq (X.region ?_)))
 refine cX (XOp.fieldP (b := b1) (1) runUnderlying41 rfl sizeOf39 (by decide) rfl rfl ?_)
 refine cX (XOp.load1 (v := sv) isAgg39 rfl (Rd.own [] rfl rfl) ?_)
 refine cX (XOp.lenS (v := sv) (n := m) runUnderlying39 rfl (SlV.own [_] rfl) ?_)
 refine XL.as (.int .i64 ((m : Int))) rfl ?_
 refine XL.nil (X.seq (X.region ?_))
 refine XL.mv (.int .i64 ((m : Int))) rfl ?_
 refine cX (XOp.gtr (a := (m : Int)) (b := 0) rfl rfl ?_)
 refine XL.nil ?_
 refine X.condD (p := (m : Int) > 0) rfl (fun h1 => ?_) (fun h1 => ?_)
 ·refine X.seq (X.region ?_)
  refine cX (XOp.fieldP (b := b1) (1) runUnderlying41 rfl sizeOf39 (by decide) rfl rfl ?_)
  refine cX (XOp.load1 (v := sv) isAgg39 rfl (Rd.own [] rfl rfl) ?_)
  refine XL.mv (.int .i64 ((m : Int))) rfl ?_
  refine cX (XOp.subR (a := (m : Int)) (b := 1) (((m - 1 : Nat) : Int)) rfl rfl (by omega) (by omega) ?_)
  refine cX (XOp.indexS (v := sv) (i := ((m - 1 : Nat) : Int)) (n := m) (m - 1) runUnderlying39 sizeOf77 rfl rfl rfl (SlV.own [_] rfl) (by omega) rfl ?_)
  refine cX (XOp.fieldE (v := sv) ((m - 1) * 3 + 2) runUnderlying77 rfl sizeOf22 (by decide) rfl rfl ?_)
  obtain ⟨a1, ha1, he1, he2, he3⟩ := hC.get (i := m - 1) (by omega)
  refine cX (XOp.load1 (v := a1) isAgg22 rfl (Rd.sl [_] rfl he3) ?_)
  refine XL.as (a1) rfl ?_
  refine XL.nil ?_
  refine X.ret (thenQ_ret (retEnd (L' := slH 77 3 sv m cs :: L) [a1] (a1) (.tmp rfl .nil) rfl rF rF (sD (sC sR)) ?_))
  exact ⟨⟨rfl, _, rfl, by subst hm; rw [endL, if_neg (by omega)]; exact ha1⟩, rfl⟩
 refine X.skip (X.seq (X.region ?_))
 refine cX (XOp.fieldP (b := b1) (0) runUnderlying41 rfl sizeOf22 (by decide) rfl rfl ?_)
 refine cX (XOp.load1 (v := fv) isAgg22 rfl (Rd.own [] rfl rfl) ?_)
 refine XL.as (fv) rfl ?_
 refine XL.nil ?_
 refine X.ret (retEnd (L' := slH 77 3 sv m cs :: L) [fv] (fv) (.tmp rfl .nil) rfl rF rF (sD (sC sR)) ?_)
 exact ⟨⟨rfl, _, rfl, by subst hm; rw [endL, if_pos (by omega)]; exact hf⟩, rfl⟩

/- slices.Chunk[[]int64,int64] -/
theorem chunk_spec {F : FH} {L : List HP} {nsv : Value} {ns : List Int} (hns : IntsF F nsv ns) :
    Does prog 95 [nsv, .int .i64 (2)] F (L) (fun v F' L' => ∃ (bs bn : Nat), (.func (.func 117) #[] #[ptr bs 0, ptr bn 0] : Value) = v ∧ FzC F' bs [nsv] ∧ FzC F' bn [.int .i64 2] ∧ L = L') := by
 refine Does.of_X func95 rfl rfl rfl ?_
 refine X.seq (X.region ?_)
 refine cX (XOp.box [nsv] rfl (cells_one (IntsF.isSl hns)) ?_)
 intro b1
 refine cX (XOp.box [.int .i64 (2)] rfl rfl ?_)
 intro b2
 refine XL.as (.nilFunc) rfl ?_
 refine XL.nil (X.seq (X.seq (X.region ?_)))
 refine cX (XOp.load1 (v := .int .i64 (2)) isAgg3 rfl (Rd.own [] rfl rfl) ?_)
 refine cX (XOp.lss (a := 2) (b := 1) rfl rfl ?_)
 refine XL.nil ?_
 refine X.condF rfl ?_
 refine X.skip (X.seq (X.region ?_))
 refine cX (XOp.makeFuncL [] [ptr b1 0, ptr b2 0] rfl rfl ?_)
 refine XL.as (.func (.func 117) #[] #[ptr b1 0, ptr b2 0]) rfl ?_
 refine XL.nil ?_
 refine X.freeze [_] _ _ rfl (fun F1 le1 hz1 => ?_)
 have hf1 : FzC F1 b1 [nsv] := Fz.cells hz1
 refine X.freeze [] _ _ rfl (fun F2 le2 hz2 => ?_)
 replace hf1 := hf1.mono le2
 have hf2 : FzC F2 b2 [.int .i64 (2)] := Fz.cells hz2
 refine X.ret (retEnd (L' := L) [.func (.func 117) #[] #[ptr b1 0, ptr b2 0]] (.func (.func 117) #[] #[ptr b1 0, ptr b2 0]) (.tmp rfl .nil) rfl (FLe.trans le1 le2) rF sR ?_)
 exact ⟨_, _, rfl, hf1, hf2, rfl⟩

/- slices.Chunk[[]int64,int64]$1 -/
set_option maxRecDepth 20000 in
theorem chunkIt_spec {F : FH} {L : List HP} {l bs bn m : Nat} {R R2 : Loop} {nsv : Value} {ns : List Int} (hbs : FzC F bs [nsv]) (hbn : FzC F bn [.int .i64 2]) (hns : IntsF F nsv ns) (hm2 : ns.length = 2 * m) (hnl : ns.length ≤ 4000000) {J : Nat → FH → List HP → Prop} {Jx : FH → List HP → Prop} (hJ0 : J 0 F L) (hJm : ∀ {k : Nat} {F F' : FH} {L : List HP}, J k F L → F ≤ F' → J k F' L) (hyes : ∀ (k : Nat) (Fy : FH) (Ly : List HP) (pv : Value), k < m → F ≤ Fy → J k Fy Ly → IntsF Fy pv ((ns.drop (2 * k)).take 2) → Yld prog l [pv] Fy (objH l (.loop R) :: Ly) (fun v F' L' => (.bool true = v ∧ ∃ L2, J (k + 1) F' L2 ∧ objH l (.loop R) :: L2 = L') ∨ (.bool false = v ∧ ∃ L2, Jx F' L2 ∧ objH l (.loop R2) :: L2 = L'))) :
    Does prog 117 [(.func (.yield l) #[] #[]), ptr bs 0, ptr bn 0] F (objH l (.loop R) :: L) (fun v F' L' => (∃ L2, J m F' L2 ∧ objH l (.loop R) :: L2 = L') ∨ (∃ L2, Jx F' L2 ∧ objH l (.loop R2) :: L2 = L')) := by
 refine Does.of_X func117 rfl rfl rfl ?_
 refine X.seq (X.region ?_)
 refine XL.as (.int .i64 (0)) rfl ?_
 refine XL.nil (X.block ?_)
 refine X.loop (α := Nat × List HP × FH) (fun xQ => [(0, (.func (.yield l) #[] #[])), (1, ptr bs 0), (2, ptr bn 0), (4, .int .i64 ((((2 * xQ.1) : Nat) : Int)))]) (fun xQ => objH l (.loop R) :: xQ.2.1) (fun xQ F' => xQ.2.2 = F' ∧ F ≤ xQ.2.2 ∧ (xQ.1 ≤ m) ∧ (J xQ.1 xQ.2.2 xQ.2.1)) (fun xQ => m - xQ.1) (0, L, F) ⟨rfl, rfl, rfl, rfl, trivial⟩ (sC sR) ⟨rfl, FLe.refl _, (Nat.zero_le _), (hJ0)⟩ ?_
 rintro ⟨k, Lk, G1⟩ rE _ _ ⟨rfl, leG, hk, hJ⟩
 show X _ _ _ _ (envs [(0, (.func (.yield l) #[] #[])), (1, ptr bs 0), (2, ptr bn 0), (4, .int .i64 ((((2 * k) : Nat) : Int)))] rE) _ (objH l (.loop R) :: Lk)
 replace leG : F ≤ G1 := leG
 dsimp only at hk hJ
 have leG1 := leG
 replace hns := hns.mono leG1
 replace hbs := hbs.mono leG1
 replace hbn := hbn.mono leG1
 refine X.seq (X.seq (X.region ?_))
 refine XL.mv (.int .i64 ((((2 * k) : Nat) : Int))) rfl ?_
 refine cX (XOp.load1 (v := nsv) isAgg22 rfl (FzC.rd1 hbs rfl) ?_)
 refine cX (XOp.lenS (v := nsv) (n := (ns).length) runUnderlying22 rfl hns.slv ?_)
 refine cX (XOp.lss (a := (((2 * k) : Nat) : Int)) (b := (ns.length : Int)) rfl rfl ?_)
 refine XL.nil ?_
 refine X.condD (p := ((((2 * k) : Nat) : Int) : Int) < (ns.length : Int)) rfl (fun h1 => ?_) (fun h1 => ?_)
 ·refine X.skip (X.seq (X.block (X.seq ?_)))
  refine X.drawG [objH l (.loop R)] Lk 5 [[], [], [], [], []] [[], [], [], [1, 2], [3]] [[], [], [], [], []] (phiG [fun FF us v => v = (.int .i64 (2) : Value), fun FF us v => v = nsv, fun FF us v => v = (.int .i64 ((((2 * k) : Nat) : Int)) : Value), fun FF us v => (v : Value) = v ∧ (IntsF FF v ((ns.drop ((2 * k))).take (((ns).length) - ((2 * k))))) ∧ (isNil v = isNil nsv), fun FF us v => v = (.int .i64 ((((((ns.drop ((2 * k))).take (((ns).length) - ((2 * k))))).length : Nat) : Int)) : Value)]) (ownL [fun us v => [], fun us v => [], fun us v => [], fun us v => [], fun us v => []]) mixed rfl rfl (by kernel_rfl) (by kernel_rfl) (MonoG.get (mC (fun le h => h) (mC (fun le h => h) (mC (fun le h => h) (mC (fun le h => ⟨h.1, h.2.1.mono le, h.2.2⟩) (mC (fun le h => h) MonoG.nil)))))) ?_ ?_
  ·refine gC (fun vals Fs R leFs hpZ => ?_) ?_
   ·replace hns := hns.mono leFs
    replace hbs := hbs.mono leFs
    replace hbn := hbn.mono leFs
    refine XG.op (XOp.load1 (v := .int .i64 (2)) isAgg3 rfl (FzC.rd1 hbn rfl) ?_)
    exact ⟨rfl, rfl⟩
   refine gC (fun vals Fs R leFs hpZ => ?_) ?_
   ·replace hns := hns.mono leFs
    replace hbs := hbs.mono leFs
    replace hbn := hbn.mono leFs
    refine XG.op (XOp.load1 (v := nsv) isAgg22 rfl (FzC.rd1 hbs rfl) ?_)
    exact ⟨rfl, rfl⟩
   refine gC (fun vals Fs R leFs hpZ => ?_) ?_
   ·refine XG.op (XOp.move (.int .i64 ((((2 * k) : Nat) : Int))) rfl ?_)
    exact ⟨rfl, rfl⟩
   refine gC (fun vals Fs R leFs hpZ => ?_) ?_
   ·replace hns := hns.mono leFs
    replace hbs := hbs.mono leFs
    replace hbn := hbn.mono leFs
    rw [eS (l := [(1, nsv), (2, (.int .i64 ((((2 * k) : Nat) : Int)) : Value))]) ⟨(hpZ 1 (by decide)), (hpZ 2 (by decide)), trivial⟩]
    refine XG.op (XOp.sliceI ((2 * k)) ((ns).length) runUnderlying22 sizeOf2 rfl hns ⟨_, rfl⟩ rfl (by omega) (by omega) ?_)
    intro v2 hv2 hn2
    exact ⟨⟨rfl, hv2, hn2⟩, rfl⟩
   refine gC (fun vals Fs R leFs hpZ => ?_) ?_
   ·obtain ⟨e3, f3_1hv, f3_1hn⟩ := hpZ 3 (by decide)
    replace hns := hns.mono leFs
    replace hbs := hbs.mono leFs
    replace hbn := hbn.mono leFs
    rw [eS (l := [(3, (vals 3))]) ⟨(e3).symm, trivial⟩]
    refine XG.op (XOp.lenS (v := (vals 3)) (n := (((ns.drop ((2 * k))).take (((ns).length) - ((2 * k))))).length) runUnderlying22 rfl f3_1hv.slv ?_)
    exact ⟨rfl, rfl⟩
   exact stepsG.nil
  intro vals F1 le1 hphi
  obtain ⟨e3, f3_1hv, f3_1hn⟩ := hphi 3 (by decide)
  generalize hu1 : (vals 3) = u1 at e3 f3_1hv f3_1hn
  rw [eS (l := [(0, (.int .i64 (2) : Value)), (4, (.int .i64 ((((((ns.drop ((2 * k))).take (((ns).length) - ((2 * k))))).length : Nat) : Int)) : Value))]) ⟨(hphi 0 (by decide)), (hphi 4 (by decide)), trivial⟩]
  replace hns := hns.mono le1
  replace hbs := hbs.mono le1
  replace hbn := hbn.mono le1
  show XL _ _ _ _ _ _ _ (objH l (.loop R) :: Lk)
  refine cX (XOp.min2R (a := 2) (b := (((((ns.drop ((2 * k))).take (((ns).length) - ((2 * k))))).length : Nat) : Int)) (((2 : Nat) : Int)) rfl rfl (if_neg (by simp only [List.length_take, List.length_drop]; omega)) ?_)
  refine XL.as (.int .i64 (((2 : Nat) : Int))) rfl ?_
  refine XL.nil (X.seq ?_)
  refine X.ofI (by kernel_rfl) ?_
  refine XI.region ?_
  refine XIL.cons (XOp.move ((.func (.yield l) #[] #[])) rfl ?_)
  refine XIL.cons (XOp.load1 (v := nsv) isAgg22 rfl (FzC.rd1 hbs rfl) ?_)
  refine XIL.cons (XOp.move (.int .i64 ((((2 * k) : Nat) : Int))) rfl ?_)
  refine XIL.cons (XOp.move (.int .i64 ((((2 * k) : Nat) : Int))) rfl ?_)
  refine XIL.cons (XOp.move (.int .i64 (((2 : Nat) : Int))) rfl ?_)
  refine XIL.cons (XOp.addR (a := (((2 * k) : Nat) : Int)) (b := ((2 : Nat) : Int)) (((((2 * k)) + 2 : Nat) : Int)) rfl rfl (by omega) (by omega) ?_)
  refine XIL.cons (XOp.move (.int .i64 ((((2 * k) : Nat) : Int))) rfl ?_)
  refine XIL.cons (XOp.move (.int .i64 (((2 : Nat) : Int))) rfl ?_)
  refine XIL.cons (XOp.addR (a := (((2 * k) : Nat) : Int)) (b := ((2 : Nat) : Int)) (((((2 * k)) + 2 : Nat) : Int)) rfl rfl (by omega) (by omega) ?_)
  refine XIL.cons (XOp.slice3I ((2 * k)) (((2 * k)) + 2) runUnderlying22 sizeOf2 rfl hns rfl rfl rfl (by omega) (by omega) ?_)
  intro v3 hv3
  refine XIL.yield (k := l) (args := [v3]) rfl (by rfl) ?_
  refine Yld.weaken (sC sR) ?_
  refine (hyes k _ _ _ (by omega) (FLe.trans leG1 le1) (hJm hJ le1) (by have h9 := hv3; rwa [show 2 * k + 2 - 2 * k = 2 from by omega] at h9)).mono ?_
  rintro _ F2 _ le2 (⟨rfl, Lj1, hJ1, rfl⟩ | ⟨rfl, Lj1, hJ1, rfl⟩)
  ·replace hns := hns.mono le2
   replace hbn := hbn.mono le2
   show XIL _ _ _ _ _ _ _ _ _ (objH l (.loop R) :: Lj1)
   refine XIL.cons (XOp.notB (b := true) rfl ?_)
   refine XIL.nil ?_
   refine X.condF rfl ?_
   refine X.skip (X.region ?_)
   refine XL.mv (.int .i64 ((((2 * k) : Nat) : Int))) rfl ?_
   refine cX (XOp.load1 (v := .int .i64 (2)) isAgg3 rfl (FzC.rd1 hbn rfl) ?_)
   refine cX (XOp.addR (a := (((2 * k) : Nat) : Int)) (b := 2) (((((2 * k) : Nat) : Int)) + 2) rfl rfl (by omega) (by omega) ?_)
   refine XL.as (.int .i64 (((((2 * k) : Nat) : Int)) + 2)) rfl ?_
   refine XL.nil ?_
   exact ⟨(k + 1, Lj1, F2), _, (FLe.trans (FLe.trans leG1 le1) le2), rF, ⟨rfl, rfl, rfl, (vI (by (try dsimp only); omega)), trivial⟩, (sC sR), ⟨rfl, (FLe.trans (FLe.trans leG1 le1) le2), (by (try dsimp only) <;> omega), (hJ1)⟩, (by (try dsimp only); omega)⟩
  replace hns := hns.mono le2
  show XIL _ _ _ _ _ _ _ _ _ (objH l (.loop R2) :: Lj1)
  refine XIL.cons (XOp.notB (b := false) rfl ?_)
  refine XIL.nil ?_
  refine X.condT rfl ?_
  refine X.ret (blockQ_ret (thenQ_ret (thenQ_ret (blockQ_ret (retEnd (L' := objH l (.loop R2) :: Lj1) [] (.tuple #[]) (by exact .nil) rfl (FLe.trans (FLe.trans leG1 le1) le2) rF (sC sR) ?_)))))
  exact .inr ⟨_, hJ1, rfl⟩
 refine X.exit (thenQ_exit (thenQ_exit (blockQ_exit ?_)))
 refine id (retEndN (L' := objH l (.loop R) :: Lk) [] (.tuple #[]) (by exact .nil) rfl leG1 rF (sC sR) ?_)
 obtain rfl : k = m := by omega
 exact .inl ⟨_, hJ, rfl⟩

/- impl.walkFrom -/
set_option maxRecDepth 20000 in
theorem walkFrom_spec {F : FH} {L : List HP} {arv : Value} {ar : List Int} (har : IntsF F arv ar) {rsv : Value} {rs : List (List Int × List Int)} (hrs : PairsF F rsv rs) {tv : Value} {t : List Int} (ht : IntsF F tv t) {nsv : Value} {ns : List Int} (hns : IntsF F nsv ns) (hri : rightB ar rs t = true) (hln : ns.length ≤ 4000000) :
    Does prog 57 [.agg #[arv, rsv], tv, nsv] F (L) (fun v F' L' => ∃ (a : Value), ∃ (b : Value), (.tuple #[.agg #[a, b], .bool ((walkFromF ar rs t ns).2.2)] : Value) = v ∧ (IntsF F' a (walkFromF ar rs t ns).1) ∧ (StepsF F' b (walkFromF ar rs t ns).2.1) ∧ (Fresh F F' (star [intsH 2 a (walkFromF ar rs t ns).1, stepsD 2 77 b (walkFromF ar rs t ns).2.1])) ∧ L = L') := by
 refine Does.of_XF func57 rfl (by kernel_rfl) rfl ?_
 have ho := (right_iff.1 hri).2
 have htl := termOk_len ho
 refine XF.seqR ?_
 refine X.region ?_
 refine cX (XOp.box [arv, rsv] rfl rfl ?_)
 intro b1
 refine cX (XOp.alloc [(.slice none 0 0), (.slice none 0 0)] zeroValue41 rfl ?_)
 intro b2
 refine cX (XOp.alloc [.bool (false)] zeroValue4 rfl ?_)
 intro b3
 refine XL.nil ?_
 refine XF.seqR ?_
 refine X.seq (X.region ?_)
 refine XL.mv (nsv) rfl ?_
 refine cX (XOp.lenS (v := nsv) (n := (ns).length) runUnderlying22 rfl hns.slv ?_)
 refine cX (XOp.remC (a := (ns.length : Int)) (b := 2) rfl rfl (by omega) (by decide) ?_)
 refine cX (XOp.neq (a := ((ns.length : Int)) % 2) (b := 0) rfl rfl ?_)
 refine XL.mv (.bool (decide ((((ns.length : Int)) % 2 : Int) ≠ 0))) rfl ?_
 by_cases h1 : (((ns.length : Int)) % 2 : Int) ≠ 0
 ·refine XL.no (t := 16) rfl (vT h1) ?_
  refine XL.no (t := 16) rfl (vT h1) ?_
  refine XL.no (t := 16) rfl (vT h1) ?_
  refine cX (XOp.pickT (.bool (true)) (vT h1) rfl ?_)
  refine XL.nil ?_
  refine X.condT rfl ?_
  refine X.seq (X.region ?_)
  refine cX (XOp.build [(.slice none 0 0), (.slice none 0 0)] [(.slice none 0 0), (.slice none 0 0)] [(0, 1), (1, 1)] [] runUnderlying41 zeroValue41 rfl (.cons rfl sizeOf22 (.cons rfl sizeOf39 PlacesAre.nil)) rfl CellsAre.nil ?_)
  refine cX (XOp.storeN (vs := [(.slice none 0 0), (.slice none 0 0)]) [_] _ [(.slice none 0 0), (.slice none 0 0)] sizeOf41 rfl rfl rfl (ones_cons rfl (ones_cons rfl ones_nil)) rfl rfl rfl ?_)
  refine cX (XOp.store1 (v := .bool (false)) [] _ [.bool (false)] sizeOf4 rfl rfl rfl rfl rfl rfl ?_)
  refine XL.nil ?_
  refine X.ret (thenQ_ret (retEnd (L' := L) [.agg #[(.slice none 0 0), (.slice none 0 0)], .bool (false)] (.tuple #[.agg #[(.slice none 0 0), (.slice none 0 0)], .bool (false)]) (.cell rfl (loadNV [(.slice none 0 0), (.slice none 0 0)] isAgg41 sizeOf41 rfl (Rd.ownN [_] rfl rfl)) (.cell rfl (load1V (v := .bool (false)) isAgg4 (Rd.own [] rfl rfl)) .nil)) rfl rF rF (sD (sD (sD sR))) ?_))
  have e : walkFromF ar rs t ns = ([], [], false) := walkFromF_no (by omega)
  exact ⟨_, _, by rw [e], by rw [e]; exact IntsF.nilV, by rw [e]; exact SlOf.nilV, by rw [e]; exact Fresh.empty nilWalk, rfl⟩
 refine XL.yes (t := 16) rfl (vF h1) (XOp.move (nsv) rfl ?_)
 refine XL.yes (t := 16) rfl (vF h1) (XOp.lenS (v := nsv) (n := (ns).length) runUnderlying22 rfl hns.slv ?_)
 refine XL.yes (t := 16) rfl (vF h1) (XOp.gtr (a := (ns.length : Int)) (b := 120) rfl rfl ?_)
 refine cX (XOp.pickF (.bool (decide (((ns.length : Int) : Int) > 120))) (vF h1) rfl ?_)
 refine XL.nil ?_
 refine X.condD (p := ((ns.length : Int) : Int) > 120) rfl (fun h2 => ?_) (fun h2 => ?_)
 ·refine X.seq (X.region ?_)
  refine cX (XOp.build [(.slice none 0 0), (.slice none 0 0)] [(.slice none 0 0), (.slice none 0 0)] [(0, 1), (1, 1)] [] runUnderlying41 zeroValue41 rfl (.cons rfl sizeOf22 (.cons rfl sizeOf39 PlacesAre.nil)) rfl CellsAre.nil ?_)
  refine cX (XOp.storeN (vs := [(.slice none 0 0), (.slice none 0 0)]) [_] _ [(.slice none 0 0), (.slice none 0 0)] sizeOf41 rfl rfl rfl (ones_cons rfl (ones_cons rfl ones_nil)) rfl rfl rfl ?_)
  refine cX (XOp.store1 (v := .bool (false)) [] _ [.bool (false)] sizeOf4 rfl rfl rfl rfl rfl rfl ?_)
  refine XL.nil ?_
  refine X.ret (thenQ_ret (retEnd (L' := L) [.agg #[(.slice none 0 0), (.slice none 0 0)], .bool (false)] (.tuple #[.agg #[(.slice none 0 0), (.slice none 0 0)], .bool (false)]) (.cell rfl (loadNV [(.slice none 0 0), (.slice none 0 0)] isAgg41 sizeOf41 rfl (Rd.ownN [_] rfl rfl)) (.cell rfl (load1V (v := .bool (false)) isAgg4 (Rd.own [] rfl rfl)) .nil)) rfl rF rF (sD (sD (sD sR))) ?_))
  have e : walkFromF ar rs t ns = ([], [], false) := walkFromF_no (by omega)
  exact ⟨_, _, by rw [e], by rw [e]; exact IntsF.nilV, by rw [e]; exact SlOf.nilV, by rw [e]; exact Fresh.empty nilWalk, rfl⟩
 refine X.skip ?_
 refine XF.seqR ?_
 refine X.region ?_
 refine XL.mv (tv) rfl ?_
 refine cX (XOp.frzF <| XOp.call (args := [tv]) call94 rfl (Clone_spec ht (hlt := (by first | assumption | rfl | omega | simp))) ?_)
 rintro v1 _ _ _ ⟨rfl, hs1, rfl⟩
 refine ⟨_, _, rfl, fun F1 le1 hz1 => ?_⟩
 replace har := har.mono le1
 replace hrs := hrs.mono le1
 replace hns := hns.mono le1
 have hf1 : IntsF F1 v1 ((t)) := intsH.fz (xs := (t)) hz1.fz
 refine cX (XOp.build [v1, (.slice none 0 0)] [(.slice none 0 0), (.slice none 0 0)] [(0, 1), (1, 1)] [(0, [v1])] runUnderlying41 zeroValue41 rfl (.cons rfl sizeOf22 (.cons rfl sizeOf39 PlacesAre.nil)) rfl (.cons (cells_one (IntsF.isSl hf1)) CellsAre.nil) ?_)
 refine cX (XOp.alloc [(.slice none 0 0), (.slice none 0 0)] zeroValue41 rfl ?_)
 intro b4
 refine cX (XOp.storeN (vs := [v1, (.slice none 0 0)]) [] _ [v1, (.slice none 0 0)] sizeOf41 rfl rfl rfl (ones_cons (one_sl (IntsF.isSl hf1)) (ones_cons rfl ones_nil)) rfl rfl rfl ?_)
 refine XL.nil ?_
 refine XF.ofR ?_
 refine XR.seq ?_
 refine X.region ?_
 skip
 refine XL.mv (nsv) rfl ?_
 refine cX (XOp.call (args := [nsv, .int .i64 2]) call95 rfl (chunk_spec hns) ?_)
 rintro _ F2 _ le2 ⟨x1, y1, rfl, hb1, hb2, rfl⟩
 replace har := har.mono le2
 replace hrs := hrs.mono le2
 replace hns := hns.mono le2
 replace hf1 := hf1.mono le2
 refine XL.nil ?_
 refine XR.rangeB2 (gf := 117) (lb := [ptr x1 0, ptr y1 0]) rfl call117 (fun l D R hRs hRp hRps hRa hRb hRz hRg => ?_)
 have hR0 : ({ R with state := .ready, pending := none } : Loop) = R := by
  cases R
  simp only at hRs hRp
  subst hRs hRp
  rfl
 have hm2 : ns.length = 2 * (ns.length / 2) := by omega
 have hyes : ∀ (k : Nat) (Fy : FH) (Ly : List HP) (pv : Value), k < (ns.length / 2) → F2 ≤ Fy → (WKJ F2 2 77 41 b4 v1 (objH D (.deferred (some [])) :: cellsH b3 [.bool (false)] 4 :: cellsH b2 [(.slice none 0 0), (.slice none 0 0)] 41 :: cellsH b1 [arv, rsv] 33 :: L) (wfI ar rs t ns)) k Fy Ly → IntsF Fy pv ((ns.drop (2 * k)).take 2) → Yld prog l [pv] Fy (objH l (.loop R) :: Ly) (fun v F' L' => (.bool true = v ∧ ∃ L2, (WKJ F2 2 77 41 b4 v1 (objH D (.deferred (some [])) :: cellsH b3 [.bool (false)] 4 :: cellsH b2 [(.slice none 0 0), (.slice none 0 0)] 41 :: cellsH b1 [arv, rsv] 33 :: L) (wfI ar rs t ns)) (k + 1) F' L2 ∧ objH l (.loop R) :: L2 = L') ∨ (.bool false = v ∧ ∃ L2, (fun (_ : FH) (L2 : List HP) => wfGo ar rs t ns = none ∧ cellsH b2 [(.slice none 0 0), (.slice none 0 0)] 41 :: cellsH b3 [.bool (false)] 4 :: objH D (.deferred (some [])) :: L = L2) F' L2 ∧ objH l (.loop { R with state := .done, pending := some .ret }) :: L2 = L')) := by
  intro k Fy Ly pv hk9 leF hJ hpv
  obtain ⟨sv8, ss8, cs8, Ls8, m8, hsv8, hC8, hm8, hDp, hZ, hI8, rfl⟩ := hJ
  have hssl := hI8.1
  have hcl := wfI_len hI8
  have hkb : 2 * k + 1 < ns.length := by omega
  have hpl : ((ns.drop (2 * k)).take 2).length = 2 := by rw [List.length_take, List.length_drop]; omega
  refine Yld.of_round2 hRs hRp hRps hRa hRb hRz hRg rfl (by kernel_rfl) (by kernel_rfl) (by kernel_rfl) ?_
  have hq1 := har.mono leF
  have hq2 := hrs.mono leF
  have hq3 := hf1.mono leF
  refine XI.slots [(27, pv), (8, ptr b4 0), (6, ptr b2 0), (7, ptr b3 0), (3, ptr b1 0)] ⟨rfl, rfl, rfl, rfl, rfl, trivial⟩ (fun rE => ?_)
  refine XI.region ?_
  refine XIL.cons (XOp.assign (pv) rfl ?_)
  refine XIL.nil ?_
  refine ⟨cellsH b4 [v1, sv8] 41 :: slH 77 3 sv8 m8 cs8 :: objH D (.deferred (some [])) :: cellsH b3 [.bool (false)] 4 :: cellsH b2 [(.slice none 0 0), (.slice none 0 0)] 41 :: cellsH b1 [arv, rsv] 33 :: L, (sC (sC (sC (sC (sC (sC (sC sR))))))), ?_⟩
  refine XI.block ?_
  refine XI.seq ?_
  refine XI.drawG [objH l (.loop { R with state := .busy }), cellsH b4 [v1, sv8] 41, slH 77 3 sv8 m8 cs8, objH D (.deferred (some [])), cellsH b3 [.bool (false)] 4, cellsH b2 [(.slice none 0 0), (.slice none 0 0)] 41, cellsH b1 [arv, rsv] 33] L 14 [[], [], [], [], [], [], [], [], [], [], [9], [9], [], [9]] [[], [], [1], [], [3], [4], [], [6], [7], [0, 2, 5, 8], [9], [9, 10], [9, 10], [9, 11]] [[], [], [], [], [], [], [], [], [], [], [], [], [], []] (phiG [fun FF us v => v = (.agg #[arv, rsv] : Value), fun FF us v => v = (.agg #[v1, sv8] : Value), fun FF us v => ((v) : Value) = v ∧ (IntsF FF (v) (endL ((t)) ss8)), fun FF us v => v = pv, fun FF us v => v = (.pointer (some (elemA pv (0))) : Value), fun FF us v => v = (.int .i64 ((((ns.drop (2 * k)).take 2)).getD 0 0) : Value), fun FF us v => v = pv, fun FF us v => v = (.pointer (some (elemA pv (1))) : Value), fun FF us v => v = (.int .i64 ((((ns.drop (2 * k)).take 2)).getD 1 0) : Value), fun FF us v => (.tuple #[((tupAt v 0)), .bool ((stepAtL ar rs (endL ((t)) ss8) ((((ns.drop (2 * k)).take 2)).getD 0 0) ((((ns.drop (2 * k)).take 2)).getD 1 0)).isSome)] : Value) = v ∧ (IntsF FF ((tupAt v 0)) ((stepAtL ar rs (endL ((t)) ss8) ((((ns.drop (2 * k)).take 2)).getD 0 0) ((((ns.drop (2 * k)).take 2)).getD 1 0)).getD [])) ∧ (FreshsF Fy FF (intsH 2 ((tupAt v 0)) ((stepAtL ar rs (endL ((t)) ss8) ((((ns.drop (2 * k)).take 2)).getD 0 0) ((((ns.drop (2 * k)).take 2)).getD 1 0)).getD []))), fun FF us v => v = (.tuple #[((tupAt (us.getD 0 undef) 0)), .bool ((stepAtL ar rs (endL ((t)) ss8) ((((ns.drop (2 * k)).take 2)).getD 0 0) ((((ns.drop (2 * k)).take 2)).getD 1 0)).isSome)] : Value), fun FF us v => v = ((tupAt (us.getD 0 undef) 0)), fun FF us v => v = (.bool ((stepAtL ar rs (endL ((t)) ss8) ((((ns.drop (2 * k)).take 2)).getD 0 0) ((((ns.drop (2 * k)).take 2)).getD 1 0)).isSome) : Value), fun FF us v => v = ((tupAt (us.getD 0 undef) 0))]) (ownL [fun us v => [], fun us v => [], fun us v => [], fun us v => [], fun us v => [], fun us v => [], fun us v => [], fun us v => [], fun us v => [], fun us v => [], fun us v => [], fun us v => [], fun us v => [], fun us v => []]) mixed rfl rfl (by kernel_rfl) (by kernel_rfl) (MonoG.get (mC (fun le h => h) (mC (fun le h => h) (mC (fun le h => ⟨h.1, h.2.mono le⟩) (mC (fun le h => h) (mC (fun le h => h) (mC (fun le h => h) (mC (fun le h => h) (mC (fun le h => h) (mC (fun le h => h) (mC (fun le h => ⟨h.1, h.2.1.mono le, h.2.2.mono le⟩) (mC (fun le h => h) (mC (fun le h => h) (mC (fun le h => h) (mC (fun le h => h) MonoG.nil))))))))))))))) ?_ ?_
  ·refine gC (fun vals Fs R leFs hpZ => ?_) ?_
   ·replace hC8 := hC8.mono leFs
    replace hpv := hpv.mono leFs
    replace hq1 := hq1.mono leFs
    replace hq2 := hq2.mono leFs
    replace hq3 := hq3.mono leFs
    refine XG.op (XOp.loadN [arv, rsv] isAgg33 sizeOf33 rfl rfl (Rd.ownN [_, _, _, _, _, _] rfl rfl) ?_)
    exact ⟨rfl, rfl⟩
   refine gC (fun vals Fs R leFs hpZ => ?_) ?_
   ·replace hC8 := hC8.mono leFs
    replace hpv := hpv.mono leFs
    replace hq1 := hq1.mono leFs
    replace hq2 := hq2.mono leFs
    replace hq3 := hq3.mono leFs
    refine XG.op (XOp.loadN [v1, sv8] isAgg41 sizeOf41 rfl rfl (Rd.ownN [_] rfl rfl) ?_)
    exact ⟨rfl, rfl⟩
   refine gC (fun vals Fs R leFs hpZ => ?_) ?_
   ·replace hC8 := hC8.mono leFs
    replace hpv := hpv.mono leFs
    replace hq1 := hq1.mono leFs
    replace hq2 := hq2.mono leFs
    replace hq3 := hq3.mono leFs
    rw [eS (l := [(1, (.agg #[v1, sv8] : Value))]) ⟨(hpZ 1 (by decide)), trivial⟩]
    refine XG.op (XOp.call (args := [.agg #[v1, sv8]]) call97 rfl (Does.at [_, _] (walkEndO_spec hq3 hsv8 hC8 (by first | rfl | assumption | omega) (by omega))) ?_)
    rintro _ _ _ _ ⟨⟨rfl, x4, rfl, hr4⟩, rfl⟩
    exact ⟨⟨rfl, hr4⟩, rfl⟩
   refine gC (fun vals Fs R leFs hpZ => ?_) ?_
   ·refine XG.op (XOp.move (pv) rfl ?_)
    exact ⟨rfl, rfl⟩
   refine gC (fun vals Fs R leFs hpZ => ?_) ?_
   ·replace hC8 := hC8.mono leFs
    replace hpv := hpv.mono leFs
    replace hq1 := hq1.mono leFs
    replace hq2 := hq2.mono leFs
    rw [eS (l := [(3, pv)]) ⟨(hpZ 3 (by decide)), trivial⟩]
    refine XG.op (XOp.indexS (v := pv) (i := 0) (n := (((ns.drop (2 * k)).take 2)).length) 0 runUnderlying22 sizeOf2 rfl rfl rfl hpv.slv (by omega) (Nat.mul_one _) ?_)
    exact ⟨rfl, rfl⟩
   refine gC (fun vals Fs R leFs hpZ => ?_) ?_
   ·replace hC8 := hC8.mono leFs
    replace hpv := hpv.mono leFs
    replace hq1 := hq1.mono leFs
    replace hq2 := hq2.mono leFs
    rw [eS (l := [(4, (.pointer (some (elemA pv (0))) : Value))]) ⟨(hpZ 4 (by decide)), trivial⟩]
    refine XG.op (XOp.load1 (v := .int .i64 ((((ns.drop (2 * k)).take 2)).getD 0 0)) isAgg2 rfl (hpv.rd (by omega)) ?_)
    exact ⟨rfl, rfl⟩
   refine gC (fun vals Fs R leFs hpZ => ?_) ?_
   ·refine XG.op (XOp.move (pv) rfl ?_)
    exact ⟨rfl, rfl⟩
   refine gC (fun vals Fs R leFs hpZ => ?_) ?_
   ·replace hC8 := hC8.mono leFs
    replace hpv := hpv.mono leFs
    replace hq1 := hq1.mono leFs
    replace hq2 := hq2.mono leFs
    rw [eS (l := [(6, pv)]) ⟨(hpZ 6 (by decide)), trivial⟩]
    refine XG.op (XOp.indexS (v := pv) (i := 1) (n := (((ns.drop (2 * k)).take 2)).length) 1 runUnderlying22 sizeOf2 rfl rfl rfl hpv.slv (by omega) (Nat.mul_one _) ?_)
    exact ⟨rfl, rfl⟩
   refine gC (fun vals Fs R leFs hpZ => ?_) ?_
   ·replace hC8 := hC8.mono leFs
    replace hpv := hpv.mono leFs
    replace hq1 := hq1.mono leFs
    replace hq2 := hq2.mono leFs
    rw [eS (l := [(7, (.pointer (some (elemA pv (1))) : Value))]) ⟨(hpZ 7 (by decide)), trivial⟩]
    refine XG.op (XOp.load1 (v := .int .i64 ((((ns.drop (2 * k)).take 2)).getD 1 0)) isAgg2 rfl (hpv.rd (by omega)) ?_)
    exact ⟨rfl, rfl⟩
   refine gC (fun vals Fs R leFs hpZ => ?_) ?_
   ·obtain ⟨e2, f2_1hr⟩ := hpZ 2 (by decide)
    replace hC8 := hC8.mono leFs
    replace hpv := hpv.mono leFs
    replace hq1 := hq1.mono leFs
    replace hq2 := hq2.mono leFs
    rw [eS (l := [(0, (.agg #[arv, rsv] : Value)), (2, ((vals 2))), (5, (.int .i64 ((((ns.drop (2 * k)).take 2)).getD 0 0) : Value)), (8, (.int .i64 ((((ns.drop (2 * k)).take 2)).getD 1 0) : Value))]) ⟨(hpZ 0 (by decide)), (e2).symm, (hpZ 5 (by decide)), (hpZ 8 (by decide)), trivial⟩]
    refine XG.op (XOp.call (args := [.agg #[arv, rsv], ((vals 2)), .int .i64 ((((ns.drop (2 * k)).take 2)).getD 0 0), .int .i64 ((((ns.drop (2 * k)).take 2)).getD 1 0)]) call96 rfl (StepAt_spec (p := (((ns.drop (2 * k)).take 2)).getD 0 0) (r := (((ns.drop (2 * k)).take 2)).getD 1 0) hq1 hq2 f2_1hr) ?_)
    rintro _ F6 _ le6 ⟨x5, rfl, hr5, hr6, rfl⟩
    replace hC8 := hC8.mono le6
    replace hpv := hpv.mono le6
    replace f2_1hr := f2_1hr.mono le6
    exact ⟨⟨rfl, hr5, (hr6.base leFs)⟩, rfl⟩
   refine gC (fun vals Fs R leFs hpZ => ?_) ?_
   ·obtain ⟨e9, f9_1hr, f9_1hz⟩ := hpZ 9 (by decide)
    rw [eS (l := [(9, (.tuple #[((tupAt (vals 9) 0)), .bool ((stepAtL ar rs (endL ((t)) ss8) ((((ns.drop (2 * k)).take 2)).getD 0 0) ((((ns.drop (2 * k)).take 2)).getD 1 0)).isSome)] : Value))]) ⟨(e9).symm, trivial⟩]
    refine XG.op (XOp.move (.tuple #[((tupAt (vals 9) 0)), .bool ((stepAtL ar rs (endL ((t)) ss8) ((((ns.drop (2 * k)).take 2)).getD 0 0) ((((ns.drop (2 * k)).take 2)).getD 1 0)).isSome)]) rfl ?_)
    exact ⟨rfl, rfl⟩
   refine gC (fun vals Fs R leFs hpZ => ?_) ?_
   ·obtain ⟨e9, f9_1hr, f9_1hz⟩ := hpZ 9 (by decide)
    have e10 : vals 10 = (.tuple #[((tupAt (vals 9) 0)), .bool ((stepAtL ar rs (endL ((t)) ss8) ((((ns.drop (2 * k)).take 2)).getD 0 0) ((((ns.drop (2 * k)).take 2)).getD 1 0)).isSome)] : Value) := hpZ 10 (by decide)
    rw [eS (l := [(9, (.tuple #[((tupAt (vals 9) 0)), .bool ((stepAtL ar rs (endL ((t)) ss8) ((((ns.drop (2 * k)).take 2)).getD 0 0) ((((ns.drop (2 * k)).take 2)).getD 1 0)).isSome)] : Value)), (10, (.tuple #[((tupAt (vals 9) 0)), .bool ((stepAtL ar rs (endL ((t)) ss8) ((((ns.drop (2 * k)).take 2)).getD 0 0) ((((ns.drop (2 * k)).take 2)).getD 1 0)).isSome)] : Value))]) ⟨(e9).symm, e10, trivial⟩]
    refine XG.op (XOp.extract (((tupAt (vals 9) 0))) rfl rfl ?_)
    exact ⟨rfl, rfl⟩
   refine gC (fun vals Fs R leFs hpZ => ?_) ?_
   ·obtain ⟨e9, f9_1hr, f9_1hz⟩ := hpZ 9 (by decide)
    have e10 : vals 10 = (.tuple #[((tupAt (vals 9) 0)), .bool ((stepAtL ar rs (endL ((t)) ss8) ((((ns.drop (2 * k)).take 2)).getD 0 0) ((((ns.drop (2 * k)).take 2)).getD 1 0)).isSome)] : Value) := hpZ 10 (by decide)
    rw [eS (l := [(9, (.tuple #[((tupAt (vals 9) 0)), .bool ((stepAtL ar rs (endL ((t)) ss8) ((((ns.drop (2 * k)).take 2)).getD 0 0) ((((ns.drop (2 * k)).take 2)).getD 1 0)).isSome)] : Value)), (10, (.tuple #[((tupAt (vals 9) 0)), .bool ((stepAtL ar rs (endL ((t)) ss8) ((((ns.drop (2 * k)).take 2)).getD 0 0) ((((ns.drop (2 * k)).take 2)).getD 1 0)).isSome)] : Value))]) ⟨(e9).symm, e10, trivial⟩]
    refine XG.op (XOp.extract (.bool ((stepAtL ar rs (endL ((t)) ss8) ((((ns.drop (2 * k)).take 2)).getD 0 0) ((((ns.drop (2 * k)).take 2)).getD 1 0)).isSome)) rfl rfl ?_)
    exact ⟨rfl, rfl⟩
   refine gC (fun vals Fs R leFs hpZ => ?_) ?_
   ·obtain ⟨e9, f9_1hr, f9_1hz⟩ := hpZ 9 (by decide)
    have e11 : vals 11 = ((tupAt (vals 9) 0)) := hpZ 11 (by decide)
    rw [eS (l := [(9, (.tuple #[((tupAt (vals 9) 0)), .bool ((stepAtL ar rs (endL ((t)) ss8) ((((ns.drop (2 * k)).take 2)).getD 0 0) ((((ns.drop (2 * k)).take 2)).getD 1 0)).isSome)] : Value)), (11, ((tupAt (vals 9) 0)))]) ⟨(e9).symm, e11, trivial⟩]
    refine XG.op (XOp.assign (((tupAt (vals 9) 0))) rfl ?_)
    exact ⟨rfl, rfl⟩
   exact stepsG.nil
  intro vals F7 le7 hphi
  obtain ⟨e2, f2_1hr⟩ := hphi 2 (by decide)
  obtain ⟨e9, f9_1hr, f9_1hz⟩ := hphi 9 (by decide)
  have e10 : vals 10 = (.tuple #[((tupAt (vals 9) 0)), .bool ((stepAtL ar rs (endL ((t)) ss8) ((((ns.drop (2 * k)).take 2)).getD 0 0) ((((ns.drop (2 * k)).take 2)).getD 1 0)).isSome)] : Value) := hphi 10 (by decide)
  have e11 : vals 11 = ((tupAt (vals 9) 0)) := hphi 11 (by decide)
  have e13 : vals 13 = ((tupAt (vals 9) 0)) := hphi 13 (by decide)
  generalize hu1 : ((vals 2)) = u1 at e2 f2_1hr e9 f9_1hr f9_1hz e10 e11 e13
  generalize hu2 : ((tupAt (vals 9) 0)) = u2 at e2 f2_1hr e9 f9_1hr f9_1hz e10 e11 e13
  rw [eS (l := [(9, (.tuple #[u2, .bool ((stepAtL ar rs (endL ((t)) ss8) ((((ns.drop (2 * k)).take 2)).getD 0 0) ((((ns.drop (2 * k)).take 2)).getD 1 0)).isSome)] : Value)), (12, (.bool ((stepAtL ar rs (endL ((t)) ss8) ((((ns.drop (2 * k)).take 2)).getD 0 0) ((((ns.drop (2 * k)).take 2)).getD 1 0)).isSome) : Value)), (13, u2)]) ⟨(e9).symm, (hphi 12 (by decide)), e13, trivial⟩]
  replace hC8 := hC8.mono le7
  replace hpv := hpv.mono le7
  show XIL _ _ _ _ _ _ _ _ _ (objH l (.loop { R with state := .busy }) :: cellsH b4 [v1, sv8] 41 :: slH 77 3 sv8 m8 cs8 :: objH D (.deferred (some [])) :: cellsH b3 [.bool (false)] 4 :: cellsH b2 [(.slice none 0 0), (.slice none 0 0)] 41 :: cellsH b1 [arv, rsv] 33 :: L)
  refine XIL.cons (XOp.assign (.bool ((stepAtL ar rs (endL ((t)) ss8) ((((ns.drop (2 * k)).take 2)).getD 0 0) ((((ns.drop (2 * k)).take 2)).getD 1 0)).isSome)) rfl ?_)
  refine XIL.nil ?_
  refine XI.seq ?_
  refine XI.seq ?_
  refine XI.region ?_
  skip
  refine XIL.cons (XOp.move (.bool ((stepAtL ar rs (endL ((t)) ss8) ((((ns.drop (2 * k)).take 2)).getD 0 0) ((((ns.drop (2 * k)).take 2)).getD 1 0)).isSome)) rfl ?_)
  refine XIL.cons (XOp.notB (b := (stepAtL ar rs (endL ((t)) ss8) ((((ns.drop (2 * k)).take 2)).getD 0 0) ((((ns.drop (2 * k)).take 2)).getD 1 0)).isSome) rfl ?_)
  refine XIL.nil ?_
  refine XI.cond (t := !((stepAtL ar rs (endL ((t)) ss8) ((((ns.drop (2 * k)).take 2)).getD 0 0) ((((ns.drop (2 * k)).take 2)).getD 1 0)).isSome)) rfl (fun h3 => ?_) (fun h3 => ?_)
  ·have hu1 : (stepAtL ar rs (endL t ss8) (pA ns k) (pB ns k)).isSome = false := by unfold pA pB; simpa using h3
   refine XI.seq ?_
   refine XI.region ?_
   refine XIL.cons (XOp.build [(.slice none 0 0), (.slice none 0 0)] [(.slice none 0 0), (.slice none 0 0)] [(0, 1), (1, 1)] [] runUnderlying41 zeroValue41 rfl (.cons rfl sizeOf22 (.cons rfl sizeOf39 PlacesAre.nil)) rfl CellsAre.nil ?_)
   refine XIL.cons (XOp.storeN (vs := [(.slice none 0 0), (.slice none 0 0)]) [_, _, _, _, _] _ [(.slice none 0 0), (.slice none 0 0)] sizeOf41 rfl rfl rfl (ones_cons rfl (ones_cons rfl ones_nil)) rfl rfl rfl ?_)
   refine XIL.cons (XOp.store1 (v := .bool (false)) [_, _, _, _] _ [.bool (false)] sizeOf4 rfl rfl rfl rfl rfl rfl ?_)
   refine XIL.nil ?_
   refine XI.ret (thenQ_ret (blockQ_ret (roundR ⟨cellsH b2 [(.slice none 0 0), (.slice none 0 0)] 41 :: cellsH b3 [.bool (false)] 4 :: objH D (.deferred (some [])) :: L, (Sub.trans (Sub.front (A := [_, _, _])) (Sub.trans (Sub.front (A := [_, _, _, _])) (Sub.trans (Sub.front (A := [_, _, _, _, _])) (Sub.trans (Sub.front (A := [_, _, _])) (sC (sC (sC (sC (sD (sD (sD sR))))))))))), ?_⟩)))
   exact .inr ⟨rfl, _, ⟨wfI_fail hkb hI8 hu1, rfl⟩, rfl⟩
  have hu1 : (stepAtL ar rs (endL t ss8) (pA ns k) (pB ns k)).isSome = true := by unfold pA pB; simpa using h3
  refine XI.skip ?_
  refine XI.draw [objH l (.loop { R with state := .busy }), cellsH b4 [v1, sv8] 41, slH 77 3 sv8 m8 cs8, objH D (.deferred (some [])), cellsH b3 [.bool (false)] 4, cellsH b2 [(.slice none 0 0), (.slice none 0 0)] 41, cellsH b1 [arv, rsv] 33] L 11 [[], [], [], [], [], [], [], [], [], [], []] [[], [0], [], [2], [3], [], [5], [6], [], [4, 7, 8], [9]] (phiL [fun us v => v = ptr b4 1, fun us v => v = sv8, fun us v => v = pv, fun us v => v = (.pointer (some (elemA pv (0))) : Value), fun us v => v = (.int .i64 ((((ns.drop (2 * k)).take 2)).getD 0 0) : Value), fun us v => v = pv, fun us v => v = (.pointer (some (elemA pv (1))) : Value), fun us v => v = (.int .i64 ((((ns.drop (2 * k)).take 2)).getD 1 0) : Value), fun us v => v = u2, fun us v => v = (.agg #[.int .i64 ((((ns.drop (2 * k)).take 2)).getD 0 0), .int .i64 ((((ns.drop (2 * k)).take 2)).getD 1 0), u2] : Value), fun us v => ∃ b, v = .slice (some ⟨b, 0, none⟩) 1 1]) (ownL [fun us v => [], fun us v => [], fun us v => [], fun us v => [], fun us v => [], fun us v => [], fun us v => [], fun us v => [], fun us v => [], fun us v => [], fun us v => [slH 77 3 v 1 [.int .i64 ((((ns.drop (2 * k)).take 2)).getD 0 0), .int .i64 ((((ns.drop (2 * k)).take 2)).getD 1 0), u2]]]) mixed rfl rfl (by kernel_rfl) ?_ ?_
  ·refine pC (fun vals R hpZ => ?_) ?_
   ·refine XG.op (XOp.fieldP (b := b4) (1) runUnderlying41 rfl sizeOf39 (by decide) rfl rfl ?_)
    exact ⟨rfl, rfl, rfl⟩
   refine pC (fun vals R hpZ => ?_) ?_
   ·rw [eS (l := [(0, ptr b4 1)]) ⟨hpZ 0 (by decide), trivial⟩]
    refine XG.op (XOp.load1 (v := sv8) isAgg39 rfl (Rd.own [_] rfl rfl) ?_)
    exact ⟨rfl, rfl, rfl⟩
   refine pC (fun vals R hpZ => ?_) ?_
   ·refine XG.op (XOp.move (pv) rfl ?_)
    exact ⟨rfl, rfl, rfl⟩
   refine pC (fun vals R hpZ => ?_) ?_
   ·rw [eS (l := [(2, pv)]) ⟨hpZ 2 (by decide), trivial⟩]
    refine XG.op (XOp.indexS (v := pv) (i := 0) (n := (((ns.drop (2 * k)).take 2)).length) 0 runUnderlying22 sizeOf2 rfl rfl rfl hpv.slv (by omega) (Nat.mul_one _) ?_)
    exact ⟨rfl, rfl, rfl⟩
   refine pC (fun vals R hpZ => ?_) ?_
   ·rw [eS (l := [(3, (.pointer (some (elemA pv (0))) : Value))]) ⟨hpZ 3 (by decide), trivial⟩]
    refine XG.op (XOp.load1 (v := .int .i64 ((((ns.drop (2 * k)).take 2)).getD 0 0)) isAgg2 rfl (hpv.rd (by omega)) ?_)
    exact ⟨rfl, rfl, rfl⟩
   refine pC (fun vals R hpZ => ?_) ?_
   ·refine XG.op (XOp.move (pv) rfl ?_)
    exact ⟨rfl, rfl, rfl⟩
   refine pC (fun vals R hpZ => ?_) ?_
   ·rw [eS (l := [(5, pv)]) ⟨hpZ 5 (by decide), trivial⟩]
    refine XG.op (XOp.indexS (v := pv) (i := 1) (n := (((ns.drop (2 * k)).take 2)).length) 1 runUnderlying22 sizeOf2 rfl rfl rfl hpv.slv (by omega) (Nat.mul_one _) ?_)
    exact ⟨rfl, rfl, rfl⟩
   refine pC (fun vals R hpZ => ?_) ?_
   ·rw [eS (l := [(6, (.pointer (some (elemA pv (1))) : Value))]) ⟨hpZ 6 (by decide), trivial⟩]
    refine XG.op (XOp.load1 (v := .int .i64 ((((ns.drop (2 * k)).take 2)).getD 1 0)) isAgg2 rfl (hpv.rd (by omega)) ?_)
    exact ⟨rfl, rfl, rfl⟩
   refine pC (fun vals R hpZ => ?_) ?_
   ·refine XG.op (XOp.move (u2) rfl ?_)
    exact ⟨rfl, rfl, rfl⟩
   refine pC (fun vals R hpZ => ?_) ?_
   ·rw [eS (l := [(4, (.int .i64 ((((ns.drop (2 * k)).take 2)).getD 0 0) : Value)), (7, (.int .i64 ((((ns.drop (2 * k)).take 2)).getD 1 0) : Value)), (8, u2)]) ⟨hpZ 4 (by decide), hpZ 7 (by decide), hpZ 8 (by decide), trivial⟩]
    refine XG.op (XOp.build [.int .i64 ((((ns.drop (2 * k)).take 2)).getD 0 0), .int .i64 ((((ns.drop (2 * k)).take 2)).getD 1 0), u2] [.int .i64 (0), .int .i64 (0), (.slice none 0 0)] [(0, 1), (1, 1), (2, 1)] [(0, [.int .i64 ((((ns.drop (2 * k)).take 2)).getD 0 0)]), (1, [.int .i64 ((((ns.drop (2 * k)).take 2)).getD 1 0)]), (2, [u2])] runUnderlying77 zeroValue77 rfl (.cons rfl sizeOf2 (.cons rfl sizeOf2 (.cons rfl sizeOf22 PlacesAre.nil))) rfl (.cons rfl (.cons rfl (.cons (cells_one (IntsF.isSl f9_1hr)) CellsAre.nil))) ?_)
    exact ⟨rfl, rfl, rfl⟩
   refine pC (fun vals R hpZ => ?_) ?_
   ·rw [eS (l := [(9, (.agg #[.int .i64 ((((ns.drop (2 * k)).take 2)).getD 0 0), .int .i64 ((((ns.drop (2 * k)).take 2)).getD 1 0), u2] : Value))]) ⟨hpZ 9 (by decide), trivial⟩]
    refine XG.op (XOp.buildSlice (s := 3) [.int .i64 ((((ns.drop (2 * k)).take 2)).getD 0 0), .int .i64 ((((ns.drop (2 * k)).take 2)).getD 1 0), u2] [.int .i64 (0), .int .i64 (0), (.slice none 0 0)] [(0, [.int .i64 ((((ns.drop (2 * k)).take 2)).getD 0 0), .int .i64 ((((ns.drop (2 * k)).take 2)).getD 1 0), u2])] runUnderlying39 sizeOf77 zeroValue77 rfl (by decide) rfl (.cons rfl CellsAre.nil) rfl ?_)
    intro v3 hv2
    exact ⟨rfl, hv2, rfl⟩
   exact stepsP.nil
  intro vals hphi
  have f10 : ∃ b, (vals 10) = .slice (some ⟨b, 0, none⟩) 1 1 := hphi 10 (by decide)
  generalize hu10 : vals 10 = u3 at f10
  rw [eS (l := [(1, sv8), (10, u3)]) ⟨(hphi 1 (by decide)), hu10, trivial⟩]
  show XIL _ _ _ _ _ _ _ _ _ (slH 77 3 u3 1 [.int .i64 ((((ns.drop (2 * k)).take 2)).getD 0 0), .int .i64 ((((ns.drop (2 * k)).take 2)).getD 1 0), u2] :: objH l (.loop { R with state := .busy }) :: cellsH b4 [v1, sv8] 41 :: slH 77 3 sv8 m8 cs8 :: objH D (.deferred (some [])) :: cellsH b3 [.bool (false)] 4 :: cellsH b2 [(.slice none 0 0), (.slice none 0 0)] 41 :: cellsH b1 [arv, rsv] 33 :: L)
  refine XIL.cons (XOp.append (m := 1) (bytes := 40) (cs := cs8) [_, _, _] _ [.int .i64 ((((ns.drop (2 * k)).take 2)).getD 0 0), .int .i64 ((((ns.drop (2 * k)).take 2)).getD 1 0), u2] runUnderlying39 typeInfo77 rfl rfl rfl rfl rfl rfl rfl (SlV.own [] rfl) rfl (Rd.lit [] rfl) (ones_cons rfl (ones_cons rfl (ones_cons (one_sl (IntsF.isSl f9_1hr)) ones_nil))) (by (try simp only [List.length_append, List.length_nil, List.length_cons, List.length_singleton]); omega) (by (try simp only [List.length_append, List.length_nil, List.length_cons, List.length_singleton]); omega) ?_)
  intro v4 hs2 hn1 hm1
  have hc1 := StepsC.snoc hC8 (i := (((ns.drop (2 * k)).take 2)).getD 0 0) (j := (((ns.drop (2 * k)).take 2)).getD 1 0) f9_1hr
  refine XIL.cons (XOp.fieldP (b := b4) (1) runUnderlying41 rfl sizeOf39 (by decide) rfl rfl ?_)
  refine XIL.cons (XOp.store1 (v := v4) [_, _] _ [v1, v4] sizeOf39 rfl rfl (one_sl hs2) rfl rfl rfl ?_)
  refine XIL.nil ?_
  refine roundNB ⟨cellsH b4 [v1, v4] 41 :: slH 77 3 v4 ((m8) + 1) (cs8 ++ [.int .i64 ((((ns.drop (2 * k)).take 2)).getD 0 0), .int .i64 ((((ns.drop (2 * k)).take 2)).getD 1 0), u2]) :: objH D (.deferred (some [])) :: cellsH b3 [.bool (false)] 4 :: cellsH b2 [(.slice none 0 0), (.slice none 0 0)] 41 :: cellsH b1 [arv, rsv] 33 :: L, (sD (sC (sC (sC (sC (sC (sC (sC sR)))))))), ?_⟩
  rw [hR0]
  exact .inl ⟨rfl, _, ⟨_, _, _, _, _, hs2, hc1, by rw [List.length_append, List.length_singleton]; omega, DeepL.snoc hDp rfl ⟨_, rfl, rfl⟩, (Fresh.app hZ leF (Fresh.one f9_1hz) le7), wfI_next hkb hI8 hu1, rfl⟩, rfl⟩
 refine (Does.weaken (Sub.trans (Sub.addNil 77 3 none _) (Sub.trans (Sub.front (A := [_, _, _, _, _, _])) (Sub.trans (Sub.front (A := [_, _, _, _, _, _])) (Sub.trans (Sub.front (A := [_, _, _, _, _, _])) (Sub.trans (Sub.front (A := [_, _, _, _, _])) (Sub.trans (Sub.front (A := [_, _, _, _])) (Sub.trans (Sub.front (A := [_, _, _, _, _, _])) (Sub.trans (Sub.front (A := [_, _, _, _, _, _])) (sC (sC (sC (sC (sC (sC (sC sR))))))))))))))) (chunkIt_spec (R2 := { R with state := .done, pending := some .ret }) (J := (WKJ F2 2 77 41 b4 v1 (objH D (.deferred (some [])) :: cellsH b3 [.bool (false)] 4 :: cellsH b2 [(.slice none 0 0), (.slice none 0 0)] 41 :: cellsH b1 [arv, rsv] 33 :: L) (wfI ar rs t ns))) (Jx := (fun (_ : FH) (L2 : List HP) => wfGo ar rs t ns = none ∧ cellsH b2 [(.slice none 0 0), (.slice none 0 0)] 41 :: cellsH b3 [.bool (false)] 4 :: objH D (.deferred (some [])) :: L = L2)) hb1 hb2 hns hm2 (by omega) (WKJ.start (wfI_start ho)) WKJ.mono hyes)).mono ?_
 rintro _ F9 _ le9 (⟨L9, ⟨sv9, ss9, cs9, Ls9, m9, hsv9, hC9, hm9, hD9, hZ9, hI9, rfl⟩, rfl⟩ | ⟨L9, ⟨hI9, rfl⟩, rfl⟩)
 replace hf1 := hf1.mono le9
 ·have hw9 := wfI_end (by omega) hI9
  have hl9 := hI9.1
  refine ⟨R, cellsH b4 [v1, sv9] 41 :: slH 77 3 sv9 m9 cs9 :: cellsH b3 [.bool (false)] 4 :: cellsH b2 [(.slice none 0 0), (.slice none 0 0)] 41 :: cellsH b1 [arv, rsv] 33 :: L, by rw [hRs]; simp, (Sub.trans (Sub.front (A := [_, _, _, _, _, _])) (Sub.trans (Sub.front (A := [_, _, _, _, _, _])) (Sub.trans (Sub.front (A := [_, _, _, _, _, _])) (Sub.trans (Sub.front (A := [_, _, _, _, _])) (Sub.trans (Sub.front (A := [_, _, _, _, _])) (Sub.trans (Sub.front (A := [_, _, _, _, _, _])) (Sub.trans (Sub.front (A := [_, _, _, _, _, _])) (sC (sC (sC (sC (sC (sC (sC sR)))))))))))))), .inl ⟨hRp, ?_⟩⟩
  refine XI.seq ?_
  refine XI.region ?_
  refine XIL.cons (XOp.loadN [v1, sv9] isAgg41 sizeOf41 rfl rfl (Rd.ownN [_] rfl rfl) ?_)
  refine XIL.cons (XOp.storeN (vs := [v1, sv9]) [_, _, _, _] _ [v1, sv9] sizeOf41 rfl rfl rfl (ones_cons (one_sl (IntsF.isSl hf1)) (ones_cons (one_sl hsv9) ones_nil)) rfl rfl rfl ?_)
  refine XIL.cons (XOp.store1 (v := .bool (true)) [_, _, _] _ [.bool (true)] sizeOf4 rfl rfl rfl rfl rfl rfl ?_)
  refine XIL.nil ?_
  refine XI.freezeF [_, _] _ _ rfl (fun F8 le8 hz2 => ?_)
  replace hf1 := hf1.mono le8
  replace hC9 := hC9.mono le8
  have hf2 : StepsF F8 sv9 ss9 := CO.fz hC9 (by first | rfl | simp | omega) hz2.fz
  refine XI.ret (retEndC (L' := L) (cellsH b4 [v1, sv9] 41 :: cellsH b3 [.bool (true)] 4 :: cellsH b2 [v1, sv9] 41 :: cellsH b1 [arv, rsv] 33 :: L) [.agg #[v1, sv9], .bool (true)] (.tuple #[.agg #[v1, sv9], .bool (true)]) (.cell rfl (loadNV [v1, sv9] isAgg41 sizeOf41 rfl (Rd.ownN [_, _, _] rfl rfl)) (.cell rfl (load1V (v := .bool (true)) isAgg4 (Rd.own [_, _] rfl rfl)) .nil)) rfl (FLe.trans (FLe.trans (FLe.trans le1 le2) le9) le8) rF (sC (sC (sC (sC (sC sR))))) (sD (sD (sD (sD sR)))) ?_)
  have e : walkFromF ar rs t ns = (t, ss9, true) := walkFromF_some ⟨hri, by omega, by omega⟩ hw9
  exact ⟨_, _, by rw [e], by rw [e]; exact hf1, by rw [e]; exact hf2, by rw [e]; exact (Fresh.app ((Fresh.one hz1).mono le2) (FLe.trans le1 le2) (Fresh.one (Fresh.deep hD9 hZ9 le9 hz2 (by omega) le8)) (FLe.trans le9 le8)), rfl⟩
 refine ⟨_, cellsH b2 [(.slice none 0 0), (.slice none 0 0)] 41 :: cellsH b3 [.bool (false)] 4 :: L, by simp, (Sub.trans (Sub.front (A := [_, _])) (Sub.trans (Sub.front (A := [_, _])) (Sub.trans (Sub.front (A := [_, _, _])) (Sub.trans (Sub.front (A := [_, _, _])) (sC (sC (sC (sC sR)))))))), .inr ⟨rfl, ?_⟩⟩
 refine (retEndC (L' := L) (cellsH b2 [(.slice none 0 0), (.slice none 0 0)] 41 :: cellsH b3 [.bool (false)] 4 :: L) [.agg #[(.slice none 0 0), (.slice none 0 0)], .bool (false)] (.tuple #[.agg #[(.slice none 0 0), (.slice none 0 0)], .bool (false)]) (.cell rfl (loadNV [(.slice none 0 0), (.slice none 0 0)] isAgg41 sizeOf41 rfl (Rd.ownN [_] rfl rfl)) (.cell rfl (load1V (v := .bool (false)) isAgg4 (Rd.own [_, _] rfl rfl)) .nil)) rfl (FLe.trans (FLe.trans le1 le2) le9) rF (sC (sC (sC sR))) (sD (sD sR)) ?_)
 have e : walkFromF ar rs t ns = ([], [], false) := walkFromF_none hI9
 exact ⟨_, _, by rw [e], by rw [e]; exact IntsF.nilV, by rw [e]; exact SlOf.nilV, by rw [e]; exact Fresh.empty nilWalk, rfl⟩

/- impl.WalkFrom -/
set_option maxRecDepth 20000 in
theorem WalkFrom_spec {F : FH} {L : List HP} {arv : Value} {ar : List Int} (har : IntsF F arv ar) {rsv : Value} {rs : List (List Int × List Int)} (hrs : PairsF F rsv rs) {tv : Value} {t : List Int} (ht : IntsF F tv t) {nsv : Value} {ns : List Int} (hns : IntsF F nsv ns) (hln : ns.length ≤ 4000000) :
    Does prog 20 [.agg #[arv, rsv], tv, nsv] F (L) (fun v F' L' => ∃ (a : Value), ∃ (b : Value), (.tuple #[.agg #[a, b], .bool ((walkFromF ar rs t ns).2.2)] : Value) = v ∧ (IntsF F' a (walkFromF ar rs t ns).1) ∧ (StepsF F' b (walkFromF ar rs t ns).2.1) ∧ (Fresh F F' (star [intsH 2 a (walkFromF ar rs t ns).1, stepsD 2 77 b (walkFromF ar rs t ns).2.1])) ∧ L = L') := by
 refine Does.of_X func20 rfl rfl rfl ?_
 refine X.seq (X.region ?_)
 refine cX (XOp.box [arv, rsv] rfl rfl ?_)
 intro b1
 refine cX (XOp.alloc [(.slice none 0 0), (.slice none 0 0)] zeroValue41 rfl ?_)
 intro b2
 refine XL.as (.bool (false)) rfl ?_
 refine XL.nil (X.seq (X.seq (X.region ?_)))
 refine cX (XOp.loadN [arv, rsv] isAgg33 sizeOf33 rfl rfl (Rd.ownN [_] rfl rfl) ?_)
 refine cX (XOp.call (args := [.agg #[arv, rsv]]) call55 rfl (SystemOk_spec har hrs) ?_)
 rintro _ _ _ _ ⟨rfl, rfl, rfl⟩
 refine cX (XOp.notB (b := sysOk ar rs) rfl ?_)
 refine XL.mv (.bool (!(sysOk ar rs))) rfl ?_
 by_cases h1 : (!(sysOk ar rs)) = true
 ·refine XL.no (t := 11) rfl (vB h1) ?_
  refine XL.no (t := 11) rfl (vB h1) ?_
  refine XL.no (t := 11) rfl (vB h1) ?_
  refine XL.no (t := 11) rfl (vB h1) ?_
  refine XL.no (t := 11) rfl (vB h1) ?_
  refine cX (XOp.pickT (.bool (true)) (vB h1) rfl ?_)
  refine XL.nil ?_
  refine X.condT rfl ?_
  refine X.seq (X.region ?_)
  refine cX (XOp.build [(.slice none 0 0), (.slice none 0 0)] [(.slice none 0 0), (.slice none 0 0)] [(0, 1), (1, 1)] [] runUnderlying41 zeroValue41 rfl (.cons rfl sizeOf22 (.cons rfl sizeOf39 PlacesAre.nil)) rfl CellsAre.nil ?_)
  refine cX (XOp.storeN (vs := [(.slice none 0 0), (.slice none 0 0)]) [] _ [(.slice none 0 0), (.slice none 0 0)] sizeOf41 rfl rfl rfl (ones_cons rfl (ones_cons rfl ones_nil)) rfl rfl rfl ?_)
  refine XL.as (.bool (false)) rfl ?_
  refine XL.nil ?_
  refine X.ret (thenQ_ret (retEnd (L' := L) [.agg #[(.slice none 0 0), (.slice none 0 0)], .bool (false)] (.tuple #[.agg #[(.slice none 0 0), (.slice none 0 0)], .bool (false)]) (.cell rfl (loadNV [(.slice none 0 0), (.slice none 0 0)] isAgg41 sizeOf41 rfl (Rd.ownN [] rfl rfl)) (.tmp rfl .nil)) rfl rF rF (sD (sD sR)) ?_))
  have hri : rightB ar rs t = false := by unfold rightB; simp_all
  have e : walkFromF ar rs t ns = ([], [], false) := walkFromF_no (fun hq => by rw [hri] at hq; cases hq.1)
  exact ⟨_, _, by rw [e], by rw [e]; exact IntsF.nilV, by rw [e]; exact SlOf.nilV, by rw [e]; exact Fresh.empty nilWalk, rfl⟩
 rw [Bool.not_eq_true] at h1
 refine XL.yes (t := 11) rfl (vB h1) (XOp.fieldP (b := b1) (0) runUnderlying33 rfl sizeOf30 (by decide) rfl rfl ?_)
 refine XL.yes (t := 11) rfl (vB h1) (XOp.loadN [arv] isAgg30 sizeOf30 rfl rfl (Rd.ownN [_] rfl rfl) ?_)
 refine XL.yes (t := 11) rfl (vB h1) (XOp.move (tv) rfl ?_)
 refine XL.yes (t := 11) rfl (vB h1) (XOp.call (args := [.agg #[arv], tv]) call56 rfl (TermOk_spec har ht) ?_)
 rintro _ _ _ _ ⟨rfl, rfl, rfl⟩
 refine XL.yes (t := 11) rfl (vB h1) (XOp.notB (b := termOk ar t) rfl ?_)
 refine cX (XOp.pickF (.bool (!(termOk ar t))) (vB h1) rfl ?_)
 refine XL.nil ?_
 refine X.cond (t := !(termOk ar t)) rfl (fun h2 => ?_) (fun h2 => ?_)
 ·refine X.seq (X.region ?_)
  refine cX (XOp.build [(.slice none 0 0), (.slice none 0 0)] [(.slice none 0 0), (.slice none 0 0)] [(0, 1), (1, 1)] [] runUnderlying41 zeroValue41 rfl (.cons rfl sizeOf22 (.cons rfl sizeOf39 PlacesAre.nil)) rfl CellsAre.nil ?_)
  refine cX (XOp.storeN (vs := [(.slice none 0 0), (.slice none 0 0)]) [] _ [(.slice none 0 0), (.slice none 0 0)] sizeOf41 rfl rfl rfl (ones_cons rfl (ones_cons rfl ones_nil)) rfl rfl rfl ?_)
  refine XL.as (.bool (false)) rfl ?_
  refine XL.nil ?_
  refine X.ret (thenQ_ret (retEnd (L' := L) [.agg #[(.slice none 0 0), (.slice none 0 0)], .bool (false)] (.tuple #[.agg #[(.slice none 0 0), (.slice none 0 0)], .bool (false)]) (.cell rfl (loadNV [(.slice none 0 0), (.slice none 0 0)] isAgg41 sizeOf41 rfl (Rd.ownN [] rfl rfl)) (.tmp rfl .nil)) rfl rF rF (sD (sD sR)) ?_))
  have hri : rightB ar rs t = false := by unfold rightB; simp_all
  have e : walkFromF ar rs t ns = ([], [], false) := walkFromF_no (fun hq => by rw [hri] at hq; cases hq.1)
  exact ⟨_, _, by rw [e], by rw [e]; exact IntsF.nilV, by rw [e]; exact SlOf.nilV, by rw [e]; exact Fresh.empty nilWalk, rfl⟩
 refine X.skip (X.seq (X.region ?_))
 have hri : rightB ar rs t = true := by unfold rightB; simp_all
 refine cX (XOp.loadN [arv, rsv] isAgg33 sizeOf33 rfl rfl (Rd.ownN [_] rfl rfl) ?_)
 refine XL.mv (tv) rfl ?_
 refine XL.mv (nsv) rfl ?_
 refine cX (XOp.call (args := [.agg #[arv, rsv], tv, nsv]) call57 rfl (walkFrom_spec har hrs ht hns (hri := (by first | assumption | rfl | omega | simp)) (hln := (by first | assumption | rfl | omega | simp))) ?_)
 rintro _ F1 _ le1 ⟨x1, x2, rfl, hr1, hr2, hr3, rfl⟩
 refine cX (XOp.extract (.agg #[x1, x2]) rfl rfl ?_)
 refine cX (XOp.extract (.bool ((walkFromF ar rs t ns).2.2)) rfl rfl ?_)
 refine cX (XOp.storeN (vs := [x1, x2]) [] _ [x1, x2] sizeOf41 rfl rfl rfl (ones_cons (one_sl (IntsF.isSl hr1)) (ones_cons (one_sl (StepsF.isSl hr2)) ones_nil)) rfl rfl rfl ?_)
 refine XL.as (.bool ((walkFromF ar rs t ns).2.2)) rfl ?_
 refine XL.nil ?_
 refine X.ret (retEnd (L' := L) [.agg #[x1, x2], .bool ((walkFromF ar rs t ns).2.2)] (.tuple #[.agg #[x1, x2], .bool ((walkFromF ar rs t ns).2.2)]) (.cell rfl (loadNV [x1, x2] isAgg41 sizeOf41 rfl (Rd.ownN [] rfl rfl)) (.tmp rfl .nil)) rfl le1 rF (sD (sD sR)) ?_)
 exact ⟨_, _, rfl, hr1, hr2, hr3, rfl⟩

/- spec.WalkFrom -/
set_option maxRecDepth 20000 in
theorem sWalkFrom_spec {F : FH} {L : List HP} {arv : Value} {ar : List Int} (har : IntsF F arv ar) {rsv : Value} {rs : List (List Int × List Int)} (hrs : PairsF F rsv rs) {tv : Value} {t : List Int} (ht : IntsF F tv t) {nsv : Value} {ns : List Int} (hns : IntsF F nsv ns) (hla : ar.length ≤ 4000000) (hlr : rs.length ≤ 4000000) (hrb : ∀ i, i < rs.length → (rs.getD i ([], [])).1.length ≤ 4000000 ∧ (rs.getD i ([], [])).2.length ≤ 4000000) (hlt : t.length ≤ 4000000) (hln : ns.length ≤ 4000000) :
    Does prog 19 [.agg #[arv, rsv], tv, nsv] F (L) (fun v F' L' => ∃ (a : Value), ∃ (b : Value), (.tuple #[.agg #[a, b], .bool ((walkFromF ar rs t ns).2.2)] : Value) = v ∧ (IntsF F' a (walkFromF ar rs t ns).1) ∧ (StepsF F' b (walkFromF ar rs t ns).2.1) ∧ L = L') := by
 refine Does.of_X func19 rfl rfl rfl ?_
 refine X.seq (X.region ?_)
 refine cX (XOp.box [arv, rsv] rfl rfl ?_)
 intro b1
 refine cX (XOp.alloc [(.slice none 0 0), (.slice none 0 0)] zeroValue41 rfl ?_)
 intro b2
 refine XL.as (.bool (false)) rfl ?_
 refine XL.nil (X.seq (X.seq (X.region ?_)))
 refine cX (XOp.loadN [arv, rsv] isAgg33 sizeOf33 rfl rfl (Rd.ownN [_] rfl rfl) ?_)
 refine XL.mv (tv) rfl ?_
 refine cX (XOp.call (args := [.agg #[arv, rsv], tv]) call53 rfl (l7Right_spec har hrs ht (hla := (by first | assumption | rfl | omega | simp)) (hlr := (by first | assumption | rfl | omega | simp)) (hrb := (by first | assumption | rfl | omega | simp)) (hlt := (by first | assumption | rfl | omega | simp))) ?_)
 rintro _ _ _ _ ⟨rfl, rfl, rfl⟩
 refine cX (XOp.notB (b := rightB ar rs t) rfl ?_)
 refine XL.mv (.bool (!(rightB ar rs t))) rfl ?_
 by_cases h1 : (!(rightB ar rs t)) = true
 ·refine XL.no (t := 17) rfl (vB h1) ?_
  refine XL.no (t := 17) rfl (vB h1) ?_
  refine XL.no (t := 17) rfl (vB h1) ?_
  refine XL.no (t := 17) rfl (vB h1) ?_
  refine cX (XOp.pickT (.bool (true)) (vB h1) rfl ?_)
  refine XL.mv (.bool (true)) rfl ?_
  refine XL.no (t := 23) rfl rfl ?_
  refine XL.no (t := 23) rfl rfl ?_
  refine XL.no (t := 23) rfl rfl ?_
  refine cX (XOp.pickT (.bool (true)) rfl rfl ?_)
  refine XL.nil ?_
  refine X.condT rfl ?_
  refine X.seq (X.region ?_)
  refine cX (XOp.build [(.slice none 0 0), (.slice none 0 0)] [(.slice none 0 0), (.slice none 0 0)] [(0, 1), (1, 1)] [] runUnderlying41 zeroValue41 rfl (.cons rfl sizeOf22 (.cons rfl sizeOf39 PlacesAre.nil)) rfl CellsAre.nil ?_)
  refine cX (XOp.storeN (vs := [(.slice none 0 0), (.slice none 0 0)]) [] _ [(.slice none 0 0), (.slice none 0 0)] sizeOf41 rfl rfl rfl (ones_cons rfl (ones_cons rfl ones_nil)) rfl rfl rfl ?_)
  refine XL.as (.bool (false)) rfl ?_
  refine XL.nil ?_
  refine X.ret (thenQ_ret (retEnd (L' := L) [.agg #[(.slice none 0 0), (.slice none 0 0)], .bool (false)] (.tuple #[.agg #[(.slice none 0 0), (.slice none 0 0)], .bool (false)]) (.cell rfl (loadNV [(.slice none 0 0), (.slice none 0 0)] isAgg41 sizeOf41 rfl (Rd.ownN [] rfl rfl)) (.tmp rfl .nil)) rfl rF rF (sD (sD sR)) ?_))
  have e : walkFromF ar rs t ns = ([], [], false) := walkFromF_no (fun hq => by have h1 := hq.1; have h2 := hq.2.1; have h3 := hq.2.2; simp_all <;> omega)
  exact ⟨_, _, by rw [e], by rw [e]; exact IntsF.nilV, by rw [e]; exact SlOf.nilV, rfl⟩
 rw [Bool.not_eq_true] at h1
 refine XL.yes (t := 17) rfl (vB h1) (XOp.move (nsv) rfl ?_)
 refine XL.yes (t := 17) rfl (vB h1) (XOp.lenS (v := nsv) (n := (ns).length) runUnderlying22 rfl hns.slv ?_)
 refine XL.yes (t := 17) rfl (vB h1) (XOp.remC (a := (ns.length : Int)) (b := 2) rfl rfl (by omega) (by decide) ?_)
 refine XL.yes (t := 17) rfl (vB h1) (XOp.neq (a := ((ns.length : Int)) % 2) (b := 0) rfl rfl ?_)
 refine cX (XOp.pickF (.bool (decide ((((ns.length : Int)) % 2 : Int) ≠ 0))) (vB h1) rfl ?_)
 refine XL.mv (.bool (decide ((((ns.length : Int)) % 2 : Int) ≠ 0))) rfl ?_
 by_cases h2 : (((ns.length : Int)) % 2 : Int) ≠ 0
 ·refine XL.no (t := 23) rfl (vT h2) ?_
  refine XL.no (t := 23) rfl (vT h2) ?_
  refine XL.no (t := 23) rfl (vT h2) ?_
  refine cX (XOp.pickT (.bool (true)) (vT h2) rfl ?_)
  refine XL.nil ?_
  refine X.condT rfl ?_
  refine X.seq (X.region ?_)
  refine cX (XOp.build [(.slice none 0 0), (.slice none 0 0)] [(.slice none 0 0), (.slice none 0 0)] [(0, 1), (1, 1)] [] runUnderlying41 zeroValue41 rfl (.cons rfl sizeOf22 (.cons rfl sizeOf39 PlacesAre.nil)) rfl CellsAre.nil ?_)
  refine cX (XOp.storeN (vs := [(.slice none 0 0), (.slice none 0 0)]) [] _ [(.slice none 0 0), (.slice none 0 0)] sizeOf41 rfl rfl rfl (ones_cons rfl (ones_cons rfl ones_nil)) rfl rfl rfl ?_)
  refine XL.as (.bool (false)) rfl ?_
  refine XL.nil ?_
  refine X.ret (thenQ_ret (retEnd (L' := L) [.agg #[(.slice none 0 0), (.slice none 0 0)], .bool (false)] (.tuple #[.agg #[(.slice none 0 0), (.slice none 0 0)], .bool (false)]) (.cell rfl (loadNV [(.slice none 0 0), (.slice none 0 0)] isAgg41 sizeOf41 rfl (Rd.ownN [] rfl rfl)) (.tmp rfl .nil)) rfl rF rF (sD (sD sR)) ?_))
  have e : walkFromF ar rs t ns = ([], [], false) := walkFromF_no (fun hq => by have h1 := hq.1; have h2 := hq.2.1; have h3 := hq.2.2; simp_all <;> omega)
  exact ⟨_, _, by rw [e], by rw [e]; exact IntsF.nilV, by rw [e]; exact SlOf.nilV, rfl⟩
 refine XL.yes (t := 23) rfl (vF h2) (XOp.move (nsv) rfl ?_)
 refine XL.yes (t := 23) rfl (vF h2) (XOp.lenS (v := nsv) (n := (ns).length) runUnderlying22 rfl hns.slv ?_)
 refine XL.yes (t := 23) rfl (vF h2) (XOp.gtr (a := (ns.length : Int)) (b := 120) rfl rfl ?_)
 refine cX (XOp.pickF (.bool (decide (((ns.length : Int) : Int) > 120))) (vF h2) rfl ?_)
 refine XL.nil ?_
 refine X.condD (p := ((ns.length : Int) : Int) > 120) rfl (fun h3 => ?_) (fun h3 => ?_)
 ·refine X.seq (X.region ?_)
  refine cX (XOp.build [(.slice none 0 0), (.slice none 0 0)] [(.slice none 0 0), (.slice none 0 0)] [(0, 1), (1, 1)] [] runUnderlying41 zeroValue41 rfl (.cons rfl sizeOf22 (.cons rfl sizeOf39 PlacesAre.nil)) rfl CellsAre.nil ?_)
  refine cX (XOp.storeN (vs := [(.slice none 0 0), (.slice none 0 0)]) [] _ [(.slice none 0 0), (.slice none 0 0)] sizeOf41 rfl rfl rfl (ones_cons rfl (ones_cons rfl ones_nil)) rfl rfl rfl ?_)
  refine XL.as (.bool (false)) rfl ?_
  refine XL.nil ?_
  refine X.ret (thenQ_ret (retEnd (L' := L) [.agg #[(.slice none 0 0), (.slice none 0 0)], .bool (false)] (.tuple #[.agg #[(.slice none 0 0), (.slice none 0 0)], .bool (false)]) (.cell rfl (loadNV [(.slice none 0 0), (.slice none 0 0)] isAgg41 sizeOf41 rfl (Rd.ownN [] rfl rfl)) (.tmp rfl .nil)) rfl rF rF (sD (sD sR)) ?_))
  have e : walkFromF ar rs t ns = ([], [], false) := walkFromF_no (fun hq => by have h1 := hq.1; have h2 := hq.2.1; have h3 := hq.2.2; simp_all <;> omega)
  exact ⟨_, _, by rw [e], by rw [e]; exact IntsF.nilV, by rw [e]; exact SlOf.nilV, rfl⟩
 refine X.skip (X.seq (X.region ?_))
 have hri : rightB ar rs t = true := by simp_all
 have ho := (right_iff.1 hri).2
 have htl := termOk_len ho
 refine XL.mv (tv) rfl ?_
 refine cX (XOp.frzF <| XOp.call (args := [tv]) call49 rfl (l1Copy_spec ht (hlt := (by first | omega | (have := hto hu1; omega)))) ?_)
 rintro v1 _ _ _ ⟨rfl, hs1, rfl⟩
 refine ⟨_, _, rfl, fun F1 le1 hz1 => ?_⟩
 replace har := har.mono le1
 replace hrs := hrs.mono le1
 replace ht := ht.mono le1
 replace hns := hns.mono le1
 have hf1 : IntsF F1 v1 ((t)) := intsH.fz (xs := (t)) hz1.fz
 refine cX (XOp.build [v1, (.slice none 0 0)] [(.slice none 0 0), (.slice none 0 0)] [(0, 1), (1, 1)] [(0, [v1])] runUnderlying41 zeroValue41 rfl (.cons rfl sizeOf22 (.cons rfl sizeOf39 PlacesAre.nil)) rfl (.cons (cells_one (IntsF.isSl hf1)) CellsAre.nil) ?_)
 refine cX (XOp.alloc [(.slice none 0 0), (.slice none 0 0)] zeroValue41 rfl ?_)
 intro b3
 refine cX (XOp.storeN (vs := [v1, (.slice none 0 0)]) [] _ [v1, (.slice none 0 0)] sizeOf41 rfl rfl rfl (ones_cons (one_sl (IntsF.isSl hf1)) (ones_cons rfl ones_nil)) rfl rfl rfl ?_)
 refine XL.nil (X.seq (X.region ?_))
 refine XL.mv (tv) rfl ?_
 refine cX (XOp.frzF <| XOp.call (args := [tv]) call49 rfl (l1Copy_spec ht (hlt := (by first | omega | (have := hto hu1; omega)))) ?_)
 rintro v2 _ _ _ ⟨rfl, hs2, rfl⟩
 refine ⟨_, _, rfl, fun F2 le2 hz2 => ?_⟩
 replace har := har.mono le2
 replace hrs := hrs.mono le2
 replace hns := hns.mono le2
 replace hf1 := hf1.mono le2
 have hf2 : IntsF F2 v2 ((t)) := intsH.fz (xs := (t)) hz2.fz
 refine XL.as (v2) rfl ?_
 refine XL.nil (X.seq (X.seq (X.region ?_)))
 refine XL.as (.int .i64 (0)) rfl ?_
 refine XL.nil (X.block ?_)
 refine X.loop (α := Nat × Value × List Int × Value × List StepT × List Value × Nat × FH) (fun xQ => [(2, nsv), (3, ptr b1 0), (6, ptr b2 0), (8, ptr b3 0), (9, xQ.2.1), (10, .int .i64 ((((2 * xQ.1) : Nat) : Int)))]) (fun xQ => slH 77 3 xQ.2.2.2.1 xQ.2.2.2.2.2.2.1 xQ.2.2.2.2.2.1 :: cellsH b3 [v1, xQ.2.2.2.1] 41 :: cellsH b2 [(.slice none 0 0), (.slice none 0 0)] 41 :: cellsH b1 [arv, rsv] 33 :: L) (fun xQ F' => xQ.2.2.2.2.2.2.2 = F' ∧ F2 ≤ xQ.2.2.2.2.2.2.2 ∧ (2 * xQ.1 ≤ ns.length) ∧ (IntsF xQ.2.2.2.2.2.2.2 xQ.2.1 xQ.2.2.1) ∧ (xQ.2.2.1 = endL t xQ.2.2.2.2.1) ∧ (IsSl xQ.2.2.2.1) ∧ (StepsC xQ.2.2.2.2.2.2.2 xQ.2.2.2.2.2.1 xQ.2.2.2.2.1) ∧ (xQ.2.2.2.2.2.2.1 = xQ.2.2.2.2.1.length) ∧ (wfI ar rs t ns xQ.1 xQ.2.2.2.2.1)) (fun xQ => ns.length - 2 * xQ.1) (0, v2, t, (.slice none 0 0), [], [], 0, F2) ⟨rfl, rfl, rfl, rfl, rfl, rfl, trivial⟩ (Sub.trans (Sub.addNil 77 3 _ _) (sC (sC (sC (sC sR))))) ⟨rfl, FLe.refl _, (by (try dsimp only) <;> omega), (hf2), (rfl), (⟨_, _, _, rfl⟩), (CO.nil), (rfl), (wfI_start ho)⟩ ?_
 rintro ⟨k, cv, cur, sv, ss, cs, m, G1⟩ rE _ _ ⟨rfl, leG, hk, hcv, hcur, hsv, hC, hm, hI⟩
 show X _ _ _ _ (envs [(2, nsv), (3, ptr b1 0), (6, ptr b2 0), (8, ptr b3 0), (9, cv), (10, .int .i64 ((((2 * k) : Nat) : Int)))] rE) _ (slH 77 3 sv m cs :: cellsH b3 [v1, sv] 41 :: cellsH b2 [(.slice none 0 0), (.slice none 0 0)] 41 :: cellsH b1 [arv, rsv] 33 :: L)
 replace leG : F2 ≤ G1 := leG
 dsimp only at hk hcv hcur hsv hC hm hI
 have hcl : cur.length ≤ 60 := by rw [hcur]; exact wfI_len hI
 have hl8 := hI.1
 have hto := fun (h : (stepAtL ar rs cur (ns.getD (2 * k) 0) (ns.getD (2 * k + 1) 0)).isSome = true) => (termOk_len (right_iff.1 (stepAtL_ok (opt_get h)).1).2).2
 have leG1 := leG
 replace har := har.mono leG1
 replace hrs := hrs.mono leG1
 replace hns := hns.mono leG1
 replace hf1 := hf1.mono leG1
 refine X.seq (X.seq (X.region ?_))
 refine XL.mv (.int .i64 ((((2 * k) : Nat) : Int))) rfl ?_
 refine XL.mv (nsv) rfl ?_
 refine cX (XOp.lenS (v := nsv) (n := (ns).length) runUnderlying22 rfl hns.slv ?_)
 refine cX (XOp.lss (a := (((2 * k) : Nat) : Int)) (b := (ns.length : Int)) rfl rfl ?_)
 refine XL.nil ?_
 refine X.condD (p := ((((2 * k) : Nat) : Int) : Int) < (ns.length : Int)) rfl (fun h4 => ?_) (fun h4 => ?_)
 ·refine X.skip (X.seq (X.block (X.seq ?_)))
  refine X.drawG [slH 77 3 sv m cs, cellsH b3 [v1, sv] 41, cellsH b2 [(.slice none 0 0), (.slice none 0 0)] 41, cellsH b1 [arv, rsv] 33] L 16 [[], [], [], [], [], [], [], [], [], [], [], [], [11], [11], [], [11]] [[], [], [], [], [2, 3], [4], [], [], [7], [6, 8], [9], [0, 1, 5, 10], [11], [11, 12], [11, 12], [11, 13]] [[], [], [], [], [], [], [], [], [], [], [], [], [], [], [], []] (phiG [fun FF us v => v = (.agg #[arv, rsv] : Value), fun FF us v => v = cv, fun FF us v => v = nsv, fun FF us v => v = (.int .i64 ((((2 * k) : Nat) : Int)) : Value), fun FF us v => v = (.pointer (some (elemA nsv ((2 * k)))) : Value), fun FF us v => v = (.int .i64 (ns.getD ((2 * k)) 0) : Value), fun FF us v => v = nsv, fun FF us v => v = (.int .i64 ((((2 * k) : Nat) : Int)) : Value), fun FF us v => v = (.int .i64 (((((2 * k)) + 1 : Nat) : Int)) : Value), fun FF us v => v = (.pointer (some (elemA nsv (((2 * k)) + 1))) : Value), fun FF us v => v = (.int .i64 (ns.getD (((2 * k)) + 1) 0) : Value), fun FF us v => (.tuple #[((tupAt v 0)), .bool ((stepAtL ar rs cur (ns.getD ((2 * k)) 0) (ns.getD (((2 * k)) + 1) 0)).isSome)] : Value) = v ∧ (IntsF FF ((tupAt v 0)) ((stepAtL ar rs cur (ns.getD ((2 * k)) 0) (ns.getD (((2 * k)) + 1) 0)).getD [])), fun FF us v => v = (.tuple #[((tupAt (us.getD 0 undef) 0)), .bool ((stepAtL ar rs cur (ns.getD ((2 * k)) 0) (ns.getD (((2 * k)) + 1) 0)).isSome)] : Value), fun FF us v => v = ((tupAt (us.getD 0 undef) 0)), fun FF us v => v = (.bool ((stepAtL ar rs cur (ns.getD ((2 * k)) 0) (ns.getD (((2 * k)) + 1) 0)).isSome) : Value), fun FF us v => v = ((tupAt (us.getD 0 undef) 0))]) (ownL [fun us v => [], fun us v => [], fun us v => [], fun us v => [], fun us v => [], fun us v => [], fun us v => [], fun us v => [], fun us v => [], fun us v => [], fun us v => [], fun us v => [], fun us v => [], fun us v => [], fun us v => [], fun us v => []]) mixed rfl rfl (by kernel_rfl) (by kernel_rfl) (MonoG.get (mC (fun le h => h) (mC (fun le h => h) (mC (fun le h => h) (mC (fun le h => h) (mC (fun le h => h) (mC (fun le h => h) (mC (fun le h => h) (mC (fun le h => h) (mC (fun le h => h) (mC (fun le h => h) (mC (fun le h => h) (mC (fun le h => ⟨h.1, h.2.mono le⟩) (mC (fun le h => h) (mC (fun le h => h) (mC (fun le h => h) (mC (fun le h => h) MonoG.nil))))))))))))))))) ?_ ?_
  ·refine gC (fun vals Fs R leFs hpZ => ?_) ?_
   ·replace har := har.mono leFs
    replace hrs := hrs.mono leFs
    replace hns := hns.mono leFs
    replace hf1 := hf1.mono leFs
    replace hcv := hcv.mono leFs
    replace hC := hC.mono leFs
    refine XG.op (XOp.loadN [arv, rsv] isAgg33 sizeOf33 rfl rfl (Rd.ownN [_, _, _] rfl rfl) ?_)
    exact ⟨rfl, rfl⟩
   refine gC (fun vals Fs R leFs hpZ => ?_) ?_
   ·refine XG.op (XOp.move (cv) rfl ?_)
    exact ⟨rfl, rfl⟩
   refine gC (fun vals Fs R leFs hpZ => ?_) ?_
   ·refine XG.op (XOp.move (nsv) rfl ?_)
    exact ⟨rfl, rfl⟩
   refine gC (fun vals Fs R leFs hpZ => ?_) ?_
   ·refine XG.op (XOp.move (.int .i64 ((((2 * k) : Nat) : Int))) rfl ?_)
    exact ⟨rfl, rfl⟩
   refine gC (fun vals Fs R leFs hpZ => ?_) ?_
   ·replace har := har.mono leFs
    replace hrs := hrs.mono leFs
    replace hns := hns.mono leFs
    replace hf1 := hf1.mono leFs
    replace hcv := hcv.mono leFs
    replace hC := hC.mono leFs
    rw [eS (l := [(2, nsv), (3, (.int .i64 ((((2 * k) : Nat) : Int)) : Value))]) ⟨(hpZ 2 (by decide)), (hpZ 3 (by decide)), trivial⟩]
    refine XG.op (XOp.indexS (v := nsv) (i := (((2 * k) : Nat) : Int)) (n := (ns).length) ((2 * k)) runUnderlying22 sizeOf2 rfl rfl rfl hns.slv (by omega) (Nat.mul_one _) ?_)
    exact ⟨rfl, rfl⟩
   refine gC (fun vals Fs R leFs hpZ => ?_) ?_
   ·replace har := har.mono leFs
    replace hrs := hrs.mono leFs
    replace hns := hns.mono leFs
    replace hf1 := hf1.mono leFs
    replace hcv := hcv.mono leFs
    replace hC := hC.mono leFs
    rw [eS (l := [(4, (.pointer (some (elemA nsv ((2 * k)))) : Value))]) ⟨(hpZ 4 (by decide)), trivial⟩]
    refine XG.op (XOp.load1 (v := .int .i64 (ns.getD ((2 * k)) 0)) isAgg2 rfl (hns.rd (by omega)) ?_)
    exact ⟨rfl, rfl⟩
   refine gC (fun vals Fs R leFs hpZ => ?_) ?_
   ·refine XG.op (XOp.move (nsv) rfl ?_)
    exact ⟨rfl, rfl⟩
   refine gC (fun vals Fs R leFs hpZ => ?_) ?_
   ·refine XG.op (XOp.move (.int .i64 ((((2 * k) : Nat) : Int))) rfl ?_)
    exact ⟨rfl, rfl⟩
   refine gC (fun vals Fs R leFs hpZ => ?_) ?_
   ·rw [eS (l := [(7, (.int .i64 ((((2 * k) : Nat) : Int)) : Value))]) ⟨(hpZ 7 (by decide)), trivial⟩]
    refine XG.op (XOp.addR (a := (((2 * k) : Nat) : Int)) (b := 1) (((((2 * k)) + 1 : Nat) : Int)) rfl rfl (by omega) (by omega) ?_)
    exact ⟨rfl, rfl⟩
   refine gC (fun vals Fs R leFs hpZ => ?_) ?_
   ·replace har := har.mono leFs
    replace hrs := hrs.mono leFs
    replace hns := hns.mono leFs
    replace hf1 := hf1.mono leFs
    replace hcv := hcv.mono leFs
    replace hC := hC.mono leFs
    rw [eS (l := [(6, nsv), (8, (.int .i64 (((((2 * k)) + 1 : Nat) : Int)) : Value))]) ⟨(hpZ 6 (by decide)), (hpZ 8 (by decide)), trivial⟩]
    refine XG.op (XOp.indexS (v := nsv) (i := ((((2 * k)) + 1 : Nat) : Int)) (n := (ns).length) (((2 * k)) + 1) runUnderlying22 sizeOf2 rfl rfl rfl hns.slv (by omega) (Nat.mul_one _) ?_)
    exact ⟨rfl, rfl⟩
   refine gC (fun vals Fs R leFs hpZ => ?_) ?_
   ·replace har := har.mono leFs
    replace hrs := hrs.mono leFs
    replace hns := hns.mono leFs
    replace hf1 := hf1.mono leFs
    replace hcv := hcv.mono leFs
    replace hC := hC.mono leFs
    rw [eS (l := [(9, (.pointer (some (elemA nsv (((2 * k)) + 1))) : Value))]) ⟨(hpZ 9 (by decide)), trivial⟩]
    refine XG.op (XOp.load1 (v := .int .i64 (ns.getD (((2 * k)) + 1) 0)) isAgg2 rfl (hns.rd (by omega)) ?_)
    exact ⟨rfl, rfl⟩
   refine gC (fun vals Fs R leFs hpZ => ?_) ?_
   ·replace har := har.mono leFs
    replace hrs := hrs.mono leFs
    replace hns := hns.mono leFs
    replace hf1 := hf1.mono leFs
    replace hcv := hcv.mono leFs
    replace hC := hC.mono leFs
    rw [eS (l := [(0, (.agg #[arv, rsv] : Value)), (1, cv), (5, (.int .i64 (ns.getD ((2 * k)) 0) : Value)), (10, (.int .i64 (ns.getD (((2 * k)) + 1) 0) : Value))]) ⟨(hpZ 0 (by decide)), (hpZ 1 (by decide)), (hpZ 5 (by decide)), (hpZ 10 (by decide)), trivial⟩]
    refine XG.op (XOp.call (args := [.agg #[arv, rsv], cv, .int .i64 (ns.getD ((2 * k)) 0), .int .i64 (ns.getD (((2 * k)) + 1) 0)]) call54 rfl (sStepAt_spec (p := ns.getD ((2 * k)) 0) (r := ns.getD (((2 * k)) + 1) 0) har hrs hcv (hla := (by first | assumption | rfl | omega | simp)) (hlr := (by first | assumption | rfl | omega | simp)) (hrb := (by first | assumption | rfl | omega | simp)) (hlt := (by first | assumption | rfl | omega | simp))) ?_)
    rintro _ F4 _ le4 ⟨x2, rfl, hr2, rfl⟩
    replace hns := hns.mono le4
    replace hf1 := hf1.mono le4
    replace hC := hC.mono le4
    exact ⟨⟨rfl, hr2⟩, rfl⟩
   refine gC (fun vals Fs R leFs hpZ => ?_) ?_
   ·obtain ⟨e11, f11_1hr⟩ := hpZ 11 (by decide)
    rw [eS (l := [(11, (.tuple #[((tupAt (vals 11) 0)), .bool ((stepAtL ar rs cur (ns.getD ((2 * k)) 0) (ns.getD (((2 * k)) + 1) 0)).isSome)] : Value))]) ⟨(e11).symm, trivial⟩]
    refine XG.op (XOp.move (.tuple #[((tupAt (vals 11) 0)), .bool ((stepAtL ar rs cur (ns.getD ((2 * k)) 0) (ns.getD (((2 * k)) + 1) 0)).isSome)]) rfl ?_)
    exact ⟨rfl, rfl⟩
   refine gC (fun vals Fs R leFs hpZ => ?_) ?_
   ·obtain ⟨e11, f11_1hr⟩ := hpZ 11 (by decide)
    have e12 : vals 12 = (.tuple #[((tupAt (vals 11) 0)), .bool ((stepAtL ar rs cur (ns.getD ((2 * k)) 0) (ns.getD (((2 * k)) + 1) 0)).isSome)] : Value) := hpZ 12 (by decide)
    rw [eS (l := [(11, (.tuple #[((tupAt (vals 11) 0)), .bool ((stepAtL ar rs cur (ns.getD ((2 * k)) 0) (ns.getD (((2 * k)) + 1) 0)).isSome)] : Value)), (12, (.tuple #[((tupAt (vals 11) 0)), .bool ((stepAtL ar rs cur (ns.getD ((2 * k)) 0) (ns.getD (((2 * k)) + 1) 0)).isSome)] : Value))]) ⟨(e11).symm, e12, trivial⟩]
    refine XG.op (XOp.extract (((tupAt (vals 11) 0))) rfl rfl ?_)
    exact ⟨rfl, rfl⟩
   refine gC (fun vals Fs R leFs hpZ => ?_) ?_
   ·obtain ⟨e11, f11_1hr⟩ := hpZ 11 (by decide)
    have e12 : vals 12 = (.tuple #[((tupAt (vals 11) 0)), .bool ((stepAtL ar rs cur (ns.getD ((2 * k)) 0) (ns.getD (((2 * k)) + 1) 0)).isSome)] : Value) := hpZ 12 (by decide)
    rw [eS (l := [(11, (.tuple #[((tupAt (vals 11) 0)), .bool ((stepAtL ar rs cur (ns.getD ((2 * k)) 0) (ns.getD (((2 * k)) + 1) 0)).isSome)] : Value)), (12, (.tuple #[((tupAt (vals 11) 0)), .bool ((stepAtL ar rs cur (ns.getD ((2 * k)) 0) (ns.getD (((2 * k)) + 1) 0)).isSome)] : Value))]) ⟨(e11).symm, e12, trivial⟩]
    refine XG.op (XOp.extract (.bool ((stepAtL ar rs cur (ns.getD ((2 * k)) 0) (ns.getD (((2 * k)) + 1) 0)).isSome)) rfl rfl ?_)
    exact ⟨rfl, rfl⟩
   refine gC (fun vals Fs R leFs hpZ => ?_) ?_
   ·obtain ⟨e11, f11_1hr⟩ := hpZ 11 (by decide)
    have e13 : vals 13 = ((tupAt (vals 11) 0)) := hpZ 13 (by decide)
    rw [eS (l := [(11, (.tuple #[((tupAt (vals 11) 0)), .bool ((stepAtL ar rs cur (ns.getD ((2 * k)) 0) (ns.getD (((2 * k)) + 1) 0)).isSome)] : Value)), (13, ((tupAt (vals 11) 0)))]) ⟨(e11).symm, e13, trivial⟩]
    refine XG.op (XOp.assign (((tupAt (vals 11) 0))) rfl ?_)
    exact ⟨rfl, rfl⟩
   exact stepsG.nil
  intro vals F5 le5 hphi
  obtain ⟨e11, f11_1hr⟩ := hphi 11 (by decide)
  have e12 : vals 12 = (.tuple #[((tupAt (vals 11) 0)), .bool ((stepAtL ar rs cur (ns.getD ((2 * k)) 0) (ns.getD (((2 * k)) + 1) 0)).isSome)] : Value) := hphi 12 (by decide)
  have e13 : vals 13 = ((tupAt (vals 11) 0)) := hphi 13 (by decide)
  have e15 : vals 15 = ((tupAt (vals 11) 0)) := hphi 15 (by decide)
  generalize hu1 : ((tupAt (vals 11) 0)) = u1 at e11 f11_1hr e12 e13 e15
  rw [eS (l := [(11, (.tuple #[u1, .bool ((stepAtL ar rs cur (ns.getD ((2 * k)) 0) (ns.getD (((2 * k)) + 1) 0)).isSome)] : Value)), (14, (.bool ((stepAtL ar rs cur (ns.getD ((2 * k)) 0) (ns.getD (((2 * k)) + 1) 0)).isSome) : Value)), (15, u1)]) ⟨(e11).symm, (hphi 14 (by decide)), e15, trivial⟩]
  replace hns := hns.mono le5
  replace hf1 := hf1.mono le5
  replace hC := hC.mono le5
  show XL _ _ _ _ _ _ _ (slH 77 3 sv m cs :: cellsH b3 [v1, sv] 41 :: cellsH b2 [(.slice none 0 0), (.slice none 0 0)] 41 :: cellsH b1 [arv, rsv] 33 :: L)
  refine XL.as (.bool ((stepAtL ar rs cur (ns.getD ((2 * k)) 0) (ns.getD (((2 * k)) + 1) 0)).isSome)) rfl ?_
  refine XL.nil (X.seq (X.seq (X.region ?_)))
  refine XL.mv (.bool ((stepAtL ar rs cur (ns.getD ((2 * k)) 0) (ns.getD (((2 * k)) + 1) 0)).isSome)) rfl ?_
  refine cX (XOp.notB (b := (stepAtL ar rs cur (ns.getD ((2 * k)) 0) (ns.getD (((2 * k)) + 1) 0)).isSome) rfl ?_)
  refine XL.nil ?_
  refine X.cond (t := !((stepAtL ar rs cur (ns.getD ((2 * k)) 0) (ns.getD (((2 * k)) + 1) 0)).isSome)) rfl (fun h5 => ?_) (fun h5 => ?_)
  ·have hu1 : (stepAtL ar rs cur (ns.getD (2 * k) 0) (ns.getD (2 * k + 1) 0)).isSome = false := by simpa using h5
   refine X.seq (X.region ?_)
   refine cX (XOp.build [(.slice none 0 0), (.slice none 0 0)] [(.slice none 0 0), (.slice none 0 0)] [(0, 1), (1, 1)] [] runUnderlying41 zeroValue41 rfl (.cons rfl sizeOf22 (.cons rfl sizeOf39 PlacesAre.nil)) rfl CellsAre.nil ?_)
   refine cX (XOp.storeN (vs := [(.slice none 0 0), (.slice none 0 0)]) [_, _] _ [(.slice none 0 0), (.slice none 0 0)] sizeOf41 rfl rfl rfl (ones_cons rfl (ones_cons rfl ones_nil)) rfl rfl rfl ?_)
   refine XL.as (.bool (false)) rfl ?_
   refine XL.nil ?_
   refine X.ret (thenQ_ret (blockQ_ret (thenQ_ret (thenQ_ret (blockQ_ret (thenQ_ret (retEnd (L' := L) [.agg #[(.slice none 0 0), (.slice none 0 0)], .bool (false)] (.tuple #[.agg #[(.slice none 0 0), (.slice none 0 0)], .bool (false)]) (.cell rfl (loadNV [(.slice none 0 0), (.slice none 0 0)] isAgg41 sizeOf41 rfl (Rd.ownN [_, _] rfl rfl)) (.tmp rfl .nil)) rfl (FLe.trans (FLe.trans (FLe.trans le1 le2) leG1) le5) rF (sD (sD (sD (sD sR)))) ?_)))))))
   have e : walkFromF ar rs t ns = ([], [], false) := walkFromF_none (wfI_stuck (by omega) hI hcur hu1)
   exact ⟨_, _, by rw [e], by rw [e]; exact IntsF.nilV, by rw [e]; exact SlOf.nilV, rfl⟩
  have hu1 : (stepAtL ar rs cur (ns.getD (2 * k) 0) (ns.getD (2 * k + 1) 0)).isSome = true := by simpa using h5
  refine X.skip (X.seq ?_)
  refine X.draw [slH 77 3 sv m cs, cellsH b3 [v1, sv] 41, cellsH b2 [(.slice none 0 0), (.slice none 0 0)] 41, cellsH b1 [arv, rsv] 33] L 14 [[], [], [], [], [], [], [], [], [], [], [], [], [], []] [[], [0], [], [], [2, 3], [4], [], [], [7], [6, 8], [9], [], [5, 10, 11], [12]] (phiL [fun us v => v = ptr b3 1, fun us v => v = sv, fun us v => v = nsv, fun us v => v = (.int .i64 ((((2 * k) : Nat) : Int)) : Value), fun us v => v = (.pointer (some (elemA nsv ((2 * k)))) : Value), fun us v => v = (.int .i64 (ns.getD ((2 * k)) 0) : Value), fun us v => v = nsv, fun us v => v = (.int .i64 ((((2 * k) : Nat) : Int)) : Value), fun us v => v = (.int .i64 (((((2 * k)) + 1 : Nat) : Int)) : Value), fun us v => v = (.pointer (some (elemA nsv (((2 * k)) + 1))) : Value), fun us v => v = (.int .i64 (ns.getD (((2 * k)) + 1) 0) : Value), fun us v => v = u1, fun us v => v = (.agg #[.int .i64 (ns.getD ((2 * k)) 0), .int .i64 (ns.getD (((2 * k)) + 1) 0), u1] : Value), fun us v => ∃ b, v = .slice (some ⟨b, 0, none⟩) 1 1]) (ownL [fun us v => [], fun us v => [], fun us v => [], fun us v => [], fun us v => [], fun us v => [], fun us v => [], fun us v => [], fun us v => [], fun us v => [], fun us v => [], fun us v => [], fun us v => [], fun us v => [slH 77 3 v 1 [.int .i64 (ns.getD ((2 * k)) 0), .int .i64 (ns.getD (((2 * k)) + 1) 0), u1]]]) mixed rfl rfl (by kernel_rfl) ?_ ?_
  ·refine pC (fun vals R hpZ => ?_) ?_
   ·refine XG.op (XOp.fieldP (b := b3) (1) runUnderlying41 rfl sizeOf39 (by decide) rfl rfl ?_)
    exact ⟨rfl, rfl, rfl⟩
   refine pC (fun vals R hpZ => ?_) ?_
   ·rw [eS (l := [(0, ptr b3 1)]) ⟨hpZ 0 (by decide), trivial⟩]
    refine XG.op (XOp.load1 (v := sv) isAgg39 rfl (Rd.own [_] rfl rfl) ?_)
    exact ⟨rfl, rfl, rfl⟩
   refine pC (fun vals R hpZ => ?_) ?_
   ·refine XG.op (XOp.move (nsv) rfl ?_)
    exact ⟨rfl, rfl, rfl⟩
   refine pC (fun vals R hpZ => ?_) ?_
   ·refine XG.op (XOp.move (.int .i64 ((((2 * k) : Nat) : Int))) rfl ?_)
    exact ⟨rfl, rfl, rfl⟩
   refine pC (fun vals R hpZ => ?_) ?_
   ·rw [eS (l := [(2, nsv), (3, (.int .i64 ((((2 * k) : Nat) : Int)) : Value))]) ⟨hpZ 2 (by decide), hpZ 3 (by decide), trivial⟩]
    refine XG.op (XOp.indexS (v := nsv) (i := (((2 * k) : Nat) : Int)) (n := (ns).length) ((2 * k)) runUnderlying22 sizeOf2 rfl rfl rfl hns.slv (by omega) (Nat.mul_one _) ?_)
    exact ⟨rfl, rfl, rfl⟩
   refine pC (fun vals R hpZ => ?_) ?_
   ·rw [eS (l := [(4, (.pointer (some (elemA nsv ((2 * k)))) : Value))]) ⟨hpZ 4 (by decide), trivial⟩]
    refine XG.op (XOp.load1 (v := .int .i64 (ns.getD ((2 * k)) 0)) isAgg2 rfl (hns.rd (by omega)) ?_)
    exact ⟨rfl, rfl, rfl⟩
   refine pC (fun vals R hpZ => ?_) ?_
   ·refine XG.op (XOp.move (nsv) rfl ?_)
    exact ⟨rfl, rfl, rfl⟩
   refine pC (fun vals R hpZ => ?_) ?_
   ·refine XG.op (XOp.move (.int .i64 ((((2 * k) : Nat) : Int))) rfl ?_)
    exact ⟨rfl, rfl, rfl⟩
   refine pC (fun vals R hpZ => ?_) ?_
   ·rw [eS (l := [(7, (.int .i64 ((((2 * k) : Nat) : Int)) : Value))]) ⟨hpZ 7 (by decide), trivial⟩]
    refine XG.op (XOp.addR (a := (((2 * k) : Nat) : Int)) (b := 1) (((((2 * k)) + 1 : Nat) : Int)) rfl rfl (by omega) (by omega) ?_)
    exact ⟨rfl, rfl, rfl⟩
   refine pC (fun vals R hpZ => ?_) ?_
   ·rw [eS (l := [(6, nsv), (8, (.int .i64 (((((2 * k)) + 1 : Nat) : Int)) : Value))]) ⟨hpZ 6 (by decide), hpZ 8 (by decide), trivial⟩]
    refine XG.op (XOp.indexS (v := nsv) (i := ((((2 * k)) + 1 : Nat) : Int)) (n := (ns).length) (((2 * k)) + 1) runUnderlying22 sizeOf2 rfl rfl rfl hns.slv (by omega) (Nat.mul_one _) ?_)
    exact ⟨rfl, rfl, rfl⟩
   refine pC (fun vals R hpZ => ?_) ?_
   ·rw [eS (l := [(9, (.pointer (some (elemA nsv (((2 * k)) + 1))) : Value))]) ⟨hpZ 9 (by decide), trivial⟩]
    refine XG.op (XOp.load1 (v := .int .i64 (ns.getD (((2 * k)) + 1) 0)) isAgg2 rfl (hns.rd (by omega)) ?_)
    exact ⟨rfl, rfl, rfl⟩
   refine pC (fun vals R hpZ => ?_) ?_
   ·refine XG.op (XOp.move (u1) rfl ?_)
    exact ⟨rfl, rfl, rfl⟩
   refine pC (fun vals R hpZ => ?_) ?_
   ·rw [eS (l := [(5, (.int .i64 (ns.getD ((2 * k)) 0) : Value)), (10, (.int .i64 (ns.getD (((2 * k)) + 1) 0) : Value)), (11, u1)]) ⟨hpZ 5 (by decide), hpZ 10 (by decide), hpZ 11 (by decide), trivial⟩]
    refine XG.op (XOp.build [.int .i64 (ns.getD ((2 * k)) 0), .int .i64 (ns.getD (((2 * k)) + 1) 0), u1] [.int .i64 (0), .int .i64 (0), (.slice none 0 0)] [(0, 1), (1, 1), (2, 1)] [(0, [.int .i64 (ns.getD ((2 * k)) 0)]), (1, [.int .i64 (ns.getD (((2 * k)) + 1) 0)]), (2, [u1])] runUnderlying77 zeroValue77 rfl (.cons rfl sizeOf2 (.cons rfl sizeOf2 (.cons rfl sizeOf22 PlacesAre.nil))) rfl (.cons rfl (.cons rfl (.cons (cells_one (IntsF.isSl f11_1hr)) CellsAre.nil))) ?_)
    exact ⟨rfl, rfl, rfl⟩
   refine pC (fun vals R hpZ => ?_) ?_
   ·rw [eS (l := [(12, (.agg #[.int .i64 (ns.getD ((2 * k)) 0), .int .i64 (ns.getD (((2 * k)) + 1) 0), u1] : Value))]) ⟨hpZ 12 (by decide), trivial⟩]
    refine XG.op (XOp.buildSlice (s := 3) [.int .i64 (ns.getD ((2 * k)) 0), .int .i64 (ns.getD (((2 * k)) + 1) 0), u1] [.int .i64 (0), .int .i64 (0), (.slice none 0 0)] [(0, [.int .i64 (ns.getD ((2 * k)) 0), .int .i64 (ns.getD (((2 * k)) + 1) 0), u1])] runUnderlying39 sizeOf77 zeroValue77 rfl (by decide) rfl (.cons rfl CellsAre.nil) rfl ?_)
    intro v4 hv2
    exact ⟨rfl, hv2, rfl⟩
   exact stepsP.nil
  intro vals hphi
  have f13 : ∃ b, (vals 13) = .slice (some ⟨b, 0, none⟩) 1 1 := hphi 13 (by decide)
  generalize hu13 : vals 13 = u2 at f13
  rw [eS (l := [(1, sv), (13, u2)]) ⟨(hphi 1 (by decide)), hu13, trivial⟩]
  show XL _ _ _ _ _ _ _ (slH 77 3 u2 1 [.int .i64 (ns.getD ((2 * k)) 0), .int .i64 (ns.getD (((2 * k)) + 1) 0), u1] :: slH 77 3 sv m cs :: cellsH b3 [v1, sv] 41 :: cellsH b2 [(.slice none 0 0), (.slice none 0 0)] 41 :: cellsH b1 [arv, rsv] 33 :: L)
  refine cX (XOp.append (m := 1) (bytes := 40) (cs := cs) [_] _ [.int .i64 (ns.getD ((2 * k)) 0), .int .i64 (ns.getD (((2 * k)) + 1) 0), u1] runUnderlying39 typeInfo77 rfl rfl rfl rfl rfl rfl rfl (SlV.own [] rfl) rfl (Rd.lit [] rfl) (ones_cons rfl (ones_cons rfl (ones_cons (one_sl (IntsF.isSl f11_1hr)) ones_nil))) (by (try simp only [List.length_append, List.length_nil, List.length_cons, List.length_singleton]); omega) (by (try simp only [List.length_append, List.length_nil, List.length_cons, List.length_singleton]); omega) ?_)
  intro v5 hs3 hn1 hm1
  have hc1 := StepsC.snoc hC (i := ns.getD ((2 * k)) 0) (j := ns.getD (((2 * k)) + 1) 0) f11_1hr
  refine cX (XOp.fieldP (b := b3) (1) runUnderlying41 rfl sizeOf39 (by decide) rfl rfl ?_)
  refine cX (XOp.store1 (v := v5) [_, _] _ [v1, v5] sizeOf39 rfl rfl (one_sl hs3) rfl rfl rfl ?_)
  refine XL.nil (X.region ?_)
  refine XL.mv (u1) rfl ?_
  refine cX (XOp.frzF <| XOp.call (args := [u1]) call49 rfl (l1Copy_spec f11_1hr (hlt := (by first | omega | (have := hto hu1; omega)))) ?_)
  rintro v6 _ _ _ ⟨rfl, hs4, rfl⟩
  refine ⟨_, _, rfl, fun F6 le6 hz3 => ?_⟩
  replace hf1 := hf1.mono le6
  replace hC := hC.mono le6
  replace hc1 := hc1.mono le6
  have hf3 : IntsF F6 v6 ((((stepAtL ar rs cur (ns.getD ((2 * k)) 0) (ns.getD (((2 * k)) + 1) 0)).getD []))) := intsH.fz (xs := (((stepAtL ar rs cur (ns.getD ((2 * k)) 0) (ns.getD (((2 * k)) + 1) 0)).getD []))) hz3.fz
  refine XL.as (v6) rfl ?_
  refine XL.nil (X.region ?_)
  refine XL.mv (.int .i64 ((((2 * k) : Nat) : Int))) rfl ?_
  refine cX (XOp.addR (a := (((2 * k) : Nat) : Int)) (b := 2) (((((2 * k)) + 2 : Nat) : Int)) rfl rfl (by omega) (by omega) ?_)
  refine XL.as (.int .i64 (((((2 * k)) + 2 : Nat) : Int))) rfl ?_
  refine XL.nil ?_
  exact ⟨(k + 1, v6, (((stepAtL ar rs cur (ns.getD ((2 * k)) 0) (ns.getD (((2 * k)) + 1) 0)).getD [])), v5, ss ++ [(ns.getD ((2 * k)) 0, ns.getD (((2 * k)) + 1) 0, (stepAtL ar rs cur (ns.getD ((2 * k)) 0) (ns.getD (((2 * k)) + 1) 0)).getD [])], cs ++ [.int .i64 (ns.getD ((2 * k)) 0), .int .i64 (ns.getD (((2 * k)) + 1) 0), u1], (m) + 1, F6), _, (FLe.trans (FLe.trans leG1 le5) le6), rF, ⟨rfl, rfl, rfl, rfl, rfl, (vI (by (try dsimp only); omega)), trivial⟩, (sD (sC (sC (sC (sC sR))))), ⟨rfl, (FLe.trans (FLe.trans leG1 le5) le6), (by (try dsimp only); omega), (hf3), (by (try dsimp only); rw [endL_snoc]), (hs3), (hc1), (by (try dsimp only); rw [List.length_append]; simp only [List.length_singleton]; omega), (wfI_step (by omega) hI hcur hu1)⟩, (by (try dsimp only); omega)⟩
 refine X.exit (thenQ_exit (thenQ_exit (blockQ_exit ?_)))
 refine X.seq (X.region ?_)
 refine cX (XOp.loadN [v1, sv] isAgg41 sizeOf41 rfl rfl (Rd.ownN [_] rfl rfl) ?_)
 refine cX (XOp.storeN (vs := [v1, sv]) [_, _] _ [v1, sv] sizeOf41 rfl rfl rfl (ones_cons (one_sl (IntsF.isSl hf1)) (ones_cons (one_sl hsv) ones_nil)) rfl rfl rfl ?_)
 refine XL.as (.bool (true)) rfl ?_
 refine XL.nil ?_
 refine X.freezeF [] _ _ rfl (fun F7 le7 hz4 => ?_)
 replace hf1 := hf1.mono le7
 replace hC := hC.mono le7
 have hf4 : StepsF F7 sv ss := CO.fz hC (by first | rfl | simp | omega) hz4.fz
 refine X.ret (retEnd (L' := L) [.agg #[v1, sv], .bool (true)] (.tuple #[.agg #[v1, sv], .bool (true)]) (.cell rfl (loadNV [v1, sv] isAgg41 sizeOf41 rfl (Rd.ownN [_] rfl rfl)) (.tmp rfl .nil)) rfl (FLe.trans (FLe.trans (FLe.trans le1 le2) leG1) le7) rF (sD (sD (sD sR))) ?_)
 have e : walkFromF ar rs t ns = (t, ss, true) := walkFromF_some ⟨hri, by omega, by omega⟩ (wfI_end (by omega) hI)
 exact ⟨_, _, by rw [e], by rw [e]; exact hf1, by rw [e]; exact hf4, rfl⟩

/- laws.FnExactWalkFrom -/
set_option maxRecDepth 20000 in
theorem FnExactWalkFrom_does {F : FH} {L : List HP} {arv : Value} {ar : List Int} (har : IntsF F arv ar) {rsv : Value} {rs : List (List Int × List Int)} (hrs : PairsF F rsv rs) {tv : Value} {t : List Int} (ht : IntsF F tv t) {nsv : Value} {ns : List Int} (hns : IntsF F nsv ns) (hlar : ar.length ≤ 9223372036854775807) (hlrs : rs.length ≤ 9223372036854775807) (hbrs : ∀ i, i < rs.length → (rs.getD i ([], [])).1.length ≤ 9223372036854775807 ∧ (rs.getD i ([], [])).2.length ≤ 9223372036854775807) (hlt : t.length ≤ 9223372036854775807) (hlns : ns.length ≤ 9223372036854775807) :
    Does prog 5 [.agg #[arv, rsv], tv, nsv] F (L) (fun v F' L' => (.bool (true) : Value) = v ∧ F = F' ∧ L = L') := by
 refine Does.of_X func5 rfl rfl rfl ?_
 have hnb : WalkB (walkFromF ar rs t ns).1 (walkFromF ar rs t ns).2.1 := walkFromF_bound
 have hnc := hnb.1
 have hnd := hnb.2.1
 have hne := hnb.2.2.1
 have hnf := hnb.2.2.2
 refine X.seq (X.region ?_)
 refine cX (XOp.box [arv, rsv] rfl rfl ?_)
 intro b1
 refine XL.as (.bool (false)) rfl ?_
 refine XL.nil (X.seq (X.seq (X.region ?_)))
 refine XL.mv (tv) rfl ?_
 refine cX (XOp.lenS (v := tv) (n := (t).length) runUnderlying22 rfl ht.slv ?_)
 refine cX (XOp.gtr (a := (t.length : Int)) (b := 1048576) rfl rfl ?_)
 refine XL.nil ?_
 refine X.condD (p := ((t.length : Int) : Int) > 1048576) rfl (fun h1 => ?_) (fun h1 => ?_)
 ·refine X.seq (X.region ?_)
  refine XL.as (.bool (true)) rfl ?_
  refine XL.nil ?_
  refine X.ret (thenQ_ret (retEnd (L' := L) [.bool (true)] (.bool (true)) (.tmp rfl .nil) rfl rF rF (sD sR) ?_))
  exact ⟨rfl, rfl, rfl⟩
 refine X.skip (X.seq (X.seq (X.region ?_)))
 refine XL.mv (nsv) rfl ?_
 refine cX (XOp.lenS (v := nsv) (n := (ns).length) runUnderlying22 rfl hns.slv ?_)
 refine cX (XOp.gtr (a := (ns.length : Int)) (b := 1048576) rfl rfl ?_)
 refine XL.nil ?_
 refine X.condD (p := ((ns.length : Int) : Int) > 1048576) rfl (fun h2 => ?_) (fun h2 => ?_)
 ·refine X.seq (X.region ?_)
  refine XL.as (.bool (true)) rfl ?_
  refine XL.nil ?_
  refine X.ret (thenQ_ret (retEnd (L' := L) [.bool (true)] (.bool (true)) (.tmp rfl .nil) rfl rF rF (sD sR) ?_))
  exact ⟨rfl, rfl, rfl⟩
 refine X.skip (X.seq (X.region ?_))
 refine XL.as (.int .i64 (1048576)) rfl ?_
 refine XL.nil (X.seq (X.region ?_))
 refine cX (XOp.loadN [arv, rsv] isAgg27 sizeOf27 rfl rfl (Rd.ownN [] rfl rfl) ?_)
 refine XL.mv (.int .i64 (1048576)) rfl ?_
 refine cX (XOp.call (args := [.agg #[arv, rsv], .int .i64 (1048576)]) call10 rfl (szSystem_spec (z := 1048576) har hrs (hz := (by first | assumption | rfl | omega | simp)) (hal := (by first | assumption | rfl | omega | simp)) (hrl := (by first | assumption | rfl | omega | simp)) (hrb := (by first | assumption | rfl | omega | simp))) ?_)
 rintro _ _ _ _ ⟨rfl, rfl, rfl⟩
 refine XL.as (.int .i64 (dec 1048576 (ar.length + szR rs))) rfl ?_
 refine XL.nil (X.seq (X.seq (X.region ?_)))
 refine XL.mv (.int .i64 (dec 1048576 (ar.length + szR rs))) rfl ?_
 refine cX (XOp.lss (a := dec 1048576 (ar.length + szR rs)) (b := 0) rfl rfl ?_)
 refine XL.nil ?_
 refine X.condD (p := (dec 1048576 (ar.length + szR rs) : Int) < 0) rfl (fun h3 => ?_) (fun h3 => ?_)
 ·refine X.seq (X.region ?_)
  refine XL.as (.bool (true)) rfl ?_
  refine XL.nil ?_
  refine X.ret (thenQ_ret (retEnd (L' := L) [.bool (true)] (.bool (true)) (.tmp rfl .nil) rfl rF rF (sD sR) ?_))
  exact ⟨rfl, rfl, rfl⟩
 have hd1 := dec_le2 h3 (by omega)
 have hzrs := szR_le (rs := rs)
 have hirs := hzrs.2
 have hcrs : ∀ i, i < rs.length → (rs.getD i ([], [])).1.length ≤ 4000000 ∧ (rs.getD i ([], [])).2.length ≤ 4000000 := fun i hi => by have := hirs i hi; omega
 have hfrs := flatPair_len rs
 refine X.skip (X.seq (X.region ?_))
 refine cX (XOp.loadN [arv, rsv] isAgg27 sizeOf27 rfl rfl (Rd.ownN [] rfl rfl) ?_)
 refine cX (XOp.thawL ?_)
 refine id (XOp.call (args := [.agg #[arv, rsv]]) call12 rfl (toSystem_spec har hrs (hla := (by first | assumption | rfl | omega | simp)) (hrl := (by first | assumption | rfl | omega | simp)) (hrb := (by first | assumption | rfl | omega | simp))) ?_)
 rintro _ F1 _ le1 ⟨x1, x2, rfl, hr1, hr2, hr3, rfl⟩
 refine ⟨[intsH 2 x1 ar, pairsD 2 105 x2 rs], hr3, ?_⟩
 show XL _ _ _ _ _ _ _ (intsH 2 x1 ar :: pairsD 2 105 x2 rs :: cellsH b1 [arv, rsv] 27 :: L)
 refine XL.mv (tv) rfl ?_
 refine cX (XOp.call (args := [tv]) call13 rfl (toInt64S_spec ht (hlx := (by first | assumption | rfl | omega | simp))) ?_)
 rintro v1 _ _ _ ⟨rfl, hs1, rfl⟩
 refine XL.mv (nsv) rfl ?_
 refine cX (XOp.call (args := [nsv]) call13 rfl (toInt64S_spec hns (hlx := (by first | assumption | rfl | omega | simp))) ?_)
 rintro v2 _ _ _ ⟨rfl, hs2, rfl⟩
 refine XL.freezeF [_, _] _ _ rfl (fun F2 le2 hz1 => ?_)
 replace har := har.mono le2
 replace hrs := hrs.mono le2
 replace ht := ht.mono le2
 replace hns := hns.mono le2
 have hf1 : IntsF F2 x1 ar := intsH.fz (xs := ar) hz1.fz
 refine XL.freezeF [_, _] _ _ rfl (fun F3 le3 hz2 => ?_)
 replace har := har.mono le3
 replace hrs := hrs.mono le3
 replace ht := ht.mono le3
 replace hns := hns.mono le3
 replace hf1 := hf1.mono le3
 have hf2 : PairsF F3 x2 rs := pairsD.fz hz2.fz
 refine XL.freezeF [_] _ _ rfl (fun F4 le4 hz3 => ?_)
 replace har := har.mono le4
 replace hrs := hrs.mono le4
 replace ht := ht.mono le4
 replace hns := hns.mono le4
 replace hf1 := hf1.mono le4
 replace hf2 := hf2.mono le4
 have hf3 : IntsF F4 v1 ((t)) := intsH.fz (xs := (t)) hz3.fz
 refine XL.freezeF [] _ _ rfl (fun F5 le5 hz4 => ?_)
 replace har := har.mono le5
 replace hrs := hrs.mono le5
 replace ht := ht.mono le5
 replace hns := hns.mono le5
 replace hf1 := hf1.mono le5
 replace hf2 := hf2.mono le5
 replace hf3 := hf3.mono le5
 have hf4 : IntsF F5 v2 ((ns)) := intsH.fz (xs := (ns)) hz4.fz
 refine cX (XOp.call (args := [.agg #[x1, x2], v1, v2]) call19 rfl (sWalkFrom_spec hf1 hf2 hf3 hf4 (hla := (by first | assumption | rfl | omega | simp)) (hlr := (by first | assumption | rfl | omega | simp)) (hrb := (by first | assumption | rfl | omega | simp)) (hlt := (by first | assumption | rfl | omega | simp)) (hln := (by first | assumption | rfl | omega | simp))) ?_)
 rintro _ F6 _ le6 ⟨x3, x4, rfl, hr4, hr5, rfl⟩
 replace har := har.mono le6
 replace hrs := hrs.mono le6
 replace ht := ht.mono le6
 replace hns := hns.mono le6
 refine XL.mv (.tuple #[.agg #[x3, x4], .bool ((walkFromF ar rs ((t)) ((ns))).2.2)]) rfl ?_
 refine cX (XOp.extract (.agg #[x3, x4]) rfl rfl ?_)
 refine cX (XOp.extract (.bool ((walkFromF ar rs ((t)) ((ns))).2.2)) rfl rfl ?_)
 refine cX (XOp.alloc [(.slice none 0 0), (.slice none 0 0)] zeroValue41 rfl ?_)
 intro b2
 refine cX (XOp.storeN (vs := [x3, x4]) [] _ [x3, x4] sizeOf41 rfl rfl rfl (ones_cons (one_sl (IntsF.isSl hr4)) (ones_cons (one_sl (StepsF.isSl hr5)) ones_nil)) rfl rfl rfl ?_)
 refine XL.as (.bool ((walkFromF ar rs ((t)) ((ns))).2.2)) rfl ?_
 refine XL.nil (X.seq (X.region ?_))
 refine cX (XOp.loadN [arv, rsv] isAgg27 sizeOf27 rfl rfl (Rd.ownN [_] rfl rfl) ?_)
 refine cX (XOp.thawL ?_)
 refine id (XOp.call (args := [.agg #[arv, rsv]]) call12 rfl (toSystem_spec har hrs (hla := (by first | assumption | rfl | omega | simp)) (hrl := (by first | assumption | rfl | omega | simp)) (hrb := (by first | assumption | rfl | omega | simp))) ?_)
 rintro _ F7 _ le7 ⟨x5, x6, rfl, hr6, hr7, hr8, rfl⟩
 refine ⟨[intsH 2 x5 ar, pairsD 2 105 x6 rs], hr8, ?_⟩
 show XL _ _ _ _ _ _ _ (intsH 2 x5 ar :: pairsD 2 105 x6 rs :: cellsH b2 [x3, x4] 41 :: cellsH b1 [arv, rsv] 27 :: L)
 refine cX (XOp.alloc [(.slice none 0 0), (.slice none 0 0)] zeroValue33 rfl ?_)
 intro b3
 refine cX (XOp.storeN (vs := [x5, x6]) [] _ [x5, x6] sizeOf33 rfl rfl rfl (ones_cons (one_sl (IntsF.isSl hr6)) (ones_cons (one_sl (PairsF.isSl hr7)) ones_nil)) rfl rfl rfl ?_)
 refine XL.nil (X.seq (X.region ?_))
 refine XL.mv (tv) rfl ?_
 refine cX (XOp.call (args := [tv]) call13 rfl (toInt64S_spec ht (hlx := (by first | assumption | rfl | omega | simp))) ?_)
 rintro v3 _ _ _ ⟨rfl, hs3, rfl⟩
 refine XL.as (v3) rfl ?_
 refine XL.nil (X.seq (X.region ?_))
 refine XL.mv (nsv) rfl ?_
 refine cX (XOp.call (args := [nsv]) call13 rfl (toInt64S_spec hns (hlx := (by first | assumption | rfl | omega | simp))) ?_)
 rintro v4 _ _ _ ⟨rfl, hs4, rfl⟩
 refine XL.as (v4) rfl ?_
 refine XL.nil (X.seq (X.region ?_))
 refine cX (XOp.loadN [x5, x6] isAgg33 sizeOf33 rfl rfl (Rd.ownN [_, _] rfl rfl) ?_)
 refine XL.mv (v3) rfl ?_
 refine XL.mv (v4) rfl ?_
 refine cX (XOp.lend [_, _, _] _ _ rfl (fun F8 le8 hz5 => ?_))
 refine id (XOp.lend [_, _, _] _ _ rfl (fun F9 le9 hz6 => ?_))
 refine id (XOp.lend [_] _ _ rfl (fun F10 le10 hz7 => ?_))
 refine id (XOp.lend [] _ _ rfl (fun F11 le11 hz8 => ?_))
 have hf5 : IntsF _ x5 ar := (intsH.fz (xs := ar) hz5).mono (FLe.trans (FLe.trans le9 le10) le11)
 have hf6 : PairsF _ x6 rs := (pairsD.fz hz6).mono (FLe.trans le10 le11)
 have hf7 : IntsF _ v3 ((t)) := (intsH.fz (xs := (t)) hz7).mono le11
 have hf8 : IntsF _ v4 ((ns)) := intsH.fz (xs := (ns)) hz8
 refine id (XOp.thawL ?_)
 refine id (XOp.call (args := [.agg #[x5, x6], v3, v4]) call20 rfl (WalkFrom_spec hf5 hf6 hf7 hf8 (hln := (by first | assumption | rfl | omega | simp))) ?_)
 rintro _ F12 _ le12 ⟨x7, x8, rfl, hr9, hr10, hr11, rfl⟩
 refine ⟨[intsH 2 x7 ((walkFromF ar rs ((t)) ((ns))).1), stepsD 2 77 x8 ((walkFromF ar rs ((t)) ((ns))).2.1)], hr11, ?_⟩
 show XL _ _ _ _ _ _ _ (intsH 2 x5 ar :: pairsD 2 105 x6 rs :: intsH 2 v3 ((t)) :: intsH 2 v4 ((ns)) :: intsH 2 x7 ((walkFromF ar rs ((t)) ((ns))).1) :: stepsD 2 77 x8 ((walkFromF ar rs ((t)) ((ns))).2.1) :: cellsH b3 [x5, x6] 33 :: cellsH b2 [x3, x4] 41 :: cellsH b1 [arv, rsv] 27 :: L)
 refine XL.mv (.tuple #[.agg #[x7, x8], .bool ((walkFromF ar rs ((t)) ((ns))).2.2)]) rfl ?_
 refine cX (XOp.extract (.agg #[x7, x8]) rfl rfl ?_)
 refine cX (XOp.extract (.bool ((walkFromF ar rs ((t)) ((ns))).2.2)) rfl rfl ?_)
 refine cX (XOp.alloc [(.slice none 0 0), (.slice none 0 0)] zeroValue41 rfl ?_)
 intro b4
 refine cX (XOp.storeN (vs := [x7, x8]) [] _ [x7, x8] sizeOf41 rfl rfl rfl (ones_cons (one_sl (IntsF.isSl hr9)) (ones_cons (one_sl (StepsF.isSl hr10)) ones_nil)) rfl rfl rfl ?_)
 refine XL.as (.bool ((walkFromF ar rs ((t)) ((ns))).2.2)) rfl ?_
 refine XL.nil (X.seq (X.seq (X.region ?_)))
 refine cX (XOp.loadN [x7, x8] isAgg41 sizeOf41 rfl rfl (Rd.ownN [] rfl rfl) ?_)
 refine cX (XOp.loadN [x3, x4] isAgg41 sizeOf41 rfl rfl (Rd.ownN [_, _, _, _, _, _, _, _] rfl rfl) ?_)
 refine cX (XOp.lend [_, _, _, _, _] _ _ rfl (fun F13 le13 hz9 => ?_))
 refine id (XOp.lend [_, _, _, _, _] _ _ rfl (fun F14 le14 hz10 => ?_))
 have hf9 : IntsF _ x7 ((walkFromF ar rs ((t)) ((ns))).1) := (intsH.fz (xs := (walkFromF ar rs ((t)) ((ns))).1) hz9).mono le14
 have hf10 : StepsF _ x8 ((walkFromF ar rs ((t)) ((ns))).2.1) := stepsD.fz hz10
 refine id (XOp.call (args := [.agg #[x7, x8], .agg #[x3, x4]]) call21 rfl (eqWalk_spec hf9 hf10 ((hr4.mono (FLe.trans le13 le14))) ((hr5.mono (FLe.trans le13 le14))) (hfl := (by first | assumption | rfl | omega | simp)) (hal := (by first | assumption | rfl | omega | simp)) (hbd := (by first | assumption | exact fun i hi => by have := hne i hi; omega))) ?_)
 rintro _ _ _ _ ⟨rfl, rfl, rfl⟩
 show XL _ _ _ _ _ _ _ (intsH 2 x7 ((walkFromF ar rs ((t)) ((ns))).1) :: stepsD 2 77 x8 ((walkFromF ar rs ((t)) ((ns))).2.1) :: cellsH b4 [x7, x8] 41 :: intsH 2 x5 ar :: pairsD 2 105 x6 rs :: intsH 2 v3 ((t)) :: intsH 2 v4 ((ns)) :: cellsH b3 [x5, x6] 33 :: cellsH b2 [x3, x4] 41 :: cellsH b1 [arv, rsv] 27 :: L)
 refine cX (XOp.notD (p := ((walkFromF ar rs ((t)) ((ns))).1) = ((walkFromF ar rs ((t)) ((ns))).1) ∧ ((walkFromF ar rs ((t)) ((ns))).2.1) = ((walkFromF ar rs ((t)) ((ns))).2.1)) rfl ?_)
 refine XL.mv (.bool (decide (¬(((walkFromF ar rs ((t)) ((ns))).1) = ((walkFromF ar rs ((t)) ((ns))).1) ∧ ((walkFromF ar rs ((t)) ((ns))).2.1) = ((walkFromF ar rs ((t)) ((ns))).2.1))))) rfl ?_
 by_cases h4 : ¬(((walkFromF ar rs ((t)) ((ns))).1) = ((walkFromF ar rs ((t)) ((ns))).1) ∧ ((walkFromF ar rs ((t)) ((ns))).2.1) = ((walkFromF ar rs ((t)) ((ns))).2.1))
 ·exact absurd (by first | rfl | exact ⟨rfl, rfl⟩ | exact ⟨⟨rfl, rfl⟩, rfl, rfl⟩ | simp) h4
 refine XL.yes (t := 58) rfl (vF h4) (XOp.move (.bool ((walkFromF ar rs ((t)) ((ns))).2.2)) rfl ?_)
 refine XL.yes (t := 58) rfl (vF h4) (XOp.move (.bool ((walkFromF ar rs ((t)) ((ns))).2.2)) rfl ?_)
 refine XL.yes (t := 58) rfl (vF h4) (XOp.neB (a := (walkFromF ar rs ((t)) ((ns))).2.2) (b := (walkFromF ar rs ((t)) ((ns))).2.2) runUnderlying4 rfl rfl ?_)
 refine cX (XOp.pickF (.bool (decide (((walkFromF ar rs ((t)) ((ns))).2.2) ≠ ((walkFromF ar rs ((t)) ((ns))).2.2)))) (vF h4) rfl ?_)
 refine XL.nil ?_
 refine X.condD (p := ((walkFromF ar rs ((t)) ((ns))).2.2) ≠ ((walkFromF ar rs ((t)) ((ns))).2.2)) rfl (fun h5 => ?_) (fun h5 => ?_)
 ·exact absurd rfl h5
 refine X.skip (X.seq (X.seq ?_))
 refine X.drawG [intsH 2 x7 ((walkFromF ar rs ((t)) ((ns))).1), stepsD 2 77 x8 ((walkFromF ar rs ((t)) ((ns))).2.1), cellsH b4 [x7, x8] 41, intsH 2 x5 ar, pairsD 2 105 x6 rs, intsH 2 v3 ((t)), intsH 2 v4 ((ns)), cellsH b3 [x5, x6] 33, cellsH b2 [x3, x4] 41, cellsH b1 [arv, rsv] 27] L 3 [[], [], []] [[], [], [1]] [[], [], []] (phiG [fun FF us v => v = (.agg #[x5, x6] : Value), fun FF us v => v = (.agg #[arv, rsv] : Value), fun FF us v => (.agg #[((aggAt v 0)), ((aggAt v 1))] : Value) = v ∧ (IntsF FF ((aggAt v 0)) ar) ∧ (PairsF FF ((aggAt v 1)) rs)]) (ownL [fun us v => [], fun us v => [], fun us v => []]) mixed rfl rfl (by kernel_rfl) (by kernel_rfl) (MonoG.get (mC (fun le h => h) (mC (fun le h => h) (mC (fun le h => ⟨h.1, h.2.1.mono le, h.2.2.mono le⟩) MonoG.nil)))) ?_ ?_
 ·refine gC (fun vals Fs R leFs hpZ => ?_) ?_
  ·replace har := har.mono leFs
   replace hrs := hrs.mono leFs
   replace ht := ht.mono leFs
   replace hns := hns.mono leFs
   replace hr4 := hr4.mono leFs
   replace hr5 := hr5.mono leFs
   refine XG.op (XOp.loadN [x5, x6] isAgg33 sizeOf33 rfl rfl (Rd.ownN [_, _, _, _, _, _, _] rfl rfl) ?_)
   exact ⟨rfl, rfl⟩
  refine gC (fun vals Fs R leFs hpZ => ?_) ?_
  ·replace har := har.mono leFs
   replace hrs := hrs.mono leFs
   replace ht := ht.mono leFs
   replace hns := hns.mono leFs
   replace hr4 := hr4.mono leFs
   replace hr5 := hr5.mono leFs
   refine XG.op (XOp.loadN [arv, rsv] isAgg27 sizeOf27 rfl rfl (Rd.ownN [_, _, _, _, _, _, _, _, _] rfl rfl) ?_)
   exact ⟨rfl, rfl⟩
  refine gC (fun vals Fs R leFs hpZ => ?_) ?_
  ·replace har := har.mono leFs
   replace hrs := hrs.mono leFs
   replace ht := ht.mono leFs
   replace hns := hns.mono leFs
   replace hr4 := hr4.mono leFs
   replace hr5 := hr5.mono leFs
   rw [eS (l := [(1, (.agg #[arv, rsv] : Value))]) ⟨(hpZ 1 (by decide)), trivial⟩]
   refine XG.op (XOp.call (args := [.agg #[arv, rsv]]) call12 rfl (toSystem_spec har hrs (hla := (by first | assumption | rfl | omega | simp)) (hrl := (by first | assumption | rfl | omega | simp)) (hrb := (by first | assumption | rfl | omega | simp))) ?_)
   rintro _ F16 _ le16 ⟨x11, x12, rfl, hr15, hr16, hr17, rfl⟩
   replace har := har.mono le16
   replace hrs := hrs.mono le16
   replace ht := ht.mono le16
   replace hns := hns.mono le16
   replace hr4 := hr4.mono le16
   replace hr5 := hr5.mono le16
   exact ⟨⟨rfl, hr15, hr16⟩, rfl⟩
  exact stepsG.nil
 intro vals F17 le17 hphi
 obtain ⟨e2, f2_1hr1, f2_1hr2⟩ := hphi 2 (by decide)
 generalize hu1 : ((aggAt (vals 2) 0)) = u1 at e2 f2_1hr1 f2_1hr2
 generalize hu2 : ((aggAt (vals 2) 1)) = u2 at e2 f2_1hr1 f2_1hr2
 rw [eS (l := [(0, (.agg #[x5, x6] : Value)), (2, (.agg #[u1, u2] : Value))]) ⟨(hphi 0 (by decide)), (e2).symm, trivial⟩]
 replace har := har.mono le17
 replace hrs := hrs.mono le17
 replace ht := ht.mono le17
 replace hns := hns.mono le17
 replace hr4 := hr4.mono le17
 replace hr5 := hr5.mono le17
 show XL _ _ _ _ _ _ _ (intsH 2 x7 ((walkFromF ar rs ((t)) ((ns))).1) :: stepsD 2 77 x8 ((walkFromF ar rs ((t)) ((ns))).2.1) :: cellsH b4 [x7, x8] 41 :: intsH 2 x5 ar :: pairsD 2 105 x6 rs :: intsH 2 v3 ((t)) :: intsH 2 v4 ((ns)) :: cellsH b3 [x5, x6] 33 :: cellsH b2 [x3, x4] 41 :: cellsH b1 [arv, rsv] 27 :: L)
 refine cX (XOp.lend [_, _, _] _ _ rfl (fun F18 le18 hz11 => ?_))
 refine id (XOp.lend [_, _, _] _ _ rfl (fun F19 le19 hz12 => ?_))
 have hf11 : IntsF _ x5 ar := (intsH.fz (xs := ar) hz11).mono le19
 have hf12 : PairsF _ x6 rs := pairsD.fz hz12
 refine id (XOp.call (args := [.agg #[x5, x6], .agg #[u1, u2]]) call15 rfl (eqSystem_spec hf11 hf12 ((f2_1hr1.mono (FLe.trans le18 le19))) ((f2_1hr2.mono (FLe.trans le18 le19))) (hcl := (by first | assumption | rfl | omega | simp)) (hal := (by first | assumption | rfl | omega | simp)) (hbd := (by first | assumption | rfl | omega | simp))) ?_)
 rintro _ _ _ _ ⟨rfl, rfl, rfl⟩
 show XL _ _ _ _ _ _ _ (intsH 2 x5 ar :: pairsD 2 105 x6 rs :: intsH 2 x7 ((walkFromF ar rs ((t)) ((ns))).1) :: stepsD 2 77 x8 ((walkFromF ar rs ((t)) ((ns))).2.1) :: cellsH b4 [x7, x8] 41 :: intsH 2 v3 ((t)) :: intsH 2 v4 ((ns)) :: cellsH b3 [x5, x6] 33 :: cellsH b2 [x3, x4] 41 :: cellsH b1 [arv, rsv] 27 :: L)
 refine cX (XOp.notD (p := ar = ar ∧ rs = rs) rfl ?_)
 refine XL.nil ?_
 refine X.condD (p := ¬(ar = ar ∧ rs = rs)) rfl (fun h6 => ?_) (fun h6 => ?_)
 ·exact absurd (by first | rfl | exact ⟨rfl, rfl⟩ | exact ⟨⟨rfl, rfl⟩, rfl, rfl⟩ | simp) h6
 refine X.skip (X.seq (X.seq (X.region ?_)))
 refine XL.mv (v3) rfl ?_
 refine XL.mv (tv) rfl ?_
 refine cX (XOp.call (args := [tv]) call13 rfl (toInt64S_spec ht (hlx := (by first | assumption | rfl | omega | simp))) ?_)
 rintro v5 _ _ _ ⟨rfl, hs5, rfl⟩
 refine cX (XOp.lend [_, _, _, _, _, _] _ _ rfl (fun F20 le20 hz13 => ?_))
 refine id (XOp.lend [] _ _ rfl (fun F21 le21 hz14 => ?_))
 have hf13 : IntsF _ v3 ((t)) := (intsH.fz (xs := (t)) hz13).mono le21
 have hf14 : IntsF _ v5 ((t)) := intsH.fz (xs := (t)) hz14
 refine id (XOp.call (args := [v3, v5]) call16 rfl (eqInt64S_spec hf13 hf14 (hbd := (by first | assumption | rfl | omega | (left; simp; done) | (right; simp; done)))) ?_)
 rintro _ _ _ _ ⟨rfl, rfl, rfl⟩
 show XL _ _ _ _ _ _ _ (intsH 2 v3 ((t)) :: intsH 2 v5 ((t)) :: intsH 2 x5 ar :: pairsD 2 105 x6 rs :: intsH 2 x7 ((walkFromF ar rs ((t)) ((ns))).1) :: stepsD 2 77 x8 ((walkFromF ar rs ((t)) ((ns))).2.1) :: cellsH b4 [x7, x8] 41 :: intsH 2 v4 ((ns)) :: cellsH b3 [x5, x6] 33 :: cellsH b2 [x3, x4] 41 :: cellsH b1 [arv, rsv] 27 :: L)
 refine cX (XOp.notD (p := ((t)) = ((t))) rfl ?_)
 refine XL.nil ?_
 refine X.condD (p := ¬(((t)) = ((t)))) rfl (fun h7 => ?_) (fun h7 => ?_)
 ·exact absurd (by first | rfl | exact ⟨rfl, rfl⟩ | exact ⟨⟨rfl, rfl⟩, rfl, rfl⟩ | simp) h7
 refine X.skip (X.seq (X.seq (X.region ?_)))
 refine XL.mv (v4) rfl ?_
 refine XL.mv (nsv) rfl ?_
 refine cX (XOp.call (args := [nsv]) call13 rfl (toInt64S_spec hns (hlx := (by first | assumption | rfl | omega | simp))) ?_)
 rintro v6 _ _ _ ⟨rfl, hs6, rfl⟩
 refine cX (XOp.lend [_, _, _, _, _, _, _, _] _ _ rfl (fun F22 le22 hz15 => ?_))
 refine id (XOp.lend [] _ _ rfl (fun F23 le23 hz16 => ?_))
 have hf15 : IntsF _ v4 ((ns)) := (intsH.fz (xs := (ns)) hz15).mono le23
 have hf16 : IntsF _ v6 ((ns)) := intsH.fz (xs := (ns)) hz16
 refine id (XOp.call (args := [v4, v6]) call16 rfl (eqInt64S_spec hf15 hf16 (hbd := (by first | assumption | rfl | omega | (left; simp; done) | (right; simp; done)))) ?_)
 rintro _ _ _ _ ⟨rfl, rfl, rfl⟩
 show XL _ _ _ _ _ _ _ (intsH 2 v4 ((ns)) :: intsH 2 v6 ((ns)) :: intsH 2 v3 ((t)) :: intsH 2 v5 ((t)) :: intsH 2 x5 ar :: pairsD 2 105 x6 rs :: intsH 2 x7 ((walkFromF ar rs ((t)) ((ns))).1) :: stepsD 2 77 x8 ((walkFromF ar rs ((t)) ((ns))).2.1) :: cellsH b4 [x7, x8] 41 :: cellsH b3 [x5, x6] 33 :: cellsH b2 [x3, x4] 41 :: cellsH b1 [arv, rsv] 27 :: L)
 refine cX (XOp.notD (p := ((ns)) = ((ns))) rfl ?_)
 refine XL.nil ?_
 refine X.condD (p := ¬(((ns)) = ((ns)))) rfl (fun h8 => ?_) (fun h8 => ?_)
 ·exact absurd (by first | rfl | exact ⟨rfl, rfl⟩ | exact ⟨⟨rfl, rfl⟩, rfl, rfl⟩ | simp) h8
 refine X.skip (X.seq (X.region ?_))
 refine XL.as (.int .i64 (1)) rfl ?_
 refine XL.nil (X.seq (X.region ?_))
 refine cX (XOp.loadN [x5, x6] isAgg33 sizeOf33 rfl rfl (Rd.ownN [_, _, _, _, _, _, _, _, _] rfl rfl) ?_)
 refine XL.mv (.int .i64 (1)) rfl ?_
 refine XL.weaken (Sub.front (A := [_, _, _, _, _])) ?_
 show XL _ _ _ _ _ _ _ (pairsD 2 105 x6 rs :: intsH 2 v4 ((ns)) :: intsH 2 v6 ((ns)) :: intsH 2 v3 ((t)) :: intsH 2 v5 ((t)) :: intsH 2 x5 ar :: intsH 2 x7 ((walkFromF ar rs ((t)) ((ns))).1) :: stepsD 2 77 x8 ((walkFromF ar rs ((t)) ((ns))).2.1) :: cellsH b4 [x7, x8] 41 :: cellsH b3 [x5, x6] 33 :: cellsH b2 [x3, x4] 41 :: cellsH b1 [arv, rsv] 27 :: L)
 refine XL.weaken (Sub.front (A := [_, _, _, _, _])) ?_
 show XL _ _ _ _ _ _ _ (intsH 2 x5 ar :: pairsD 2 105 x6 rs :: intsH 2 v4 ((ns)) :: intsH 2 v6 ((ns)) :: intsH 2 v3 ((t)) :: intsH 2 v5 ((t)) :: intsH 2 x7 ((walkFromF ar rs ((t)) ((ns))).1) :: stepsD 2 77 x8 ((walkFromF ar rs ((t)) ((ns))).2.1) :: cellsH b4 [x7, x8] 41 :: cellsH b3 [x5, x6] 33 :: cellsH b2 [x3, x4] 41 :: cellsH b1 [arv, rsv] 27 :: L)
 refine cX (XOp.call (args := [.agg #[x5, x6], .int .i64 (1)]) call22 rfl (markSystem_spec (by (try simp only [List.length_append]); omega) (by omega)) ?_)
 rintro _ _ _ _ ⟨m1, m2, hm1, hk1, rfl, rfl, rfl⟩
 have hml1 := congrArg List.length hm1
 rw [iota_len] at hml1
 try simp only [List.length_append] at hml1
 refine XL.as (.int .i64 (1 + (((ar) ++ (rs.flatMap flatPair)).length : Int))) rfl ?_
 refine XL.nil (X.seq (X.region ?_))
 refine XL.mv (v3) rfl ?_
 refine XL.mv (.int .i64 (1 + (((ar) ++ (rs.flatMap flatPair)).length : Int))) rfl ?_
 refine XL.weaken (Sub.front (A := [_, _, _, _])) ?_
 show XL _ _ _ _ _ _ _ (intsH 2 v3 ((t)) :: intsH 2 x5 m1 :: pairsD 2 105 x6 m2 :: intsH 2 v4 ((ns)) :: intsH 2 v6 ((ns)) :: intsH 2 v5 ((t)) :: intsH 2 x7 ((walkFromF ar rs ((t)) ((ns))).1) :: stepsD 2 77 x8 ((walkFromF ar rs ((t)) ((ns))).2.1) :: cellsH b4 [x7, x8] 41 :: cellsH b3 [x5, x6] 33 :: cellsH b2 [x3, x4] 41 :: cellsH b1 [arv, rsv] 27 :: L)
 refine cX (XOp.call (args := [v3, .int .i64 (1 + (((ar) ++ (rs.flatMap flatPair)).length : Int))]) call23 rfl (markInt64S_spec (by (try simp only [List.length_append]); omega)) ?_)
 rintro _ _ _ _ ⟨m3, hm2, rfl, rfl, rfl⟩
 have hml2 := congrArg List.length hm2
 rw [iota_len] at hml2
 try simp only [List.length_append] at hml2
 refine XL.as (.int .i64 ((1 + (((ar) ++ (rs.flatMap flatPair)).length : Int)) + (((((t)))).length : Int))) rfl ?_
 refine XL.nil (X.seq (X.region ?_))
 refine XL.mv (v4) rfl ?_
 refine XL.mv (.int .i64 ((1 + (((ar) ++ (rs.flatMap flatPair)).length : Int)) + (((((t)))).length : Int))) rfl ?_
 refine XL.weaken (Sub.front (A := [_, _, _])) ?_
 show XL _ _ _ _ _ _ _ (intsH 2 v4 ((ns)) :: intsH 2 v3 m3 :: intsH 2 x5 m1 :: pairsD 2 105 x6 m2 :: intsH 2 v6 ((ns)) :: intsH 2 v5 ((t)) :: intsH 2 x7 ((walkFromF ar rs ((t)) ((ns))).1) :: stepsD 2 77 x8 ((walkFromF ar rs ((t)) ((ns))).2.1) :: cellsH b4 [x7, x8] 41 :: cellsH b3 [x5, x6] 33 :: cellsH b2 [x3, x4] 41 :: cellsH b1 [arv, rsv] 27 :: L)
 refine cX (XOp.call (args := [v4, .int .i64 ((1 + (((ar) ++ (rs.flatMap flatPair)).length : Int)) + (((((t)))).length : Int))]) call23 rfl (markInt64S_spec (by (try simp only [List.length_append]); omega)) ?_)
 rintro _ _ _ _ ⟨m4, hm3, rfl, rfl, rfl⟩
 have hml3 := congrArg List.length hm3
 rw [iota_len] at hml3
 try simp only [List.length_append] at hml3
 refine XL.as (.int .i64 (((1 + (((ar) ++ (rs.flatMap flatPair)).length : Int)) + (((((t)))).length : Int)) + (((((ns)))).length : Int))) rfl ?_
 refine XL.nil (X.seq (X.seq (X.region ?_)))
 refine XL.mv (.int .i64 (((1 + (((ar) ++ (rs.flatMap flatPair)).length : Int)) + (((((t)))).length : Int)) + (((((ns)))).length : Int))) rfl ?_
 refine cX (XOp.lss (a := ((1 + (((ar) ++ (rs.flatMap flatPair)).length : Int)) + (((((t)))).length : Int)) + (((((ns)))).length : Int)) (b := 0) rfl rfl ?_)
 refine XL.mv (.bool (decide ((((1 + (((ar) ++ (rs.flatMap flatPair)).length : Int)) + (((((t)))).length : Int)) + (((((ns)))).length : Int) : Int) < 0))) rfl ?_
 by_cases h9 : (((1 + (((ar) ++ (rs.flatMap flatPair)).length : Int)) + (((((t)))).length : Int)) + (((((ns)))).length : Int) : Int) < 0
 ·exact absurd h9 (by omega)
 refine XL.yes (t := 89) rfl (vF h9) (XOp.loadN [x7, x8] isAgg41 sizeOf41 rfl rfl (Rd.ownN [_, _, _, _, _, _, _, _] rfl rfl) ?_)
 refine XL.yes (t := 89) rfl (vF h9) (XOp.loadN [x3, x4] isAgg41 sizeOf41 rfl rfl (Rd.ownN [_, _, _, _, _, _, _, _, _, _] rfl rfl) ?_)
 refine XL.yes (t := 89) rfl (vF h9) (XOp.lend [_, _, _, _, _, _] _ _ rfl (fun F24 le24 hz17 => ?_))
 refine id (XOp.lend [_, _, _, _, _, _] _ _ rfl (fun F25 le25 hz18 => ?_))
 have hf17 : IntsF _ x7 ((walkFromF ar rs ((t)) ((ns))).1) := (intsH.fz (xs := (walkFromF ar rs ((t)) ((ns))).1) hz17).mono le25
 have hf18 : StepsF _ x8 ((walkFromF ar rs ((t)) ((ns))).2.1) := stepsD.fz hz18
 refine id (XOp.call (args := [.agg #[x7, x8], .agg #[x3, x4]]) call21 rfl (eqWalk_spec hf17 hf18 ((hr4.mono (FLe.trans le24 le25))) ((hr5.mono (FLe.trans le24 le25))) (hfl := (by first | assumption | rfl | omega | simp)) (hal := (by first | assumption | rfl | omega | simp)) (hbd := (by first | assumption | exact fun i hi => by have := hne i hi; omega))) ?_)
 rintro _ _ _ _ ⟨rfl, rfl, rfl⟩
 show XL _ _ _ _ _ _ _ (intsH 2 x7 ((walkFromF ar rs ((t)) ((ns))).1) :: stepsD 2 77 x8 ((walkFromF ar rs ((t)) ((ns))).2.1) :: intsH 2 v4 m4 :: intsH 2 v3 m3 :: intsH 2 x5 m1 :: pairsD 2 105 x6 m2 :: intsH 2 v6 ((ns)) :: intsH 2 v5 ((t)) :: cellsH b4 [x7, x8] 41 :: cellsH b3 [x5, x6] 33 :: cellsH b2 [x3, x4] 41 :: cellsH b1 [arv, rsv] 27 :: L)
 refine XL.yes (t := 89) rfl (vF h9) (XOp.notD (p := ((walkFromF ar rs ((t)) ((ns))).1) = ((walkFromF ar rs ((t)) ((ns))).1) ∧ ((walkFromF ar rs ((t)) ((ns))).2.1) = ((walkFromF ar rs ((t)) ((ns))).2.1)) rfl ?_)
 refine cX (XOp.pickF (.bool (decide (¬(((walkFromF ar rs ((t)) ((ns))).1) = ((walkFromF ar rs ((t)) ((ns))).1) ∧ ((walkFromF ar rs ((t)) ((ns))).2.1) = ((walkFromF ar rs ((t)) ((ns))).2.1))))) (vF h9) rfl ?_)
 refine XL.mv (.bool (decide (¬(((walkFromF ar rs ((t)) ((ns))).1) = ((walkFromF ar rs ((t)) ((ns))).1) ∧ ((walkFromF ar rs ((t)) ((ns))).2.1) = ((walkFromF ar rs ((t)) ((ns))).2.1))))) rfl ?_
 refine XL.yes (t := 95) rfl (vF h4) (XOp.move (.bool ((walkFromF ar rs ((t)) ((ns))).2.2)) rfl ?_)
 refine XL.yes (t := 95) rfl (vF h4) (XOp.move (.bool ((walkFromF ar rs ((t)) ((ns))).2.2)) rfl ?_)
 refine XL.yes (t := 95) rfl (vF h4) (XOp.neB (a := (walkFromF ar rs ((t)) ((ns))).2.2) (b := (walkFromF ar rs ((t)) ((ns))).2.2) runUnderlying4 rfl rfl ?_)
 refine cX (XOp.pickF (.bool (decide (((walkFromF ar rs ((t)) ((ns))).2.2) ≠ ((walkFromF ar rs ((t)) ((ns))).2.2)))) (vF h4) rfl ?_)
 refine XL.nil ?_
 refine X.condF (vF h5) ?_
 refine X.skip (X.seq (X.region ?_))
 refine XL.as (.int .i64 (1)) rfl ?_
 refine XL.nil (X.seq (X.region ?_))
 refine cX (XOp.loadN [x7, x8] isAgg41 sizeOf41 rfl rfl (Rd.ownN [_, _, _, _, _, _, _, _] rfl rfl) ?_)
 refine XL.mv (.int .i64 (1)) rfl ?_
 refine XL.weaken (Sub.front (A := [_])) ?_
 show XL _ _ _ _ _ _ _ (stepsD 2 77 x8 ((walkFromF ar rs ((t)) ((ns))).2.1) :: intsH 2 x7 ((walkFromF ar rs ((t)) ((ns))).1) :: intsH 2 v4 m4 :: intsH 2 v3 m3 :: intsH 2 x5 m1 :: pairsD 2 105 x6 m2 :: intsH 2 v6 ((ns)) :: intsH 2 v5 ((t)) :: cellsH b4 [x7, x8] 41 :: cellsH b3 [x5, x6] 33 :: cellsH b2 [x3, x4] 41 :: cellsH b1 [arv, rsv] 27 :: L)
 refine XL.weaken (Sub.front (A := [_])) ?_
 show XL _ _ _ _ _ _ _ (intsH 2 x7 ((walkFromF ar rs ((t)) ((ns))).1) :: stepsD 2 77 x8 ((walkFromF ar rs ((t)) ((ns))).2.1) :: intsH 2 v4 m4 :: intsH 2 v3 m3 :: intsH 2 x5 m1 :: pairsD 2 105 x6 m2 :: intsH 2 v6 ((ns)) :: intsH 2 v5 ((t)) :: cellsH b4 [x7, x8] 41 :: cellsH b3 [x5, x6] 33 :: cellsH b2 [x3, x4] 41 :: cellsH b1 [arv, rsv] 27 :: L)
 refine cX (XOp.call (args := [.agg #[x7, x8], .int .i64 (1)]) call24 rfl (markWalk_spec (by (try simp only [List.length_append]); omega) (by omega)) ?_)
 rintro _ _ _ _ ⟨m5, m6, hm4, hk2, rfl, rfl, rfl⟩
 have hml4 := congrArg List.length hm4
 rw [iota_len] at hml4
 try simp only [List.length_append] at hml4
 refine XL.as (.int .i64 (1 + (((((walkFromF ar rs ((t)) ((ns))).1)) ++ (((walkFromF ar rs ((t)) ((ns))).2.1).flatMap flatStep)).length : Int))) rfl ?_
 refine XL.nil (X.seq (X.region ?_))
 refine XL.as (.int .i64 (1)) rfl ?_
 refine XL.nil (X.seq (X.region ?_))
 refine cX (XOp.loadN [x7, x8] isAgg41 sizeOf41 rfl rfl (Rd.ownN [_, _, _, _, _, _, _, _] rfl rfl) ?_)
 refine XL.mv (.int .i64 (1)) rfl ?_
 refine cX (XOp.lend [] _ _ rfl (fun F26 le26 hz19 => ?_))
 refine id (XOp.lend [] _ _ rfl (fun F27 le27 hz20 => ?_))
 have hf19 : IntsF _ x7 m5 := (intsH.fz (xs := m5) hz19).mono le27
 have hf20 : StepsF _ x8 m6 := stepsD.fz hz20
 refine id (XOp.call (args := [.agg #[x7, x8], .int .i64 (1)]) call25 rfl (heldWalk_spec (z := 1) hf19 hf20 (hzb := (by first | assumption | rfl | omega | simp)) (hxl := (by first | assumption | rfl | omega | simp))) ?_)
 rintro _ _ _ _ ⟨rfl, rfl, rfl⟩
 show XL _ _ _ _ _ _ _ (intsH 2 x7 m5 :: stepsD 2 77 x8 m6 :: intsH 2 v4 m4 :: intsH 2 v3 m3 :: intsH 2 x5 m1 :: pairsD 2 105 x6 m2 :: intsH 2 v6 ((ns)) :: intsH 2 v5 ((t)) :: cellsH b4 [x7, x8] 41 :: cellsH b3 [x5, x6] 33 :: cellsH b2 [x3, x4] 41 :: cellsH b1 [arv, rsv] 27 :: L)
 refine XL.as (.int .i64 (heldF (m5 ++ m6.flatMap flatStep) 1)) rfl ?_
 refine XL.nil (X.seq (X.seq (X.region ?_)))
 refine XL.mv (.int .i64 (heldF (m5 ++ m6.flatMap flatStep) 1)) rfl ?_
 refine cX (XOp.lss (a := heldF (m5 ++ m6.flatMap flatStep) 1) (b := 0) rfl rfl ?_)
 refine XL.nil ?_
 refine X.condD (p := (heldF (m5 ++ m6.flatMap flatStep) 1 : Int) < 0) rfl (fun h10 => ?_) (fun h10 => ?_)
 ·rw [hm4, heldF_iota] at h10
  exact absurd h10 (by omega)
 have hh2 := (fun (l : List Int) (k k2 : Int) (n : Nat) (h : l = iota k n) (hk : k2 = k) => show heldF l k2 = k + n from (by subst hk; rw [h, heldF_iota])) _ _ (1) _ hm4 (by first | rfl | omega)
 have hh2l := hh2
 try simp only [List.length_append] at hh2l
 refine X.skip (X.seq (X.seq (X.region ?_)))
 refine XL.mv (.int .i64 (heldF (m5 ++ m6.flatMap flatStep) 1)) rfl ?_
 refine XL.mv (.int .i64 (1 + (((((walkFromF ar rs ((t)) ((ns))).1)) ++ (((walkFromF ar rs ((t)) ((ns))).2.1).flatMap flatStep)).length : Int))) rfl ?_
 refine cX (XOp.neq (a := heldF (m5 ++ m6.flatMap flatStep) 1) (b := 1 + (((((walkFromF ar rs ((t)) ((ns))).1)) ++ (((walkFromF ar rs ((t)) ((ns))).2.1).flatMap flatStep)).length : Int)) rfl rfl ?_)
 refine XL.nil ?_
 refine X.condD (p := (heldF (m5 ++ m6.flatMap flatStep) 1 : Int) ≠ 1 + (((((walkFromF ar rs ((t)) ((ns))).1)) ++ (((walkFromF ar rs ((t)) ((ns))).2.1).flatMap flatStep)).length : Int)) rfl (fun h11 => ?_) (fun h11 => ?_)
 ·exact absurd (by rw [hm4, heldF_iota]) h11
 refine X.skip (X.seq (X.region ?_))
 refine cX (XOp.loadN [arv, rsv] isAgg27 sizeOf27 rfl rfl (Rd.ownN [_, _, _, _, _, _, _, _, _, _, _] rfl rfl) ?_)
 refine cX (XOp.thawL ?_)
 refine id (XOp.call (args := [.agg #[arv, rsv]]) call12 rfl (toSystem_spec har hrs (hla := (by first | assumption | rfl | omega | simp)) (hrl := (by first | assumption | rfl | omega | simp)) (hrb := (by first | assumption | rfl | omega | simp))) ?_)
 rintro _ F28 _ le28 ⟨x13, x14, rfl, hr18, hr19, hr20, rfl⟩
 refine ⟨[intsH 2 x13 ar, pairsD 2 105 x14 rs], hr20, ?_⟩
 show XL _ _ _ _ _ _ _ (intsH 2 x13 ar :: pairsD 2 105 x14 rs :: intsH 2 x7 m5 :: stepsD 2 77 x8 m6 :: intsH 2 v4 m4 :: intsH 2 v3 m3 :: intsH 2 x5 m1 :: pairsD 2 105 x6 m2 :: intsH 2 v6 ((ns)) :: intsH 2 v5 ((t)) :: cellsH b4 [x7, x8] 41 :: cellsH b3 [x5, x6] 33 :: cellsH b2 [x3, x4] 41 :: cellsH b1 [arv, rsv] 27 :: L)
 refine XL.mv (tv) rfl ?_
 refine cX (XOp.call (args := [tv]) call13 rfl (toInt64S_spec ht (hlx := (by first | assumption | rfl | omega | simp))) ?_)
 rintro v7 _ _ _ ⟨rfl, hs7, rfl⟩
 refine XL.mv (nsv) rfl ?_
 refine cX (XOp.call (args := [nsv]) call13 rfl (toInt64S_spec hns (hlx := (by first | assumption | rfl | omega | simp))) ?_)
 rintro v8 _ _ _ ⟨rfl, hs8, rfl⟩
 refine cX (XOp.lend [_, _] _ _ rfl (fun F29 le29 hz21 => ?_))
 refine id (XOp.lend [_, _] _ _ rfl (fun F30 le30 hz22 => ?_))
 refine id (XOp.lend [_] _ _ rfl (fun F31 le31 hz23 => ?_))
 refine id (XOp.lend [] _ _ rfl (fun F32 le32 hz24 => ?_))
 have hf21 : IntsF _ x13 ar := (intsH.fz (xs := ar) hz21).mono (FLe.trans (FLe.trans le30 le31) le32)
 have hf22 : PairsF _ x14 rs := (pairsD.fz hz22).mono (FLe.trans le31 le32)
 have hf23 : IntsF _ v7 ((t)) := (intsH.fz (xs := (t)) hz23).mono le32
 have hf24 : IntsF _ v8 ((ns)) := intsH.fz (xs := (ns)) hz24
 refine id (XOp.thawL ?_)
 refine id (XOp.call (args := [.agg #[x13, x14], v7, v8]) call20 rfl (WalkFrom_spec hf21 hf22 hf23 hf24 (hln := (by first | assumption | rfl | omega | simp))) ?_)
 rintro _ F33 _ le33 ⟨x15, x16, rfl, hr21, hr22, hr23, rfl⟩
 refine ⟨[intsH 2 x15 ((walkFromF ar rs ((t)) ((ns))).1), stepsD 2 77 x16 ((walkFromF ar rs ((t)) ((ns))).2.1)], hr23, ?_⟩
 show XL _ _ _ _ _ _ _ (intsH 2 x13 ar :: pairsD 2 105 x14 rs :: intsH 2 v7 ((t)) :: intsH 2 v8 ((ns)) :: intsH 2 x15 ((walkFromF ar rs ((t)) ((ns))).1) :: stepsD 2 77 x16 ((walkFromF ar rs ((t)) ((ns))).2.1) :: intsH 2 x7 m5 :: stepsD 2 77 x8 m6 :: intsH 2 v4 m4 :: intsH 2 v3 m3 :: intsH 2 x5 m1 :: pairsD 2 105 x6 m2 :: intsH 2 v6 ((ns)) :: intsH 2 v5 ((t)) :: cellsH b4 [x7, x8] 41 :: cellsH b3 [x5, x6] 33 :: cellsH b2 [x3, x4] 41 :: cellsH b1 [arv, rsv] 27 :: L)
 refine XL.mv (.tuple #[.agg #[x15, x16], .bool ((walkFromF ar rs ((t)) ((ns))).2.2)]) rfl ?_
 refine cX (XOp.extract (.agg #[x15, x16]) rfl rfl ?_)
 refine cX (XOp.extract (.bool ((walkFromF ar rs ((t)) ((ns))).2.2)) rfl rfl ?_)
 refine cX (XOp.alloc [(.slice none 0 0), (.slice none 0 0)] zeroValue41 rfl ?_)
 intro b5
 refine cX (XOp.storeN (vs := [x15, x16]) [] _ [x15, x16] sizeOf41 rfl rfl rfl (ones_cons (one_sl (IntsF.isSl hr21)) (ones_cons (one_sl (StepsF.isSl hr22)) ones_nil)) rfl rfl rfl ?_)
 refine XL.as (.bool ((walkFromF ar rs ((t)) ((ns))).2.2)) rfl ?_
 refine XL.nil (X.seq (X.seq (X.region ?_)))
 refine cX (XOp.loadN [x15, x16] isAgg41 sizeOf41 rfl rfl (Rd.ownN [] rfl rfl) ?_)
 refine cX (XOp.loadN [x3, x4] isAgg41 sizeOf41 rfl rfl (Rd.ownN [_, _, _, _, _, _, _, _, _, _, _, _, _, _, _, _, _] rfl rfl) ?_)
 refine cX (XOp.lend [_, _, _, _, _] _ _ rfl (fun F34 le34 hz25 => ?_))
 refine id (XOp.lend [_, _, _, _, _] _ _ rfl (fun F35 le35 hz26 => ?_))
 have hf25 : IntsF _ x15 ((walkFromF ar rs ((t)) ((ns))).1) := (intsH.fz (xs := (walkFromF ar rs ((t)) ((ns))).1) hz25).mono le35
 have hf26 : StepsF _ x16 ((walkFromF ar rs ((t)) ((ns))).2.1) := stepsD.fz hz26
 refine id (XOp.call (args := [.agg #[x15, x16], .agg #[x3, x4]]) call21 rfl (eqWalk_spec hf25 hf26 ((hr4.mono (FLe.trans le34 le35))) ((hr5.mono (FLe.trans le34 le35))) (hfl := (by first | assumption | rfl | omega | simp)) (hal := (by first | assumption | rfl | omega | simp)) (hbd := (by first | assumption | exact fun i hi => by have := hne i hi; omega))) ?_)
 rintro _ _ _ _ ⟨rfl, rfl, rfl⟩
 show XL _ _ _ _ _ _ _ (intsH 2 x15 ((walkFromF ar rs ((t)) ((ns))).1) :: stepsD 2 77 x16 ((walkFromF ar rs ((t)) ((ns))).2.1) :: cellsH b5 [x15, x16] 41 :: intsH 2 x13 ar :: pairsD 2 105 x14 rs :: intsH 2 v7 ((t)) :: intsH 2 v8 ((ns)) :: intsH 2 x7 m5 :: stepsD 2 77 x8 m6 :: intsH 2 v4 m4 :: intsH 2 v3 m3 :: intsH 2 x5 m1 :: pairsD 2 105 x6 m2 :: intsH 2 v6 ((ns)) :: intsH 2 v5 ((t)) :: cellsH b4 [x7, x8] 41 :: cellsH b3 [x5, x6] 33 :: cellsH b2 [x3, x4] 41 :: cellsH b1 [arv, rsv] 27 :: L)
 refine cX (XOp.notD (p := ((walkFromF ar rs ((t)) ((ns))).1) = ((walkFromF ar rs ((t)) ((ns))).1) ∧ ((walkFromF ar rs ((t)) ((ns))).2.1) = ((walkFromF ar rs ((t)) ((ns))).2.1)) rfl ?_)
 refine XL.mv (.bool (decide (¬(((walkFromF ar rs ((t)) ((ns))).1) = ((walkFromF ar rs ((t)) ((ns))).1) ∧ ((walkFromF ar rs ((t)) ((ns))).2.1) = ((walkFromF ar rs ((t)) ((ns))).2.1))))) rfl ?_
 refine XL.yes (t := 125) rfl (vF h4) (XOp.move (.bool ((walkFromF ar rs ((t)) ((ns))).2.2)) rfl ?_)
 refine XL.yes (t := 125) rfl (vF h4) (XOp.move (.bool ((walkFromF ar rs ((t)) ((ns))).2.2)) rfl ?_)
 refine XL.yes (t := 125) rfl (vF h4) (XOp.neB (a := (walkFromF ar rs ((t)) ((ns))).2.2) (b := (walkFromF ar rs ((t)) ((ns))).2.2) runUnderlying4 rfl rfl ?_)
 refine cX (XOp.pickF (.bool (decide (((walkFromF ar rs ((t)) ((ns))).2.2) ≠ ((walkFromF ar rs ((t)) ((ns))).2.2)))) (vF h4) rfl ?_)
 refine XL.nil ?_
 refine X.condF (vF h5) ?_
 refine X.skip (X.seq (X.region ?_))
 refine XL.as (.int .i64 (1)) rfl ?_
 refine XL.nil (X.seq (X.region ?_))
 refine cX (XOp.loadN [x7, x8] isAgg41 sizeOf41 rfl rfl (Rd.ownN [_, _, _, _, _, _, _, _, _, _, _, _, _, _, _] rfl rfl) ?_)
 refine XL.mv (.int .i64 (1)) rfl ?_
 refine cX (XOp.lend [_, _, _, _, _, _, _] _ _ rfl (fun F36 le36 hz27 => ?_))
 refine id (XOp.lend [_, _, _, _, _, _, _] _ _ rfl (fun F37 le37 hz28 => ?_))
 have hf27 : IntsF _ x7 m5 := (intsH.fz (xs := m5) hz27).mono le37
 have hf28 : StepsF _ x8 m6 := stepsD.fz hz28
 refine id (XOp.call (args := [.agg #[x7, x8], .int .i64 (1)]) call25 rfl (heldWalk_spec (z := 1) hf27 hf28 (hzb := (by first | assumption | rfl | omega | simp)) (hxl := (by first | assumption | rfl | omega | simp))) ?_)
 rintro _ _ _ _ ⟨rfl, rfl, rfl⟩
 show XL _ _ _ _ _ _ _ (intsH 2 x7 m5 :: stepsD 2 77 x8 m6 :: intsH 2 x15 ((walkFromF ar rs ((t)) ((ns))).1) :: stepsD 2 77 x16 ((walkFromF ar rs ((t)) ((ns))).2.1) :: cellsH b5 [x15, x16] 41 :: intsH 2 x13 ar :: pairsD 2 105 x14 rs :: intsH 2 v7 ((t)) :: intsH 2 v8 ((ns)) :: intsH 2 v4 m4 :: intsH 2 v3 m3 :: intsH 2 x5 m1 :: pairsD 2 105 x6 m2 :: intsH 2 v6 ((ns)) :: intsH 2 v5 ((t)) :: cellsH b4 [x7, x8] 41 :: cellsH b3 [x5, x6] 33 :: cellsH b2 [x3, x4] 41 :: cellsH b1 [arv, rsv] 27 :: L)
 refine XL.as (.int .i64 (heldF (m5 ++ m6.flatMap flatStep) 1)) rfl ?_
 refine XL.nil (X.seq (X.seq (X.region ?_)))
 refine XL.mv (.int .i64 (heldF (m5 ++ m6.flatMap flatStep) 1)) rfl ?_
 refine cX (XOp.lss (a := heldF (m5 ++ m6.flatMap flatStep) 1) (b := 0) rfl rfl ?_)
 refine XL.nil ?_
 refine X.condF (vF h10) ?_
 refine X.skip (X.seq (X.seq (X.region ?_)))
 refine XL.mv (.int .i64 (heldF (m5 ++ m6.flatMap flatStep) 1)) rfl ?_
 refine XL.mv (.int .i64 (1 + (((((walkFromF ar rs ((t)) ((ns))).1)) ++ (((walkFromF ar rs ((t)) ((ns))).2.1).flatMap flatStep)).length : Int))) rfl ?_
 refine cX (XOp.neq (a := heldF (m5 ++ m6.flatMap flatStep) 1) (b := 1 + (((((walkFromF ar rs ((t)) ((ns))).1)) ++ (((walkFromF ar rs ((t)) ((ns))).2.1).flatMap flatStep)).length : Int)) rfl rfl ?_)
 refine XL.nil ?_
 refine X.condF (vF h11) ?_
 refine X.skip (X.seq (X.region ?_))
 refine XL.as (.bool (true)) rfl ?_
 refine XL.nil ?_
 refine X.ret (retEnd (L' := L) [.bool (true)] (.bool (true)) (.tmp rfl .nil) rfl rF (FLe.trans (FLe.trans (FLe.trans (FLe.trans (FLe.trans le2 le3) le4) le5) le6) le17) (sD (sD (sD (sD (sD (sD (sD (sD (sD (sD (sD (sD (sD (sD (sD (sD (sD (sD (sD sR))))))))))))))))))) ?_)
 exact ⟨rfl, rfl, rfl⟩
end Go.Proofs.Ytiaanelimbmniaa
