/-
  Walks, one after the other (part 4).
-/
import Derived.Test.YtnloeeaidknblaaQzL1
import Derived.Test.YtnloeeaidknblaaQzB2
set_option linter.unusedSimpArgs false
set_option linter.unusedVariables false
namespace Go.Proofs.Ytnloeeaidknblaa
open Go X M

/- laws.eqMove -/
theorem eqMove_spec {F : FH} {L : List HP} {i : Int} {j : Int} {x : Bool} {av : Value} {a : List Int} (ha : IntsF F av a) {p : Int} {q : Int} {y : Bool} {bv : Value} {b : List Int} (hb : IntsF F bv b) (hbd : a.length ≤ 9223372036854775807 ∨ b.length ≤ 9223372036854775807) :
    Does Try.prog 160 [.agg #[.int .i64 (i), .int .i64 (j), .bool (x), av], .agg #[.int .i64 (p), .int .i64 (q), .bool (y), bv]] F (L) (fun v F' L' => (.bool (decide ((i, j, x, a) = (p, q, y, b))) : Value) = v ∧ F = F' ∧ L = L') := by
 refine Does.of_X Try.func160 rfl rfl rfl ?_
 refine X.seq (X.region ?_)
 refine XL.cons (XOp.box [.int .i64 (i), .int .i64 (j), .bool (x), av] rfl rfl ?_)
 intro b1
 refine XL.cons (XOp.box [.int .i64 (p), .int .i64 (q), .bool (y), bv] rfl rfl ?_)
 intro b2
 refine XL.as (.bool (false)) rfl ?_
 refine XL.nil (X.seq (X.seq (X.region ?_)))
 refine XL.cons (XOp.fieldP (b := b1) (0) Try.runUnderlying197 rfl Try.sizeOf2 (by decide) rfl rfl ?_)
 refine XL.cons (XOp.load1 (v := .int .i64 (i)) Try.isAgg2 rfl (Rd.own [_] rfl rfl) ?_)
 refine XL.cons (XOp.fieldP (b := b2) (0) Try.runUnderlying197 rfl Try.sizeOf2 (by decide) rfl rfl ?_)
 refine XL.cons (XOp.load1 (v := .int .i64 (p)) Try.isAgg2 rfl (Rd.own [] rfl rfl) ?_)
 refine XL.cons (XOp.neq (a := i) (b := p) rfl rfl ?_)
 refine XL.nil ?_
 refine X.condD (p := (i : Int) ≠ p) rfl (fun h1 => ?_) (fun h1 => ?_)
 ·refine X.seq (X.region ?_)
  refine XL.as (.bool (false)) rfl ?_
  refine XL.nil ?_
  refine X.ret (thenQ_ret (retEnd (L' := L) [.bool (false)] (.bool (false)) (.tmp rfl .nil) rfl rF rF (Sub.drop (Sub.drop sR)) ?_))
  exact ⟨(vB (decide_eq_false (by intro e; simp_all))), rfl, rfl⟩
 ·refine X.skip (X.seq (X.seq (X.region ?_)))
  refine XL.cons (XOp.fieldP (b := b1) (1) Try.runUnderlying197 rfl Try.sizeOf2 (by decide) rfl rfl ?_)
  refine XL.cons (XOp.load1 (v := .int .i64 (j)) Try.isAgg2 rfl (Rd.own [_] rfl rfl) ?_)
  refine XL.cons (XOp.fieldP (b := b2) (1) Try.runUnderlying197 rfl Try.sizeOf2 (by decide) rfl rfl ?_)
  refine XL.cons (XOp.load1 (v := .int .i64 (q)) Try.isAgg2 rfl (Rd.own [] rfl rfl) ?_)
  refine XL.cons (XOp.neq (a := j) (b := q) rfl rfl ?_)
  refine XL.nil ?_
  refine X.condD (p := (j : Int) ≠ q) rfl (fun h2 => ?_) (fun h2 => ?_)
  ·refine X.seq (X.region ?_)
   refine XL.as (.bool (false)) rfl ?_
   refine XL.nil ?_
   refine X.ret (thenQ_ret (retEnd (L' := L) [.bool (false)] (.bool (false)) (.tmp rfl .nil) rfl rF rF (Sub.drop (Sub.drop sR)) ?_))
   exact ⟨(vB (decide_eq_false (by intro e; simp_all))), rfl, rfl⟩
  ·refine X.skip (X.seq (X.seq (X.region ?_)))
   refine XL.cons (XOp.fieldP (b := b1) (2) Try.runUnderlying197 rfl Try.sizeOf4 (by decide) rfl rfl ?_)
   refine XL.cons (XOp.load1 (v := .bool (x)) Try.isAgg4 rfl (Rd.own [_] rfl rfl) ?_)
   refine XL.cons (XOp.fieldP (b := b2) (2) Try.runUnderlying197 rfl Try.sizeOf4 (by decide) rfl rfl ?_)
   refine XL.cons (XOp.load1 (v := .bool (y)) Try.isAgg4 rfl (Rd.own [] rfl rfl) ?_)
   refine XL.cons (XOp.neB (a := x) (b := y) Try.runUnderlying4 rfl rfl ?_)
   refine XL.nil ?_
   refine X.condD (p := (x) ≠ (y)) rfl (fun h3 => ?_) (fun h3 => ?_)
   ·refine X.seq (X.region ?_)
    refine XL.as (.bool (false)) rfl ?_
    refine XL.nil ?_
    refine X.ret (thenQ_ret (retEnd (L' := L) [.bool (false)] (.bool (false)) (.tmp rfl .nil) rfl rF rF (Sub.drop (Sub.drop sR)) ?_))
    exact ⟨(vB (decide_eq_false (by intro e; simp_all))), rfl, rfl⟩
   ·refine X.skip (X.seq (X.seq (X.region ?_)))
    refine XL.cons (XOp.fieldP (b := b1) (3) Try.runUnderlying197 rfl Try.sizeOf22 (by decide) rfl rfl ?_)
    refine XL.cons (XOp.load1 (v := av) Try.isAgg22 rfl (Rd.own [_] rfl rfl) ?_)
    refine XL.cons (XOp.fieldP (b := b2) (3) Try.runUnderlying197 rfl Try.sizeOf22 (by decide) rfl rfl ?_)
    refine XL.cons (XOp.load1 (v := bv) Try.isAgg22 rfl (Rd.own [] rfl rfl) ?_)
    refine XL.cons (XOp.call (args := [av, bv]) Try.call22 rfl (eqInt64S_spec ha hb (hbd := (by first | assumption | rfl | omega | (left; simp; done) | (right; simp; done)))) ?_)
    rintro _ _ _ _ ⟨rfl, rfl, rfl⟩
    refine XL.cons (XOp.notD (p := a = b) rfl ?_)
    refine XL.nil ?_
    refine X.condD (p := ¬(a = b)) rfl (fun h4 => ?_) (fun h4 => ?_)
    ·refine X.seq (X.region ?_)
     refine XL.as (.bool (false)) rfl ?_
     refine XL.nil ?_
     refine X.ret (thenQ_ret (retEnd (L' := L) [.bool (false)] (.bool (false)) (.tmp rfl .nil) rfl rF rF (Sub.drop (Sub.drop sR)) ?_))
     exact ⟨(vB (decide_eq_false (by intro e; simp_all))), rfl, rfl⟩
    ·refine X.skip (X.seq (X.region ?_))
     refine XL.as (.bool (true)) rfl ?_
     refine XL.nil ?_
     refine X.ret (retEnd (L' := L) [.bool (true)] (.bool (true)) (.tmp rfl .nil) rfl rF rF (Sub.drop (Sub.drop sR)) ?_)
     exact ⟨(vB (decide_eq_true (by simp_all))), rfl, rfl⟩

/- laws.eqMoveS -/
theorem eqMoveS_spec {F : FH} {L : List HP} {av : Value} {a : List MoveT} (ha : MovesF F av a) {bv : Value} {b : List MoveT} (hb : MovesF F bv b) (hal : a.length ≤ 9223372036854775807) (hbd : ∀ i, i < a.length → (a.getD i (0, 0, false, [])).2.2.2.length ≤ 9223372036854775807) :
    Does Try.prog 105 [av, bv] F (L) (fun v F' L' => (.bool (decide (a = b)) : Value) = v ∧ F = F' ∧ L = L') := by
 refine Does.of_X Try.func105 rfl rfl rfl ?_
 refine X.seq (X.region ?_)
 refine XL.as (.bool (false)) rfl ?_
 refine XL.nil (X.seq (X.seq (X.region ?_)))
 refine XL.mv (av) rfl ?_
 refine XL.cons (XOp.lenS (v := av) (n := (a).length) Try.runUnderlying85 rfl ha.slv ?_)
 refine XL.mv (bv) rfl ?_
 refine XL.cons (XOp.lenS (v := bv) (n := (b).length) Try.runUnderlying85 rfl hb.slv ?_)
 refine XL.cons (XOp.neq (a := (a.length : Int)) (b := (b.length : Int)) rfl rfl ?_)
 refine XL.nil ?_
 refine X.condD (p := ((a.length : Int) : Int) ≠ (b.length : Int)) rfl (fun h1 => ?_) (fun h1 => ?_)
 ·refine X.seq (X.region ?_)
  refine XL.as (.bool (false)) rfl ?_
  refine XL.nil ?_
  refine X.ret (thenQ_ret (retEnd (L' := L) [.bool (false)] (.bool (false)) (.tmp rfl .nil) rfl rF rF sR ?_))
  exact ⟨(vB (decide_eq_false (fun e => by rw [e] at h1; omega))), rfl, rfl⟩
 ·refine X.skip (X.seq (X.seq (X.region ?_)))
  refine XL.as (.int .i64 (0)) rfl ?_
  refine XL.nil (X.block ?_)
  refine X.loop (α := Nat) (fun k => [(0, av), (1, bv), (5, .int .i64 ((k : Int)))]) (fun k => L) (fun k F' => F = F' ∧ (k ≤ a.length) ∧ (∀ i, i < k → a.getD i (0, 0, false, []) = b.getD i (0, 0, false, []))) (fun k => a.length - k) 0 ⟨rfl, rfl, rfl, trivial⟩ sR ⟨rfl, (by (try dsimp only) <;> omega), (fun i hi => absurd hi (by omega))⟩ ?_
  rintro k rE _ _ ⟨rfl, hk, hall⟩
  show X _ _ _ _ (envs [(0, av), (1, bv), (5, .int .i64 ((k : Int)))] rE) _ (L)
  have hbk := hbd k
  refine X.seq (X.seq (X.region ?_))
  refine XL.mv (.int .i64 ((k : Int))) rfl ?_
  refine XL.mv (av) rfl ?_
  refine XL.cons (XOp.lenS (v := av) (n := (a).length) Try.runUnderlying85 rfl ha.slv ?_)
  refine XL.cons (XOp.lss (a := (k : Int)) (b := (a.length : Int)) rfl rfl ?_)
  refine XL.nil ?_
  refine X.condD (p := (k : Int) < (a.length : Int)) rfl (fun h2 => ?_) (fun h2 => ?_)
  ·refine X.skip (X.seq (X.block (X.seq ?_)))
   obtain ⟨a1, ha1, hrg1, hq1⟩ := ha.rd (i := k) (by omega)
   obtain ⟨a2, ha2, hrg2, hq2⟩ := hb.rd (i := k) (by omega)
   refine X.draw [] L 8 [[], [], [], [], [], [], [], []] [[], [], [0, 1], [2], [], [], [4, 5], [6]] (phiL [fun us v => v = av, fun us v => v = (.int .i64 ((k : Int)) : Value), fun us v => v = (.pointer (some (elemA av (k * 4))) : Value), fun us v => v = (.agg #[.int .i64 ((a.getD k (0, 0, false, [])).1), .int .i64 ((a.getD k (0, 0, false, [])).2.1), .bool ((a.getD k (0, 0, false, [])).2.2.1), a1] : Value), fun us v => v = bv, fun us v => v = (.int .i64 ((k : Int)) : Value), fun us v => v = (.pointer (some (elemA bv (k * 4))) : Value), fun us v => v = (.agg #[.int .i64 ((b.getD k (0, 0, false, [])).1), .int .i64 ((b.getD k (0, 0, false, [])).2.1), .bool ((b.getD k (0, 0, false, [])).2.2.1), a2] : Value)]) (ownL [fun us v => [], fun us v => [], fun us v => [], fun us v => [], fun us v => [], fun us v => [], fun us v => [], fun us v => []]) mixed rfl rfl (by kernel_rfl) ?_ ?_
   ·refine stepsP.cons (fun vals R hpZ => ?_) ?_
    ·refine XG.op (XOp.move (av) rfl ?_)
     exact ⟨rfl, rfl, rfl⟩
    refine stepsP.cons (fun vals R hpZ => ?_) ?_
    ·refine XG.op (XOp.move (.int .i64 ((k : Int))) rfl ?_)
     exact ⟨rfl, rfl, rfl⟩
    refine stepsP.cons (fun vals R hpZ => ?_) ?_
    ·rw [eS (l := [(0, av), (1, (.int .i64 ((k : Int)) : Value))]) ⟨hpZ 0 (by decide), hpZ 1 (by decide), trivial⟩]
     refine XG.op (XOp.indexS (v := av) (i := (k : Int)) (n := (a).length) k Try.runUnderlying85 Try.sizeOf197 rfl rfl rfl ha.slv (by omega) rfl ?_)
     exact ⟨rfl, rfl, rfl⟩
    refine stepsP.cons (fun vals R hpZ => ?_) ?_
    ·rw [eS (l := [(2, (.pointer (some (elemA av (k * 4))) : Value))]) ⟨hpZ 2 (by decide), trivial⟩]
     refine XG.op (XOp.loadN [.int .i64 ((a.getD k (0, 0, false, [])).1), .int .i64 ((a.getD k (0, 0, false, [])).2.1), .bool ((a.getD k (0, 0, false, [])).2.2.1), a1] Try.isAgg197 Try.sizeOf197 rfl rfl (Rd.all (hrg1 _)) ?_)
     exact ⟨rfl, rfl, rfl⟩
    refine stepsP.cons (fun vals R hpZ => ?_) ?_
    ·refine XG.op (XOp.move (bv) rfl ?_)
     exact ⟨rfl, rfl, rfl⟩
    refine stepsP.cons (fun vals R hpZ => ?_) ?_
    ·refine XG.op (XOp.move (.int .i64 ((k : Int))) rfl ?_)
     exact ⟨rfl, rfl, rfl⟩
    refine stepsP.cons (fun vals R hpZ => ?_) ?_
    ·rw [eS (l := [(4, bv), (5, (.int .i64 ((k : Int)) : Value))]) ⟨hpZ 4 (by decide), hpZ 5 (by decide), trivial⟩]
     refine XG.op (XOp.indexS (v := bv) (i := (k : Int)) (n := (b).length) k Try.runUnderlying85 Try.sizeOf197 rfl rfl rfl hb.slv (by omega) rfl ?_)
     exact ⟨rfl, rfl, rfl⟩
    refine stepsP.cons (fun vals R hpZ => ?_) ?_
    ·rw [eS (l := [(6, (.pointer (some (elemA bv (k * 4))) : Value))]) ⟨hpZ 6 (by decide), trivial⟩]
     refine XG.op (XOp.loadN [.int .i64 ((b.getD k (0, 0, false, [])).1), .int .i64 ((b.getD k (0, 0, false, [])).2.1), .bool ((b.getD k (0, 0, false, [])).2.2.1), a2] Try.isAgg197 Try.sizeOf197 rfl rfl (Rd.all (hrg2 _)) ?_)
     exact ⟨rfl, rfl, rfl⟩
    exact stepsP.nil
   ·intro vals hphi
    rw [eS (l := [(0, av), (1, (.int .i64 ((k : Int)) : Value)), (2, (.pointer (some (elemA av (k * 4))) : Value)), (3, (.agg #[.int .i64 ((a.getD k (0, 0, false, [])).1), .int .i64 ((a.getD k (0, 0, false, [])).2.1), .bool ((a.getD k (0, 0, false, [])).2.2.1), a1] : Value)), (4, bv), (5, (.int .i64 ((k : Int)) : Value)), (6, (.pointer (some (elemA bv (k * 4))) : Value)), (7, (.agg #[.int .i64 ((b.getD k (0, 0, false, [])).1), .int .i64 ((b.getD k (0, 0, false, [])).2.1), .bool ((b.getD k (0, 0, false, [])).2.2.1), a2] : Value))]) ⟨(hphi 0 (by decide)), (hphi 1 (by decide)), (hphi 2 (by decide)), (hphi 3 (by decide)), (hphi 4 (by decide)), (hphi 5 (by decide)), (hphi 6 (by decide)), (hphi 7 (by decide)), trivial⟩]
    show XL _ _ _ _ _ _ _ (L)
    refine XL.cons (XOp.call (args := [.agg #[.int .i64 ((a.getD k (0, 0, false, [])).1), .int .i64 ((a.getD k (0, 0, false, [])).2.1), .bool ((a.getD k (0, 0, false, [])).2.2.1), a1], .agg #[.int .i64 ((b.getD k (0, 0, false, [])).1), .int .i64 ((b.getD k (0, 0, false, [])).2.1), .bool ((b.getD k (0, 0, false, [])).2.2.1), a2]]) Try.call160 rfl (eqMove_spec ha1 ha2 (hbd := (.inl (hbk (by omega))))) ?_)
    rintro _ _ _ _ ⟨rfl, rfl, rfl⟩
    refine XL.cons (XOp.notD (p := (((a.getD k (0, 0, false, [])).1), ((a.getD k (0, 0, false, [])).2.1), ((a.getD k (0, 0, false, [])).2.2.1), ((a.getD k (0, 0, false, [])).2.2.2)) = (((b.getD k (0, 0, false, [])).1), ((b.getD k (0, 0, false, [])).2.1), ((b.getD k (0, 0, false, [])).2.2.1), ((b.getD k (0, 0, false, [])).2.2.2))) rfl ?_)
    refine XL.nil ?_
    refine X.condD (p := ¬((((a.getD k (0, 0, false, [])).1), ((a.getD k (0, 0, false, [])).2.1), ((a.getD k (0, 0, false, [])).2.2.1), ((a.getD k (0, 0, false, [])).2.2.2)) = (((b.getD k (0, 0, false, [])).1), ((b.getD k (0, 0, false, [])).2.1), ((b.getD k (0, 0, false, [])).2.2.1), ((b.getD k (0, 0, false, [])).2.2.2)))) rfl (fun h3 => ?_) (fun h3 => ?_)
    ·refine X.seq (X.region ?_)
     refine XL.as (.bool (false)) rfl ?_
     refine XL.nil ?_
     refine X.ret (blockQ_ret (thenQ_ret (thenQ_ret (blockQ_ret (thenQ_ret (retEnd (L' := L) [.bool (false)] (.bool (false)) (.tmp rfl .nil) rfl rF rF sR ?_))))))
     exact ⟨(vB (decide_eq_false (fun e => by subst e; simp at *))), rfl, rfl⟩
    ·refine X.skip (X.region ?_)
     refine XL.mv (.int .i64 ((k : Int))) rfl ?_
     refine XL.cons (XOp.addR (a := (k : Int)) (b := 1) (((k + 1 : Nat) : Int)) rfl rfl (by omega) (by omega) ?_)
     refine XL.as (.int .i64 (((k + 1 : Nat) : Int))) rfl ?_
     refine XL.nil ?_
     exact ⟨k + 1, _, FLe.refl _, rF, ⟨rfl, rfl, rfl, trivial⟩, sR, ⟨rfl, (by (try dsimp only) <;> omega), (fun i hi => (Nat.lt_or_ge i k).elim (fun h => hall i h) (fun h => by obtain rfl : i = k := (by omega); first | assumption | exact Classical.not_not.1 (by assumption)))⟩, (by omega)⟩
  ·refine X.exit (thenQ_exit (thenQ_exit (blockQ_exit ?_)))
   refine X.seq (X.region ?_)
   refine XL.as (.bool (true)) rfl ?_
   refine XL.nil ?_
   refine X.ret (retEnd (L' := L) [.bool (true)] (.bool (true)) (.tmp rfl .nil) rfl rF rF sR ?_)
   exact ⟨(vB (decide_eq_true (ext_any ((0 : Int), (0 : Int), false, ([] : List Int)) (by omega) (fun i hi => hall i (by omega))))), rfl, rfl⟩

/- laws.eqChain -/
theorem eqChain_spec {F : FH} {L : List HP} {fv : Value} {f : List Int} (hf : IntsF F fv f) {av : Value} {a : List MoveT} (ha : MovesF F av a) {gv : Value} {g : List Int} (hg : IntsF F gv g) {bv : Value} {b : List MoveT} (hb : MovesF F bv b) (hfl : f.length ≤ 9223372036854775807) (hal : a.length ≤ 9223372036854775807) (hbd : ∀ i, i < a.length → (a.getD i (0, 0, false, [])).2.2.2.length ≤ 9223372036854775807) :
    Does Try.prog 50 [.agg #[fv, av], .agg #[gv, bv]] F (L) (fun v F' L' => (.bool (decide (f = g ∧ a = b)) : Value) = v ∧ F = F' ∧ L = L') := by
 refine Does.of_X Try.func50 rfl rfl rfl ?_
 refine X.seq (X.region ?_)
 refine XL.cons (XOp.box [fv, av] rfl rfl ?_)
 intro b1
 refine XL.cons (XOp.box [gv, bv] rfl rfl ?_)
 intro b2
 refine XL.as (.bool (false)) rfl ?_
 refine XL.nil (X.seq (X.seq (X.region ?_)))
 refine XL.cons (XOp.fieldP (b := b1) (0) Try.runUnderlying87 rfl Try.sizeOf22 (by decide) rfl rfl ?_)
 refine XL.cons (XOp.load1 (v := fv) Try.isAgg22 rfl (Rd.own [_] rfl rfl) ?_)
 refine XL.cons (XOp.fieldP (b := b2) (0) Try.runUnderlying87 rfl Try.sizeOf22 (by decide) rfl rfl ?_)
 refine XL.cons (XOp.load1 (v := gv) Try.isAgg22 rfl (Rd.own [] rfl rfl) ?_)
 refine XL.cons (XOp.call (args := [fv, gv]) Try.call22 rfl (eqInt64S_spec hf hg (hbd := (.inl hfl))) ?_)
 rintro _ _ _ _ ⟨rfl, rfl, rfl⟩
 refine XL.cons (XOp.notD (p := f = g) rfl ?_)
 refine XL.nil ?_
 refine X.condD (p := ¬(f = g)) rfl (fun h1 => ?_) (fun h1 => ?_)
 ·refine X.seq (X.region ?_)
  refine XL.as (.bool (false)) rfl ?_
  refine XL.nil ?_
  refine X.ret (thenQ_ret (retEnd (L' := L) [.bool (false)] (.bool (false)) (.tmp rfl .nil) rfl rF rF (Sub.drop (Sub.drop sR)) ?_))
  exact ⟨(vB (decide_eq_false (by intro e; simp_all))), rfl, rfl⟩
 ·refine X.skip (X.seq (X.seq (X.region ?_)))
  refine XL.cons (XOp.fieldP (b := b1) (1) Try.runUnderlying87 rfl Try.sizeOf85 (by decide) rfl rfl ?_)
  refine XL.cons (XOp.load1 (v := av) Try.isAgg85 rfl (Rd.own [_] rfl rfl) ?_)
  refine XL.cons (XOp.fieldP (b := b2) (1) Try.runUnderlying87 rfl Try.sizeOf85 (by decide) rfl rfl ?_)
  refine XL.cons (XOp.load1 (v := bv) Try.isAgg85 rfl (Rd.own [] rfl rfl) ?_)
  refine XL.cons (XOp.call (args := [av, bv]) Try.call105 rfl (eqMoveS_spec ha hb (hal := (by first | assumption | rfl | omega | simp)) (hbd := (by first | assumption | rfl | omega | simp))) ?_)
  rintro _ _ _ _ ⟨rfl, rfl, rfl⟩
  refine XL.cons (XOp.notD (p := a = b) rfl ?_)
  refine XL.nil ?_
  refine X.condD (p := ¬(a = b)) rfl (fun h2 => ?_) (fun h2 => ?_)
  ·refine X.seq (X.region ?_)
   refine XL.as (.bool (false)) rfl ?_
   refine XL.nil ?_
   refine X.ret (thenQ_ret (retEnd (L' := L) [.bool (false)] (.bool (false)) (.tmp rfl .nil) rfl rF rF (Sub.drop (Sub.drop sR)) ?_))
   exact ⟨(vB (decide_eq_false (by intro e; simp_all))), rfl, rfl⟩
  ·refine X.skip (X.seq (X.region ?_))
   refine XL.as (.bool (true)) rfl ?_
   refine XL.nil ?_
   refine X.ret (retEnd (L' := L) [.bool (true)] (.bool (true)) (.tmp rfl .nil) rfl rF rF (Sub.drop (Sub.drop sR)) ?_)
   exact ⟨(vB (decide_eq_true (by simp_all))), rfl, rfl⟩

/- laws.markMoveS -/
theorem markMoveS_spec {F : FH} {L : List HP} {xv : Value} {x : List MoveT} {z : Int} (hz : 0 ≤ z ∧ z + (((x.flatMap flatMove)).length : Int) ≤ 9000000000) (hnx : x.length ≤ 4000000) :
    Does Try.prog 106 [xv, .int .i64 (z)] F (movesD 2 197 xv x :: L) (fun v F' L' => ∃ x' : List MoveT, ((x'.flatMap flatMove)) = iota z ((x.flatMap flatMove)).length ∧ x'.length = x.length ∧ (.int .i64 (z + (((x.flatMap flatMove)).length : Int)) : Value) = v ∧ F = F' ∧ movesD 2 197 xv x' :: L = L') := by
 refine Does.of_X Try.func106 rfl rfl rfl ?_
 refine X.openDeep (fun cs Ls hd => ?_)
 refine X.weaken (Sub.front (A := [_])) ?_
 show X _ _ _ _ _ _ (star Ls :: slH 197 4 xv x.length cs :: L)
 refine X.seq (X.region ?_)
 refine XL.as (.int .i64 (0)) rfl ?_
 refine XL.nil (X.seq (X.seq (X.region ?_)))
 refine XL.as (.int .i64 (0)) rfl ?_
 refine XL.nil (X.block ?_)
 refine X.loop (α := Nat × List MoveT × List HP × List Value) (fun xQ => [(0, xv), (1, .int .i64 (z + ((((x.take xQ.1).flatMap flatMove).length : Nat) : Int))), (5, .int .i64 (((xQ.1 : Nat) : Int)))]) (fun xQ => star xQ.2.2.1 :: slH 197 4 xv x.length xQ.2.2.2 :: L) (fun xQ F' => F = F' ∧ (DeepL 4 (MoveO 2) xQ.2.2.2 (xQ.2.1 ++ x.drop xQ.1) xQ.2.2.1) ∧ (xQ.1 ≤ x.length) ∧ (xQ.2.1.length = xQ.1) ∧ (xQ.2.1.flatMap flatMove = iota z ((x.take xQ.1).flatMap flatMove).length)) (fun xQ => x.length - xQ.1) (0, [], Ls, cs) ⟨rfl, (show Value.int .i64 z = .int .i64 (z + ((((x.take 0).flatMap flatMove).length : Nat) : Int)) from congrArg (Value.int .i64) (by simp)), rfl, trivial⟩ (Sub.cons (Sub.cons sR)) ⟨rfl, (hd), (by (try dsimp only) <;> omega), (rfl), (rfl)⟩ ?_
 rintro ⟨k, os, Ls, cs⟩ rE _ _ ⟨rfl, hd, hk, hol, hfl⟩
 show X _ _ _ _ (envs [(0, xv), (1, .int .i64 (z + ((((x.take k).flatMap flatMove).length : Nat) : Int))), (5, .int .i64 ((k : Int)))] rE) _ (star Ls :: slH 197 4 xv x.length cs :: L)
 dsimp only at hd hk hol hfl
 have htl := fun (h : k < x.length) => flat_take_le (f := flatMove) (l := x) ((0 : Int), (0 : Int), false, ([] : List Int)) h
 have hlen : (os ++ x.drop k).length = x.length := by rw [List.length_append, List.length_drop]; omega
 refine X.seq (X.seq (X.region ?_))
 refine XL.mv (.int .i64 ((k : Int))) rfl ?_
 refine XL.mv (xv) rfl ?_
 refine XL.cons (XOp.lenS (v := xv) (n := x.length) Try.runUnderlying85 rfl (SlV.own [_] rfl) ?_)
 refine XL.cons (XOp.lss (a := (k : Int)) (b := (x.length : Int)) rfl rfl ?_)
 refine XL.nil ?_
 refine X.condD (p := (k : Int) < (x.length : Int)) rfl (fun h1 => ?_) (fun h1 => ?_)
 ·refine X.skip (X.seq (X.block (X.seq (X.region ?_))))
  have hkx : k < x.length := by omega
  have htl2 := htl hkx
  obtain ⟨A, K, B, es, hLs, hel, hR, hg, hput⟩ := hd.at (d := ((0 : Int), (0 : Int), false, ([] : List Int))) (k := k) (by omega)
  rw [app_getD hol] at hR
  have hself := splice_self hel hg (hd.bound (k := k) (by omega))
  obtain ⟨c, he, hK⟩ := hR
  subst he hK
  have hfp : (flatMove (x.getD k (0, 0, false, []))).length = (x.getD k (0, 0, false, [])).2.2.2.length + 1 + 1 + 1 := rfl
  have hbd := hd.bound (k := k) (by omega)
  subst hLs
  refine XL.weaken (Sub.pull (A := A)) ?_
  show XL _ _ _ _ _ _ _ (intsH 2 c ((x.getD k (0, 0, false, [])).2.2.2) :: star (A ++ B) :: slH 197 4 xv x.length cs :: L)
  skip
  refine XL.mv (xv) rfl ?_
  refine XL.mv (.int .i64 ((k : Int))) rfl ?_
  refine XL.mv (.int .i64 (z + ((((x.take k).flatMap flatMove).length : Nat) : Int))) rfl ?_
  refine XL.cons (XOp.indexS (v := xv) (i := (k : Int)) (n := x.length) k Try.runUnderlying85 Try.sizeOf197 rfl rfl rfl (SlV.own [_, _] rfl) (by omega) rfl ?_)
  refine XL.cons (XOp.fieldE (v := xv) (k * 4) Try.runUnderlying197 rfl Try.sizeOf2 (by decide) rfl rfl ?_)
  refine XL.cons (XOp.storeS (i := k * 4) (cs := cs) [_, _] _ Try.sizeOf2 rfl rfl rfl rfl (by (try simp only [List.length_set]); omega) ?_)
  refine XL.nil (X.seq (X.region ?_))
  refine XL.mv (.int .i64 (z + ((((x.take k).flatMap flatMove).length : Nat) : Int))) rfl ?_
  refine XL.cons (XOp.addR (a := z + ((((x.take k).flatMap flatMove).length : Nat) : Int)) (b := 1) ((z + ((((x.take k).flatMap flatMove).length : Nat) : Int)) + 1) rfl rfl (by omega) (by omega) ?_)
  refine XL.as (.int .i64 ((z + ((((x.take k).flatMap flatMove).length : Nat) : Int)) + 1)) rfl ?_
  refine XL.nil (X.seq (X.region ?_))
  refine XL.mv (xv) rfl ?_
  refine XL.mv (.int .i64 ((k : Int))) rfl ?_
  refine XL.mv (.int .i64 ((z + ((((x.take k).flatMap flatMove).length : Nat) : Int)) + 1)) rfl ?_
  refine XL.cons (XOp.indexS (v := xv) (i := (k : Int)) (n := x.length) k Try.runUnderlying85 Try.sizeOf197 rfl rfl rfl (SlV.own [_, _] rfl) (by omega) rfl ?_)
  refine XL.cons (XOp.fieldE (v := xv) (k * 4 + 1) Try.runUnderlying197 rfl Try.sizeOf2 (by decide) rfl rfl ?_)
  refine XL.cons (XOp.storeS (i := k * 4 + 1) (cs := (cs.set (k * 4) (.int .i64 (z + ((((x.take k).flatMap flatMove).length : Nat) : Int))))) [_, _] _ Try.sizeOf2 rfl rfl rfl rfl (by (try simp only [List.length_set]); omega) ?_)
  refine XL.nil (X.seq (X.region ?_))
  refine XL.mv (.int .i64 ((z + ((((x.take k).flatMap flatMove).length : Nat) : Int)) + 1)) rfl ?_
  refine XL.cons (XOp.addR (a := (z + ((((x.take k).flatMap flatMove).length : Nat) : Int)) + 1) (b := 1) (((z + ((((x.take k).flatMap flatMove).length : Nat) : Int)) + 1) + 1) rfl rfl (by omega) (by omega) ?_)
  refine XL.as (.int .i64 (((z + ((((x.take k).flatMap flatMove).length : Nat) : Int)) + 1) + 1)) rfl ?_
  refine XL.nil (X.seq (X.region ?_))
  refine XL.mv (xv) rfl ?_
  refine XL.mv (.int .i64 ((k : Int))) rfl ?_
  refine XL.mv (.int .i64 (((z + ((((x.take k).flatMap flatMove).length : Nat) : Int)) + 1) + 1)) rfl ?_
  refine XL.cons (XOp.remC (a := ((z + ((((x.take k).flatMap flatMove).length : Nat) : Int)) + 1) + 1) (b := 3) rfl rfl (by omega) (by decide) ?_)
  refine XL.cons (XOp.eql (a := (((z + ((((x.take k).flatMap flatMove).length : Nat) : Int)) + 1) + 1) % 3) (b := 0) rfl rfl ?_)
  refine XL.cons (XOp.indexS (v := xv) (i := (k : Int)) (n := x.length) k Try.runUnderlying85 Try.sizeOf197 rfl rfl rfl (SlV.own [_, _] rfl) (by omega) rfl ?_)
  refine XL.cons (XOp.fieldE (v := xv) (k * 4 + 2) Try.runUnderlying197 rfl Try.sizeOf4 (by decide) rfl rfl ?_)
  refine XL.cons (XOp.storeS (i := k * 4 + 2) (cs := (((cs.set (k * 4) (.int .i64 (z + ((((x.take k).flatMap flatMove).length : Nat) : Int))))).set (k * 4 + 1) (.int .i64 ((z + ((((x.take k).flatMap flatMove).length : Nat) : Int)) + 1)))) [_, _] _ Try.sizeOf4 rfl rfl rfl rfl (by (try simp only [List.length_set]); omega) ?_)
  refine XL.nil (X.seq (X.region ?_))
  refine XL.mv (.int .i64 (((z + ((((x.take k).flatMap flatMove).length : Nat) : Int)) + 1) + 1)) rfl ?_
  refine XL.cons (XOp.addR (a := ((z + ((((x.take k).flatMap flatMove).length : Nat) : Int)) + 1) + 1) (b := 1) ((((z + ((((x.take k).flatMap flatMove).length : Nat) : Int)) + 1) + 1) + 1) rfl rfl (by omega) (by omega) ?_)
  refine XL.as (.int .i64 ((((z + ((((x.take k).flatMap flatMove).length : Nat) : Int)) + 1) + 1) + 1)) rfl ?_
  refine XL.nil (X.region ?_)
  refine XL.mv (xv) rfl ?_
  refine XL.mv (.int .i64 ((k : Int))) rfl ?_
  refine XL.cons (XOp.indexS (v := xv) (i := (k : Int)) (n := x.length) k Try.runUnderlying85 Try.sizeOf197 rfl rfl rfl (SlV.own [_, _] rfl) (by omega) rfl ?_)
  refine XL.cons (XOp.fieldE (v := xv) (k * 4 + 3) Try.runUnderlying197 rfl Try.sizeOf22 (by decide) rfl rfl ?_)
  refine XL.cons (XOp.load1 (v := c) Try.isAgg22 rfl (Rd.sl [_, _] rfl (by rw [List.getElem?_set_ne (by omega), List.getElem?_set_ne (by omega), List.getElem?_set_ne (by omega)]; exact hg 3 _ rfl)) ?_)
  refine XL.mv (.int .i64 ((((z + ((((x.take k).flatMap flatMove).length : Nat) : Int)) + 1) + 1) + 1)) rfl ?_
  refine XL.cons (XOp.call (args := [c, .int .i64 ((((z + ((((x.take k).flatMap flatMove).length : Nat) : Int)) + 1) + 1) + 1)]) Try.call27 rfl (markInt64S_spec (by omega)) ?_)
  rintro _ _ _ _ ⟨m1, hm1, rfl, rfl, rfl⟩
  have hml1 := congrArg List.length hm1
  rw [iota_len] at hml1
  try simp only [List.length_append] at hml1
  refine XL.as (.int .i64 (((((z + ((((x.take k).flatMap flatMove).length : Nat) : Int)) + 1) + 1) + 1) + (((((x.getD k (0, 0, false, [])).2.2.2))).length : Int))) rfl ?_
  refine XL.nil (X.region ?_)
  refine XL.weaken (Sub.cons (Sub.cons (Sub.cons sR))) ?_
  refine XL.weaken (Sub.push (A := A) (K := [intsH 2 c m1]) (B := B)) ?_
  show XL _ _ _ _ _ _ _ (star (A ++ ([intsH 2 c m1] ++ B)) :: slH 197 4 xv x.length ((((((cs.set (k * 4) (.int .i64 (z + ((((x.take k).flatMap flatMove).length : Nat) : Int))))).set (k * 4 + 1) (.int .i64 ((z + ((((x.take k).flatMap flatMove).length : Nat) : Int)) + 1)))).set (k * 4 + 2) (.bool (decide (((((z + ((((x.take k).flatMap flatMove).length : Nat) : Int)) + 1) + 1) % 3 : Int) = 0))))) :: L)
  have hdn := hput [.int .i64 (z + ((((x.take k).flatMap flatMove).length : Nat) : Int)), .int .i64 ((z + ((((x.take k).flatMap flatMove).length : Nat) : Int)) + 1), .bool (decide (((z + ((((x.take k).flatMap flatMove).length : Nat) : Int)) + 1 + 1) % 3 = 0)), c] ((z + ((((x.take k).flatMap flatMove).length : Nat) : Int)), (z + ((((x.take k).flatMap flatMove).length : Nat) : Int)) + 1, decide (((z + ((((x.take k).flatMap flatMove).length : Nat) : Int)) + 1 + 1) % 3 = 0), m1) _ rfl ⟨c, rfl, rfl⟩
  rw [← set_four (hg 0 _ rfl) (hg 1 _ rfl) (hg 2 _ rfl) (hg 3 _ rfl), app_set hol hkx] at hdn
  have hfm : flatMove ((z + ((((x.take k).flatMap flatMove).length : Nat) : Int)), (z + ((((x.take k).flatMap flatMove).length : Nat) : Int)) + 1, decide (((z + ((((x.take k).flatMap flatMove).length : Nat) : Int)) + 1 + 1) % 3 = 0), m1) = (z + ((((x.take k).flatMap flatMove).length : Nat) : Int)) :: ((z + ((((x.take k).flatMap flatMove).length : Nat) : Int)) + 1) :: ((z + ((((x.take k).flatMap flatMove).length : Nat) : Int)) + 1 + 1) :: m1 := by unfold flatMove; dsimp only; rw [if_pos rfl]
  have hfx : flatMove ((z + ((((x.take k).flatMap flatMove).length : Nat) : Int)), (z + ((((x.take k).flatMap flatMove).length : Nat) : Int)) + 1, decide (((z + ((((x.take k).flatMap flatMove).length : Nat) : Int)) + 1 + 1) % 3 = 0), m1) = iota (z + ((((x.take k).flatMap flatMove).length : Nat) : Int)) (flatMove (x.getD k (0, 0, false, []))).length := by rw [hfm, hfp, iota_cons, iota_cons, iota_cons]; congr 3
  have hnext : (z + ((((x.take k).flatMap flatMove).length : Nat) : Int)) + 1 + 1 + 1 + ((x.getD k (0, 0, false, [])).2.2.2.length : Int) = z + ((((x.take (k + 1)).flatMap flatMove).length : Nat) : Int) := by rw [flatMap_take_succ flatMove (0, 0, false, []) hkx, List.length_append, hfp]; omega
  skip
  refine XL.mv (.int .i64 ((k : Int))) rfl ?_
  refine XL.cons (XOp.addR (a := (k : Int)) (b := 1) (((k + 1 : Nat) : Int)) rfl rfl (by omega) (by omega) ?_)
  refine XL.as (.int .i64 (((k + 1 : Nat) : Int))) rfl ?_
  refine XL.nil ?_
  exact ⟨(k + 1, os ++ [((z + ((((x.take k).flatMap flatMove).length : Nat) : Int)), (z + ((((x.take k).flatMap flatMove).length : Nat) : Int)) + 1, decide (((z + ((((x.take k).flatMap flatMove).length : Nat) : Int)) + 1 + 1) % 3 = 0), m1)], A ++ ([intsH 2 c m1] ++ B), (((((cs.set (k * 4) (.int .i64 (z + ((((x.take k).flatMap flatMove).length : Nat) : Int))))).set (k * 4 + 1) (.int .i64 ((z + ((((x.take k).flatMap flatMove).length : Nat) : Int)) + 1)))).set (k * 4 + 2) (.bool (decide (((((z + ((((x.take k).flatMap flatMove).length : Nat) : Int)) + 1) + 1) % 3 : Int) = 0))))), _, FLe.refl _, rF, ⟨rfl, (vI hnext), rfl, trivial⟩, (Sub.cons (Sub.cons sR)), ⟨rfl, (hdn), (by (try dsimp only) <;> omega), (by simp [hol]), (marked (d := ((0 : Int), (0 : Int), false, ([] : List Int))) (by omega) hfl hfx)⟩, (by omega)⟩
 ·refine X.exit (thenQ_exit (thenQ_exit (blockQ_exit ?_)))
  refine X.seq (X.region ?_)
  refine XL.mv (.int .i64 (z + ((((x.take k).flatMap flatMove).length : Nat) : Int))) rfl ?_
  refine XL.as (.int .i64 (z + ((((x.take k).flatMap flatMove).length : Nat) : Int))) rfl ?_
  refine XL.nil ?_
  refine X.ret (retEnd (L' := movesD 2 197 xv os :: L) [.int .i64 (z + ((((x.take k).flatMap flatMove).length : Nat) : Int))] (.int .i64 (z + ((((x.take k).flatMap flatMove).length : Nat) : Int))) (.tmp rfl .nil) rfl rF rF (Sub.trans (Sub.front (A := [_])) (Sub.closeDeep (by rw [app_all (by omega)] at hd; exact hd) (by omega))) ?_)
  rw [app_all (by omega)] at hd
  have hkl : k = x.length := by omega
  exact ⟨os, by rw [hfl, hkl, List.take_length], by omega, by rw [hkl, List.take_length], rfl, rfl⟩

/- laws.markChain -/
theorem markChain_spec {F : FH} {L : List HP} {xv : Value} {x : List Int} {yv : Value} {y : List MoveT} {z : Int} (hz : 0 ≤ z ∧ z + (((x) ++ (y.flatMap flatMove)).length : Int) ≤ 9000000000) (hny : y.length ≤ 4000000) :
    Does Try.prog 51 [.agg #[xv, yv], .int .i64 (z)] F (intsH 2 xv x :: movesD 2 197 yv y :: L) (fun v F' L' => ∃ x' : List Int, ∃ y' : List MoveT, ((x') ++ (y'.flatMap flatMove)) = iota z ((x) ++ (y.flatMap flatMove)).length ∧ y'.length = y.length ∧ (.int .i64 (z + (((x) ++ (y.flatMap flatMove)).length : Int)) : Value) = v ∧ F = F' ∧ intsH 2 xv x' :: movesD 2 197 yv y' :: L = L') := by
 refine Does.of_X Try.func51 rfl rfl rfl ?_
 have hlx : ((x) ++ (y.flatMap flatMove)).length = x.length + (y.flatMap flatMove).length := List.length_append
 refine X.seq (X.region ?_)
 refine XL.cons (XOp.box [xv, yv] rfl rfl ?_)
 intro b1
 refine XL.as (.int .i64 (0)) rfl ?_
 refine XL.nil (X.seq (X.region ?_))
 refine XL.cons (XOp.fieldP (b := b1) (0) Try.runUnderlying87 rfl Try.sizeOf22 (by decide) rfl rfl ?_)
 refine XL.cons (XOp.load1 (v := xv) Try.isAgg22 rfl (Rd.own [] rfl rfl) ?_)
 refine XL.mv (.int .i64 (z)) rfl ?_
 refine XL.weaken (Sub.front (A := [_])) ?_
 show XL _ _ _ _ _ _ _ (intsH 2 xv x :: cellsH b1 [xv, yv] 87 :: movesD 2 197 yv y :: L)
 refine XL.cons (XOp.call (args := [xv, .int .i64 (z)]) Try.call27 rfl (markInt64S_spec (by omega)) ?_)
 rintro _ _ _ _ ⟨m1, hm1, rfl, rfl, rfl⟩
 have hml1 := congrArg List.length hm1
 rw [iota_len] at hml1
 try simp only [List.length_append] at hml1
 refine XL.as (.int .i64 (z + (((x)).length : Int))) rfl ?_
 refine XL.nil (X.seq (X.region ?_))
 refine XL.cons (XOp.fieldP (b := b1) (1) Try.runUnderlying87 rfl Try.sizeOf85 (by decide) rfl rfl ?_)
 refine XL.cons (XOp.load1 (v := yv) Try.isAgg85 rfl (Rd.own [_] rfl rfl) ?_)
 refine XL.mv (.int .i64 (z + (((x)).length : Int))) rfl ?_
 refine XL.weaken (Sub.front (A := [_, _])) ?_
 show XL _ _ _ _ _ _ _ (movesD 2 197 yv y :: intsH 2 xv m1 :: cellsH b1 [xv, yv] 87 :: L)
 refine XL.cons (XOp.call (args := [yv, .int .i64 (z + (((x)).length : Int))]) Try.call106 rfl (markMoveS_spec (by omega) (by omega)) ?_)
 rintro _ _ _ _ ⟨m2, hm2, hk1, rfl, rfl, rfl⟩
 have hml2 := congrArg List.length hm2
 rw [iota_len] at hml2
 try simp only [List.length_append] at hml2
 refine XL.as (.int .i64 ((z + (((x)).length : Int)) + (((y.flatMap flatMove)).length : Int))) rfl ?_
 refine XL.nil (X.seq (X.region ?_))
 refine XL.mv (.int .i64 ((z + (((x)).length : Int)) + (((y.flatMap flatMove)).length : Int))) rfl ?_
 refine XL.as (.int .i64 ((z + (((x)).length : Int)) + (((y.flatMap flatMove)).length : Int))) rfl ?_
 refine XL.nil ?_
 refine X.ret (retEnd (L' := intsH 2 xv m1 :: movesD 2 197 yv m2 :: L) [.int .i64 ((z + (((x)).length : Int)) + (((y.flatMap flatMove)).length : Int))] (.int .i64 ((z + (((x)).length : Int)) + (((y.flatMap flatMove)).length : Int))) (.tmp rfl .nil) rfl rF rF (Sub.trans (Sub.front (A := [_])) (Sub.cons (Sub.cons (Sub.drop sR)))) ?_)
 exact ⟨m1, m2, by rw [List.length_append, iota_add, hm1, hm2], (by assumption), congrArg (Value.int .i64) (by first | rfl | (simp only [List.length_append]; omega)), rfl, rfl⟩

/- laws.heldMoveS -/
theorem heldMoveS_spec {F : FH} {L : List HP} {xv : Value} {x : List MoveT} (hx : MovesF F xv x) {z : Int} (hzb : 0 ≤ z ∧ z + ((x.flatMap flatMove).length : Int) ≤ 9000000000) (hxl : x.length ≤ 4000000) :
    Does Try.prog 107 [xv, .int .i64 (z)] F (L) (fun v F' L' => (.int .i64 (heldF (x.flatMap flatMove) z) : Value) = v ∧ F = F' ∧ L = L') := by
 refine Does.of_X Try.func107 rfl rfl rfl ?_
 refine X.seq (X.region ?_)
 refine XL.as (.int .i64 (0)) rfl ?_
 refine XL.nil (X.seq (X.seq (X.region ?_)))
 refine XL.as (.int .i64 (0)) rfl ?_
 refine XL.nil (X.block ?_)
 refine X.loop (α := Nat) (fun k => [(0, xv), (1, .int .i64 (heldF ((x.take k).flatMap flatMove) z)), (5, .int .i64 ((k : Int)))]) (fun k => L) (fun k F' => F = F' ∧ (k ≤ x.length) ∧ (0 ≤ heldF ((x.take k).flatMap flatMove) z)) (fun k => x.length - k) 0 ⟨rfl, (show Value.int .i64 z = .int .i64 (heldF ((x.take 0).flatMap flatMove) z) from congrArg (Value.int .i64) (by simp [heldF_nil])), rfl, trivial⟩ sR ⟨rfl, (by (try dsimp only) <;> omega), (by simp [heldF_nil]; omega)⟩ ?_
 rintro k rE _ _ ⟨rfl, hk, hnn⟩
 show X _ _ _ _ (envs [(0, xv), (1, .int .i64 (heldF ((x.take k).flatMap flatMove) z)), (5, .int .i64 ((k : Int)))] rE) _ (L)
 have hhp := heldF_pos (a := (x.take k).flatMap flatMove) (k := z) (by omega)
 have htl := fun (h : k < x.length) => flat_take_le (f := flatMove) (l := x) ((0 : Int), (0 : Int), false, ([] : List Int)) h
 have hnx := fun (h : k < x.length) => held_next (f := flatMove) (l := x) (k := k) ((0 : Int), (0 : Int), false, ([] : List Int)) hzb.1 h (by omega)
 have hsx : k < x.length → (flatMove (x.getD k (0, 0, false, []))).length = (x.getD k (0, 0, false, [])).2.2.2.length + 1 + 1 + 1 := fun _ => rfl
 have hun : k < x.length → heldF (flatMove (x.getD k (0, 0, false, []))) (heldF ((x.take k).flatMap flatMove) z) = (if (x.getD k (0, 0, false, [])).1 = heldF ((x.take k).flatMap flatMove) z then (if (x.getD k (0, 0, false, [])).2.1 = heldF ((x.take k).flatMap flatMove) z + 1 then (if (x.getD k (0, 0, false, [])).2.2.1 = decide ((heldF ((x.take k).flatMap flatMove) z + 1 + 1) % 3 = 0) then heldF (x.getD k (0, 0, false, [])).2.2.2 (heldF ((x.take k).flatMap flatMove) z + 1 + 1 + 1) else -1) else -1) else -1) := fun _ => held_move hnn
 refine X.seq (X.seq (X.region ?_))
 refine XL.mv (.int .i64 ((k : Int))) rfl ?_
 refine XL.mv (xv) rfl ?_
 refine XL.cons (XOp.lenS (v := xv) (n := (x).length) Try.runUnderlying85 rfl hx.slv ?_)
 refine XL.cons (XOp.lss (a := (k : Int)) (b := (x.length : Int)) rfl rfl ?_)
 refine XL.nil ?_
 refine X.condD (p := (k : Int) < (x.length : Int)) rfl (fun h1 => ?_) (fun h1 => ?_)
 ·refine X.skip (X.seq (X.block (X.seq (X.seq (X.region ?_)))))
  refine XL.mv (xv) rfl ?_
  refine XL.mv (.int .i64 ((k : Int))) rfl ?_
  refine XL.cons (XOp.indexS (v := xv) (i := (k : Int)) (n := (x).length) k Try.runUnderlying85 Try.sizeOf197 rfl rfl rfl hx.slv (by omega) rfl ?_)
  refine XL.cons (XOp.fieldE (v := xv) (k * 4) Try.runUnderlying197 rfl Try.sizeOf2 (by decide) rfl rfl ?_)
  obtain ⟨a1, ha1, hrg1, hq1⟩ := hx.rd (i := k) (by omega)
  refine XL.cons (XOp.load1 (v := .int .i64 ((x.getD k (0, 0, false, [])).1)) Try.isAgg2 rfl (hrg1 _ 0 _ rfl) ?_)
  refine XL.mv (.int .i64 (heldF ((x.take k).flatMap flatMove) z)) rfl ?_
  refine XL.cons (XOp.neq (a := (x.getD k (0, 0, false, [])).1) (b := heldF ((x.take k).flatMap flatMove) z) rfl rfl ?_)
  refine XL.nil ?_
  refine X.condD (p := ((x.getD k (0, 0, false, [])).1 : Int) ≠ heldF ((x.take k).flatMap flatMove) z) rfl (fun h2 => ?_) (fun h2 => ?_)
  ·refine X.seq (X.region ?_)
   refine XL.as (.int .i64 (-1)) rfl ?_
   refine XL.nil ?_
   refine X.ret (thenQ_ret (blockQ_ret (thenQ_ret (thenQ_ret (blockQ_ret (thenQ_ret (retEnd (L' := L) [.int .i64 (-1)] (.int .i64 (-1)) (.tmp rfl .nil) rfl rF rF sR ?_)))))))
   exact ⟨(vI (by exact held_fail (k := k) ((0 : Int), (0 : Int), false, ([] : List Int)) hzb.1 (by omega) (by rw [hnx (by omega), hun (by omega), if_neg (by assumption)]; omega))), rfl, rfl⟩
  ·refine X.skip (X.seq (X.region ?_))
   refine XL.mv (.int .i64 (heldF ((x.take k).flatMap flatMove) z)) rfl ?_
   refine XL.cons (XOp.addR (a := heldF ((x.take k).flatMap flatMove) z) (b := 1) ((heldF ((x.take k).flatMap flatMove) z) + 1) rfl rfl (by omega) (by omega) ?_)
   refine XL.as (.int .i64 ((heldF ((x.take k).flatMap flatMove) z) + 1)) rfl ?_
   refine XL.nil (X.seq (X.seq (X.region ?_)))
   refine XL.mv (xv) rfl ?_
   refine XL.mv (.int .i64 ((k : Int))) rfl ?_
   refine XL.cons (XOp.indexS (v := xv) (i := (k : Int)) (n := (x).length) k Try.runUnderlying85 Try.sizeOf197 rfl rfl rfl hx.slv (by omega) rfl ?_)
   refine XL.cons (XOp.fieldE (v := xv) (k * 4 + 1) Try.runUnderlying197 rfl Try.sizeOf2 (by decide) rfl rfl ?_)
   refine XL.cons (XOp.load1 (v := .int .i64 ((x.getD k (0, 0, false, [])).2.1)) Try.isAgg2 rfl (hrg1 _ 1 _ rfl) ?_)
   refine XL.mv (.int .i64 ((heldF ((x.take k).flatMap flatMove) z) + 1)) rfl ?_
   refine XL.cons (XOp.neq (a := (x.getD k (0, 0, false, [])).2.1) (b := (heldF ((x.take k).flatMap flatMove) z) + 1) rfl rfl ?_)
   refine XL.nil ?_
   refine X.condD (p := ((x.getD k (0, 0, false, [])).2.1 : Int) ≠ (heldF ((x.take k).flatMap flatMove) z) + 1) rfl (fun h3 => ?_) (fun h3 => ?_)
   ·refine X.seq (X.region ?_)
    refine XL.as (.int .i64 (-1)) rfl ?_
    refine XL.nil ?_
    refine X.ret (thenQ_ret (blockQ_ret (thenQ_ret (thenQ_ret (blockQ_ret (thenQ_ret (retEnd (L' := L) [.int .i64 (-1)] (.int .i64 (-1)) (.tmp rfl .nil) rfl rF rF sR ?_)))))))
    exact ⟨(vI (by exact held_fail (k := k) ((0 : Int), (0 : Int), false, ([] : List Int)) hzb.1 (by omega) (by rw [hnx (by omega), hun (by omega), if_pos (by first | assumption | exact Classical.not_not.1 (by assumption)), if_neg (by assumption)]; omega))), rfl, rfl⟩
   ·refine X.skip (X.seq (X.region ?_))
    refine XL.mv (.int .i64 ((heldF ((x.take k).flatMap flatMove) z) + 1)) rfl ?_
    refine XL.cons (XOp.addR (a := (heldF ((x.take k).flatMap flatMove) z) + 1) (b := 1) (((heldF ((x.take k).flatMap flatMove) z) + 1) + 1) rfl rfl (by omega) (by omega) ?_)
    refine XL.as (.int .i64 (((heldF ((x.take k).flatMap flatMove) z) + 1) + 1)) rfl ?_
    refine XL.nil (X.seq (X.seq (X.region ?_)))
    refine XL.mv (xv) rfl ?_
    refine XL.mv (.int .i64 ((k : Int))) rfl ?_
    refine XL.cons (XOp.indexS (v := xv) (i := (k : Int)) (n := (x).length) k Try.runUnderlying85 Try.sizeOf197 rfl rfl rfl hx.slv (by omega) rfl ?_)
    refine XL.cons (XOp.fieldE (v := xv) (k * 4 + 2) Try.runUnderlying197 rfl Try.sizeOf4 (by decide) rfl rfl ?_)
    refine XL.cons (XOp.load1 (v := .bool ((x.getD k (0, 0, false, [])).2.2.1)) Try.isAgg4 rfl (hrg1 _ 2 _ rfl) ?_)
    refine XL.mv (.int .i64 (((heldF ((x.take k).flatMap flatMove) z) + 1) + 1)) rfl ?_
    refine XL.cons (XOp.remC (a := ((heldF ((x.take k).flatMap flatMove) z) + 1) + 1) (b := 3) rfl rfl (by omega) (by decide) ?_)
    refine XL.cons (XOp.eql (a := (((heldF ((x.take k).flatMap flatMove) z) + 1) + 1) % 3) (b := 0) rfl rfl ?_)
    refine XL.cons (XOp.neB (a := (x.getD k (0, 0, false, [])).2.2.1) (b := decide (((((heldF ((x.take k).flatMap flatMove) z) + 1) + 1) % 3 : Int) = 0)) Try.runUnderlying4 rfl rfl ?_)
    refine XL.nil ?_
    refine X.condD (p := ((x.getD k (0, 0, false, [])).2.2.1) ≠ (decide (((((heldF ((x.take k).flatMap flatMove) z) + 1) + 1) % 3 : Int) = 0))) rfl (fun h4 => ?_) (fun h4 => ?_)
    ·refine X.seq (X.region ?_)
     refine XL.as (.int .i64 (-1)) rfl ?_
     refine XL.nil ?_
     refine X.ret (thenQ_ret (blockQ_ret (thenQ_ret (thenQ_ret (blockQ_ret (thenQ_ret (retEnd (L' := L) [.int .i64 (-1)] (.int .i64 (-1)) (.tmp rfl .nil) rfl rF rF sR ?_)))))))
     exact ⟨(vI (by exact held_fail (k := k) ((0 : Int), (0 : Int), false, ([] : List Int)) hzb.1 (by omega) (by rw [hnx (by omega), hun (by omega), if_pos (by first | assumption | exact Classical.not_not.1 (by assumption)), if_pos (by first | assumption | exact Classical.not_not.1 (by assumption)), if_neg (by assumption)]; omega))), rfl, rfl⟩
    ·refine X.skip (X.seq (X.region ?_))
     refine XL.mv (.int .i64 (((heldF ((x.take k).flatMap flatMove) z) + 1) + 1)) rfl ?_
     refine XL.cons (XOp.addR (a := ((heldF ((x.take k).flatMap flatMove) z) + 1) + 1) (b := 1) ((((heldF ((x.take k).flatMap flatMove) z) + 1) + 1) + 1) rfl rfl (by omega) (by omega) ?_)
     refine XL.as (.int .i64 ((((heldF ((x.take k).flatMap flatMove) z) + 1) + 1) + 1)) rfl ?_
     refine XL.nil (X.seq (X.region ?_))
     refine XL.mv (xv) rfl ?_
     refine XL.mv (.int .i64 ((k : Int))) rfl ?_
     refine XL.cons (XOp.indexS (v := xv) (i := (k : Int)) (n := (x).length) k Try.runUnderlying85 Try.sizeOf197 rfl rfl rfl hx.slv (by omega) rfl ?_)
     refine XL.cons (XOp.fieldE (v := xv) (k * 4 + 3) Try.runUnderlying197 rfl Try.sizeOf22 (by decide) rfl rfl ?_)
     refine XL.cons (XOp.load1 (v := a1) Try.isAgg22 rfl (hrg1 _ 3 _ rfl) ?_)
     refine XL.mv (.int .i64 ((((heldF ((x.take k).flatMap flatMove) z) + 1) + 1) + 1)) rfl ?_
     refine XL.cons (XOp.call (args := [a1, .int .i64 ((((heldF ((x.take k).flatMap flatMove) z) + 1) + 1) + 1)]) Try.call45 rfl (heldInt64S_spec (z := (((heldF ((x.take k).flatMap flatMove) z) + 1) + 1) + 1) ha1 (hzb := (by first | assumption | rfl | omega | simp))) ?_)
     rintro _ _ _ _ ⟨rfl, rfl, rfl⟩
     refine XL.as (.int .i64 (heldF ((x.getD k (0, 0, false, [])).2.2.2) ((((heldF ((x.take k).flatMap flatMove) z) + 1) + 1) + 1))) rfl ?_
     refine XL.nil (X.seq (X.region ?_))
     refine XL.mv (.int .i64 (heldF ((x.getD k (0, 0, false, [])).2.2.2) ((((heldF ((x.take k).flatMap flatMove) z) + 1) + 1) + 1))) rfl ?_
     refine XL.cons (XOp.lss (a := heldF ((x.getD k (0, 0, false, [])).2.2.2) ((((heldF ((x.take k).flatMap flatMove) z) + 1) + 1) + 1)) (b := 0) rfl rfl ?_)
     refine XL.nil ?_
     refine X.condD (p := (heldF ((x.getD k (0, 0, false, [])).2.2.2) ((((heldF ((x.take k).flatMap flatMove) z) + 1) + 1) + 1) : Int) < 0) rfl (fun h5 => ?_) (fun h5 => ?_)
     ·refine X.seq (X.region ?_)
      refine XL.as (.int .i64 (-1)) rfl ?_
      refine XL.nil ?_
      refine X.ret (blockQ_ret (thenQ_ret (thenQ_ret (blockQ_ret (thenQ_ret (retEnd (L' := L) [.int .i64 (-1)] (.int .i64 (-1)) (.tmp rfl .nil) rfl rF rF sR ?_))))))
      exact ⟨(vI (by exact held_fail (k := k) ((0 : Int), (0 : Int), false, ([] : List Int)) hzb.1 (by omega) (by rw [hnx (by omega), hun (by omega), if_pos (by first | assumption | exact Classical.not_not.1 (by assumption)), if_pos (by first | assumption | exact Classical.not_not.1 (by assumption)), if_pos (by first | assumption | exact Classical.not_not.1 (by assumption))]; omega))), rfl, rfl⟩
     ·refine X.skip (X.region ?_)
      refine XL.mv (.int .i64 ((k : Int))) rfl ?_
      refine XL.cons (XOp.addR (a := (k : Int)) (b := 1) (((k + 1 : Nat) : Int)) rfl rfl (by omega) (by omega) ?_)
      refine XL.as (.int .i64 (((k + 1 : Nat) : Int))) rfl ?_
      refine XL.nil ?_
      exact ⟨k + 1, _, FLe.refl _, rF, ⟨rfl, (vI (by rw [hnx (by omega), hun (by omega), if_pos (by first | assumption | exact Classical.not_not.1 (by assumption)), if_pos (by first | assumption | exact Classical.not_not.1 (by assumption)), if_pos (by first | assumption | exact Classical.not_not.1 (by assumption))])), rfl, trivial⟩, sR, ⟨rfl, (by (try dsimp only) <;> omega), (by (try dsimp only); rw [hnx (by omega), hun (by omega), if_pos (by first | assumption | exact Classical.not_not.1 (by assumption)), if_pos (by first | assumption | exact Classical.not_not.1 (by assumption)), if_pos (by first | assumption | exact Classical.not_not.1 (by assumption))]; omega)⟩, (by omega)⟩
 ·refine X.exit (thenQ_exit (thenQ_exit (blockQ_exit ?_)))
  refine X.seq (X.region ?_)
  refine XL.mv (.int .i64 (heldF ((x.take k).flatMap flatMove) z)) rfl ?_
  refine XL.as (.int .i64 (heldF ((x.take k).flatMap flatMove) z)) rfl ?_
  refine XL.nil ?_
  refine X.ret (retEnd (L' := L) [.int .i64 (heldF ((x.take k).flatMap flatMove) z)] (.int .i64 (heldF ((x.take k).flatMap flatMove) z)) (.tmp rfl .nil) rfl rF rF sR ?_)
  exact ⟨(vI (by rw [List.take_of_length_le (by omega)])), rfl, rfl⟩

/- laws.heldChain -/
theorem heldChain_spec {F : FH} {L : List HP} {fv : Value} {f : List Int} (hf : IntsF F fv f) {xv : Value} {x : List MoveT} (hx : MovesF F xv x) {z : Int} (hzb : 0 ≤ z ∧ z + ((f.length + (x.flatMap flatMove).length : Nat) : Int) ≤ 9000000000) (hxl : x.length ≤ 4000000) :
    Does Try.prog 52 [.agg #[fv, xv], .int .i64 (z)] F (L) (fun v F' L' => (.int .i64 (heldF (f ++ x.flatMap flatMove) z) : Value) = v ∧ F = F' ∧ L = L') := by
 refine Does.of_X Try.func52 rfl rfl rfl ?_
 have hh1 := heldF_range (xs := f) hzb.1
 refine X.seq (X.region ?_)
 refine XL.cons (XOp.box [fv, xv] rfl rfl ?_)
 intro b1
 refine XL.as (.int .i64 (0)) rfl ?_
 refine XL.nil (X.seq (X.region ?_))
 refine XL.cons (XOp.fieldP (b := b1) (0) Try.runUnderlying87 rfl Try.sizeOf22 (by decide) rfl rfl ?_)
 refine XL.cons (XOp.load1 (v := fv) Try.isAgg22 rfl (Rd.own [] rfl rfl) ?_)
 refine XL.mv (.int .i64 (z)) rfl ?_
 refine XL.cons (XOp.call (args := [fv, .int .i64 (z)]) Try.call45 rfl (heldInt64S_spec (z := z) hf (hzb := (by first | assumption | rfl | omega | simp))) ?_)
 rintro _ _ _ _ ⟨rfl, rfl, rfl⟩
 refine XL.as (.int .i64 (heldF f z)) rfl ?_
 refine XL.nil (X.seq (X.seq (X.region ?_)))
 refine XL.mv (.int .i64 (heldF f z)) rfl ?_
 refine XL.cons (XOp.lss (a := heldF f z) (b := 0) rfl rfl ?_)
 refine XL.nil ?_
 refine X.condD (p := (heldF f z : Int) < 0) rfl (fun h1 => ?_) (fun h1 => ?_)
 ·refine X.seq (X.region ?_)
  refine XL.as (.int .i64 (-1)) rfl ?_
  refine XL.nil ?_
  refine X.ret (thenQ_ret (retEnd (L' := L) [.int .i64 (-1)] (.int .i64 (-1)) (.tmp rfl .nil) rfl rF rF (Sub.drop sR) ?_))
  exact ⟨(vI (by rw [heldF_append hzb.1, if_pos (by omega)])), rfl, rfl⟩
 ·refine X.skip (X.seq (X.region ?_))
  refine XL.cons (XOp.fieldP (b := b1) (1) Try.runUnderlying87 rfl Try.sizeOf85 (by decide) rfl rfl ?_)
  refine XL.cons (XOp.load1 (v := xv) Try.isAgg85 rfl (Rd.own [] rfl rfl) ?_)
  refine XL.mv (.int .i64 (heldF f z)) rfl ?_
  refine XL.cons (XOp.call (args := [xv, .int .i64 (heldF f z)]) Try.call107 rfl (heldMoveS_spec (z := heldF f z) hx (hzb := (by first | assumption | rfl | omega | simp)) (hxl := (by first | assumption | rfl | omega | simp))) ?_)
  rintro _ _ _ _ ⟨rfl, rfl, rfl⟩
  refine XL.as (.int .i64 (heldF (x.flatMap flatMove) (heldF f z))) rfl ?_
  refine XL.nil (X.seq (X.seq (X.region ?_)))
  refine XL.mv (.int .i64 (heldF (x.flatMap flatMove) (heldF f z))) rfl ?_
  refine XL.cons (XOp.lss (a := heldF (x.flatMap flatMove) (heldF f z)) (b := 0) rfl rfl ?_)
  refine XL.nil ?_
  refine X.condD (p := (heldF (x.flatMap flatMove) (heldF f z) : Int) < 0) rfl (fun h2 => ?_) (fun h2 => ?_)
  ·refine X.seq (X.region ?_)
   refine XL.as (.int .i64 (-1)) rfl ?_
   refine XL.nil ?_
   refine X.ret (thenQ_ret (retEnd (L' := L) [.int .i64 (-1)] (.int .i64 (-1)) (.tmp rfl .nil) rfl rF rF (Sub.drop sR) ?_))
   exact ⟨(vI (by rw [heldF_append hzb.1, if_neg (by omega)]; have := (heldF_range (xs := x.flatMap flatMove) (k := heldF f z) (by omega)).1; omega)), rfl, rfl⟩
  ·refine X.skip (X.seq (X.region ?_))
   refine XL.mv (.int .i64 (heldF (x.flatMap flatMove) (heldF f z))) rfl ?_
   refine XL.as (.int .i64 (heldF (x.flatMap flatMove) (heldF f z))) rfl ?_
   refine XL.nil ?_
   refine X.ret (retEnd (L' := L) [.int .i64 (heldF (x.flatMap flatMove) (heldF f z))] (.int .i64 (heldF (x.flatMap flatMove) (heldF f z))) (.tmp rfl .nil) rfl rF rF (Sub.drop sR) ?_)
   exact ⟨(vI (by rw [heldF_append hzb.1, if_neg (by omega)])), rfl, rfl⟩

/- laws.FnExactChainOfWalk -/
set_option maxRecDepth 20000 in
theorem FnExactChainOfWalk_does {F : FH} {L : List HP} {arv : Value} {ar : List Int} (har : IntsF F arv ar) {rsv : Value} {rs : List (List Int × List Int)} (hrs : PairsF F rsv rs) {fv : Value} {f : List Int} (hf : IntsF F fv f) {xsv : Value} {xs : List StepT} (hxs : StepsF F xsv xs) (hlar : ar.length ≤ 9223372036854775807) (hlrs : rs.length ≤ 9223372036854775807) (hbrs : ∀ i, i < rs.length → (rs.getD i ([], [])).1.length ≤ 9223372036854775807 ∧ (rs.getD i ([], [])).2.length ≤ 9223372036854775807) (hlf : f.length ≤ 9223372036854775807) (hlxs : xs.length ≤ 9223372036854775807) (hbxs : ∀ i, i < xs.length → (xs.getD i (0, 0, [])).2.2.length ≤ 9223372036854775807) :
    Does Try.prog 10 [.agg #[arv, rsv], .agg #[fv, xsv]] F (L) (fun v F' L' => (.bool (true) : Value) = v ∧ F = F' ∧ L = L') := by
 refine Does.of_X Try.func10 rfl rfl rfl ?_
 have hnb : ChainB (chainWF ar rs f xs).1 (chainWF ar rs f xs).2.1 := chainWF_bound
 have hnc := hnb.1
 have hnd := hnb.2.1
 have hne := hnb.2.2.1
 have hnf := hnb.2.2.2
 refine X.seq (X.region ?_)
 refine XL.cons (XOp.box [arv, rsv] rfl rfl ?_)
 intro b1
 refine XL.cons (XOp.box [fv, xsv] rfl rfl ?_)
 intro b2
 refine XL.as (.bool (false)) rfl ?_
 refine XL.nil (X.seq (X.region ?_))
 refine XL.as (.int .i64 (1048576)) rfl ?_
 refine XL.nil (X.seq (X.region ?_))
 refine XL.cons (XOp.loadN [arv, rsv] Try.isAgg27 Try.sizeOf27 rfl rfl (Rd.ownN [_] rfl rfl) ?_)
 refine XL.mv (.int .i64 (1048576)) rfl ?_
 refine XL.cons (XOp.call (args := [.agg #[arv, rsv], .int .i64 (1048576)]) Try.call11 rfl (szSystem_spec (z := 1048576) har hrs (hz := (by first | assumption | rfl | omega | simp)) (hal := (by first | assumption | rfl | omega | simp)) (hrl := (by first | assumption | rfl | omega | simp)) (hrb := (by first | assumption | rfl | omega | simp))) ?_)
 rintro _ _ _ _ ⟨rfl, rfl, rfl⟩
 refine XL.as (.int .i64 (dec 1048576 (ar.length + szR rs))) rfl ?_
 refine XL.nil (X.seq (X.seq (X.region ?_)))
 refine XL.mv (.int .i64 (dec 1048576 (ar.length + szR rs))) rfl ?_
 refine XL.cons (XOp.lss (a := dec 1048576 (ar.length + szR rs)) (b := 0) rfl rfl ?_)
 refine XL.nil ?_
 refine X.condD (p := (dec 1048576 (ar.length + szR rs) : Int) < 0) rfl (fun h1 => ?_) (fun h1 => ?_)
 ·refine X.seq (X.region ?_)
  refine XL.as (.bool (true)) rfl ?_
  refine XL.nil ?_
  refine X.ret (thenQ_ret (retEnd (L' := L) [.bool (true)] (.bool (true)) (.tmp rfl .nil) rfl rF rF (Sub.drop (Sub.drop sR)) ?_))
  exact ⟨rfl, rfl, rfl⟩
 ·have hd1 := dec_le2 h1 (by omega)
  have hzrs := szR_le (rs := rs)
  have hirs := hzrs.2
  have hcrs : ∀ i, i < rs.length → (rs.getD i ([], [])).1.length ≤ 4000000 ∧ (rs.getD i ([], [])).2.length ≤ 4000000 := fun i hi => by have := hirs i hi; omega
  have hfrs := flatPair_len rs
  refine X.skip (X.seq (X.region ?_))
  refine XL.cons (XOp.loadN [fv, xsv] Try.isAgg69 Try.sizeOf69 rfl rfl (Rd.ownN [] rfl rfl) ?_)
  refine XL.mv (.int .i64 (dec 1048576 (ar.length + szR rs))) rfl ?_
  refine XL.cons (XOp.call (args := [.agg #[fv, xsv], .int .i64 (dec 1048576 (ar.length + szR rs))]) Try.call35 rfl (szWalk_spec (z := dec 1048576 (ar.length + szR rs)) hf hxs (hz := (by first | assumption | rfl | omega | simp)) (hal := (by first | assumption | rfl | omega | simp)) (hrl := (by first | assumption | rfl | omega | simp)) (hrb := (by first | assumption | rfl | omega | simp))) ?_)
  rintro _ _ _ _ ⟨rfl, rfl, rfl⟩
  refine XL.as (.int .i64 (dec (dec 1048576 (ar.length + szR rs)) (f.length + szG lenS xs))) rfl ?_
  refine XL.nil (X.seq (X.seq (X.region ?_)))
  refine XL.mv (.int .i64 (dec (dec 1048576 (ar.length + szR rs)) (f.length + szG lenS xs))) rfl ?_
  refine XL.cons (XOp.lss (a := dec (dec 1048576 (ar.length + szR rs)) (f.length + szG lenS xs)) (b := 0) rfl rfl ?_)
  refine XL.nil ?_
  refine X.condD (p := (dec (dec 1048576 (ar.length + szR rs)) (f.length + szG lenS xs) : Int) < 0) rfl (fun h2 => ?_) (fun h2 => ?_)
  ·refine X.seq (X.region ?_)
   refine XL.as (.bool (true)) rfl ?_
   refine XL.nil ?_
   refine X.ret (thenQ_ret (retEnd (L' := L) [.bool (true)] (.bool (true)) (.tmp rfl .nil) rfl rF rF (Sub.drop (Sub.drop sR)) ?_))
   exact ⟨rfl, rfl, rfl⟩
  ·have hd2 := dec_le2 h2 (by omega)
   have hzxs := szG_le (f := lenS) (l := xs) ((0 : Int), (0 : Int), ([] : List Int))
   have hixs := hzxs.2
   have hcxs : ∀ i, i < xs.length → (xs.getD i (0, 0, [])).2.2.length ≤ 4000000 := fun i hi => by have h9 := hixs i hi; have h8 : lenS (xs.getD i (0, 0, [])) = (xs.getD i (0, 0, [])).2.2.length := rfl; omega
   have hfxs := flatStep_len xs
   have hq9xs : szG lenS xs = xs.length + gTo lenS xs xs.length := rfl
   refine X.skip (X.seq ?_)
   refine X.drawG [cellsH b2 [fv, xsv] 69, cellsH b1 [arv, rsv] 27] L 10 [[], [], [], [], [], [4], [4], [], [], [4, 8]] [[], [0], [], [2], [1, 3], [4], [4, 5], [4, 5], [], [4, 6, 8]] [[], [], [], [], [], [], [], [], [], [8]] (phiG [fun FF us v => v = (.agg #[arv, rsv] : Value), fun FF us v => (.agg #[((aggAt v 0)), ((aggAt v 1))] : Value) = v ∧ (IntsF FF ((aggAt v 0)) ar) ∧ (PairsF FF ((aggAt v 1)) rs), fun FF us v => v = (.agg #[fv, xsv] : Value), fun FF us v => (.agg #[((aggAt v 0)), ((aggAt v 1))] : Value) = v ∧ (IntsF FF ((aggAt v 0)) f) ∧ (StepsF FF ((aggAt v 1)) xs), fun FF us v => (.tuple #[.agg #[((aggAt (tupAt v 0) 0)), ((aggAt (tupAt v 0) 1))], .bool ((chainWF ar rs f xs).2.2)] : Value) = v ∧ (IntsF FF ((aggAt (tupAt v 0) 0)) (chainWF ar rs f xs).1) ∧ (MovesF FF ((aggAt (tupAt v 0) 1)) (chainWF ar rs f xs).2.1), fun FF us v => v = (.tuple #[.agg #[((aggAt (tupAt (us.getD 0 undef) 0) 0)), ((aggAt (tupAt (us.getD 0 undef) 0) 1))], .bool ((chainWF ar rs f xs).2.2)] : Value), fun FF us v => v = (.agg #[((aggAt (tupAt (us.getD 0 undef) 0) 0)), ((aggAt (tupAt (us.getD 0 undef) 0) 1))] : Value), fun FF us v => v = (.bool ((chainWF ar rs f xs).2.2) : Value), fun FF us v => v = ptr (blk v) 0, fun FF us v => True]) (ownL [fun us v => [], fun us v => [], fun us v => [], fun us v => [], fun us v => [], fun us v => [], fun us v => [], fun us v => [], fun us v => [cellsH (blk v) [(.slice none 0 0), (.slice none 0 0)] 87], fun us v => [cellsH (blk (us.getD 1 undef)) [((aggAt (tupAt (us.getD 0 undef) 0) 0)), ((aggAt (tupAt (us.getD 0 undef) 0) 1))] 87]]) mixed rfl rfl (by kernel_rfl) (by kernel_rfl) (MonoG.get (MonoG.cons (fun le h => h) (MonoG.cons (fun le h => ⟨h.1, h.2.1.mono le, h.2.2.mono le⟩) (MonoG.cons (fun le h => h) (MonoG.cons (fun le h => ⟨h.1, h.2.1.mono le, h.2.2.mono le⟩) (MonoG.cons (fun le h => ⟨h.1, h.2.1.mono le, h.2.2.mono le⟩) (MonoG.cons (fun le h => h) (MonoG.cons (fun le h => h) (MonoG.cons (fun le h => h) (MonoG.cons (fun le h => h) (MonoG.cons (fun le h => h) MonoG.nil))))))))))) ?_ ?_
   ·refine stepsG.cons (fun vals Fs R leFs hpZ => ?_) ?_
    ·replace har := har.mono leFs
     replace hrs := hrs.mono leFs
     replace hf := hf.mono leFs
     replace hxs := hxs.mono leFs
     refine XG.op (XOp.loadN [arv, rsv] Try.isAgg27 Try.sizeOf27 rfl rfl (Rd.ownN [_] rfl rfl) ?_)
     exact ⟨rfl, rfl⟩
    refine stepsG.cons (fun vals Fs R leFs hpZ => ?_) ?_
    ·replace har := har.mono leFs
     replace hrs := hrs.mono leFs
     replace hf := hf.mono leFs
     replace hxs := hxs.mono leFs
     rw [eS (l := [(0, (.agg #[arv, rsv] : Value))]) ⟨(hpZ 0 (by decide)), trivial⟩]
     refine XG.op (XOp.call (args := [.agg #[arv, rsv]]) Try.call14 rfl (toSystem_spec har hrs (hla := (by first | assumption | rfl | omega | simp)) (hrl := (by first | assumption | rfl | omega | simp)) (hrb := (by first | assumption | rfl | omega | simp))) ?_)
     rintro _ F4 _ le4 ⟨x7, x8, rfl, hr9, hr10, hr11, rfl⟩
     replace har := har.mono le4
     replace hrs := hrs.mono le4
     replace hf := hf.mono le4
     replace hxs := hxs.mono le4
     exact ⟨⟨rfl, hr9, hr10⟩, rfl⟩
    refine stepsG.cons (fun vals Fs R leFs hpZ => ?_) ?_
    ·replace har := har.mono leFs
     replace hrs := hrs.mono leFs
     replace hf := hf.mono leFs
     replace hxs := hxs.mono leFs
     refine XG.op (XOp.loadN [fv, xsv] Try.isAgg69 Try.sizeOf69 rfl rfl (Rd.ownN [] rfl rfl) ?_)
     exact ⟨rfl, rfl⟩
    refine stepsG.cons (fun vals Fs R leFs hpZ => ?_) ?_
    ·replace har := har.mono leFs
     replace hrs := hrs.mono leFs
     replace hf := hf.mono leFs
     replace hxs := hxs.mono leFs
     rw [eS (l := [(2, (.agg #[fv, xsv] : Value))]) ⟨(hpZ 2 (by decide)), trivial⟩]
     refine XG.op (XOp.call (args := [.agg #[fv, xsv]]) Try.call37 rfl (toWalk_spec hf hxs (hfl := (by first | assumption | rfl | omega | simp)) (hsl := (by first | assumption | rfl | omega | simp)) (hsb := (by first | assumption | rfl | omega | simp))) ?_)
     rintro _ F5 _ le5 ⟨x9, x10, rfl, hr12, hr13, hr14, rfl⟩
     replace har := har.mono le5
     replace hrs := hrs.mono le5
     replace hf := hf.mono le5
     replace hxs := hxs.mono le5
     exact ⟨⟨rfl, hr12, hr13⟩, rfl⟩
    refine stepsG.cons (fun vals Fs R leFs hpZ => ?_) ?_
    ·obtain ⟨e1, f1_1hr1, f1_1hr2⟩ := hpZ 1 (by decide)
     obtain ⟨e3, f3_1hr1, f3_1hr2⟩ := hpZ 3 (by decide)
     replace har := har.mono leFs
     replace hrs := hrs.mono leFs
     replace hf := hf.mono leFs
     replace hxs := hxs.mono leFs
     rw [eS (l := [(1, (.agg #[((aggAt (vals 1) 0)), ((aggAt (vals 1) 1))] : Value)), (3, (.agg #[((aggAt (vals 3) 0)), ((aggAt (vals 3) 1))] : Value))]) ⟨(e1).symm, (e3).symm, trivial⟩]
     refine XG.op (XOp.call (args := [.agg #[((aggAt (vals 1) 0)), ((aggAt (vals 1) 1))], .agg #[((aggAt (vals 3) 0)), ((aggAt (vals 3) 1))]]) Try.call48 rfl (sChainOfWalk_spec f1_1hr1 f1_1hr2 f3_1hr1 f3_1hr2 (hla := (by first | assumption | rfl | omega | simp)) (hlr := (by first | assumption | rfl | omega | simp)) (hrb := (by first | assumption | rfl | omega | simp)) (hlf := (by first | assumption | rfl | omega | simp)) (hlss := (by first | assumption | rfl | omega | simp)) (hsb := (by first | assumption | rfl | omega | simp))) ?_)
     rintro _ F6 _ le6 ⟨x11, x12, rfl, hr15, hr16, rfl⟩
     replace har := har.mono le6
     replace hrs := hrs.mono le6
     replace hf := hf.mono le6
     replace hxs := hxs.mono le6
     replace f1_1hr1 := f1_1hr1.mono le6
     replace f1_1hr2 := f1_1hr2.mono le6
     replace f3_1hr1 := f3_1hr1.mono le6
     replace f3_1hr2 := f3_1hr2.mono le6
     exact ⟨⟨rfl, hr15, hr16⟩, rfl⟩
    refine stepsG.cons (fun vals Fs R leFs hpZ => ?_) ?_
    ·obtain ⟨e4, f4_1hr1, f4_1hr2⟩ := hpZ 4 (by decide)
     rw [eS (l := [(4, (.tuple #[.agg #[((aggAt (tupAt (vals 4) 0) 0)), ((aggAt (tupAt (vals 4) 0) 1))], .bool ((chainWF ar rs f xs).2.2)] : Value))]) ⟨(e4).symm, trivial⟩]
     refine XG.op (XOp.move (.tuple #[.agg #[((aggAt (tupAt (vals 4) 0) 0)), ((aggAt (tupAt (vals 4) 0) 1))], .bool ((chainWF ar rs f xs).2.2)]) rfl ?_)
     exact ⟨rfl, rfl⟩
    refine stepsG.cons (fun vals Fs R leFs hpZ => ?_) ?_
    ·obtain ⟨e4, f4_1hr1, f4_1hr2⟩ := hpZ 4 (by decide)
     have e5 : vals 5 = (.tuple #[.agg #[((aggAt (tupAt (vals 4) 0) 0)), ((aggAt (tupAt (vals 4) 0) 1))], .bool ((chainWF ar rs f xs).2.2)] : Value) := hpZ 5 (by decide)
     rw [eS (l := [(4, (.tuple #[.agg #[((aggAt (tupAt (vals 4) 0) 0)), ((aggAt (tupAt (vals 4) 0) 1))], .bool ((chainWF ar rs f xs).2.2)] : Value)), (5, (.tuple #[.agg #[((aggAt (tupAt (vals 4) 0) 0)), ((aggAt (tupAt (vals 4) 0) 1))], .bool ((chainWF ar rs f xs).2.2)] : Value))]) ⟨(e4).symm, e5, trivial⟩]
     refine XG.op (XOp.extract (.agg #[((aggAt (tupAt (vals 4) 0) 0)), ((aggAt (tupAt (vals 4) 0) 1))]) rfl rfl ?_)
     exact ⟨rfl, rfl⟩
    refine stepsG.cons (fun vals Fs R leFs hpZ => ?_) ?_
    ·obtain ⟨e4, f4_1hr1, f4_1hr2⟩ := hpZ 4 (by decide)
     have e5 : vals 5 = (.tuple #[.agg #[((aggAt (tupAt (vals 4) 0) 0)), ((aggAt (tupAt (vals 4) 0) 1))], .bool ((chainWF ar rs f xs).2.2)] : Value) := hpZ 5 (by decide)
     rw [eS (l := [(4, (.tuple #[.agg #[((aggAt (tupAt (vals 4) 0) 0)), ((aggAt (tupAt (vals 4) 0) 1))], .bool ((chainWF ar rs f xs).2.2)] : Value)), (5, (.tuple #[.agg #[((aggAt (tupAt (vals 4) 0) 0)), ((aggAt (tupAt (vals 4) 0) 1))], .bool ((chainWF ar rs f xs).2.2)] : Value))]) ⟨(e4).symm, e5, trivial⟩]
     refine XG.op (XOp.extract (.bool ((chainWF ar rs f xs).2.2)) rfl rfl ?_)
     exact ⟨rfl, rfl⟩
    refine stepsG.cons (fun vals Fs R leFs hpZ => ?_) ?_
    ·replace har := har.mono leFs
     replace hrs := hrs.mono leFs
     replace hf := hf.mono leFs
     replace hxs := hxs.mono leFs
     refine XG.op (XOp.alloc [(.slice none 0 0), (.slice none 0 0)] Try.zeroValue87 rfl ?_)
     intro b4
     exact ⟨rfl, rfl⟩
    refine stepsG.cons (fun vals Fs R leFs hpZ => ?_) ?_
    ·obtain ⟨e4, f4_1hr1, f4_1hr2⟩ := hpZ 4 (by decide)
     have e6 : vals 6 = (.agg #[((aggAt (tupAt (vals 4) 0) 0)), ((aggAt (tupAt (vals 4) 0) 1))] : Value) := hpZ 6 (by decide)
     have e8 : vals 8 = ptr (blk (vals 8)) 0 := hpZ 8 (by decide)
     replace har := har.mono leFs
     replace hrs := hrs.mono leFs
     replace hf := hf.mono leFs
     replace hxs := hxs.mono leFs
     rw [eS (l := [(4, (.tuple #[.agg #[((aggAt (tupAt (vals 4) 0) 0)), ((aggAt (tupAt (vals 4) 0) 1))], .bool ((chainWF ar rs f xs).2.2)] : Value)), (6, (.agg #[((aggAt (tupAt (vals 4) 0) 0)), ((aggAt (tupAt (vals 4) 0) 1))] : Value)), (8, ptr (blk (vals 8)) 0)]) ⟨(e4).symm, e6, e8, trivial⟩]
     show XG _ _ _ _ _ (cellsH (blk (vals 8)) [(.slice none 0 0), (.slice none 0 0)] 87 :: ([cellsH b2 [fv, xsv] 69, cellsH b1 [arv, rsv] 27] ++ R)) _
     refine XG.op (XOp.storeN (vs := [((aggAt (tupAt (vals 4) 0) 0)), ((aggAt (tupAt (vals 4) 0) 1))]) [] _ [((aggAt (tupAt (vals 4) 0) 0)), ((aggAt (tupAt (vals 4) 0) 1))] Try.sizeOf87 rfl rfl rfl (ones_cons (one_sl (IntsF.isSl f4_1hr1)) (ones_cons (one_sl (MovesF.isSl f4_1hr2)) ones_nil)) rfl rfl rfl ?_)
     exact ⟨trivial, rfl⟩
    exact stepsG.nil
   ·intro vals F7 le7 hphi
    obtain ⟨e1, f1_1hr1, f1_1hr2⟩ := hphi 1 (by decide)
    obtain ⟨e3, f3_1hr1, f3_1hr2⟩ := hphi 3 (by decide)
    obtain ⟨e4, f4_1hr1, f4_1hr2⟩ := hphi 4 (by decide)
    have e5 : vals 5 = (.tuple #[.agg #[((aggAt (tupAt (vals 4) 0) 0)), ((aggAt (tupAt (vals 4) 0) 1))], .bool ((chainWF ar rs f xs).2.2)] : Value) := hphi 5 (by decide)
    have e6 : vals 6 = (.agg #[((aggAt (tupAt (vals 4) 0) 0)), ((aggAt (tupAt (vals 4) 0) 1))] : Value) := hphi 6 (by decide)
    have e8 : vals 8 = ptr (blk (vals 8)) 0 := hphi 8 (by decide)
    generalize hu1 : ((aggAt (vals 1) 0)) = u1 at e1 f1_1hr1 f1_1hr2 e3 f3_1hr1 f3_1hr2 e4 f4_1hr1 f4_1hr2 e5 e6 e8
    generalize hu2 : ((aggAt (vals 1) 1)) = u2 at e1 f1_1hr1 f1_1hr2 e3 f3_1hr1 f3_1hr2 e4 f4_1hr1 f4_1hr2 e5 e6 e8
    generalize hu3 : ((aggAt (vals 3) 0)) = u3 at e1 f1_1hr1 f1_1hr2 e3 f3_1hr1 f3_1hr2 e4 f4_1hr1 f4_1hr2 e5 e6 e8
    generalize hu4 : ((aggAt (vals 3) 1)) = u4 at e1 f1_1hr1 f1_1hr2 e3 f3_1hr1 f3_1hr2 e4 f4_1hr1 f4_1hr2 e5 e6 e8
    generalize hu5 : ((aggAt (tupAt (vals 4) 0) 0)) = u5 at e1 f1_1hr1 f1_1hr2 e3 f3_1hr1 f3_1hr2 e4 f4_1hr1 f4_1hr2 e5 e6 e8
    generalize hu6 : ((aggAt (tupAt (vals 4) 0) 1)) = u6 at e1 f1_1hr1 f1_1hr2 e3 f3_1hr1 f3_1hr2 e4 f4_1hr1 f4_1hr2 e5 e6 e8
    generalize hu7 : blk (vals 8) = b5 at e1 f1_1hr1 f1_1hr2 e3 f3_1hr1 f3_1hr2 e4 f4_1hr1 f4_1hr2 e5 e6 e8
    rw [eS (l := [(0, (.agg #[arv, rsv] : Value)), (1, (.agg #[u1, u2] : Value)), (2, (.agg #[fv, xsv] : Value)), (3, (.agg #[u3, u4] : Value)), (4, (.tuple #[.agg #[u5, u6], .bool ((chainWF ar rs f xs).2.2)] : Value)), (5, (.tuple #[.agg #[u5, u6], .bool ((chainWF ar rs f xs).2.2)] : Value)), (6, (.agg #[u5, u6] : Value)), (7, (.bool ((chainWF ar rs f xs).2.2) : Value)), (8, ptr b5 0)]) ⟨(hphi 0 (by decide)), (e1).symm, (hphi 2 (by decide)), (e3).symm, (e4).symm, e5, e6, (hphi 7 (by decide)), e8, trivial⟩]
    replace har := har.mono le7
    replace hrs := hrs.mono le7
    replace hf := hf.mono le7
    replace hxs := hxs.mono le7
    show XL _ _ _ _ _ _ _ (cellsH b5 [u5, u6] 87 :: cellsH b2 [fv, xsv] 69 :: cellsH b1 [arv, rsv] 27 :: L)
    refine XL.as (.bool ((chainWF ar rs f xs).2.2)) rfl ?_
    refine XL.nil (X.seq (X.region ?_))
    refine XL.cons (XOp.loadN [arv, rsv] Try.isAgg27 Try.sizeOf27 rfl rfl (Rd.ownN [_, _] rfl rfl) ?_)
    refine XL.cons (XOp.thawL ?_)
    refine id (XOp.call (args := [.agg #[arv, rsv]]) Try.call14 rfl (toSystem_spec har hrs (hla := (by first | assumption | rfl | omega | simp)) (hrl := (by first | assumption | rfl | omega | simp)) (hrb := (by first | assumption | rfl | omega | simp))) ?_)
    rintro _ F8 _ le8 ⟨x13, x14, rfl, hr17, hr18, hr19, rfl⟩
    refine ⟨[intsH 2 x13 ar, pairsD 2 98 x14 rs], hr19, ?_⟩
    show XL _ _ _ _ _ _ _ (intsH 2 x13 ar :: pairsD 2 98 x14 rs :: cellsH b5 [u5, u6] 87 :: cellsH b2 [fv, xsv] 69 :: cellsH b1 [arv, rsv] 27 :: L)
    refine XL.cons (XOp.alloc [(.slice none 0 0), (.slice none 0 0)] Try.zeroValue36 rfl ?_)
    intro b6
    refine XL.cons (XOp.storeN (vs := [x13, x14]) [] _ [x13, x14] Try.sizeOf36 rfl rfl rfl (ones_cons (one_sl (IntsF.isSl hr17)) (ones_cons (one_sl (PairsF.isSl hr18)) ones_nil)) rfl rfl rfl ?_)
    refine XL.nil (X.seq (X.region ?_))
    refine XL.cons (XOp.loadN [fv, xsv] Try.isAgg69 Try.sizeOf69 rfl rfl (Rd.ownN [_, _, _, _] rfl rfl) ?_)
    refine XL.cons (XOp.thawL ?_)
    refine id (XOp.call (args := [.agg #[fv, xsv]]) Try.call37 rfl (toWalk_spec hf hxs (hfl := (by first | assumption | rfl | omega | simp)) (hsl := (by first | assumption | rfl | omega | simp)) (hsb := (by first | assumption | rfl | omega | simp))) ?_)
    rintro _ F9 _ le9 ⟨x15, x16, rfl, hr20, hr21, hr22, rfl⟩
    refine ⟨[intsH 2 x15 f, stepsD 2 119 x16 xs], hr22, ?_⟩
    show XL _ _ _ _ _ _ _ (intsH 2 x15 f :: stepsD 2 119 x16 xs :: cellsH b6 [x13, x14] 36 :: intsH 2 x13 ar :: pairsD 2 98 x14 rs :: cellsH b5 [u5, u6] 87 :: cellsH b2 [fv, xsv] 69 :: cellsH b1 [arv, rsv] 27 :: L)
    refine XL.cons (XOp.alloc [(.slice none 0 0), (.slice none 0 0)] Try.zeroValue73 rfl ?_)
    intro b7
    refine XL.cons (XOp.storeN (vs := [x15, x16]) [] _ [x15, x16] Try.sizeOf73 rfl rfl rfl (ones_cons (one_sl (IntsF.isSl hr20)) (ones_cons (one_sl (StepsF.isSl hr21)) ones_nil)) rfl rfl rfl ?_)
    refine XL.nil (X.seq (X.region ?_))
    refine XL.cons (XOp.loadN [x13, x14] Try.isAgg36 Try.sizeOf36 rfl rfl (Rd.ownN [_, _, _] rfl rfl) ?_)
    refine XL.cons (XOp.loadN [x15, x16] Try.isAgg73 Try.sizeOf73 rfl rfl (Rd.ownN [] rfl rfl) ?_)
    refine XL.cons (XOp.lend [_, _, _, _] _ _ rfl (fun F10 le10 hz1 => ?_))
    refine id (XOp.lend [_, _, _, _] _ _ rfl (fun F11 le11 hz2 => ?_))
    refine id (XOp.lend [_] _ _ rfl (fun F12 le12 hz3 => ?_))
    refine id (XOp.lend [_] _ _ rfl (fun F13 le13 hz4 => ?_))
    have hf1 : IntsF _ x13 ar := (intsH.fz (xs := ar) hz1).mono (FLe.trans (FLe.trans le11 le12) le13)
    have hf2 : PairsF _ x14 rs := (pairsD.fz hz2).mono (FLe.trans le12 le13)
    have hf3 : IntsF _ x15 f := (intsH.fz (xs := f) hz3).mono le13
    have hf4 : StepsF _ x16 xs := stepsD.fz hz4
    refine id (XOp.thawL ?_)
    refine id (XOp.call (args := [.agg #[x13, x14], .agg #[x15, x16]]) Try.call49 rfl (ChainOfWalk_spec hf1 hf2 hf3 hf4 (hlf := (by first | assumption | rfl | omega | simp)) (hsb := (by first | assumption | rfl | omega | simp))) ?_)
    rintro _ F14 _ le14 ⟨x17, x18, rfl, hr23, hr24, hr25, rfl⟩
    refine ⟨[intsH 2 x17 ((chainWF ar rs f xs).1), movesD 2 197 x18 ((chainWF ar rs f xs).2.1)], hr25, ?_⟩
    show XL _ _ _ _ _ _ _ (intsH 2 x13 ar :: pairsD 2 98 x14 rs :: intsH 2 x15 f :: stepsD 2 119 x16 xs :: intsH 2 x17 ((chainWF ar rs f xs).1) :: movesD 2 197 x18 ((chainWF ar rs f xs).2.1) :: cellsH b7 [x15, x16] 73 :: cellsH b6 [x13, x14] 36 :: cellsH b5 [u5, u6] 87 :: cellsH b2 [fv, xsv] 69 :: cellsH b1 [arv, rsv] 27 :: L)
    refine XL.mv (.tuple #[.agg #[x17, x18], .bool ((chainWF ar rs f xs).2.2)]) rfl ?_
    refine XL.cons (XOp.extract (.agg #[x17, x18]) rfl rfl ?_)
    refine XL.cons (XOp.extract (.bool ((chainWF ar rs f xs).2.2)) rfl rfl ?_)
    refine XL.cons (XOp.alloc [(.slice none 0 0), (.slice none 0 0)] Try.zeroValue87 rfl ?_)
    intro b8
    refine XL.cons (XOp.storeN (vs := [x17, x18]) [] _ [x17, x18] Try.sizeOf87 rfl rfl rfl (ones_cons (one_sl (IntsF.isSl hr23)) (ones_cons (one_sl (MovesF.isSl hr24)) ones_nil)) rfl rfl rfl ?_)
    refine XL.as (.bool ((chainWF ar rs f xs).2.2)) rfl ?_
    refine XL.nil (X.seq (X.seq (X.region ?_)))
    refine XL.cons (XOp.loadN [x17, x18] Try.isAgg87 Try.sizeOf87 rfl rfl (Rd.ownN [] rfl rfl) ?_)
    refine XL.cons (XOp.loadN [u5, u6] Try.isAgg87 Try.sizeOf87 rfl rfl (Rd.ownN [_, _, _, _, _, _, _, _, _] rfl rfl) ?_)
    refine XL.cons (XOp.lend [_, _, _, _, _] _ _ rfl (fun F15 le15 hz5 => ?_))
    refine id (XOp.lend [_, _, _, _, _] _ _ rfl (fun F16 le16 hz6 => ?_))
    have hf5 : IntsF _ x17 ((chainWF ar rs f xs).1) := (intsH.fz (xs := (chainWF ar rs f xs).1) hz5).mono le16
    have hf6 : MovesF _ x18 ((chainWF ar rs f xs).2.1) := movesD.fz hz6
    refine id (XOp.call (args := [.agg #[x17, x18], .agg #[u5, u6]]) Try.call50 rfl (eqChain_spec hf5 hf6 ((f4_1hr1.mono (FLe.trans le15 le16))) ((f4_1hr2.mono (FLe.trans le15 le16))) (hfl := (by first | assumption | rfl | omega | simp)) (hal := (by first | assumption | rfl | omega | simp)) (hbd := (by first | assumption | exact fun i hi => by have := hne i hi; omega))) ?_)
    rintro _ _ _ _ ⟨rfl, rfl, rfl⟩
    show XL _ _ _ _ _ _ _ (intsH 2 x17 ((chainWF ar rs f xs).1) :: movesD 2 197 x18 ((chainWF ar rs f xs).2.1) :: cellsH b8 [x17, x18] 87 :: intsH 2 x13 ar :: pairsD 2 98 x14 rs :: intsH 2 x15 f :: stepsD 2 119 x16 xs :: cellsH b7 [x15, x16] 73 :: cellsH b6 [x13, x14] 36 :: cellsH b5 [u5, u6] 87 :: cellsH b2 [fv, xsv] 69 :: cellsH b1 [arv, rsv] 27 :: L)
    refine XL.cons (XOp.notD (p := ((chainWF ar rs f xs).1) = ((chainWF ar rs f xs).1) ∧ ((chainWF ar rs f xs).2.1) = ((chainWF ar rs f xs).2.1)) rfl ?_)
    refine XL.mv (.bool (decide (¬(((chainWF ar rs f xs).1) = ((chainWF ar rs f xs).1) ∧ ((chainWF ar rs f xs).2.1) = ((chainWF ar rs f xs).2.1))))) rfl ?_
    by_cases h3 : ¬(((chainWF ar rs f xs).1) = ((chainWF ar rs f xs).1) ∧ ((chainWF ar rs f xs).2.1) = ((chainWF ar rs f xs).2.1))
    ·exact absurd (by first | rfl | exact ⟨rfl, rfl⟩ | exact ⟨⟨rfl, rfl⟩, rfl, rfl⟩ | simp) h3
    ·refine XL.yes (t := 49) rfl (vF h3) (XOp.move (.bool ((chainWF ar rs f xs).2.2)) rfl ?_)
     refine XL.yes (t := 49) rfl (vF h3) (XOp.move (.bool ((chainWF ar rs f xs).2.2)) rfl ?_)
     refine XL.yes (t := 49) rfl (vF h3) (XOp.neB (a := (chainWF ar rs f xs).2.2) (b := (chainWF ar rs f xs).2.2) Try.runUnderlying4 rfl rfl ?_)
     refine XL.cons (XOp.pickF (.bool (decide (((chainWF ar rs f xs).2.2) ≠ ((chainWF ar rs f xs).2.2)))) (vF h3) rfl ?_)
     refine XL.nil ?_
     refine X.condD (p := ((chainWF ar rs f xs).2.2) ≠ ((chainWF ar rs f xs).2.2)) rfl (fun h4 => ?_) (fun h4 => ?_)
     ·exact absurd rfl h4
     ·refine X.skip (X.seq (X.seq ?_))
      refine X.drawG [intsH 2 x17 ((chainWF ar rs f xs).1), movesD 2 197 x18 ((chainWF ar rs f xs).2.1), cellsH b8 [x17, x18] 87, intsH 2 x13 ar, pairsD 2 98 x14 rs, intsH 2 x15 f, stepsD 2 119 x16 xs, cellsH b7 [x15, x16] 73, cellsH b6 [x13, x14] 36, cellsH b5 [u5, u6] 87, cellsH b2 [fv, xsv] 69, cellsH b1 [arv, rsv] 27] L 3 [[], [], []] [[], [], [1]] [[], [], []] (phiG [fun FF us v => v = (.agg #[x13, x14] : Value), fun FF us v => v = (.agg #[arv, rsv] : Value), fun FF us v => (.agg #[((aggAt v 0)), ((aggAt v 1))] : Value) = v ∧ (IntsF FF ((aggAt v 0)) ar) ∧ (PairsF FF ((aggAt v 1)) rs)]) (ownL [fun us v => [], fun us v => [], fun us v => []]) mixed rfl rfl (by kernel_rfl) (by kernel_rfl) (MonoG.get (MonoG.cons (fun le h => h) (MonoG.cons (fun le h => h) (MonoG.cons (fun le h => ⟨h.1, h.2.1.mono le, h.2.2.mono le⟩) MonoG.nil)))) ?_ ?_
      ·refine stepsG.cons (fun vals Fs R leFs hpZ => ?_) ?_
       ·replace har := har.mono leFs
        replace hrs := hrs.mono leFs
        replace hf := hf.mono leFs
        replace hxs := hxs.mono leFs
        replace f1_1hr1 := f1_1hr1.mono leFs
        replace f1_1hr2 := f1_1hr2.mono leFs
        replace f3_1hr1 := f3_1hr1.mono leFs
        replace f3_1hr2 := f3_1hr2.mono leFs
        replace f4_1hr1 := f4_1hr1.mono leFs
        replace f4_1hr2 := f4_1hr2.mono leFs
        refine XG.op (XOp.loadN [x13, x14] Try.isAgg36 Try.sizeOf36 rfl rfl (Rd.ownN [_, _, _, _, _, _, _, _] rfl rfl) ?_)
        exact ⟨rfl, rfl⟩
       refine stepsG.cons (fun vals Fs R leFs hpZ => ?_) ?_
       ·replace har := har.mono leFs
        replace hrs := hrs.mono leFs
        replace hf := hf.mono leFs
        replace hxs := hxs.mono leFs
        replace f1_1hr1 := f1_1hr1.mono leFs
        replace f1_1hr2 := f1_1hr2.mono leFs
        replace f3_1hr1 := f3_1hr1.mono leFs
        replace f3_1hr2 := f3_1hr2.mono leFs
        replace f4_1hr1 := f4_1hr1.mono leFs
        replace f4_1hr2 := f4_1hr2.mono leFs
        refine XG.op (XOp.loadN [arv, rsv] Try.isAgg27 Try.sizeOf27 rfl rfl (Rd.ownN [_, _, _, _, _, _, _, _, _, _, _] rfl rfl) ?_)
        exact ⟨rfl, rfl⟩
       refine stepsG.cons (fun vals Fs R leFs hpZ => ?_) ?_
       ·replace har := har.mono leFs
        replace hrs := hrs.mono leFs
        replace hf := hf.mono leFs
        replace hxs := hxs.mono leFs
        replace f1_1hr1 := f1_1hr1.mono leFs
        replace f1_1hr2 := f1_1hr2.mono leFs
        replace f3_1hr1 := f3_1hr1.mono leFs
        replace f3_1hr2 := f3_1hr2.mono leFs
        replace f4_1hr1 := f4_1hr1.mono leFs
        replace f4_1hr2 := f4_1hr2.mono leFs
        rw [eS (l := [(1, (.agg #[arv, rsv] : Value))]) ⟨(hpZ 1 (by decide)), trivial⟩]
        refine XG.op (XOp.call (args := [.agg #[arv, rsv]]) Try.call14 rfl (toSystem_spec har hrs (hla := (by first | assumption | rfl | omega | simp)) (hrl := (by first | assumption | rfl | omega | simp)) (hrb := (by first | assumption | rfl | omega | simp))) ?_)
        rintro _ F18 _ le18 ⟨x21, x22, rfl, hr29, hr30, hr31, rfl⟩
        replace har := har.mono le18
        replace hrs := hrs.mono le18
        replace hf := hf.mono le18
        replace hxs := hxs.mono le18
        replace f1_1hr1 := f1_1hr1.mono le18
        replace f1_1hr2 := f1_1hr2.mono le18
        replace f3_1hr1 := f3_1hr1.mono le18
        replace f3_1hr2 := f3_1hr2.mono le18
        replace f4_1hr1 := f4_1hr1.mono le18
        replace f4_1hr2 := f4_1hr2.mono le18
        exact ⟨⟨rfl, hr29, hr30⟩, rfl⟩
       exact stepsG.nil
      ·intro vals F19 le19 hphi
       obtain ⟨e2, f2_2hr1, f2_2hr2⟩ := hphi 2 (by decide)
       generalize hu8 : ((aggAt (vals 2) 0)) = u7 at e2 f2_2hr1 f2_2hr2
       generalize hu9 : ((aggAt (vals 2) 1)) = u8 at e2 f2_2hr1 f2_2hr2
       rw [eS (l := [(0, (.agg #[x13, x14] : Value)), (1, (.agg #[arv, rsv] : Value)), (2, (.agg #[u7, u8] : Value))]) ⟨(hphi 0 (by decide)), (hphi 1 (by decide)), (e2).symm, trivial⟩]
       replace har := har.mono le19
       replace hrs := hrs.mono le19
       replace hf := hf.mono le19
       replace hxs := hxs.mono le19
       replace f1_1hr1 := f1_1hr1.mono le19
       replace f1_1hr2 := f1_1hr2.mono le19
       replace f3_1hr1 := f3_1hr1.mono le19
       replace f3_1hr2 := f3_1hr2.mono le19
       replace f4_1hr1 := f4_1hr1.mono le19
       replace f4_1hr2 := f4_1hr2.mono le19
       show XL _ _ _ _ _ _ _ (intsH 2 x17 ((chainWF ar rs f xs).1) :: movesD 2 197 x18 ((chainWF ar rs f xs).2.1) :: cellsH b8 [x17, x18] 87 :: intsH 2 x13 ar :: pairsD 2 98 x14 rs :: intsH 2 x15 f :: stepsD 2 119 x16 xs :: cellsH b7 [x15, x16] 73 :: cellsH b6 [x13, x14] 36 :: cellsH b5 [u5, u6] 87 :: cellsH b2 [fv, xsv] 69 :: cellsH b1 [arv, rsv] 27 :: L)
       refine XL.cons (XOp.lend [_, _, _] _ _ rfl (fun F20 le20 hz7 => ?_))
       refine id (XOp.lend [_, _, _] _ _ rfl (fun F21 le21 hz8 => ?_))
       have hf7 : IntsF _ x13 ar := (intsH.fz (xs := ar) hz7).mono le21
       have hf8 : PairsF _ x14 rs := pairsD.fz hz8
       refine id (XOp.call (args := [.agg #[x13, x14], .agg #[u7, u8]]) Try.call17 rfl (eqSystem_spec hf7 hf8 ((f2_2hr1.mono (FLe.trans le20 le21))) ((f2_2hr2.mono (FLe.trans le20 le21))) (hcl := (by first | assumption | rfl | omega | simp)) (hal := (by first | assumption | rfl | omega | simp)) (hbd := (by first | assumption | rfl | omega | simp))) ?_)
       rintro _ _ _ _ ⟨rfl, rfl, rfl⟩
       show XL _ _ _ _ _ _ _ (intsH 2 x13 ar :: pairsD 2 98 x14 rs :: intsH 2 x17 ((chainWF ar rs f xs).1) :: movesD 2 197 x18 ((chainWF ar rs f xs).2.1) :: cellsH b8 [x17, x18] 87 :: intsH 2 x15 f :: stepsD 2 119 x16 xs :: cellsH b7 [x15, x16] 73 :: cellsH b6 [x13, x14] 36 :: cellsH b5 [u5, u6] 87 :: cellsH b2 [fv, xsv] 69 :: cellsH b1 [arv, rsv] 27 :: L)
       refine XL.cons (XOp.notD (p := ar = ar ∧ rs = rs) rfl ?_)
       refine XL.nil ?_
       refine X.condD (p := ¬(ar = ar ∧ rs = rs)) rfl (fun h5 => ?_) (fun h5 => ?_)
       ·exact absurd (by first | rfl | exact ⟨rfl, rfl⟩ | exact ⟨⟨rfl, rfl⟩, rfl, rfl⟩ | simp) h5
       ·refine X.skip (X.seq (X.seq ?_))
        refine X.drawG [intsH 2 x13 ar, pairsD 2 98 x14 rs, intsH 2 x17 ((chainWF ar rs f xs).1), movesD 2 197 x18 ((chainWF ar rs f xs).2.1), cellsH b8 [x17, x18] 87, intsH 2 x15 f, stepsD 2 119 x16 xs, cellsH b7 [x15, x16] 73, cellsH b6 [x13, x14] 36, cellsH b5 [u5, u6] 87, cellsH b2 [fv, xsv] 69, cellsH b1 [arv, rsv] 27] L 3 [[], [], []] [[], [], [1]] [[], [], []] (phiG [fun FF us v => v = (.agg #[x15, x16] : Value), fun FF us v => v = (.agg #[fv, xsv] : Value), fun FF us v => (.agg #[((aggAt v 0)), ((aggAt v 1))] : Value) = v ∧ (IntsF FF ((aggAt v 0)) f) ∧ (StepsF FF ((aggAt v 1)) xs)]) (ownL [fun us v => [], fun us v => [], fun us v => []]) mixed rfl rfl (by kernel_rfl) (by kernel_rfl) (MonoG.get (MonoG.cons (fun le h => h) (MonoG.cons (fun le h => h) (MonoG.cons (fun le h => ⟨h.1, h.2.1.mono le, h.2.2.mono le⟩) MonoG.nil)))) ?_ ?_
        ·refine stepsG.cons (fun vals Fs R leFs hpZ => ?_) ?_
         ·replace har := har.mono leFs
          replace hrs := hrs.mono leFs
          replace hf := hf.mono leFs
          replace hxs := hxs.mono leFs
          replace f1_1hr1 := f1_1hr1.mono leFs
          replace f1_1hr2 := f1_1hr2.mono leFs
          replace f3_1hr1 := f3_1hr1.mono leFs
          replace f3_1hr2 := f3_1hr2.mono leFs
          replace f4_1hr1 := f4_1hr1.mono leFs
          replace f4_1hr2 := f4_1hr2.mono leFs
          replace f2_2hr1 := f2_2hr1.mono leFs
          replace f2_2hr2 := f2_2hr2.mono leFs
          refine XG.op (XOp.loadN [x15, x16] Try.isAgg73 Try.sizeOf73 rfl rfl (Rd.ownN [_, _, _, _, _, _, _] rfl rfl) ?_)
          exact ⟨rfl, rfl⟩
         refine stepsG.cons (fun vals Fs R leFs hpZ => ?_) ?_
         ·replace har := har.mono leFs
          replace hrs := hrs.mono leFs
          replace hf := hf.mono leFs
          replace hxs := hxs.mono leFs
          replace f1_1hr1 := f1_1hr1.mono leFs
          replace f1_1hr2 := f1_1hr2.mono leFs
          replace f3_1hr1 := f3_1hr1.mono leFs
          replace f3_1hr2 := f3_1hr2.mono leFs
          replace f4_1hr1 := f4_1hr1.mono leFs
          replace f4_1hr2 := f4_1hr2.mono leFs
          replace f2_2hr1 := f2_2hr1.mono leFs
          replace f2_2hr2 := f2_2hr2.mono leFs
          refine XG.op (XOp.loadN [fv, xsv] Try.isAgg69 Try.sizeOf69 rfl rfl (Rd.ownN [_, _, _, _, _, _, _, _, _, _] rfl rfl) ?_)
          exact ⟨rfl, rfl⟩
         refine stepsG.cons (fun vals Fs R leFs hpZ => ?_) ?_
         ·replace har := har.mono leFs
          replace hrs := hrs.mono leFs
          replace hf := hf.mono leFs
          replace hxs := hxs.mono leFs
          replace f1_1hr1 := f1_1hr1.mono leFs
          replace f1_1hr2 := f1_1hr2.mono leFs
          replace f3_1hr1 := f3_1hr1.mono leFs
          replace f3_1hr2 := f3_1hr2.mono leFs
          replace f4_1hr1 := f4_1hr1.mono leFs
          replace f4_1hr2 := f4_1hr2.mono leFs
          replace f2_2hr1 := f2_2hr1.mono leFs
          replace f2_2hr2 := f2_2hr2.mono leFs
          rw [eS (l := [(1, (.agg #[fv, xsv] : Value))]) ⟨(hpZ 1 (by decide)), trivial⟩]
          refine XG.op (XOp.call (args := [.agg #[fv, xsv]]) Try.call37 rfl (toWalk_spec hf hxs (hfl := (by first | assumption | rfl | omega | simp)) (hsl := (by first | assumption | rfl | omega | simp)) (hsb := (by first | assumption | rfl | omega | simp))) ?_)
          rintro _ F23 _ le23 ⟨x25, x26, rfl, hr35, hr36, hr37, rfl⟩
          replace har := har.mono le23
          replace hrs := hrs.mono le23
          replace hf := hf.mono le23
          replace hxs := hxs.mono le23
          replace f1_1hr1 := f1_1hr1.mono le23
          replace f1_1hr2 := f1_1hr2.mono le23
          replace f3_1hr1 := f3_1hr1.mono le23
          replace f3_1hr2 := f3_1hr2.mono le23
          replace f4_1hr1 := f4_1hr1.mono le23
          replace f4_1hr2 := f4_1hr2.mono le23
          replace f2_2hr1 := f2_2hr1.mono le23
          replace f2_2hr2 := f2_2hr2.mono le23
          exact ⟨⟨rfl, hr35, hr36⟩, rfl⟩
         exact stepsG.nil
        ·intro vals F24 le24 hphi
         obtain ⟨e2, f2_3hr1, f2_3hr2⟩ := hphi 2 (by decide)
         generalize hu10 : ((aggAt (vals 2) 0)) = u9 at e2 f2_3hr1 f2_3hr2
         generalize hu11 : ((aggAt (vals 2) 1)) = u10 at e2 f2_3hr1 f2_3hr2
         rw [eS (l := [(0, (.agg #[x15, x16] : Value)), (1, (.agg #[fv, xsv] : Value)), (2, (.agg #[u9, u10] : Value))]) ⟨(hphi 0 (by decide)), (hphi 1 (by decide)), (e2).symm, trivial⟩]
         replace har := har.mono le24
         replace hrs := hrs.mono le24
         replace hf := hf.mono le24
         replace hxs := hxs.mono le24
         replace f1_1hr1 := f1_1hr1.mono le24
         replace f1_1hr2 := f1_1hr2.mono le24
         replace f3_1hr1 := f3_1hr1.mono le24
         replace f3_1hr2 := f3_1hr2.mono le24
         replace f4_1hr1 := f4_1hr1.mono le24
         replace f4_1hr2 := f4_1hr2.mono le24
         replace f2_2hr1 := f2_2hr1.mono le24
         replace f2_2hr2 := f2_2hr2.mono le24
         show XL _ _ _ _ _ _ _ (intsH 2 x13 ar :: pairsD 2 98 x14 rs :: intsH 2 x17 ((chainWF ar rs f xs).1) :: movesD 2 197 x18 ((chainWF ar rs f xs).2.1) :: cellsH b8 [x17, x18] 87 :: intsH 2 x15 f :: stepsD 2 119 x16 xs :: cellsH b7 [x15, x16] 73 :: cellsH b6 [x13, x14] 36 :: cellsH b5 [u5, u6] 87 :: cellsH b2 [fv, xsv] 69 :: cellsH b1 [arv, rsv] 27 :: L)
         refine XL.cons (XOp.lend [_, _, _, _, _] _ _ rfl (fun F25 le25 hz9 => ?_))
         refine id (XOp.lend [_, _, _, _, _] _ _ rfl (fun F26 le26 hz10 => ?_))
         have hf9 : IntsF _ x15 f := (intsH.fz (xs := f) hz9).mono le26
         have hf10 : StepsF _ x16 xs := stepsD.fz hz10
         refine id (XOp.call (args := [.agg #[x15, x16], .agg #[u9, u10]]) Try.call39 rfl (eqWalk_spec hf9 hf10 ((f2_3hr1.mono (FLe.trans le25 le26))) ((f2_3hr2.mono (FLe.trans le25 le26))) (hfl := (by first | assumption | rfl | omega | simp)) (hal := (by first | assumption | rfl | omega | simp)) (hbd := (by first | assumption | rfl | omega | simp))) ?_)
         rintro _ _ _ _ ⟨rfl, rfl, rfl⟩
         show XL _ _ _ _ _ _ _ (intsH 2 x15 f :: stepsD 2 119 x16 xs :: intsH 2 x13 ar :: pairsD 2 98 x14 rs :: intsH 2 x17 ((chainWF ar rs f xs).1) :: movesD 2 197 x18 ((chainWF ar rs f xs).2.1) :: cellsH b8 [x17, x18] 87 :: cellsH b7 [x15, x16] 73 :: cellsH b6 [x13, x14] 36 :: cellsH b5 [u5, u6] 87 :: cellsH b2 [fv, xsv] 69 :: cellsH b1 [arv, rsv] 27 :: L)
         refine XL.cons (XOp.notD (p := f = f ∧ xs = xs) rfl ?_)
         refine XL.nil ?_
         refine X.condD (p := ¬(f = f ∧ xs = xs)) rfl (fun h6 => ?_) (fun h6 => ?_)
         ·exact absurd (by first | rfl | exact ⟨rfl, rfl⟩ | exact ⟨⟨rfl, rfl⟩, rfl, rfl⟩ | simp) h6
         ·refine X.skip (X.seq (X.region ?_))
          refine XL.as (.int .i64 (1)) rfl ?_
          refine XL.nil (X.seq (X.region ?_))
          refine XL.cons (XOp.loadN [x13, x14] Try.isAgg36 Try.sizeOf36 rfl rfl (Rd.ownN [_, _, _, _, _, _, _, _] rfl rfl) ?_)
          refine XL.mv (.int .i64 (1)) rfl ?_
          refine XL.weaken (Sub.front (A := [_, _, _])) ?_
          show XL _ _ _ _ _ _ _ (pairsD 2 98 x14 rs :: intsH 2 x15 f :: stepsD 2 119 x16 xs :: intsH 2 x13 ar :: intsH 2 x17 ((chainWF ar rs f xs).1) :: movesD 2 197 x18 ((chainWF ar rs f xs).2.1) :: cellsH b8 [x17, x18] 87 :: cellsH b7 [x15, x16] 73 :: cellsH b6 [x13, x14] 36 :: cellsH b5 [u5, u6] 87 :: cellsH b2 [fv, xsv] 69 :: cellsH b1 [arv, rsv] 27 :: L)
          refine XL.weaken (Sub.front (A := [_, _, _])) ?_
          show XL _ _ _ _ _ _ _ (intsH 2 x13 ar :: pairsD 2 98 x14 rs :: intsH 2 x15 f :: stepsD 2 119 x16 xs :: intsH 2 x17 ((chainWF ar rs f xs).1) :: movesD 2 197 x18 ((chainWF ar rs f xs).2.1) :: cellsH b8 [x17, x18] 87 :: cellsH b7 [x15, x16] 73 :: cellsH b6 [x13, x14] 36 :: cellsH b5 [u5, u6] 87 :: cellsH b2 [fv, xsv] 69 :: cellsH b1 [arv, rsv] 27 :: L)
          refine XL.cons (XOp.call (args := [.agg #[x13, x14], .int .i64 (1)]) Try.call26 rfl (markSystem_spec (by (try simp only [List.length_append]); omega) (by omega)) ?_)
          rintro _ _ _ _ ⟨m1, m2, hm1, hk1, rfl, rfl, rfl⟩
          have hml1 := congrArg List.length hm1
          rw [iota_len] at hml1
          try simp only [List.length_append] at hml1
          refine XL.as (.int .i64 (1 + (((ar) ++ (rs.flatMap flatPair)).length : Int))) rfl ?_
          refine XL.nil (X.seq (X.region ?_))
          refine XL.cons (XOp.loadN [x15, x16] Try.isAgg73 Try.sizeOf73 rfl rfl (Rd.ownN [_, _, _, _, _, _, _] rfl rfl) ?_)
          refine XL.mv (.int .i64 (1 + (((ar) ++ (rs.flatMap flatPair)).length : Int))) rfl ?_
          refine XL.weaken (Sub.front (A := [_, _, _])) ?_
          show XL _ _ _ _ _ _ _ (stepsD 2 119 x16 xs :: intsH 2 x13 m1 :: pairsD 2 98 x14 m2 :: intsH 2 x15 f :: intsH 2 x17 ((chainWF ar rs f xs).1) :: movesD 2 197 x18 ((chainWF ar rs f xs).2.1) :: cellsH b8 [x17, x18] 87 :: cellsH b7 [x15, x16] 73 :: cellsH b6 [x13, x14] 36 :: cellsH b5 [u5, u6] 87 :: cellsH b2 [fv, xsv] 69 :: cellsH b1 [arv, rsv] 27 :: L)
          refine XL.weaken (Sub.front (A := [_, _, _])) ?_
          show XL _ _ _ _ _ _ _ (intsH 2 x15 f :: stepsD 2 119 x16 xs :: intsH 2 x13 m1 :: pairsD 2 98 x14 m2 :: intsH 2 x17 ((chainWF ar rs f xs).1) :: movesD 2 197 x18 ((chainWF ar rs f xs).2.1) :: cellsH b8 [x17, x18] 87 :: cellsH b7 [x15, x16] 73 :: cellsH b6 [x13, x14] 36 :: cellsH b5 [u5, u6] 87 :: cellsH b2 [fv, xsv] 69 :: cellsH b1 [arv, rsv] 27 :: L)
          refine XL.cons (XOp.call (args := [.agg #[x15, x16], .int .i64 (1 + (((ar) ++ (rs.flatMap flatPair)).length : Int))]) Try.call40 rfl (markWalk_spec (by (try simp only [List.length_append]); omega) (by omega)) ?_)
          rintro _ _ _ _ ⟨m3, m4, hm2, hk2, rfl, rfl, rfl⟩
          have hml2 := congrArg List.length hm2
          rw [iota_len] at hml2
          try simp only [List.length_append] at hml2
          refine XL.as (.int .i64 ((1 + (((ar) ++ (rs.flatMap flatPair)).length : Int)) + (((f) ++ (xs.flatMap flatStep)).length : Int))) rfl ?_
          refine XL.nil (X.seq (X.seq (X.region ?_)))
          refine XL.mv (.int .i64 ((1 + (((ar) ++ (rs.flatMap flatPair)).length : Int)) + (((f) ++ (xs.flatMap flatStep)).length : Int))) rfl ?_
          refine XL.cons (XOp.lss (a := (1 + (((ar) ++ (rs.flatMap flatPair)).length : Int)) + (((f) ++ (xs.flatMap flatStep)).length : Int)) (b := 0) rfl rfl ?_)
          refine XL.mv (.bool (decide (((1 + (((ar) ++ (rs.flatMap flatPair)).length : Int)) + (((f) ++ (xs.flatMap flatStep)).length : Int) : Int) < 0))) rfl ?_
          by_cases h7 : ((1 + (((ar) ++ (rs.flatMap flatPair)).length : Int)) + (((f) ++ (xs.flatMap flatStep)).length : Int) : Int) < 0
          ·exact absurd h7 (by omega)
          ·refine XL.yes (t := 72) rfl (vF h7) (XOp.loadN [x17, x18] Try.isAgg87 Try.sizeOf87 rfl rfl (Rd.ownN [_, _, _, _, _, _] rfl rfl) ?_)
           refine XL.yes (t := 72) rfl (vF h7) (XOp.loadN [u5, u6] Try.isAgg87 Try.sizeOf87 rfl rfl (Rd.ownN [_, _, _, _, _, _, _, _, _] rfl rfl) ?_)
           refine XL.yes (t := 72) rfl (vF h7) (XOp.lend [_, _, _, _] _ _ rfl (fun F27 le27 hz11 => ?_))
           refine id (XOp.lend [_, _, _, _] _ _ rfl (fun F28 le28 hz12 => ?_))
           have hf11 : IntsF _ x17 ((chainWF ar rs f xs).1) := (intsH.fz (xs := (chainWF ar rs f xs).1) hz11).mono le28
           have hf12 : MovesF _ x18 ((chainWF ar rs f xs).2.1) := movesD.fz hz12
           refine id (XOp.call (args := [.agg #[x17, x18], .agg #[u5, u6]]) Try.call50 rfl (eqChain_spec hf11 hf12 ((f4_1hr1.mono (FLe.trans le27 le28))) ((f4_1hr2.mono (FLe.trans le27 le28))) (hfl := (by first | assumption | rfl | omega | simp)) (hal := (by first | assumption | rfl | omega | simp)) (hbd := (by first | assumption | exact fun i hi => by have := hne i hi; omega))) ?_)
           rintro _ _ _ _ ⟨rfl, rfl, rfl⟩
           show XL _ _ _ _ _ _ _ (intsH 2 x17 ((chainWF ar rs f xs).1) :: movesD 2 197 x18 ((chainWF ar rs f xs).2.1) :: intsH 2 x15 m3 :: stepsD 2 119 x16 m4 :: intsH 2 x13 m1 :: pairsD 2 98 x14 m2 :: cellsH b8 [x17, x18] 87 :: cellsH b7 [x15, x16] 73 :: cellsH b6 [x13, x14] 36 :: cellsH b5 [u5, u6] 87 :: cellsH b2 [fv, xsv] 69 :: cellsH b1 [arv, rsv] 27 :: L)
           refine XL.yes (t := 72) rfl (vF h7) (XOp.notD (p := ((chainWF ar rs f xs).1) = ((chainWF ar rs f xs).1) ∧ ((chainWF ar rs f xs).2.1) = ((chainWF ar rs f xs).2.1)) rfl ?_)
           refine XL.cons (XOp.pickF (.bool (decide (¬(((chainWF ar rs f xs).1) = ((chainWF ar rs f xs).1) ∧ ((chainWF ar rs f xs).2.1) = ((chainWF ar rs f xs).2.1))))) (vF h7) rfl ?_)
           refine XL.mv (.bool (decide (¬(((chainWF ar rs f xs).1) = ((chainWF ar rs f xs).1) ∧ ((chainWF ar rs f xs).2.1) = ((chainWF ar rs f xs).2.1))))) rfl ?_
           refine XL.yes (t := 78) rfl (vF h3) (XOp.move (.bool ((chainWF ar rs f xs).2.2)) rfl ?_)
           refine XL.yes (t := 78) rfl (vF h3) (XOp.move (.bool ((chainWF ar rs f xs).2.2)) rfl ?_)
           refine XL.yes (t := 78) rfl (vF h3) (XOp.neB (a := (chainWF ar rs f xs).2.2) (b := (chainWF ar rs f xs).2.2) Try.runUnderlying4 rfl rfl ?_)
           refine XL.cons (XOp.pickF (.bool (decide (((chainWF ar rs f xs).2.2) ≠ ((chainWF ar rs f xs).2.2)))) (vF h3) rfl ?_)
           refine XL.nil ?_
           refine X.condF (vF h4) ?_
           refine X.skip (X.seq (X.region ?_))
           refine XL.as (.int .i64 (1)) rfl ?_
           refine XL.nil (X.seq (X.region ?_))
           refine XL.cons (XOp.loadN [x17, x18] Try.isAgg87 Try.sizeOf87 rfl rfl (Rd.ownN [_, _, _, _, _, _] rfl rfl) ?_)
           refine XL.mv (.int .i64 (1)) rfl ?_
           refine XL.weaken (Sub.front (A := [_])) ?_
           show XL _ _ _ _ _ _ _ (movesD 2 197 x18 ((chainWF ar rs f xs).2.1) :: intsH 2 x17 ((chainWF ar rs f xs).1) :: intsH 2 x15 m3 :: stepsD 2 119 x16 m4 :: intsH 2 x13 m1 :: pairsD 2 98 x14 m2 :: cellsH b8 [x17, x18] 87 :: cellsH b7 [x15, x16] 73 :: cellsH b6 [x13, x14] 36 :: cellsH b5 [u5, u6] 87 :: cellsH b2 [fv, xsv] 69 :: cellsH b1 [arv, rsv] 27 :: L)
           refine XL.weaken (Sub.front (A := [_])) ?_
           show XL _ _ _ _ _ _ _ (intsH 2 x17 ((chainWF ar rs f xs).1) :: movesD 2 197 x18 ((chainWF ar rs f xs).2.1) :: intsH 2 x15 m3 :: stepsD 2 119 x16 m4 :: intsH 2 x13 m1 :: pairsD 2 98 x14 m2 :: cellsH b8 [x17, x18] 87 :: cellsH b7 [x15, x16] 73 :: cellsH b6 [x13, x14] 36 :: cellsH b5 [u5, u6] 87 :: cellsH b2 [fv, xsv] 69 :: cellsH b1 [arv, rsv] 27 :: L)
           refine XL.cons (XOp.call (args := [.agg #[x17, x18], .int .i64 (1)]) Try.call51 rfl (markChain_spec (by (try simp only [List.length_append]); omega) (by omega)) ?_)
           rintro _ _ _ _ ⟨m5, m6, hm3, hk3, rfl, rfl, rfl⟩
           have hml3 := congrArg List.length hm3
           rw [iota_len] at hml3
           try simp only [List.length_append] at hml3
           refine XL.as (.int .i64 (1 + (((((chainWF ar rs f xs).1)) ++ (((chainWF ar rs f xs).2.1).flatMap flatMove)).length : Int))) rfl ?_
           refine XL.nil (X.seq (X.region ?_))
           refine XL.as (.int .i64 (1)) rfl ?_
           refine XL.nil (X.seq (X.region ?_))
           refine XL.cons (XOp.loadN [x17, x18] Try.isAgg87 Try.sizeOf87 rfl rfl (Rd.ownN [_, _, _, _, _, _] rfl rfl) ?_)
           refine XL.mv (.int .i64 (1)) rfl ?_
           refine XL.cons (XOp.lend [] _ _ rfl (fun F29 le29 hz13 => ?_))
           refine id (XOp.lend [] _ _ rfl (fun F30 le30 hz14 => ?_))
           have hf13 : IntsF _ x17 m5 := (intsH.fz (xs := m5) hz13).mono le30
           have hf14 : MovesF _ x18 m6 := movesD.fz hz14
           refine id (XOp.call (args := [.agg #[x17, x18], .int .i64 (1)]) Try.call52 rfl (heldChain_spec (z := 1) hf13 hf14 (hzb := (by first | assumption | rfl | omega | simp)) (hxl := (by first | assumption | rfl | omega | simp))) ?_)
           rintro _ _ _ _ ⟨rfl, rfl, rfl⟩
           show XL _ _ _ _ _ _ _ (intsH 2 x17 m5 :: movesD 2 197 x18 m6 :: intsH 2 x15 m3 :: stepsD 2 119 x16 m4 :: intsH 2 x13 m1 :: pairsD 2 98 x14 m2 :: cellsH b8 [x17, x18] 87 :: cellsH b7 [x15, x16] 73 :: cellsH b6 [x13, x14] 36 :: cellsH b5 [u5, u6] 87 :: cellsH b2 [fv, xsv] 69 :: cellsH b1 [arv, rsv] 27 :: L)
           refine XL.as (.int .i64 (heldF (m5 ++ m6.flatMap flatMove) 1)) rfl ?_
           refine XL.nil (X.seq (X.seq (X.region ?_)))
           refine XL.mv (.int .i64 (heldF (m5 ++ m6.flatMap flatMove) 1)) rfl ?_
           refine XL.cons (XOp.lss (a := heldF (m5 ++ m6.flatMap flatMove) 1) (b := 0) rfl rfl ?_)
           refine XL.nil ?_
           refine X.condD (p := (heldF (m5 ++ m6.flatMap flatMove) 1 : Int) < 0) rfl (fun h8 => ?_) (fun h8 => ?_)
           ·rw [hm3, heldF_iota] at h8
            exact absurd h8 (by omega)
           ·have hh2 := (fun (l : List Int) (k k2 : Int) (n : Nat) (h : l = iota k n) (hk : k2 = k) => show heldF l k2 = k + n from (by subst hk; rw [h, heldF_iota])) _ _ (1) _ hm3 (by first | rfl | omega)
            have hh2l := hh2
            try simp only [List.length_append] at hh2l
            refine X.skip (X.seq (X.seq (X.region ?_)))
            refine XL.mv (.int .i64 (heldF (m5 ++ m6.flatMap flatMove) 1)) rfl ?_
            refine XL.mv (.int .i64 (1 + (((((chainWF ar rs f xs).1)) ++ (((chainWF ar rs f xs).2.1).flatMap flatMove)).length : Int))) rfl ?_
            refine XL.cons (XOp.neq (a := heldF (m5 ++ m6.flatMap flatMove) 1) (b := 1 + (((((chainWF ar rs f xs).1)) ++ (((chainWF ar rs f xs).2.1).flatMap flatMove)).length : Int)) rfl rfl ?_)
            refine XL.nil ?_
            refine X.condD (p := (heldF (m5 ++ m6.flatMap flatMove) 1 : Int) ≠ 1 + (((((chainWF ar rs f xs).1)) ++ (((chainWF ar rs f xs).2.1).flatMap flatMove)).length : Int)) rfl (fun h9 => ?_) (fun h9 => ?_)
            ·exact absurd (by rw [hm3, heldF_iota]) h9
            ·refine X.skip (X.seq ?_)
             refine X.drawG [intsH 2 x17 m5, movesD 2 197 x18 m6, intsH 2 x15 m3, stepsD 2 119 x16 m4, intsH 2 x13 m1, pairsD 2 98 x14 m2, cellsH b8 [x17, x18] 87, cellsH b7 [x15, x16] 73, cellsH b6 [x13, x14] 36, cellsH b5 [u5, u6] 87, cellsH b2 [fv, xsv] 69, cellsH b1 [arv, rsv] 27] L 10 [[], [], [], [], [], [4], [4], [], [], [4, 8]] [[], [0], [], [2], [1, 3], [4], [4, 5], [4, 5], [], [4, 6, 8]] [[], [], [], [], [], [], [], [], [], [8]] (phiG [fun FF us v => v = (.agg #[arv, rsv] : Value), fun FF us v => (.agg #[((aggAt v 0)), ((aggAt v 1))] : Value) = v ∧ (IntsF FF ((aggAt v 0)) ar) ∧ (PairsF FF ((aggAt v 1)) rs), fun FF us v => v = (.agg #[fv, xsv] : Value), fun FF us v => (.agg #[((aggAt v 0)), ((aggAt v 1))] : Value) = v ∧ (IntsF FF ((aggAt v 0)) f) ∧ (StepsF FF ((aggAt v 1)) xs), fun FF us v => (.tuple #[.agg #[((aggAt (tupAt v 0) 0)), ((aggAt (tupAt v 0) 1))], .bool ((chainWF ar rs f xs).2.2)] : Value) = v ∧ (IntsF FF ((aggAt (tupAt v 0) 0)) (chainWF ar rs f xs).1) ∧ (MovesF FF ((aggAt (tupAt v 0) 1)) (chainWF ar rs f xs).2.1), fun FF us v => v = (.tuple #[.agg #[((aggAt (tupAt (us.getD 0 undef) 0) 0)), ((aggAt (tupAt (us.getD 0 undef) 0) 1))], .bool ((chainWF ar rs f xs).2.2)] : Value), fun FF us v => v = (.agg #[((aggAt (tupAt (us.getD 0 undef) 0) 0)), ((aggAt (tupAt (us.getD 0 undef) 0) 1))] : Value), fun FF us v => v = (.bool ((chainWF ar rs f xs).2.2) : Value), fun FF us v => v = ptr (blk v) 0, fun FF us v => True]) (ownL [fun us v => [], fun us v => [], fun us v => [], fun us v => [], fun us v => [], fun us v => [], fun us v => [], fun us v => [], fun us v => [cellsH (blk v) [(.slice none 0 0), (.slice none 0 0)] 87], fun us v => [cellsH (blk (us.getD 1 undef)) [((aggAt (tupAt (us.getD 0 undef) 0) 0)), ((aggAt (tupAt (us.getD 0 undef) 0) 1))] 87]]) mixed rfl rfl (by kernel_rfl) (by kernel_rfl) (MonoG.get (MonoG.cons (fun le h => h) (MonoG.cons (fun le h => ⟨h.1, h.2.1.mono le, h.2.2.mono le⟩) (MonoG.cons (fun le h => h) (MonoG.cons (fun le h => ⟨h.1, h.2.1.mono le, h.2.2.mono le⟩) (MonoG.cons (fun le h => ⟨h.1, h.2.1.mono le, h.2.2.mono le⟩) (MonoG.cons (fun le h => h) (MonoG.cons (fun le h => h) (MonoG.cons (fun le h => h) (MonoG.cons (fun le h => h) (MonoG.cons (fun le h => h) MonoG.nil))))))))))) ?_ ?_
             ·refine stepsG.cons (fun vals Fs R leFs hpZ => ?_) ?_
              ·replace har := har.mono leFs
               replace hrs := hrs.mono leFs
               replace hf := hf.mono leFs
               replace hxs := hxs.mono leFs
               replace f1_1hr1 := f1_1hr1.mono leFs
               replace f1_1hr2 := f1_1hr2.mono leFs
               replace f3_1hr1 := f3_1hr1.mono leFs
               replace f3_1hr2 := f3_1hr2.mono leFs
               replace f4_1hr1 := f4_1hr1.mono leFs
               replace f4_1hr2 := f4_1hr2.mono leFs
               replace f2_2hr1 := f2_2hr1.mono leFs
               replace f2_2hr2 := f2_2hr2.mono leFs
               replace f2_3hr1 := f2_3hr1.mono leFs
               replace f2_3hr2 := f2_3hr2.mono leFs
               refine XG.op (XOp.loadN [arv, rsv] Try.isAgg27 Try.sizeOf27 rfl rfl (Rd.ownN [_, _, _, _, _, _, _, _, _, _, _] rfl rfl) ?_)
               exact ⟨rfl, rfl⟩
              refine stepsG.cons (fun vals Fs R leFs hpZ => ?_) ?_
              ·replace har := har.mono leFs
               replace hrs := hrs.mono leFs
               replace hf := hf.mono leFs
               replace hxs := hxs.mono leFs
               replace f1_1hr1 := f1_1hr1.mono leFs
               replace f1_1hr2 := f1_1hr2.mono leFs
               replace f3_1hr1 := f3_1hr1.mono leFs
               replace f3_1hr2 := f3_1hr2.mono leFs
               replace f4_1hr1 := f4_1hr1.mono leFs
               replace f4_1hr2 := f4_1hr2.mono leFs
               replace f2_2hr1 := f2_2hr1.mono leFs
               replace f2_2hr2 := f2_2hr2.mono leFs
               replace f2_3hr1 := f2_3hr1.mono leFs
               replace f2_3hr2 := f2_3hr2.mono leFs
               rw [eS (l := [(0, (.agg #[arv, rsv] : Value))]) ⟨(hpZ 0 (by decide)), trivial⟩]
               refine XG.op (XOp.call (args := [.agg #[arv, rsv]]) Try.call14 rfl (toSystem_spec har hrs (hla := (by first | assumption | rfl | omega | simp)) (hrl := (by first | assumption | rfl | omega | simp)) (hrb := (by first | assumption | rfl | omega | simp))) ?_)
               rintro _ F34 _ le34 ⟨x33, x34, rfl, hr47, hr48, hr49, rfl⟩
               replace har := har.mono le34
               replace hrs := hrs.mono le34
               replace hf := hf.mono le34
               replace hxs := hxs.mono le34
               replace f1_1hr1 := f1_1hr1.mono le34
               replace f1_1hr2 := f1_1hr2.mono le34
               replace f3_1hr1 := f3_1hr1.mono le34
               replace f3_1hr2 := f3_1hr2.mono le34
               replace f4_1hr1 := f4_1hr1.mono le34
               replace f4_1hr2 := f4_1hr2.mono le34
               replace f2_2hr1 := f2_2hr1.mono le34
               replace f2_2hr2 := f2_2hr2.mono le34
               replace f2_3hr1 := f2_3hr1.mono le34
               replace f2_3hr2 := f2_3hr2.mono le34
               exact ⟨⟨rfl, hr47, hr48⟩, rfl⟩
              refine stepsG.cons (fun vals Fs R leFs hpZ => ?_) ?_
              ·replace har := har.mono leFs
               replace hrs := hrs.mono leFs
               replace hf := hf.mono leFs
               replace hxs := hxs.mono leFs
               replace f1_1hr1 := f1_1hr1.mono leFs
               replace f1_1hr2 := f1_1hr2.mono leFs
               replace f3_1hr1 := f3_1hr1.mono leFs
               replace f3_1hr2 := f3_1hr2.mono leFs
               replace f4_1hr1 := f4_1hr1.mono leFs
               replace f4_1hr2 := f4_1hr2.mono leFs
               replace f2_2hr1 := f2_2hr1.mono leFs
               replace f2_2hr2 := f2_2hr2.mono leFs
               replace f2_3hr1 := f2_3hr1.mono leFs
               replace f2_3hr2 := f2_3hr2.mono leFs
               refine XG.op (XOp.loadN [fv, xsv] Try.isAgg69 Try.sizeOf69 rfl rfl (Rd.ownN [_, _, _, _, _, _, _, _, _, _] rfl rfl) ?_)
               exact ⟨rfl, rfl⟩
              refine stepsG.cons (fun vals Fs R leFs hpZ => ?_) ?_
              ·replace har := har.mono leFs
               replace hrs := hrs.mono leFs
               replace hf := hf.mono leFs
               replace hxs := hxs.mono leFs
               replace f1_1hr1 := f1_1hr1.mono leFs
               replace f1_1hr2 := f1_1hr2.mono leFs
               replace f3_1hr1 := f3_1hr1.mono leFs
               replace f3_1hr2 := f3_1hr2.mono leFs
               replace f4_1hr1 := f4_1hr1.mono leFs
               replace f4_1hr2 := f4_1hr2.mono leFs
               replace f2_2hr1 := f2_2hr1.mono leFs
               replace f2_2hr2 := f2_2hr2.mono leFs
               replace f2_3hr1 := f2_3hr1.mono leFs
               replace f2_3hr2 := f2_3hr2.mono leFs
               rw [eS (l := [(2, (.agg #[fv, xsv] : Value))]) ⟨(hpZ 2 (by decide)), trivial⟩]
               refine XG.op (XOp.call (args := [.agg #[fv, xsv]]) Try.call37 rfl (toWalk_spec hf hxs (hfl := (by first | assumption | rfl | omega | simp)) (hsl := (by first | assumption | rfl | omega | simp)) (hsb := (by first | assumption | rfl | omega | simp))) ?_)
               rintro _ F35 _ le35 ⟨x35, x36, rfl, hr50, hr51, hr52, rfl⟩
               replace har := har.mono le35
               replace hrs := hrs.mono le35
               replace hf := hf.mono le35
               replace hxs := hxs.mono le35
               replace f1_1hr1 := f1_1hr1.mono le35
               replace f1_1hr2 := f1_1hr2.mono le35
               replace f3_1hr1 := f3_1hr1.mono le35
               replace f3_1hr2 := f3_1hr2.mono le35
               replace f4_1hr1 := f4_1hr1.mono le35
               replace f4_1hr2 := f4_1hr2.mono le35
               replace f2_2hr1 := f2_2hr1.mono le35
               replace f2_2hr2 := f2_2hr2.mono le35
               replace f2_3hr1 := f2_3hr1.mono le35
               replace f2_3hr2 := f2_3hr2.mono le35
               exact ⟨⟨rfl, hr50, hr51⟩, rfl⟩
              refine stepsG.cons (fun vals Fs R leFs hpZ => ?_) ?_
              ·obtain ⟨e1, f1_4hr1, f1_4hr2⟩ := hpZ 1 (by decide)
               obtain ⟨e3, f3_4hr1, f3_4hr2⟩ := hpZ 3 (by decide)
               replace har := har.mono leFs
               replace hrs := hrs.mono leFs
               replace hf := hf.mono leFs
               replace hxs := hxs.mono leFs
               replace f1_1hr1 := f1_1hr1.mono leFs
               replace f1_1hr2 := f1_1hr2.mono leFs
               replace f3_1hr1 := f3_1hr1.mono leFs
               replace f3_1hr2 := f3_1hr2.mono leFs
               replace f4_1hr1 := f4_1hr1.mono leFs
               replace f4_1hr2 := f4_1hr2.mono leFs
               replace f2_2hr1 := f2_2hr1.mono leFs
               replace f2_2hr2 := f2_2hr2.mono leFs
               replace f2_3hr1 := f2_3hr1.mono leFs
               replace f2_3hr2 := f2_3hr2.mono leFs
               rw [eS (l := [(1, (.agg #[((aggAt (vals 1) 0)), ((aggAt (vals 1) 1))] : Value)), (3, (.agg #[((aggAt (vals 3) 0)), ((aggAt (vals 3) 1))] : Value))]) ⟨(e1).symm, (e3).symm, trivial⟩]
               refine XG.op (XOp.call (args := [.agg #[((aggAt (vals 1) 0)), ((aggAt (vals 1) 1))], .agg #[((aggAt (vals 3) 0)), ((aggAt (vals 3) 1))]]) Try.call49 rfl (ChainOfWalk_spec f1_4hr1 f1_4hr2 f3_4hr1 f3_4hr2 (hlf := (by first | assumption | rfl | omega | simp)) (hsb := (by first | assumption | rfl | omega | simp))) ?_)
               rintro _ F36 _ le36 ⟨x37, x38, rfl, hr53, hr54, hr55, rfl⟩
               replace har := har.mono le36
               replace hrs := hrs.mono le36
               replace hf := hf.mono le36
               replace hxs := hxs.mono le36
               replace f1_1hr1 := f1_1hr1.mono le36
               replace f1_1hr2 := f1_1hr2.mono le36
               replace f3_1hr1 := f3_1hr1.mono le36
               replace f3_1hr2 := f3_1hr2.mono le36
               replace f4_1hr1 := f4_1hr1.mono le36
               replace f4_1hr2 := f4_1hr2.mono le36
               replace f2_2hr1 := f2_2hr1.mono le36
               replace f2_2hr2 := f2_2hr2.mono le36
               replace f2_3hr1 := f2_3hr1.mono le36
               replace f2_3hr2 := f2_3hr2.mono le36
               replace f1_4hr1 := f1_4hr1.mono le36
               replace f1_4hr2 := f1_4hr2.mono le36
               replace f3_4hr1 := f3_4hr1.mono le36
               replace f3_4hr2 := f3_4hr2.mono le36
               exact ⟨⟨rfl, hr53, hr54⟩, rfl⟩
              refine stepsG.cons (fun vals Fs R leFs hpZ => ?_) ?_
              ·obtain ⟨e4, f4_4hr1, f4_4hr2⟩ := hpZ 4 (by decide)
               rw [eS (l := [(4, (.tuple #[.agg #[((aggAt (tupAt (vals 4) 0) 0)), ((aggAt (tupAt (vals 4) 0) 1))], .bool ((chainWF ar rs f xs).2.2)] : Value))]) ⟨(e4).symm, trivial⟩]
               refine XG.op (XOp.move (.tuple #[.agg #[((aggAt (tupAt (vals 4) 0) 0)), ((aggAt (tupAt (vals 4) 0) 1))], .bool ((chainWF ar rs f xs).2.2)]) rfl ?_)
               exact ⟨rfl, rfl⟩
              refine stepsG.cons (fun vals Fs R leFs hpZ => ?_) ?_
              ·obtain ⟨e4, f4_4hr1, f4_4hr2⟩ := hpZ 4 (by decide)
               have e5 : vals 5 = (.tuple #[.agg #[((aggAt (tupAt (vals 4) 0) 0)), ((aggAt (tupAt (vals 4) 0) 1))], .bool ((chainWF ar rs f xs).2.2)] : Value) := hpZ 5 (by decide)
               rw [eS (l := [(4, (.tuple #[.agg #[((aggAt (tupAt (vals 4) 0) 0)), ((aggAt (tupAt (vals 4) 0) 1))], .bool ((chainWF ar rs f xs).2.2)] : Value)), (5, (.tuple #[.agg #[((aggAt (tupAt (vals 4) 0) 0)), ((aggAt (tupAt (vals 4) 0) 1))], .bool ((chainWF ar rs f xs).2.2)] : Value))]) ⟨(e4).symm, e5, trivial⟩]
               refine XG.op (XOp.extract (.agg #[((aggAt (tupAt (vals 4) 0) 0)), ((aggAt (tupAt (vals 4) 0) 1))]) rfl rfl ?_)
               exact ⟨rfl, rfl⟩
              refine stepsG.cons (fun vals Fs R leFs hpZ => ?_) ?_
              ·obtain ⟨e4, f4_4hr1, f4_4hr2⟩ := hpZ 4 (by decide)
               have e5 : vals 5 = (.tuple #[.agg #[((aggAt (tupAt (vals 4) 0) 0)), ((aggAt (tupAt (vals 4) 0) 1))], .bool ((chainWF ar rs f xs).2.2)] : Value) := hpZ 5 (by decide)
               rw [eS (l := [(4, (.tuple #[.agg #[((aggAt (tupAt (vals 4) 0) 0)), ((aggAt (tupAt (vals 4) 0) 1))], .bool ((chainWF ar rs f xs).2.2)] : Value)), (5, (.tuple #[.agg #[((aggAt (tupAt (vals 4) 0) 0)), ((aggAt (tupAt (vals 4) 0) 1))], .bool ((chainWF ar rs f xs).2.2)] : Value))]) ⟨(e4).symm, e5, trivial⟩]
               refine XG.op (XOp.extract (.bool ((chainWF ar rs f xs).2.2)) rfl rfl ?_)
               exact ⟨rfl, rfl⟩
              refine stepsG.cons (fun vals Fs R leFs hpZ => ?_) ?_
              ·replace har := har.mono leFs
               replace hrs := hrs.mono leFs
               replace hf := hf.mono leFs
               replace hxs := hxs.mono leFs
               replace f1_1hr1 := f1_1hr1.mono leFs
               replace f1_1hr2 := f1_1hr2.mono leFs
               replace f3_1hr1 := f3_1hr1.mono leFs
               replace f3_1hr2 := f3_1hr2.mono leFs
               replace f4_1hr1 := f4_1hr1.mono leFs
               replace f4_1hr2 := f4_1hr2.mono leFs
               replace f2_2hr1 := f2_2hr1.mono leFs
               replace f2_2hr2 := f2_2hr2.mono leFs
               replace f2_3hr1 := f2_3hr1.mono leFs
               replace f2_3hr2 := f2_3hr2.mono leFs
               refine XG.op (XOp.alloc [(.slice none 0 0), (.slice none 0 0)] Try.zeroValue87 rfl ?_)
               intro b10
               exact ⟨rfl, rfl⟩
              refine stepsG.cons (fun vals Fs R leFs hpZ => ?_) ?_
              ·obtain ⟨e4, f4_4hr1, f4_4hr2⟩ := hpZ 4 (by decide)
               have e6 : vals 6 = (.agg #[((aggAt (tupAt (vals 4) 0) 0)), ((aggAt (tupAt (vals 4) 0) 1))] : Value) := hpZ 6 (by decide)
               have e8 : vals 8 = ptr (blk (vals 8)) 0 := hpZ 8 (by decide)
               replace har := har.mono leFs
               replace hrs := hrs.mono leFs
               replace hf := hf.mono leFs
               replace hxs := hxs.mono leFs
               replace f1_1hr1 := f1_1hr1.mono leFs
               replace f1_1hr2 := f1_1hr2.mono leFs
               replace f3_1hr1 := f3_1hr1.mono leFs
               replace f3_1hr2 := f3_1hr2.mono leFs
               replace f4_1hr1 := f4_1hr1.mono leFs
               replace f4_1hr2 := f4_1hr2.mono leFs
               replace f2_2hr1 := f2_2hr1.mono leFs
               replace f2_2hr2 := f2_2hr2.mono leFs
               replace f2_3hr1 := f2_3hr1.mono leFs
               replace f2_3hr2 := f2_3hr2.mono leFs
               rw [eS (l := [(4, (.tuple #[.agg #[((aggAt (tupAt (vals 4) 0) 0)), ((aggAt (tupAt (vals 4) 0) 1))], .bool ((chainWF ar rs f xs).2.2)] : Value)), (6, (.agg #[((aggAt (tupAt (vals 4) 0) 0)), ((aggAt (tupAt (vals 4) 0) 1))] : Value)), (8, ptr (blk (vals 8)) 0)]) ⟨(e4).symm, e6, e8, trivial⟩]
               show XG _ _ _ _ _ (cellsH (blk (vals 8)) [(.slice none 0 0), (.slice none 0 0)] 87 :: ([intsH 2 x17 m5, movesD 2 197 x18 m6, intsH 2 x15 m3, stepsD 2 119 x16 m4, intsH 2 x13 m1, pairsD 2 98 x14 m2, cellsH b8 [x17, x18] 87, cellsH b7 [x15, x16] 73, cellsH b6 [x13, x14] 36, cellsH b5 [u5, u6] 87, cellsH b2 [fv, xsv] 69, cellsH b1 [arv, rsv] 27] ++ R)) _
               refine XG.op (XOp.storeN (vs := [((aggAt (tupAt (vals 4) 0) 0)), ((aggAt (tupAt (vals 4) 0) 1))]) [] _ [((aggAt (tupAt (vals 4) 0) 0)), ((aggAt (tupAt (vals 4) 0) 1))] Try.sizeOf87 rfl rfl rfl (ones_cons (one_sl (IntsF.isSl f4_4hr1)) (ones_cons (one_sl (MovesF.isSl f4_4hr2)) ones_nil)) rfl rfl rfl ?_)
               exact ⟨trivial, rfl⟩
              exact stepsG.nil
             ·intro vals F37 le37 hphi
              obtain ⟨e1, f1_4hr1, f1_4hr2⟩ := hphi 1 (by decide)
              obtain ⟨e3, f3_4hr1, f3_4hr2⟩ := hphi 3 (by decide)
              obtain ⟨e4, f4_4hr1, f4_4hr2⟩ := hphi 4 (by decide)
              have e5 : vals 5 = (.tuple #[.agg #[((aggAt (tupAt (vals 4) 0) 0)), ((aggAt (tupAt (vals 4) 0) 1))], .bool ((chainWF ar rs f xs).2.2)] : Value) := hphi 5 (by decide)
              have e6 : vals 6 = (.agg #[((aggAt (tupAt (vals 4) 0) 0)), ((aggAt (tupAt (vals 4) 0) 1))] : Value) := hphi 6 (by decide)
              have e8 : vals 8 = ptr (blk (vals 8)) 0 := hphi 8 (by decide)
              generalize hu12 : ((aggAt (vals 1) 0)) = u11 at e1 f1_4hr1 f1_4hr2 e3 f3_4hr1 f3_4hr2 e4 f4_4hr1 f4_4hr2 e5 e6 e8
              generalize hu13 : ((aggAt (vals 1) 1)) = u12 at e1 f1_4hr1 f1_4hr2 e3 f3_4hr1 f3_4hr2 e4 f4_4hr1 f4_4hr2 e5 e6 e8
              generalize hu14 : ((aggAt (vals 3) 0)) = u13 at e1 f1_4hr1 f1_4hr2 e3 f3_4hr1 f3_4hr2 e4 f4_4hr1 f4_4hr2 e5 e6 e8
              generalize hu15 : ((aggAt (vals 3) 1)) = u14 at e1 f1_4hr1 f1_4hr2 e3 f3_4hr1 f3_4hr2 e4 f4_4hr1 f4_4hr2 e5 e6 e8
              generalize hu16 : ((aggAt (tupAt (vals 4) 0) 0)) = u15 at e1 f1_4hr1 f1_4hr2 e3 f3_4hr1 f3_4hr2 e4 f4_4hr1 f4_4hr2 e5 e6 e8
              generalize hu17 : ((aggAt (tupAt (vals 4) 0) 1)) = u16 at e1 f1_4hr1 f1_4hr2 e3 f3_4hr1 f3_4hr2 e4 f4_4hr1 f4_4hr2 e5 e6 e8
              generalize hu18 : blk (vals 8) = b11 at e1 f1_4hr1 f1_4hr2 e3 f3_4hr1 f3_4hr2 e4 f4_4hr1 f4_4hr2 e5 e6 e8
              rw [eS (l := [(0, (.agg #[arv, rsv] : Value)), (1, (.agg #[u11, u12] : Value)), (2, (.agg #[fv, xsv] : Value)), (3, (.agg #[u13, u14] : Value)), (4, (.tuple #[.agg #[u15, u16], .bool ((chainWF ar rs f xs).2.2)] : Value)), (5, (.tuple #[.agg #[u15, u16], .bool ((chainWF ar rs f xs).2.2)] : Value)), (6, (.agg #[u15, u16] : Value)), (7, (.bool ((chainWF ar rs f xs).2.2) : Value)), (8, ptr b11 0)]) ⟨(hphi 0 (by decide)), (e1).symm, (hphi 2 (by decide)), (e3).symm, (e4).symm, e5, e6, (hphi 7 (by decide)), e8, trivial⟩]
              replace har := har.mono le37
              replace hrs := hrs.mono le37
              replace hf := hf.mono le37
              replace hxs := hxs.mono le37
              replace f1_1hr1 := f1_1hr1.mono le37
              replace f1_1hr2 := f1_1hr2.mono le37
              replace f3_1hr1 := f3_1hr1.mono le37
              replace f3_1hr2 := f3_1hr2.mono le37
              replace f4_1hr1 := f4_1hr1.mono le37
              replace f4_1hr2 := f4_1hr2.mono le37
              replace f2_2hr1 := f2_2hr1.mono le37
              replace f2_2hr2 := f2_2hr2.mono le37
              replace f2_3hr1 := f2_3hr1.mono le37
              replace f2_3hr2 := f2_3hr2.mono le37
              show XL _ _ _ _ _ _ _ (cellsH b11 [u15, u16] 87 :: intsH 2 x17 m5 :: movesD 2 197 x18 m6 :: intsH 2 x15 m3 :: stepsD 2 119 x16 m4 :: intsH 2 x13 m1 :: pairsD 2 98 x14 m2 :: cellsH b8 [x17, x18] 87 :: cellsH b7 [x15, x16] 73 :: cellsH b6 [x13, x14] 36 :: cellsH b5 [u5, u6] 87 :: cellsH b2 [fv, xsv] 69 :: cellsH b1 [arv, rsv] 27 :: L)
              refine XL.as (.bool ((chainWF ar rs f xs).2.2)) rfl ?_
              refine XL.nil (X.seq (X.seq (X.region ?_)))
              refine XL.cons (XOp.loadN [u15, u16] Try.isAgg87 Try.sizeOf87 rfl rfl (Rd.ownN [] rfl rfl) ?_)
              refine XL.cons (XOp.loadN [u5, u6] Try.isAgg87 Try.sizeOf87 rfl rfl (Rd.ownN [_, _, _, _, _, _, _, _, _, _] rfl rfl) ?_)
              refine XL.cons (XOp.call (args := [.agg #[u15, u16], .agg #[u5, u6]]) Try.call50 rfl (eqChain_spec f4_4hr1 f4_4hr2 f4_1hr1 f4_1hr2 (hfl := (by first | assumption | rfl | omega | simp)) (hal := (by first | assumption | rfl | omega | simp)) (hbd := (by first | assumption | exact fun i hi => by have := hne i hi; omega))) ?_)
              rintro _ _ _ _ ⟨rfl, rfl, rfl⟩
              refine XL.cons (XOp.notD (p := ((chainWF ar rs f xs).1) = ((chainWF ar rs f xs).1) ∧ ((chainWF ar rs f xs).2.1) = ((chainWF ar rs f xs).2.1)) rfl ?_)
              refine XL.mv (.bool (decide (¬(((chainWF ar rs f xs).1) = ((chainWF ar rs f xs).1) ∧ ((chainWF ar rs f xs).2.1) = ((chainWF ar rs f xs).2.1))))) rfl ?_
              refine XL.yes (t := 106) rfl (vF h3) (XOp.move (.bool ((chainWF ar rs f xs).2.2)) rfl ?_)
              refine XL.yes (t := 106) rfl (vF h3) (XOp.move (.bool ((chainWF ar rs f xs).2.2)) rfl ?_)
              refine XL.yes (t := 106) rfl (vF h3) (XOp.neB (a := (chainWF ar rs f xs).2.2) (b := (chainWF ar rs f xs).2.2) Try.runUnderlying4 rfl rfl ?_)
              refine XL.cons (XOp.pickF (.bool (decide (((chainWF ar rs f xs).2.2) ≠ ((chainWF ar rs f xs).2.2)))) (vF h3) rfl ?_)
              refine XL.nil ?_
              refine X.condF (vF h4) ?_
              refine X.skip (X.seq (X.region ?_))
              refine XL.as (.int .i64 (1)) rfl ?_
              refine XL.nil (X.seq (X.region ?_))
              refine XL.cons (XOp.loadN [x17, x18] Try.isAgg87 Try.sizeOf87 rfl rfl (Rd.ownN [_, _, _, _, _, _, _] rfl rfl) ?_)
              refine XL.mv (.int .i64 (1)) rfl ?_
              refine XL.cons (XOp.lend [_] _ _ rfl (fun F38 le38 hz15 => ?_))
              refine id (XOp.lend [_] _ _ rfl (fun F39 le39 hz16 => ?_))
              have hf15 : IntsF _ x17 m5 := (intsH.fz (xs := m5) hz15).mono le39
              have hf16 : MovesF _ x18 m6 := movesD.fz hz16
              refine id (XOp.call (args := [.agg #[x17, x18], .int .i64 (1)]) Try.call52 rfl (heldChain_spec (z := 1) hf15 hf16 (hzb := (by first | assumption | rfl | omega | simp)) (hxl := (by first | assumption | rfl | omega | simp))) ?_)
              rintro _ _ _ _ ⟨rfl, rfl, rfl⟩
              show XL _ _ _ _ _ _ _ (intsH 2 x17 m5 :: movesD 2 197 x18 m6 :: cellsH b11 [u15, u16] 87 :: intsH 2 x15 m3 :: stepsD 2 119 x16 m4 :: intsH 2 x13 m1 :: pairsD 2 98 x14 m2 :: cellsH b8 [x17, x18] 87 :: cellsH b7 [x15, x16] 73 :: cellsH b6 [x13, x14] 36 :: cellsH b5 [u5, u6] 87 :: cellsH b2 [fv, xsv] 69 :: cellsH b1 [arv, rsv] 27 :: L)
              refine XL.as (.int .i64 (heldF (m5 ++ m6.flatMap flatMove) 1)) rfl ?_
              refine XL.nil (X.seq (X.seq (X.region ?_)))
              refine XL.mv (.int .i64 (heldF (m5 ++ m6.flatMap flatMove) 1)) rfl ?_
              refine XL.cons (XOp.lss (a := heldF (m5 ++ m6.flatMap flatMove) 1) (b := 0) rfl rfl ?_)
              refine XL.nil ?_
              refine X.condF (vF h8) ?_
              refine X.skip (X.seq (X.seq (X.region ?_)))
              refine XL.mv (.int .i64 (heldF (m5 ++ m6.flatMap flatMove) 1)) rfl ?_
              refine XL.mv (.int .i64 (1 + (((((chainWF ar rs f xs).1)) ++ (((chainWF ar rs f xs).2.1).flatMap flatMove)).length : Int))) rfl ?_
              refine XL.cons (XOp.neq (a := heldF (m5 ++ m6.flatMap flatMove) 1) (b := 1 + (((((chainWF ar rs f xs).1)) ++ (((chainWF ar rs f xs).2.1).flatMap flatMove)).length : Int)) rfl rfl ?_)
              refine XL.nil ?_
              refine X.condF (vF h9) ?_
              refine X.skip (X.seq (X.region ?_))
              refine XL.as (.bool (true)) rfl ?_
              refine XL.nil ?_
              refine X.ret (retEnd (L' := L) [.bool (true)] (.bool (true)) (.tmp rfl .nil) rfl rF (FLe.trans (FLe.trans (FLe.trans le7 le19) le24) le37) (Sub.drop (Sub.drop (Sub.drop (Sub.drop (Sub.drop (Sub.drop (Sub.drop (Sub.drop (Sub.drop (Sub.drop (Sub.drop (Sub.drop (Sub.drop sR))))))))))))) ?_)
              exact ⟨rfl, rfl, rfl⟩
end Go.Proofs.Ytnloeeaidknblaa
