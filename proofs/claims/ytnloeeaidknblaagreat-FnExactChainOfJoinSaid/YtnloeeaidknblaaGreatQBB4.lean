/-
  Walks, one after the other (part 5).
-/
import Derived.Test.YtnloeeaidknblaaGreatQBL1
import Derived.Test.YtnloeeaidknblaaGreatQBB3
set_option linter.unusedSimpArgs false
set_option linter.unusedVariables false
namespace Go.Proofs.YtnloeeaidknblaaGreat
open Go X M

/- laws.eqMove -/
theorem eqMove_spec {F : FH} {L : List HP} {i : Int} {j : Int} {x : Bool} {av : Value} {a : List Int} (ha : IntsF F av a) {p : Int} {q : Int} {y : Bool} {bv : Value} {b : List Int} (hb : IntsF F bv b) (hbd : a.length ≤ 9223372036854775807 ∨ b.length ≤ 9223372036854775807) :
    Does Tryz.prog 167 [.agg #[.int .i64 (i), .int .i64 (j), .bool (x), av], .agg #[.int .i64 (p), .int .i64 (q), .bool (y), bv]] F (L) (fun v F' L' => (.bool (decide ((i, j, x, a) = (p, q, y, b))) : Value) = v ∧ F = F' ∧ L = L') := by
 refine Does.of_X Tryz.func167 rfl rfl rfl ?_
 refine X.seq (X.region ?_)
 refine XL.cons (XOp.box [.int .i64 (i), .int .i64 (j), .bool (x), av] rfl rfl ?_)
 intro b1
 refine XL.cons (XOp.box [.int .i64 (p), .int .i64 (q), .bool (y), bv] rfl rfl ?_)
 intro b2
 refine XL.as (.bool (false)) rfl ?_
 refine XL.nil (X.seq (X.seq (X.region ?_)))
 refine XL.cons (XOp.fieldP (b := b1) (0) Tryz.runUnderlying195 rfl Tryz.sizeOf2 (by decide) rfl rfl ?_)
 refine XL.cons (XOp.load1 (v := .int .i64 (i)) Tryz.isAgg2 rfl (Rd.own [_] rfl rfl) ?_)
 refine XL.cons (XOp.fieldP (b := b2) (0) Tryz.runUnderlying195 rfl Tryz.sizeOf2 (by decide) rfl rfl ?_)
 refine XL.cons (XOp.load1 (v := .int .i64 (p)) Tryz.isAgg2 rfl (Rd.own [] rfl rfl) ?_)
 refine XL.cons (XOp.neq (a := i) (b := p) rfl rfl ?_)
 refine XL.nil ?_
 refine X.condD (p := (i : Int) ≠ p) rfl (fun h1 => ?_) (fun h1 => ?_)
 ·refine X.seq (X.region ?_)
  refine XL.as (.bool (false)) rfl ?_
  refine XL.nil ?_
  refine X.ret (thenQ_ret (retEnd (L' := L) [.bool (false)] (.bool (false)) (.tmp rfl .nil) rfl rF rF (Sub.drop (Sub.drop sR)) ?_))
  exact ⟨(vB (decide_eq_false (by intro e; simp_all))), rfl, rfl⟩
 ·refine X.skip (X.seq (X.seq (X.region ?_)))
  refine XL.cons (XOp.fieldP (b := b1) (1) Tryz.runUnderlying195 rfl Tryz.sizeOf2 (by decide) rfl rfl ?_)
  refine XL.cons (XOp.load1 (v := .int .i64 (j)) Tryz.isAgg2 rfl (Rd.own [_] rfl rfl) ?_)
  refine XL.cons (XOp.fieldP (b := b2) (1) Tryz.runUnderlying195 rfl Tryz.sizeOf2 (by decide) rfl rfl ?_)
  refine XL.cons (XOp.load1 (v := .int .i64 (q)) Tryz.isAgg2 rfl (Rd.own [] rfl rfl) ?_)
  refine XL.cons (XOp.neq (a := j) (b := q) rfl rfl ?_)
  refine XL.nil ?_
  refine X.condD (p := (j : Int) ≠ q) rfl (fun h2 => ?_) (fun h2 => ?_)
  ·refine X.seq (X.region ?_)
   refine XL.as (.bool (false)) rfl ?_
   refine XL.nil ?_
   refine X.ret (thenQ_ret (retEnd (L' := L) [.bool (false)] (.bool (false)) (.tmp rfl .nil) rfl rF rF (Sub.drop (Sub.drop sR)) ?_))
   exact ⟨(vB (decide_eq_false (by intro e; simp_all))), rfl, rfl⟩
  ·refine X.skip (X.seq (X.seq (X.region ?_)))
   refine XL.cons (XOp.fieldP (b := b1) (2) Tryz.runUnderlying195 rfl Tryz.sizeOf4 (by decide) rfl rfl ?_)
   refine XL.cons (XOp.load1 (v := .bool (x)) Tryz.isAgg4 rfl (Rd.own [_] rfl rfl) ?_)
   refine XL.cons (XOp.fieldP (b := b2) (2) Tryz.runUnderlying195 rfl Tryz.sizeOf4 (by decide) rfl rfl ?_)
   refine XL.cons (XOp.load1 (v := .bool (y)) Tryz.isAgg4 rfl (Rd.own [] rfl rfl) ?_)
   refine XL.cons (XOp.neB (a := x) (b := y) Tryz.runUnderlying4 rfl rfl ?_)
   refine XL.nil ?_
   refine X.condD (p := (x) ≠ (y)) rfl (fun h3 => ?_) (fun h3 => ?_)
   ·refine X.seq (X.region ?_)
    refine XL.as (.bool (false)) rfl ?_
    refine XL.nil ?_
    refine X.ret (thenQ_ret (retEnd (L' := L) [.bool (false)] (.bool (false)) (.tmp rfl .nil) rfl rF rF (Sub.drop (Sub.drop sR)) ?_))
    exact ⟨(vB (decide_eq_false (by intro e; simp_all))), rfl, rfl⟩
   ·refine X.skip (X.seq (X.seq (X.region ?_)))
    refine XL.cons (XOp.fieldP (b := b1) (3) Tryz.runUnderlying195 rfl Tryz.sizeOf22 (by decide) rfl rfl ?_)
    refine XL.cons (XOp.load1 (v := av) Tryz.isAgg22 rfl (Rd.own [_] rfl rfl) ?_)
    refine XL.cons (XOp.fieldP (b := b2) (3) Tryz.runUnderlying195 rfl Tryz.sizeOf22 (by decide) rfl rfl ?_)
    refine XL.cons (XOp.load1 (v := bv) Tryz.isAgg22 rfl (Rd.own [] rfl rfl) ?_)
    refine XL.cons (XOp.call (args := [av, bv]) Tryz.call23 rfl (eqInt64S_spec ha hb (hbd := (by first | assumption | rfl | omega | (left; simp; done) | (right; simp; done)))) ?_)
    rintro _ _ _ _ ⟨rfl, rfl, rfl⟩
    refine XL.cons (XOp.notD (p := a = b) rfl ?_)
    refine XL.nil ?_
    refine X.condD (p := ¬(a = b)) rfl (fun h4 => ?_) (fun h4 => ?_)
    ·refine X.seq (X.region ?_)
     refine XL.as (.bool (false)) rfl ?_
     refine XL.nil ?_
     refine X.ret (thenQ_ret (retEnd (L' := L) [.bool (false)] (.bool (false)) (.tmp rfl .nil) rfl rF rF (Sub.drop (Sub.drop sR)) ?_))
     exact ⟨(vB (decide_eq_false (by intro e; simp_all))), rfl, rfl⟩
    ·refine X.skip (X.seq (X.region ?_))
     refine XL.as (.bool (true)) rfl ?_
     refine XL.nil ?_
     refine X.ret (retEnd (L' := L) [.bool (true)] (.bool (true)) (.tmp rfl .nil) rfl rF rF (Sub.drop (Sub.drop sR)) ?_)
     exact ⟨(vB (decide_eq_true (by simp_all))), rfl, rfl⟩

/- laws.eqMoveS -/
theorem eqMoveS_spec {F : FH} {L : List HP} {av : Value} {a : List MoveT} (ha : MovesF F av a) {bv : Value} {b : List MoveT} (hb : MovesF F bv b) (hal : a.length ≤ 9223372036854775807) (hbd : ∀ i, i < a.length → (a.getD i (0, 0, false, [])).2.2.2.length ≤ 9223372036854775807) :
    Does Tryz.prog 106 [av, bv] F (L) (fun v F' L' => (.bool (decide (a = b)) : Value) = v ∧ F = F' ∧ L = L') := by
 refine Does.of_X Tryz.func106 rfl rfl rfl ?_
 refine X.seq (X.region ?_)
 refine XL.as (.bool (false)) rfl ?_
 refine XL.nil (X.seq (X.seq (X.region ?_)))
 refine XL.mv (av) rfl ?_
 refine XL.cons (XOp.lenS (v := av) (n := (a).length) Tryz.runUnderlying86 rfl ha.slv ?_)
 refine XL.mv (bv) rfl ?_
 refine XL.cons (XOp.lenS (v := bv) (n := (b).length) Tryz.runUnderlying86 rfl hb.slv ?_)
 refine XL.cons (XOp.neq (a := (a.length : Int)) (b := (b.length : Int)) rfl rfl ?_)
 refine XL.nil ?_
 refine X.condD (p := ((a.length : Int) : Int) ≠ (b.length : Int)) rfl (fun h1 => ?_) (fun h1 => ?_)
 ·refine X.seq (X.region ?_)
  refine XL.as (.bool (false)) rfl ?_
  refine XL.nil ?_
  refine X.ret (thenQ_ret (retEnd (L' := L) [.bool (false)] (.bool (false)) (.tmp rfl .nil) rfl rF rF sR ?_))
  exact ⟨(vB (decide_eq_false (fun e => by rw [e] at h1; omega))), rfl, rfl⟩
 ·refine X.skip (X.seq (X.seq (X.region ?_)))
  refine XL.as (.int .i64 (0)) rfl ?_
  refine XL.nil (X.block ?_)
  refine X.loop (α := Nat) (fun k => [(0, av), (1, bv), (5, .int .i64 ((k : Int)))]) (fun k => L) (fun k F' => F = F' ∧ (k ≤ a.length) ∧ (∀ i, i < k → a.getD i (0, 0, false, []) = b.getD i (0, 0, false, []))) (fun k => a.length - k) 0 ⟨rfl, rfl, rfl, trivial⟩ sR ⟨rfl, (by (try dsimp only) <;> omega), (fun i hi => absurd hi (by omega))⟩ ?_
  rintro k rE _ _ ⟨rfl, hk, hall⟩
  show X _ _ _ _ (envs [(0, av), (1, bv), (5, .int .i64 ((k : Int)))] rE) _ (L)
  have hbk := hbd k
  refine X.seq (X.seq (X.region ?_))
  refine XL.mv (.int .i64 ((k : Int))) rfl ?_
  refine XL.mv (av) rfl ?_
  refine XL.cons (XOp.lenS (v := av) (n := (a).length) Tryz.runUnderlying86 rfl ha.slv ?_)
  refine XL.cons (XOp.lss (a := (k : Int)) (b := (a.length : Int)) rfl rfl ?_)
  refine XL.nil ?_
  refine X.condD (p := (k : Int) < (a.length : Int)) rfl (fun h2 => ?_) (fun h2 => ?_)
  ·refine X.skip (X.seq (X.block (X.seq ?_)))
   obtain ⟨a1, ha1, hrg1, hq1⟩ := ha.rd (i := k) (by omega)
   obtain ⟨a2, ha2, hrg2, hq2⟩ := hb.rd (i := k) (by omega)
   refine X.draw [] L 8 [[], [], [], [], [], [], [], []] [[], [], [0, 1], [2], [], [], [4, 5], [6]] (phiL [fun us v => v = av, fun us v => v = (.int .i64 ((k : Int)) : Value), fun us v => v = (.pointer (some (elemA av (k * 4))) : Value), fun us v => v = (.agg #[.int .i64 ((a.getD k (0, 0, false, [])).1), .int .i64 ((a.getD k (0, 0, false, [])).2.1), .bool ((a.getD k (0, 0, false, [])).2.2.1), a1] : Value), fun us v => v = bv, fun us v => v = (.int .i64 ((k : Int)) : Value), fun us v => v = (.pointer (some (elemA bv (k * 4))) : Value), fun us v => v = (.agg #[.int .i64 ((b.getD k (0, 0, false, [])).1), .int .i64 ((b.getD k (0, 0, false, [])).2.1), .bool ((b.getD k (0, 0, false, [])).2.2.1), a2] : Value)]) (ownL [fun us v => [], fun us v => [], fun us v => [], fun us v => [], fun us v => [], fun us v => [], fun us v => [], fun us v => []]) mixed rfl rfl (by kernel_rfl) ?_ ?_
   ·refine stepsP.cons (fun vals R hpZ => ?_) ?_
    ·refine XG.op (XOp.move (av) rfl ?_)
     exact ⟨rfl, rfl, rfl⟩
    refine stepsP.cons (fun vals R hpZ => ?_) ?_
    ·refine XG.op (XOp.move (.int .i64 ((k : Int))) rfl ?_)
     exact ⟨rfl, rfl, rfl⟩
    refine stepsP.cons (fun vals R hpZ => ?_) ?_
    ·rw [eS (l := [(0, av), (1, (.int .i64 ((k : Int)) : Value))]) ⟨hpZ 0 (by decide), hpZ 1 (by decide), trivial⟩]
     refine XG.op (XOp.indexS (v := av) (i := (k : Int)) (n := (a).length) k Tryz.runUnderlying86 Tryz.sizeOf195 rfl rfl rfl ha.slv (by omega) rfl ?_)
     exact ⟨rfl, rfl, rfl⟩
    refine stepsP.cons (fun vals R hpZ => ?_) ?_
    ·rw [eS (l := [(2, (.pointer (some (elemA av (k * 4))) : Value))]) ⟨hpZ 2 (by decide), trivial⟩]
     refine XG.op (XOp.loadN [.int .i64 ((a.getD k (0, 0, false, [])).1), .int .i64 ((a.getD k (0, 0, false, [])).2.1), .bool ((a.getD k (0, 0, false, [])).2.2.1), a1] Tryz.isAgg195 Tryz.sizeOf195 rfl rfl (Rd.all (hrg1 _)) ?_)
     exact ⟨rfl, rfl, rfl⟩
    refine stepsP.cons (fun vals R hpZ => ?_) ?_
    ·refine XG.op (XOp.move (bv) rfl ?_)
     exact ⟨rfl, rfl, rfl⟩
    refine stepsP.cons (fun vals R hpZ => ?_) ?_
    ·refine XG.op (XOp.move (.int .i64 ((k : Int))) rfl ?_)
     exact ⟨rfl, rfl, rfl⟩
    refine stepsP.cons (fun vals R hpZ => ?_) ?_
    ·rw [eS (l := [(4, bv), (5, (.int .i64 ((k : Int)) : Value))]) ⟨hpZ 4 (by decide), hpZ 5 (by decide), trivial⟩]
     refine XG.op (XOp.indexS (v := bv) (i := (k : Int)) (n := (b).length) k Tryz.runUnderlying86 Tryz.sizeOf195 rfl rfl rfl hb.slv (by omega) rfl ?_)
     exact ⟨rfl, rfl, rfl⟩
    refine stepsP.cons (fun vals R hpZ => ?_) ?_
    ·rw [eS (l := [(6, (.pointer (some (elemA bv (k * 4))) : Value))]) ⟨hpZ 6 (by decide), trivial⟩]
     refine XG.op (XOp.loadN [.int .i64 ((b.getD k (0, 0, false, [])).1), .int .i64 ((b.getD k (0, 0, false, [])).2.1), .bool ((b.getD k (0, 0, false, [])).2.2.1), a2] Tryz.isAgg195 Tryz.sizeOf195 rfl rfl (Rd.all (hrg2 _)) ?_)
     exact ⟨rfl, rfl, rfl⟩
    exact stepsP.nil
   ·intro vals hphi
    rw [eS (l := [(0, av), (1, (.int .i64 ((k : Int)) : Value)), (2, (.pointer (some (elemA av (k * 4))) : Value)), (3, (.agg #[.int .i64 ((a.getD k (0, 0, false, [])).1), .int .i64 ((a.getD k (0, 0, false, [])).2.1), .bool ((a.getD k (0, 0, false, [])).2.2.1), a1] : Value)), (4, bv), (5, (.int .i64 ((k : Int)) : Value)), (6, (.pointer (some (elemA bv (k * 4))) : Value)), (7, (.agg #[.int .i64 ((b.getD k (0, 0, false, [])).1), .int .i64 ((b.getD k (0, 0, false, [])).2.1), .bool ((b.getD k (0, 0, false, [])).2.2.1), a2] : Value))]) ⟨(hphi 0 (by decide)), (hphi 1 (by decide)), (hphi 2 (by decide)), (hphi 3 (by decide)), (hphi 4 (by decide)), (hphi 5 (by decide)), (hphi 6 (by decide)), (hphi 7 (by decide)), trivial⟩]
    show XL _ _ _ _ _ _ _ (L)
    refine XL.cons (XOp.call (args := [.agg #[.int .i64 ((a.getD k (0, 0, false, [])).1), .int .i64 ((a.getD k (0, 0, false, [])).2.1), .bool ((a.getD k (0, 0, false, [])).2.2.1), a1], .agg #[.int .i64 ((b.getD k (0, 0, false, [])).1), .int .i64 ((b.getD k (0, 0, false, [])).2.1), .bool ((b.getD k (0, 0, false, [])).2.2.1), a2]]) Tryz.call167 rfl (eqMove_spec ha1 ha2 (hbd := (.inl (hbk (by omega))))) ?_)
    rintro _ _ _ _ ⟨rfl, rfl, rfl⟩
    refine XL.cons (XOp.notD (p := (((a.getD k (0, 0, false, [])).1), ((a.getD k (0, 0, false, [])).2.1), ((a.getD k (0, 0, false, [])).2.2.1), ((a.getD k (0, 0, false, [])).2.2.2)) = (((b.getD k (0, 0, false, [])).1), ((b.getD k (0, 0, false, [])).2.1), ((b.getD k (0, 0, false, [])).2.2.1), ((b.getD k (0, 0, false, [])).2.2.2))) rfl ?_)
    refine XL.nil ?_
    refine X.condD (p := ¬((((a.getD k (0, 0, false, [])).1), ((a.getD k (0, 0, false, [])).2.1), ((a.getD k (0, 0, false, [])).2.2.1), ((a.getD k (0, 0, false, [])).2.2.2)) = (((b.getD k (0, 0, false, [])).1), ((b.getD k (0, 0, false, [])).2.1), ((b.getD k (0, 0, false, [])).2.2.1), ((b.getD k (0, 0, false, [])).2.2.2)))) rfl (fun h3 => ?_) (fun h3 => ?_)
    ·refine X.seq (X.region ?_)
     refine XL.as (.bool (false)) rfl ?_
     refine XL.nil ?_
     refine X.ret (blockQ_ret (thenQ_ret (thenQ_ret (blockQ_ret (thenQ_ret (retEnd (L' := L) [.bool (false)] (.bool (false)) (.tmp rfl .nil) rfl rF rF sR ?_))))))
     exact ⟨(vB (decide_eq_false (fun e => by subst e; simp at *))), rfl, rfl⟩
    ·refine X.skip (X.region ?_)
     refine XL.mv (.int .i64 ((k : Int))) rfl ?_
     refine XL.cons (XOp.addR (a := (k : Int)) (b := 1) (((k + 1 : Nat) : Int)) rfl rfl (by omega) (by omega) ?_)
     refine XL.as (.int .i64 (((k + 1 : Nat) : Int))) rfl ?_
     refine XL.nil ?_
     exact ⟨k + 1, _, FLe.refl _, rF, ⟨rfl, rfl, rfl, trivial⟩, sR, ⟨rfl, (by (try dsimp only) <;> omega), (fun i hi => (Nat.lt_or_ge i k).elim (fun h => hall i h) (fun h => by obtain rfl : i = k := (by omega); first | assumption | exact Classical.not_not.1 (by assumption)))⟩, (by omega)⟩
  ·refine X.exit (thenQ_exit (thenQ_exit (blockQ_exit ?_)))
   refine X.seq (X.region ?_)
   refine XL.as (.bool (true)) rfl ?_
   refine XL.nil ?_
   refine X.ret (retEnd (L' := L) [.bool (true)] (.bool (true)) (.tmp rfl .nil) rfl rF rF sR ?_)
   exact ⟨(vB (decide_eq_true (ext_any ((0 : Int), (0 : Int), false, ([] : List Int)) (by omega) (fun i hi => hall i (by omega))))), rfl, rfl⟩

/- laws.eqChain -/
theorem eqChain_spec {F : FH} {L : List HP} {fv : Value} {f : List Int} (hf : IntsF F fv f) {av : Value} {a : List MoveT} (ha : MovesF F av a) {gv : Value} {g : List Int} (hg : IntsF F gv g) {bv : Value} {b : List MoveT} (hb : MovesF F bv b) (hfl : f.length ≤ 9223372036854775807) (hal : a.length ≤ 9223372036854775807) (hbd : ∀ i, i < a.length → (a.getD i (0, 0, false, [])).2.2.2.length ≤ 9223372036854775807) :
    Does Tryz.prog 42 [.agg #[fv, av], .agg #[gv, bv]] F (L) (fun v F' L' => (.bool (decide (f = g ∧ a = b)) : Value) = v ∧ F = F' ∧ L = L') := by
 refine Does.of_X Tryz.func42 rfl rfl rfl ?_
 refine X.seq (X.region ?_)
 refine XL.cons (XOp.box [fv, av] rfl rfl ?_)
 intro b1
 refine XL.cons (XOp.box [gv, bv] rfl rfl ?_)
 intro b2
 refine XL.as (.bool (false)) rfl ?_
 refine XL.nil (X.seq (X.seq (X.region ?_)))
 refine XL.cons (XOp.fieldP (b := b1) (0) Tryz.runUnderlying88 rfl Tryz.sizeOf22 (by decide) rfl rfl ?_)
 refine XL.cons (XOp.load1 (v := fv) Tryz.isAgg22 rfl (Rd.own [_] rfl rfl) ?_)
 refine XL.cons (XOp.fieldP (b := b2) (0) Tryz.runUnderlying88 rfl Tryz.sizeOf22 (by decide) rfl rfl ?_)
 refine XL.cons (XOp.load1 (v := gv) Tryz.isAgg22 rfl (Rd.own [] rfl rfl) ?_)
 refine XL.cons (XOp.call (args := [fv, gv]) Tryz.call23 rfl (eqInt64S_spec hf hg (hbd := (.inl hfl))) ?_)
 rintro _ _ _ _ ⟨rfl, rfl, rfl⟩
 refine XL.cons (XOp.notD (p := f = g) rfl ?_)
 refine XL.nil ?_
 refine X.condD (p := ¬(f = g)) rfl (fun h1 => ?_) (fun h1 => ?_)
 ·refine X.seq (X.region ?_)
  refine XL.as (.bool (false)) rfl ?_
  refine XL.nil ?_
  refine X.ret (thenQ_ret (retEnd (L' := L) [.bool (false)] (.bool (false)) (.tmp rfl .nil) rfl rF rF (Sub.drop (Sub.drop sR)) ?_))
  exact ⟨(vB (decide_eq_false (by intro e; simp_all))), rfl, rfl⟩
 ·refine X.skip (X.seq (X.seq (X.region ?_)))
  refine XL.cons (XOp.fieldP (b := b1) (1) Tryz.runUnderlying88 rfl Tryz.sizeOf86 (by decide) rfl rfl ?_)
  refine XL.cons (XOp.load1 (v := av) Tryz.isAgg86 rfl (Rd.own [_] rfl rfl) ?_)
  refine XL.cons (XOp.fieldP (b := b2) (1) Tryz.runUnderlying88 rfl Tryz.sizeOf86 (by decide) rfl rfl ?_)
  refine XL.cons (XOp.load1 (v := bv) Tryz.isAgg86 rfl (Rd.own [] rfl rfl) ?_)
  refine XL.cons (XOp.call (args := [av, bv]) Tryz.call106 rfl (eqMoveS_spec ha hb (hal := (by first | assumption | rfl | omega | simp)) (hbd := (by first | assumption | rfl | omega | simp))) ?_)
  rintro _ _ _ _ ⟨rfl, rfl, rfl⟩
  refine XL.cons (XOp.notD (p := a = b) rfl ?_)
  refine XL.nil ?_
  refine X.condD (p := ¬(a = b)) rfl (fun h2 => ?_) (fun h2 => ?_)
  ·refine X.seq (X.region ?_)
   refine XL.as (.bool (false)) rfl ?_
   refine XL.nil ?_
   refine X.ret (thenQ_ret (retEnd (L' := L) [.bool (false)] (.bool (false)) (.tmp rfl .nil) rfl rF rF (Sub.drop (Sub.drop sR)) ?_))
   exact ⟨(vB (decide_eq_false (by intro e; simp_all))), rfl, rfl⟩
  ·refine X.skip (X.seq (X.region ?_))
   refine XL.as (.bool (true)) rfl ?_
   refine XL.nil ?_
   refine X.ret (retEnd (L' := L) [.bool (true)] (.bool (true)) (.tmp rfl .nil) rfl rF rF (Sub.drop (Sub.drop sR)) ?_)
   exact ⟨(vB (decide_eq_true (by simp_all))), rfl, rfl⟩

/- laws.markMoveS -/
theorem markMoveS_spec {F : FH} {L : List HP} {xv : Value} {x : List MoveT} {z : Int} (hz : 0 ≤ z ∧ z + (((x.flatMap flatMove)).length : Int) ≤ 9000000000) (hnx : x.length ≤ 4000000) :
    Does Tryz.prog 108 [xv, .int .i64 (z)] F (movesD 2 195 xv x :: L) (fun v F' L' => ∃ x' : List MoveT, ((x'.flatMap flatMove)) = iota z ((x.flatMap flatMove)).length ∧ x'.length = x.length ∧ (.int .i64 (z + (((x.flatMap flatMove)).length : Int)) : Value) = v ∧ F = F' ∧ movesD 2 195 xv x' :: L = L') := by
 refine Does.of_X Tryz.func108 rfl rfl rfl ?_
 refine X.openDeep (fun cs Ls hd => ?_)
 refine X.weaken (Sub.front (A := [_])) ?_
 show X _ _ _ _ _ _ (star Ls :: slH 195 4 xv x.length cs :: L)
 refine X.seq (X.region ?_)
 refine XL.as (.int .i64 (0)) rfl ?_
 refine XL.nil (X.seq (X.seq (X.region ?_)))
 refine XL.as (.int .i64 (0)) rfl ?_
 refine XL.nil (X.block ?_)
 refine X.loop (α := Nat × List MoveT × List HP × List Value) (fun xQ => [(0, xv), (1, .int .i64 (z + ((((x.take xQ.1).flatMap flatMove).length : Nat) : Int))), (5, .int .i64 (((xQ.1 : Nat) : Int)))]) (fun xQ => star xQ.2.2.1 :: slH 195 4 xv x.length xQ.2.2.2 :: L) (fun xQ F' => F = F' ∧ (DeepL 4 (MoveO 2) xQ.2.2.2 (xQ.2.1 ++ x.drop xQ.1) xQ.2.2.1) ∧ (xQ.1 ≤ x.length) ∧ (xQ.2.1.length = xQ.1) ∧ (xQ.2.1.flatMap flatMove = iota z ((x.take xQ.1).flatMap flatMove).length)) (fun xQ => x.length - xQ.1) (0, [], Ls, cs) ⟨rfl, (show Value.int .i64 z = .int .i64 (z + ((((x.take 0).flatMap flatMove).length : Nat) : Int)) from congrArg (Value.int .i64) (by simp)), rfl, trivial⟩ (Sub.cons (Sub.cons sR)) ⟨rfl, (hd), (by (try dsimp only) <;> omega), (rfl), (rfl)⟩ ?_
 rintro ⟨k, os, Ls, cs⟩ rE _ _ ⟨rfl, hd, hk, hol, hfl⟩
 show X _ _ _ _ (envs [(0, xv), (1, .int .i64 (z + ((((x.take k).flatMap flatMove).length : Nat) : Int))), (5, .int .i64 ((k : Int)))] rE) _ (star Ls :: slH 195 4 xv x.length cs :: L)
 dsimp only at hd hk hol hfl
 have htl := fun (h : k < x.length) => flat_take_le (f := flatMove) (l := x) ((0 : Int), (0 : Int), false, ([] : List Int)) h
 have hlen : (os ++ x.drop k).length = x.length := by rw [List.length_append, List.length_drop]; omega
 refine X.seq (X.seq (X.region ?_))
 refine XL.mv (.int .i64 ((k : Int))) rfl ?_
 refine XL.mv (xv) rfl ?_
 refine XL.cons (XOp.lenS (v := xv) (n := x.length) Tryz.runUnderlying86 rfl (SlV.own [_] rfl) ?_)
 refine XL.cons (XOp.lss (a := (k : Int)) (b := (x.length : Int)) rfl rfl ?_)
 refine XL.nil ?_
 refine X.condD (p := (k : Int) < (x.length : Int)) rfl (fun h1 => ?_) (fun h1 => ?_)
 ·refine X.skip (X.seq (X.block (X.seq (X.region ?_))))
  have hkx : k < x.length := by omega
  have htl2 := htl hkx
  obtain ⟨A, K, B, es, hLs, hel, hR, hg, hput⟩ := hd.at (d := ((0 : Int), (0 : Int), false, ([] : List Int))) (k := k) (by omega)
  rw [app_getD hol] at hR
  have hself := splice_self hel hg (hd.bound (k := k) (by omega))
  obtain ⟨c, he, hK⟩ := hR
  subst he hK
  have hfp : (flatMove (x.getD k (0, 0, false, []))).length = (x.getD k (0, 0, false, [])).2.2.2.length + 1 + 1 + 1 := rfl
  have hbd := hd.bound (k := k) (by omega)
  subst hLs
  refine XL.weaken (Sub.pull (A := A)) ?_
  show XL _ _ _ _ _ _ _ (intsH 2 c ((x.getD k (0, 0, false, [])).2.2.2) :: star (A ++ B) :: slH 195 4 xv x.length cs :: L)
  skip
  refine XL.mv (xv) rfl ?_
  refine XL.mv (.int .i64 ((k : Int))) rfl ?_
  refine XL.mv (.int .i64 (z + ((((x.take k).flatMap flatMove).length : Nat) : Int))) rfl ?_
  refine XL.cons (XOp.indexS (v := xv) (i := (k : Int)) (n := x.length) k Tryz.runUnderlying86 Tryz.sizeOf195 rfl rfl rfl (SlV.own [_, _] rfl) (by omega) rfl ?_)
  refine XL.cons (XOp.fieldE (v := xv) (k * 4) Tryz.runUnderlying195 rfl Tryz.sizeOf2 (by decide) rfl rfl ?_)
  refine XL.cons (XOp.storeS (i := k * 4) (cs := cs) [_, _] _ Tryz.sizeOf2 rfl rfl rfl rfl (by (try simp only [List.length_set]); omega) ?_)
  refine XL.nil (X.seq (X.region ?_))
  refine XL.mv (.int .i64 (z + ((((x.take k).flatMap flatMove).length : Nat) : Int))) rfl ?_
  refine XL.cons (XOp.addR (a := z + ((((x.take k).flatMap flatMove).length : Nat) : Int)) (b := 1) ((z + ((((x.take k).flatMap flatMove).length : Nat) : Int)) + 1) rfl rfl (by omega) (by omega) ?_)
  refine XL.as (.int .i64 ((z + ((((x.take k).flatMap flatMove).length : Nat) : Int)) + 1)) rfl ?_
  refine XL.nil (X.seq (X.region ?_))
  refine XL.mv (xv) rfl ?_
  refine XL.mv (.int .i64 ((k : Int))) rfl ?_
  refine XL.mv (.int .i64 ((z + ((((x.take k).flatMap flatMove).length : Nat) : Int)) + 1)) rfl ?_
  refine XL.cons (XOp.indexS (v := xv) (i := (k : Int)) (n := x.length) k Tryz.runUnderlying86 Tryz.sizeOf195 rfl rfl rfl (SlV.own [_, _] rfl) (by omega) rfl ?_)
  refine XL.cons (XOp.fieldE (v := xv) (k * 4 + 1) Tryz.runUnderlying195 rfl Tryz.sizeOf2 (by decide) rfl rfl ?_)
  refine XL.cons (XOp.storeS (i := k * 4 + 1) (cs := (cs.set (k * 4) (.int .i64 (z + ((((x.take k).flatMap flatMove).length : Nat) : Int))))) [_, _] _ Tryz.sizeOf2 rfl rfl rfl rfl (by (try simp only [List.length_set]); omega) ?_)
  refine XL.nil (X.seq (X.region ?_))
  refine XL.mv (.int .i64 ((z + ((((x.take k).flatMap flatMove).length : Nat) : Int)) + 1)) rfl ?_
  refine XL.cons (XOp.addR (a := (z + ((((x.take k).flatMap flatMove).length : Nat) : Int)) + 1) (b := 1) (((z + ((((x.take k).flatMap flatMove).length : Nat) : Int)) + 1) + 1) rfl rfl (by omega) (by omega) ?_)
  refine XL.as (.int .i64 (((z + ((((x.take k).flatMap flatMove).length : Nat) : Int)) + 1) + 1)) rfl ?_
  refine XL.nil (X.seq (X.region ?_))
  refine XL.mv (xv) rfl ?_
  refine XL.mv (.int .i64 ((k : Int))) rfl ?_
  refine XL.mv (.int .i64 (((z + ((((x.take k).flatMap flatMove).length : Nat) : Int)) + 1) + 1)) rfl ?_
  refine XL.cons (XOp.remC (a := ((z + ((((x.take k).flatMap flatMove).length : Nat) : Int)) + 1) + 1) (b := 3) rfl rfl (by omega) (by decide) ?_)
  refine XL.cons (XOp.eql (a := (((z + ((((x.take k).flatMap flatMove).length : Nat) : Int)) + 1) + 1) % 3) (b := 0) rfl rfl ?_)
  refine XL.cons (XOp.indexS (v := xv) (i := (k : Int)) (n := x.length) k Tryz.runUnderlying86 Tryz.sizeOf195 rfl rfl rfl (SlV.own [_, _] rfl) (by omega) rfl ?_)
  refine XL.cons (XOp.fieldE (v := xv) (k * 4 + 2) Tryz.runUnderlying195 rfl Tryz.sizeOf4 (by decide) rfl rfl ?_)
  refine XL.cons (XOp.storeS (i := k * 4 + 2) (cs := (((cs.set (k * 4) (.int .i64 (z + ((((x.take k).flatMap flatMove).length : Nat) : Int))))).set (k * 4 + 1) (.int .i64 ((z + ((((x.take k).flatMap flatMove).length : Nat) : Int)) + 1)))) [_, _] _ Tryz.sizeOf4 rfl rfl rfl rfl (by (try simp only [List.length_set]); omega) ?_)
  refine XL.nil (X.seq (X.region ?_))
  refine XL.mv (.int .i64 (((z + ((((x.take k).flatMap flatMove).length : Nat) : Int)) + 1) + 1)) rfl ?_
  refine XL.cons (XOp.addR (a := ((z + ((((x.take k).flatMap flatMove).length : Nat) : Int)) + 1) + 1) (b := 1) ((((z + ((((x.take k).flatMap flatMove).length : Nat) : Int)) + 1) + 1) + 1) rfl rfl (by omega) (by omega) ?_)
  refine XL.as (.int .i64 ((((z + ((((x.take k).flatMap flatMove).length : Nat) : Int)) + 1) + 1) + 1)) rfl ?_
  refine XL.nil (X.region ?_)
  refine XL.mv (xv) rfl ?_
  refine XL.mv (.int .i64 ((k : Int))) rfl ?_
  refine XL.cons (XOp.indexS (v := xv) (i := (k : Int)) (n := x.length) k Tryz.runUnderlying86 Tryz.sizeOf195 rfl rfl rfl (SlV.own [_, _] rfl) (by omega) rfl ?_)
  refine XL.cons (XOp.fieldE (v := xv) (k * 4 + 3) Tryz.runUnderlying195 rfl Tryz.sizeOf22 (by decide) rfl rfl ?_)
  refine XL.cons (XOp.load1 (v := c) Tryz.isAgg22 rfl (Rd.sl [_, _] rfl (by rw [List.getElem?_set_ne (by omega), List.getElem?_set_ne (by omega), List.getElem?_set_ne (by omega)]; exact hg 3 _ rfl)) ?_)
  refine XL.mv (.int .i64 ((((z + ((((x.take k).flatMap flatMove).length : Nat) : Int)) + 1) + 1) + 1)) rfl ?_
  refine XL.cons (XOp.call (args := [c, .int .i64 ((((z + ((((x.take k).flatMap flatMove).length : Nat) : Int)) + 1) + 1) + 1)]) Tryz.call26 rfl (markInt64S_spec (by omega)) ?_)
  rintro _ _ _ _ ⟨m1, hm1, rfl, rfl, rfl⟩
  have hml1 := congrArg List.length hm1
  rw [iota_len] at hml1
  try simp only [List.length_append] at hml1
  refine XL.as (.int .i64 (((((z + ((((x.take k).flatMap flatMove).length : Nat) : Int)) + 1) + 1) + 1) + (((((x.getD k (0, 0, false, [])).2.2.2))).length : Int))) rfl ?_
  refine XL.nil (X.region ?_)
  refine XL.weaken (Sub.cons (Sub.cons (Sub.cons sR))) ?_
  refine XL.weaken (Sub.push (A := A) (K := [intsH 2 c m1]) (B := B)) ?_
  show XL _ _ _ _ _ _ _ (star (A ++ ([intsH 2 c m1] ++ B)) :: slH 195 4 xv x.length ((((((cs.set (k * 4) (.int .i64 (z + ((((x.take k).flatMap flatMove).length : Nat) : Int))))).set (k * 4 + 1) (.int .i64 ((z + ((((x.take k).flatMap flatMove).length : Nat) : Int)) + 1)))).set (k * 4 + 2) (.bool (decide (((((z + ((((x.take k).flatMap flatMove).length : Nat) : Int)) + 1) + 1) % 3 : Int) = 0))))) :: L)
  have hdn := hput [.int .i64 (z + ((((x.take k).flatMap flatMove).length : Nat) : Int)), .int .i64 ((z + ((((x.take k).flatMap flatMove).length : Nat) : Int)) + 1), .bool (decide (((z + ((((x.take k).flatMap flatMove).length : Nat) : Int)) + 1 + 1) % 3 = 0)), c] ((z + ((((x.take k).flatMap flatMove).length : Nat) : Int)), (z + ((((x.take k).flatMap flatMove).length : Nat) : Int)) + 1, decide (((z + ((((x.take k).flatMap flatMove).length : Nat) : Int)) + 1 + 1) % 3 = 0), m1) _ rfl ⟨c, rfl, rfl⟩
  rw [← set_four (hg 0 _ rfl) (hg 1 _ rfl) (hg 2 _ rfl) (hg 3 _ rfl), app_set hol hkx] at hdn
  have hfm : flatMove ((z + ((((x.take k).flatMap flatMove).length : Nat) : Int)), (z + ((((x.take k).flatMap flatMove).length : Nat) : Int)) + 1, decide (((z + ((((x.take k).flatMap flatMove).length : Nat) : Int)) + 1 + 1) % 3 = 0), m1) = (z + ((((x.take k).flatMap flatMove).length : Nat) : Int)) :: ((z + ((((x.take k).flatMap flatMove).length : Nat) : Int)) + 1) :: ((z + ((((x.take k).flatMap flatMove).length : Nat) : Int)) + 1 + 1) :: m1 := by unfold flatMove; dsimp only; rw [if_pos rfl]
  have hfx : flatMove ((z + ((((x.take k).flatMap flatMove).length : Nat) : Int)), (z + ((((x.take k).flatMap flatMove).length : Nat) : Int)) + 1, decide (((z + ((((x.take k).flatMap flatMove).length : Nat) : Int)) + 1 + 1) % 3 = 0), m1) = iota (z + ((((x.take k).flatMap flatMove).length : Nat) : Int)) (flatMove (x.getD k (0, 0, false, []))).length := by rw [hfm, hfp, iota_cons, iota_cons, iota_cons]; congr 3
  have hnext : (z + ((((x.take k).flatMap flatMove).length : Nat) : Int)) + 1 + 1 + 1 + ((x.getD k (0, 0, false, [])).2.2.2.length : Int) = z + ((((x.take (k + 1)).flatMap flatMove).length : Nat) : Int) := by rw [flatMap_take_succ flatMove (0, 0, false, []) hkx, List.length_append, hfp]; omega
  skip
  refine XL.mv (.int .i64 ((k : Int))) rfl ?_
  refine XL.cons (XOp.addR (a := (k : Int)) (b := 1) (((k + 1 : Nat) : Int)) rfl rfl (by omega) (by omega) ?_)
  refine XL.as (.int .i64 (((k + 1 : Nat) : Int))) rfl ?_
  refine XL.nil ?_
  exact ⟨(k + 1, os ++ [((z + ((((x.take k).flatMap flatMove).length : Nat) : Int)), (z + ((((x.take k).flatMap flatMove).length : Nat) : Int)) + 1, decide (((z + ((((x.take k).flatMap flatMove).length : Nat) : Int)) + 1 + 1) % 3 = 0), m1)], A ++ ([intsH 2 c m1] ++ B), (((((cs.set (k * 4) (.int .i64 (z + ((((x.take k).flatMap flatMove).length : Nat) : Int))))).set (k * 4 + 1) (.int .i64 ((z + ((((x.take k).flatMap flatMove).length : Nat) : Int)) + 1)))).set (k * 4 + 2) (.bool (decide (((((z + ((((x.take k).flatMap flatMove).length : Nat) : Int)) + 1) + 1) % 3 : Int) = 0))))), _, FLe.refl _, rF, ⟨rfl, (vI hnext), rfl, trivial⟩, (Sub.cons (Sub.cons sR)), ⟨rfl, (hdn), (by (try dsimp only) <;> omega), (by simp [hol]), (marked (d := ((0 : Int), (0 : Int), false, ([] : List Int))) (by omega) hfl hfx)⟩, (by omega)⟩
 ·refine X.exit (thenQ_exit (thenQ_exit (blockQ_exit ?_)))
  refine X.seq (X.region ?_)
  refine XL.mv (.int .i64 (z + ((((x.take k).flatMap flatMove).length : Nat) : Int))) rfl ?_
  refine XL.as (.int .i64 (z + ((((x.take k).flatMap flatMove).length : Nat) : Int))) rfl ?_
  refine XL.nil ?_
  refine X.ret (retEnd (L' := movesD 2 195 xv os :: L) [.int .i64 (z + ((((x.take k).flatMap flatMove).length : Nat) : Int))] (.int .i64 (z + ((((x.take k).flatMap flatMove).length : Nat) : Int))) (.tmp rfl .nil) rfl rF rF (Sub.trans (Sub.front (A := [_])) (Sub.closeDeep (by rw [app_all (by omega)] at hd; exact hd) (by omega))) ?_)
  rw [app_all (by omega)] at hd
  have hkl : k = x.length := by omega
  exact ⟨os, by rw [hfl, hkl, List.take_length], by omega, by rw [hkl, List.take_length], rfl, rfl⟩

/- laws.markChain -/
theorem markChain_spec {F : FH} {L : List HP} {xv : Value} {x : List Int} {yv : Value} {y : List MoveT} {z : Int} (hz : 0 ≤ z ∧ z + (((x) ++ (y.flatMap flatMove)).length : Int) ≤ 9000000000) (hny : y.length ≤ 4000000) :
    Does Tryz.prog 44 [.agg #[xv, yv], .int .i64 (z)] F (intsH 2 xv x :: movesD 2 195 yv y :: L) (fun v F' L' => ∃ x' : List Int, ∃ y' : List MoveT, ((x') ++ (y'.flatMap flatMove)) = iota z ((x) ++ (y.flatMap flatMove)).length ∧ y'.length = y.length ∧ (.int .i64 (z + (((x) ++ (y.flatMap flatMove)).length : Int)) : Value) = v ∧ F = F' ∧ intsH 2 xv x' :: movesD 2 195 yv y' :: L = L') := by
 refine Does.of_X Tryz.func44 rfl rfl rfl ?_
 have hlx : ((x) ++ (y.flatMap flatMove)).length = x.length + (y.flatMap flatMove).length := List.length_append
 refine X.seq (X.region ?_)
 refine XL.cons (XOp.box [xv, yv] rfl rfl ?_)
 intro b1
 refine XL.as (.int .i64 (0)) rfl ?_
 refine XL.nil (X.seq (X.region ?_))
 refine XL.cons (XOp.fieldP (b := b1) (0) Tryz.runUnderlying88 rfl Tryz.sizeOf22 (by decide) rfl rfl ?_)
 refine XL.cons (XOp.load1 (v := xv) Tryz.isAgg22 rfl (Rd.own [] rfl rfl) ?_)
 refine XL.mv (.int .i64 (z)) rfl ?_
 refine XL.weaken (Sub.front (A := [_])) ?_
 show XL _ _ _ _ _ _ _ (intsH 2 xv x :: cellsH b1 [xv, yv] 88 :: movesD 2 195 yv y :: L)
 refine XL.cons (XOp.call (args := [xv, .int .i64 (z)]) Tryz.call26 rfl (markInt64S_spec (by omega)) ?_)
 rintro _ _ _ _ ⟨m1, hm1, rfl, rfl, rfl⟩
 have hml1 := congrArg List.length hm1
 rw [iota_len] at hml1
 try simp only [List.length_append] at hml1
 refine XL.as (.int .i64 (z + (((x)).length : Int))) rfl ?_
 refine XL.nil (X.seq (X.region ?_))
 refine XL.cons (XOp.fieldP (b := b1) (1) Tryz.runUnderlying88 rfl Tryz.sizeOf86 (by decide) rfl rfl ?_)
 refine XL.cons (XOp.load1 (v := yv) Tryz.isAgg86 rfl (Rd.own [_] rfl rfl) ?_)
 refine XL.mv (.int .i64 (z + (((x)).length : Int))) rfl ?_
 refine XL.weaken (Sub.front (A := [_, _])) ?_
 show XL _ _ _ _ _ _ _ (movesD 2 195 yv y :: intsH 2 xv m1 :: cellsH b1 [xv, yv] 88 :: L)
 refine XL.cons (XOp.call (args := [yv, .int .i64 (z + (((x)).length : Int))]) Tryz.call108 rfl (markMoveS_spec (by omega) (by omega)) ?_)
 rintro _ _ _ _ ⟨m2, hm2, hk1, rfl, rfl, rfl⟩
 have hml2 := congrArg List.length hm2
 rw [iota_len] at hml2
 try simp only [List.length_append] at hml2
 refine XL.as (.int .i64 ((z + (((x)).length : Int)) + (((y.flatMap flatMove)).length : Int))) rfl ?_
 refine XL.nil (X.seq (X.region ?_))
 refine XL.mv (.int .i64 ((z + (((x)).length : Int)) + (((y.flatMap flatMove)).length : Int))) rfl ?_
 refine XL.as (.int .i64 ((z + (((x)).length : Int)) + (((y.flatMap flatMove)).length : Int))) rfl ?_
 refine XL.nil ?_
 refine X.ret (retEnd (L' := intsH 2 xv m1 :: movesD 2 195 yv m2 :: L) [.int .i64 ((z + (((x)).length : Int)) + (((y.flatMap flatMove)).length : Int))] (.int .i64 ((z + (((x)).length : Int)) + (((y.flatMap flatMove)).length : Int))) (.tmp rfl .nil) rfl rF rF (Sub.trans (Sub.front (A := [_])) (Sub.cons (Sub.cons (Sub.drop sR)))) ?_)
 exact ⟨m1, m2, by rw [List.length_append, iota_add, hm1, hm2], (by assumption), congrArg (Value.int .i64) (by first | rfl | (simp only [List.length_append]; omega)), rfl, rfl⟩

/- laws.heldMoveS -/
theorem heldMoveS_spec {F : FH} {L : List HP} {xv : Value} {x : List MoveT} (hx : MovesF F xv x) {z : Int} (hzb : 0 ≤ z ∧ z + ((x.flatMap flatMove).length : Int) ≤ 9000000000) (hxl : x.length ≤ 4000000) :
    Does Tryz.prog 109 [xv, .int .i64 (z)] F (L) (fun v F' L' => (.int .i64 (heldF (x.flatMap flatMove) z) : Value) = v ∧ F = F' ∧ L = L') := by
 refine Does.of_X Tryz.func109 rfl rfl rfl ?_
 refine X.seq (X.region ?_)
 refine XL.as (.int .i64 (0)) rfl ?_
 refine XL.nil (X.seq (X.seq (X.region ?_)))
 refine XL.as (.int .i64 (0)) rfl ?_
 refine XL.nil (X.block ?_)
 refine X.loop (α := Nat) (fun k => [(0, xv), (1, .int .i64 (heldF ((x.take k).flatMap flatMove) z)), (5, .int .i64 ((k : Int)))]) (fun k => L) (fun k F' => F = F' ∧ (k ≤ x.length) ∧ (0 ≤ heldF ((x.take k).flatMap flatMove) z)) (fun k => x.length - k) 0 ⟨rfl, (show Value.int .i64 z = .int .i64 (heldF ((x.take 0).flatMap flatMove) z) from congrArg (Value.int .i64) (by simp [heldF_nil])), rfl, trivial⟩ sR ⟨rfl, (by (try dsimp only) <;> omega), (by simp [heldF_nil]; omega)⟩ ?_
 rintro k rE _ _ ⟨rfl, hk, hnn⟩
 show X _ _ _ _ (envs [(0, xv), (1, .int .i64 (heldF ((x.take k).flatMap flatMove) z)), (5, .int .i64 ((k : Int)))] rE) _ (L)
 have hhp := heldF_pos (a := (x.take k).flatMap flatMove) (k := z) (by omega)
 have htl := fun (h : k < x.length) => flat_take_le (f := flatMove) (l := x) ((0 : Int), (0 : Int), false, ([] : List Int)) h
 have hnx := fun (h : k < x.length) => held_next (f := flatMove) (l := x) (k := k) ((0 : Int), (0 : Int), false, ([] : List Int)) hzb.1 h (by omega)
 have hsx : k < x.length → (flatMove (x.getD k (0, 0, false, []))).length = (x.getD k (0, 0, false, [])).2.2.2.length + 1 + 1 + 1 := fun _ => rfl
 have hun : k < x.length → heldF (flatMove (x.getD k (0, 0, false, []))) (heldF ((x.take k).flatMap flatMove) z) = (if (x.getD k (0, 0, false, [])).1 = heldF ((x.take k).flatMap flatMove) z then (if (x.getD k (0, 0, false, [])).2.1 = heldF ((x.take k).flatMap flatMove) z + 1 then (if (x.getD k (0, 0, false, [])).2.2.1 = decide ((heldF ((x.take k).flatMap flatMove) z + 1 + 1) % 3 = 0) then heldF (x.getD k (0, 0, false, [])).2.2.2 (heldF ((x.take k).flatMap flatMove) z + 1 + 1 + 1) else -1) else -1) else -1) := fun _ => held_move hnn
 refine X.seq (X.seq (X.region ?_))
 refine XL.mv (.int .i64 ((k : Int))) rfl ?_
 refine XL.mv (xv) rfl ?_
 refine XL.cons (XOp.lenS (v := xv) (n := (x).length) Tryz.runUnderlying86 rfl hx.slv ?_)
 refine XL.cons (XOp.lss (a := (k : Int)) (b := (x.length : Int)) rfl rfl ?_)
 refine XL.nil ?_
 refine X.condD (p := (k : Int) < (x.length : Int)) rfl (fun h1 => ?_) (fun h1 => ?_)
 ·refine X.skip (X.seq (X.block (X.seq (X.seq (X.region ?_)))))
  refine XL.mv (xv) rfl ?_
  refine XL.mv (.int .i64 ((k : Int))) rfl ?_
  refine XL.cons (XOp.indexS (v := xv) (i := (k : Int)) (n := (x).length) k Tryz.runUnderlying86 Tryz.sizeOf195 rfl rfl rfl hx.slv (by omega) rfl ?_)
  refine XL.cons (XOp.fieldE (v := xv) (k * 4) Tryz.runUnderlying195 rfl Tryz.sizeOf2 (by decide) rfl rfl ?_)
  obtain ⟨a1, ha1, hrg1, hq1⟩ := hx.rd (i := k) (by omega)
  refine XL.cons (XOp.load1 (v := .int .i64 ((x.getD k (0, 0, false, [])).1)) Tryz.isAgg2 rfl (hrg1 _ 0 _ rfl) ?_)
  refine XL.mv (.int .i64 (heldF ((x.take k).flatMap flatMove) z)) rfl ?_
  refine XL.cons (XOp.neq (a := (x.getD k (0, 0, false, [])).1) (b := heldF ((x.take k).flatMap flatMove) z) rfl rfl ?_)
  refine XL.nil ?_
  refine X.condD (p := ((x.getD k (0, 0, false, [])).1 : Int) ≠ heldF ((x.take k).flatMap flatMove) z) rfl (fun h2 => ?_) (fun h2 => ?_)
  ·refine X.seq (X.region ?_)
   refine XL.as (.int .i64 (-1)) rfl ?_
   refine XL.nil ?_
   refine X.ret (thenQ_ret (blockQ_ret (thenQ_ret (thenQ_ret (blockQ_ret (thenQ_ret (retEnd (L' := L) [.int .i64 (-1)] (.int .i64 (-1)) (.tmp rfl .nil) rfl rF rF sR ?_)))))))
   exact ⟨(vI (by exact held_fail (k := k) ((0 : Int), (0 : Int), false, ([] : List Int)) hzb.1 (by omega) (by rw [hnx (by omega), hun (by omega), if_neg (by assumption)]; omega))), rfl, rfl⟩
  ·refine X.skip (X.seq (X.region ?_))
   refine XL.mv (.int .i64 (heldF ((x.take k).flatMap flatMove) z)) rfl ?_
   refine XL.cons (XOp.addR (a := heldF ((x.take k).flatMap flatMove) z) (b := 1) ((heldF ((x.take k).flatMap flatMove) z) + 1) rfl rfl (by omega) (by omega) ?_)
   refine XL.as (.int .i64 ((heldF ((x.take k).flatMap flatMove) z) + 1)) rfl ?_
   refine XL.nil (X.seq (X.seq (X.region ?_)))
   refine XL.mv (xv) rfl ?_
   refine XL.mv (.int .i64 ((k : Int))) rfl ?_
   refine XL.cons (XOp.indexS (v := xv) (i := (k : Int)) (n := (x).length) k Tryz.runUnderlying86 Tryz.sizeOf195 rfl rfl rfl hx.slv (by omega) rfl ?_)
   refine XL.cons (XOp.fieldE (v := xv) (k * 4 + 1) Tryz.runUnderlying195 rfl Tryz.sizeOf2 (by decide) rfl rfl ?_)
   refine XL.cons (XOp.load1 (v := .int .i64 ((x.getD k (0, 0, false, [])).2.1)) Tryz.isAgg2 rfl (hrg1 _ 1 _ rfl) ?_)
   refine XL.mv (.int .i64 ((heldF ((x.take k).flatMap flatMove) z) + 1)) rfl ?_
   refine XL.cons (XOp.neq (a := (x.getD k (0, 0, false, [])).2.1) (b := (heldF ((x.take k).flatMap flatMove) z) + 1) rfl rfl ?_)
   refine XL.nil ?_
   refine X.condD (p := ((x.getD k (0, 0, false, [])).2.1 : Int) ≠ (heldF ((x.take k).flatMap flatMove) z) + 1) rfl (fun h3 => ?_) (fun h3 => ?_)
   ·refine X.seq (X.region ?_)
    refine XL.as (.int .i64 (-1)) rfl ?_
    refine XL.nil ?_
    refine X.ret (thenQ_ret (blockQ_ret (thenQ_ret (thenQ_ret (blockQ_ret (thenQ_ret (retEnd (L' := L) [.int .i64 (-1)] (.int .i64 (-1)) (.tmp rfl .nil) rfl rF rF sR ?_)))))))
    exact ⟨(vI (by exact held_fail (k := k) ((0 : Int), (0 : Int), false, ([] : List Int)) hzb.1 (by omega) (by rw [hnx (by omega), hun (by omega), if_pos (by first | assumption | exact Classical.not_not.1 (by assumption)), if_neg (by assumption)]; omega))), rfl, rfl⟩
   ·refine X.skip (X.seq (X.region ?_))
    refine XL.mv (.int .i64 ((heldF ((x.take k).flatMap flatMove) z) + 1)) rfl ?_
    refine XL.cons (XOp.addR (a := (heldF ((x.take k).flatMap flatMove) z) + 1) (b := 1) (((heldF ((x.take k).flatMap flatMove) z) + 1) + 1) rfl rfl (by omega) (by omega) ?_)
    refine XL.as (.int .i64 (((heldF ((x.take k).flatMap flatMove) z) + 1) + 1)) rfl ?_
    refine XL.nil (X.seq (X.seq (X.region ?_)))
    refine XL.mv (xv) rfl ?_
    refine XL.mv (.int .i64 ((k : Int))) rfl ?_
    refine XL.cons (XOp.indexS (v := xv) (i := (k : Int)) (n := (x).length) k Tryz.runUnderlying86 Tryz.sizeOf195 rfl rfl rfl hx.slv (by omega) rfl ?_)
    refine XL.cons (XOp.fieldE (v := xv) (k * 4 + 2) Tryz.runUnderlying195 rfl Tryz.sizeOf4 (by decide) rfl rfl ?_)
    refine XL.cons (XOp.load1 (v := .bool ((x.getD k (0, 0, false, [])).2.2.1)) Tryz.isAgg4 rfl (hrg1 _ 2 _ rfl) ?_)
    refine XL.mv (.int .i64 (((heldF ((x.take k).flatMap flatMove) z) + 1) + 1)) rfl ?_
    refine XL.cons (XOp.remC (a := ((heldF ((x.take k).flatMap flatMove) z) + 1) + 1) (b := 3) rfl rfl (by omega) (by decide) ?_)
    refine XL.cons (XOp.eql (a := (((heldF ((x.take k).flatMap flatMove) z) + 1) + 1) % 3) (b := 0) rfl rfl ?_)
    refine XL.cons (XOp.neB (a := (x.getD k (0, 0, false, [])).2.2.1) (b := decide (((((heldF ((x.take k).flatMap flatMove) z) + 1) + 1) % 3 : Int) = 0)) Tryz.runUnderlying4 rfl rfl ?_)
    refine XL.nil ?_
    refine X.condD (p := ((x.getD k (0, 0, false, [])).2.2.1) ≠ (decide (((((heldF ((x.take k).flatMap flatMove) z) + 1) + 1) % 3 : Int) = 0))) rfl (fun h4 => ?_) (fun h4 => ?_)
    ·refine X.seq (X.region ?_)
     refine XL.as (.int .i64 (-1)) rfl ?_
     refine XL.nil ?_
     refine X.ret (thenQ_ret (blockQ_ret (thenQ_ret (thenQ_ret (blockQ_ret (thenQ_ret (retEnd (L' := L) [.int .i64 (-1)] (.int .i64 (-1)) (.tmp rfl .nil) rfl rF rF sR ?_)))))))
     exact ⟨(vI (by exact held_fail (k := k) ((0 : Int), (0 : Int), false, ([] : List Int)) hzb.1 (by omega) (by rw [hnx (by omega), hun (by omega), if_pos (by first | assumption | exact Classical.not_not.1 (by assumption)), if_pos (by first | assumption | exact Classical.not_not.1 (by assumption)), if_neg (by assumption)]; omega))), rfl, rfl⟩
    ·refine X.skip (X.seq (X.region ?_))
     refine XL.mv (.int .i64 (((heldF ((x.take k).flatMap flatMove) z) + 1) + 1)) rfl ?_
     refine XL.cons (XOp.addR (a := ((heldF ((x.take k).flatMap flatMove) z) + 1) + 1) (b := 1) ((((heldF ((x.take k).flatMap flatMove) z) + 1) + 1) + 1) rfl rfl (by omega) (by omega) ?_)
     refine XL.as (.int .i64 ((((heldF ((x.take k).flatMap flatMove) z) + 1) + 1) + 1)) rfl ?_
     refine XL.nil (X.seq (X.region ?_))
     refine XL.mv (xv) rfl ?_
     refine XL.mv (.int .i64 ((k : Int))) rfl ?_
     refine XL.cons (XOp.indexS (v := xv) (i := (k : Int)) (n := (x).length) k Tryz.runUnderlying86 Tryz.sizeOf195 rfl rfl rfl hx.slv (by omega) rfl ?_)
     refine XL.cons (XOp.fieldE (v := xv) (k * 4 + 3) Tryz.runUnderlying195 rfl Tryz.sizeOf22 (by decide) rfl rfl ?_)
     refine XL.cons (XOp.load1 (v := a1) Tryz.isAgg22 rfl (hrg1 _ 3 _ rfl) ?_)
     refine XL.mv (.int .i64 ((((heldF ((x.take k).flatMap flatMove) z) + 1) + 1) + 1)) rfl ?_
     refine XL.cons (XOp.call (args := [a1, .int .i64 ((((heldF ((x.take k).flatMap flatMove) z) + 1) + 1) + 1)]) Tryz.call27 rfl (heldInt64S_spec (z := (((heldF ((x.take k).flatMap flatMove) z) + 1) + 1) + 1) ha1 (hzb := (by first | assumption | rfl | omega | simp))) ?_)
     rintro _ _ _ _ ⟨rfl, rfl, rfl⟩
     refine XL.as (.int .i64 (heldF ((x.getD k (0, 0, false, [])).2.2.2) ((((heldF ((x.take k).flatMap flatMove) z) + 1) + 1) + 1))) rfl ?_
     refine XL.nil (X.seq (X.region ?_))
     refine XL.mv (.int .i64 (heldF ((x.getD k (0, 0, false, [])).2.2.2) ((((heldF ((x.take k).flatMap flatMove) z) + 1) + 1) + 1))) rfl ?_
     refine XL.cons (XOp.lss (a := heldF ((x.getD k (0, 0, false, [])).2.2.2) ((((heldF ((x.take k).flatMap flatMove) z) + 1) + 1) + 1)) (b := 0) rfl rfl ?_)
     refine XL.nil ?_
     refine X.condD (p := (heldF ((x.getD k (0, 0, false, [])).2.2.2) ((((heldF ((x.take k).flatMap flatMove) z) + 1) + 1) + 1) : Int) < 0) rfl (fun h5 => ?_) (fun h5 => ?_)
     ·refine X.seq (X.region ?_)
      refine XL.as (.int .i64 (-1)) rfl ?_
      refine XL.nil ?_
      refine X.ret (blockQ_ret (thenQ_ret (thenQ_ret (blockQ_ret (thenQ_ret (retEnd (L' := L) [.int .i64 (-1)] (.int .i64 (-1)) (.tmp rfl .nil) rfl rF rF sR ?_))))))
      exact ⟨(vI (by exact held_fail (k := k) ((0 : Int), (0 : Int), false, ([] : List Int)) hzb.1 (by omega) (by rw [hnx (by omega), hun (by omega), if_pos (by first | assumption | exact Classical.not_not.1 (by assumption)), if_pos (by first | assumption | exact Classical.not_not.1 (by assumption)), if_pos (by first | assumption | exact Classical.not_not.1 (by assumption))]; omega))), rfl, rfl⟩
     ·refine X.skip (X.region ?_)
      refine XL.mv (.int .i64 ((k : Int))) rfl ?_
      refine XL.cons (XOp.addR (a := (k : Int)) (b := 1) (((k + 1 : Nat) : Int)) rfl rfl (by omega) (by omega) ?_)
      refine XL.as (.int .i64 (((k + 1 : Nat) : Int))) rfl ?_
      refine XL.nil ?_
      exact ⟨k + 1, _, FLe.refl _, rF, ⟨rfl, (vI (by rw [hnx (by omega), hun (by omega), if_pos (by first | assumption | exact Classical.not_not.1 (by assumption)), if_pos (by first | assumption | exact Classical.not_not.1 (by assumption)), if_pos (by first | assumption | exact Classical.not_not.1 (by assumption))])), rfl, trivial⟩, sR, ⟨rfl, (by (try dsimp only) <;> omega), (by (try dsimp only); rw [hnx (by omega), hun (by omega), if_pos (by first | assumption | exact Classical.not_not.1 (by assumption)), if_pos (by first | assumption | exact Classical.not_not.1 (by assumption)), if_pos (by first | assumption | exact Classical.not_not.1 (by assumption))]; omega)⟩, (by omega)⟩
 ·refine X.exit (thenQ_exit (thenQ_exit (blockQ_exit ?_)))
  refine X.seq (X.region ?_)
  refine XL.mv (.int .i64 (heldF ((x.take k).flatMap flatMove) z)) rfl ?_
  refine XL.as (.int .i64 (heldF ((x.take k).flatMap flatMove) z)) rfl ?_
  refine XL.nil ?_
  refine X.ret (retEnd (L' := L) [.int .i64 (heldF ((x.take k).flatMap flatMove) z)] (.int .i64 (heldF ((x.take k).flatMap flatMove) z)) (.tmp rfl .nil) rfl rF rF sR ?_)
  exact ⟨(vI (by rw [List.take_of_length_le (by omega)])), rfl, rfl⟩

/- laws.heldChain -/
theorem heldChain_spec {F : FH} {L : List HP} {fv : Value} {f : List Int} (hf : IntsF F fv f) {xv : Value} {x : List MoveT} (hx : MovesF F xv x) {z : Int} (hzb : 0 ≤ z ∧ z + ((f.length + (x.flatMap flatMove).length : Nat) : Int) ≤ 9000000000) (hxl : x.length ≤ 4000000) :
    Does Tryz.prog 45 [.agg #[fv, xv], .int .i64 (z)] F (L) (fun v F' L' => (.int .i64 (heldF (f ++ x.flatMap flatMove) z) : Value) = v ∧ F = F' ∧ L = L') := by
 refine Does.of_X Tryz.func45 rfl rfl rfl ?_
 have hh1 := heldF_range (xs := f) hzb.1
 refine X.seq (X.region ?_)
 refine XL.cons (XOp.box [fv, xv] rfl rfl ?_)
 intro b1
 refine XL.as (.int .i64 (0)) rfl ?_
 refine XL.nil (X.seq (X.region ?_))
 refine XL.cons (XOp.fieldP (b := b1) (0) Tryz.runUnderlying88 rfl Tryz.sizeOf22 (by decide) rfl rfl ?_)
 refine XL.cons (XOp.load1 (v := fv) Tryz.isAgg22 rfl (Rd.own [] rfl rfl) ?_)
 refine XL.mv (.int .i64 (z)) rfl ?_
 refine XL.cons (XOp.call (args := [fv, .int .i64 (z)]) Tryz.call27 rfl (heldInt64S_spec (z := z) hf (hzb := (by first | assumption | rfl | omega | simp))) ?_)
 rintro _ _ _ _ ⟨rfl, rfl, rfl⟩
 refine XL.as (.int .i64 (heldF f z)) rfl ?_
 refine XL.nil (X.seq (X.seq (X.region ?_)))
 refine XL.mv (.int .i64 (heldF f z)) rfl ?_
 refine XL.cons (XOp.lss (a := heldF f z) (b := 0) rfl rfl ?_)
 refine XL.nil ?_
 refine X.condD (p := (heldF f z : Int) < 0) rfl (fun h1 => ?_) (fun h1 => ?_)
 ·refine X.seq (X.region ?_)
  refine XL.as (.int .i64 (-1)) rfl ?_
  refine XL.nil ?_
  refine X.ret (thenQ_ret (retEnd (L' := L) [.int .i64 (-1)] (.int .i64 (-1)) (.tmp rfl .nil) rfl rF rF (Sub.drop sR) ?_))
  exact ⟨(vI (by rw [heldF_append hzb.1, if_pos (by omega)])), rfl, rfl⟩
 ·refine X.skip (X.seq (X.region ?_))
  refine XL.cons (XOp.fieldP (b := b1) (1) Tryz.runUnderlying88 rfl Tryz.sizeOf86 (by decide) rfl rfl ?_)
  refine XL.cons (XOp.load1 (v := xv) Tryz.isAgg86 rfl (Rd.own [] rfl rfl) ?_)
  refine XL.mv (.int .i64 (heldF f z)) rfl ?_
  refine XL.cons (XOp.call (args := [xv, .int .i64 (heldF f z)]) Tryz.call109 rfl (heldMoveS_spec (z := heldF f z) hx (hzb := (by first | assumption | rfl | omega | simp)) (hxl := (by first | assumption | rfl | omega | simp))) ?_)
  rintro _ _ _ _ ⟨rfl, rfl, rfl⟩
  refine XL.as (.int .i64 (heldF (x.flatMap flatMove) (heldF f z))) rfl ?_
  refine XL.nil (X.seq (X.seq (X.region ?_)))
  refine XL.mv (.int .i64 (heldF (x.flatMap flatMove) (heldF f z))) rfl ?_
  refine XL.cons (XOp.lss (a := heldF (x.flatMap flatMove) (heldF f z)) (b := 0) rfl rfl ?_)
  refine XL.nil ?_
  refine X.condD (p := (heldF (x.flatMap flatMove) (heldF f z) : Int) < 0) rfl (fun h2 => ?_) (fun h2 => ?_)
  ·refine X.seq (X.region ?_)
   refine XL.as (.int .i64 (-1)) rfl ?_
   refine XL.nil ?_
   refine X.ret (thenQ_ret (retEnd (L' := L) [.int .i64 (-1)] (.int .i64 (-1)) (.tmp rfl .nil) rfl rF rF (Sub.drop sR) ?_))
   exact ⟨(vI (by rw [heldF_append hzb.1, if_neg (by omega)]; have := (heldF_range (xs := x.flatMap flatMove) (k := heldF f z) (by omega)).1; omega)), rfl, rfl⟩
  ·refine X.skip (X.seq (X.region ?_))
   refine XL.mv (.int .i64 (heldF (x.flatMap flatMove) (heldF f z))) rfl ?_
   refine XL.as (.int .i64 (heldF (x.flatMap flatMove) (heldF f z))) rfl ?_
   refine XL.nil ?_
   refine X.ret (retEnd (L' := L) [.int .i64 (heldF (x.flatMap flatMove) (heldF f z))] (.int .i64 (heldF (x.flatMap flatMove) (heldF f z))) (.tmp rfl .nil) rfl rF rF (Sub.drop sR) ?_)
   exact ⟨(vI (by rw [heldF_append hzb.1, if_neg (by omega)])), rfl, rfl⟩

/- laws.FnExactChainOfJoin -/
set_option maxRecDepth 20000 in
theorem FnExactChainOfJoin_does {F : FH} {L : List HP} {arv : Value} {ar : List Int} (har : IntsF F arv ar) {rsv : Value} {rs : List (List Int × List Int)} (hrs : PairsF F rsv rs) {fv : Value} {f : List Int} (hf : IntsF F fv f) {xsv : Value} {xs : List StepT} (hxs : StepsF F xsv xs) {gv : Value} {g : List Int} (hg : IntsF F gv g) {ysv : Value} {ys : List StepT} (hys : StepsF F ysv ys) (hlar : ar.length ≤ 9223372036854775807) (hlrs : rs.length ≤ 9223372036854775807) (hbrs : ∀ i, i < rs.length → (rs.getD i ([], [])).1.length ≤ 9223372036854775807 ∧ (rs.getD i ([], [])).2.length ≤ 9223372036854775807) (hlf : f.length ≤ 9223372036854775807) (hlxs : xs.length ≤ 9223372036854775807) (hbxs : ∀ i, i < xs.length → (xs.getD i (0, 0, [])).2.2.length ≤ 9223372036854775807) (hlg : g.length ≤ 9223372036854775807) (hlys : ys.length ≤ 9223372036854775807) (hbys : ∀ i, i < ys.length → (ys.getD i (0, 0, [])).2.2.length ≤ 9223372036854775807) :
    Does Tryz.prog 6 [.agg #[arv, rsv], .agg #[fv, xsv], .agg #[gv, ysv]] F (L) (fun v F' L' => (.bool (true) : Value) = v ∧ F = F' ∧ L = L') := by
 refine Does.of_X Tryz.func6 rfl rfl rfl ?_
 have hnb : ChainB (chainJF ar rs f xs g ys).1 (chainJF ar rs f xs g ys).2.1 := chainJF_bound
 have hnc := hnb.1
 have hnd := hnb.2.1
 have hne := hnb.2.2.1
 have hnf := hnb.2.2.2
 refine X.seq (X.region ?_)
 refine XL.cons (XOp.box [arv, rsv] rfl rfl ?_)
 intro b1
 refine XL.cons (XOp.box [fv, xsv] rfl rfl ?_)
 intro b2
 refine XL.cons (XOp.box [gv, ysv] rfl rfl ?_)
 intro b3
 refine XL.as (.bool (false)) rfl ?_
 refine XL.nil (X.seq (X.region ?_))
 refine XL.as (.int .i64 (1048576)) rfl ?_
 refine XL.nil (X.seq (X.region ?_))
 refine XL.cons (XOp.loadN [arv, rsv] Tryz.isAgg27 Tryz.sizeOf27 rfl rfl (Rd.ownN [_, _] rfl rfl) ?_)
 refine XL.mv (.int .i64 (1048576)) rfl ?_
 refine XL.cons (XOp.call (args := [.agg #[arv, rsv], .int .i64 (1048576)]) Tryz.call7 rfl (szSystem_spec (z := 1048576) har hrs (hz := (by first | assumption | rfl | omega | simp)) (hal := (by first | assumption | rfl | omega | simp)) (hrl := (by first | assumption | rfl | omega | simp)) (hrb := (by first | assumption | rfl | omega | simp))) ?_)
 rintro _ _ _ _ ⟨rfl, rfl, rfl⟩
 refine XL.as (.int .i64 (dec 1048576 (ar.length + szR rs))) rfl ?_
 refine XL.nil (X.seq (X.seq (X.region ?_)))
 refine XL.mv (.int .i64 (dec 1048576 (ar.length + szR rs))) rfl ?_
 refine XL.cons (XOp.lss (a := dec 1048576 (ar.length + szR rs)) (b := 0) rfl rfl ?_)
 refine XL.nil ?_
 refine X.condD (p := (dec 1048576 (ar.length + szR rs) : Int) < 0) rfl (fun h1 => ?_) (fun h1 => ?_)
 ·refine X.seq (X.region ?_)
  refine XL.as (.bool (true)) rfl ?_
  refine XL.nil ?_
  refine X.ret (thenQ_ret (retEnd (L' := L) [.bool (true)] (.bool (true)) (.tmp rfl .nil) rfl rF rF (Sub.drop (Sub.drop (Sub.drop sR))) ?_))
  exact ⟨rfl, rfl, rfl⟩
 ·have hd1 := dec_le2 h1 (by omega)
  have hzrs := szR_le (rs := rs)
  have hirs := hzrs.2
  have hcrs : ∀ i, i < rs.length → (rs.getD i ([], [])).1.length ≤ 4000000 ∧ (rs.getD i ([], [])).2.length ≤ 4000000 := fun i hi => by have := hirs i hi; omega
  have hfrs := flatPair_len rs
  refine X.skip (X.seq (X.region ?_))
  refine XL.cons (XOp.loadN [fv, xsv] Tryz.isAgg31 Tryz.sizeOf31 rfl rfl (Rd.ownN [_] rfl rfl) ?_)
  refine XL.mv (.int .i64 (dec 1048576 (ar.length + szR rs))) rfl ?_
  refine XL.cons (XOp.call (args := [.agg #[fv, xsv], .int .i64 (dec 1048576 (ar.length + szR rs))]) Tryz.call9 rfl (szWalk_spec (z := dec 1048576 (ar.length + szR rs)) hf hxs (hz := (by first | assumption | rfl | omega | simp)) (hal := (by first | assumption | rfl | omega | simp)) (hrl := (by first | assumption | rfl | omega | simp)) (hrb := (by first | assumption | rfl | omega | simp))) ?_)
  rintro _ _ _ _ ⟨rfl, rfl, rfl⟩
  refine XL.as (.int .i64 (dec (dec 1048576 (ar.length + szR rs)) (f.length + szG lenS xs))) rfl ?_
  refine XL.nil (X.seq (X.seq (X.region ?_)))
  refine XL.mv (.int .i64 (dec (dec 1048576 (ar.length + szR rs)) (f.length + szG lenS xs))) rfl ?_
  refine XL.cons (XOp.lss (a := dec (dec 1048576 (ar.length + szR rs)) (f.length + szG lenS xs)) (b := 0) rfl rfl ?_)
  refine XL.nil ?_
  refine X.condD (p := (dec (dec 1048576 (ar.length + szR rs)) (f.length + szG lenS xs) : Int) < 0) rfl (fun h2 => ?_) (fun h2 => ?_)
  ·refine X.seq (X.region ?_)
   refine XL.as (.bool (true)) rfl ?_
   refine XL.nil ?_
   refine X.ret (thenQ_ret (retEnd (L' := L) [.bool (true)] (.bool (true)) (.tmp rfl .nil) rfl rF rF (Sub.drop (Sub.drop (Sub.drop sR))) ?_))
   exact ⟨rfl, rfl, rfl⟩
  ·have hd2 := dec_le2 h2 (by omega)
   have hzxs := szG_le (f := lenS) (l := xs) ((0 : Int), (0 : Int), ([] : List Int))
   have hixs := hzxs.2
   have hcxs : ∀ i, i < xs.length → (xs.getD i (0, 0, [])).2.2.length ≤ 4000000 := fun i hi => by have h9 := hixs i hi; have h8 : lenS (xs.getD i (0, 0, [])) = (xs.getD i (0, 0, [])).2.2.length := rfl; omega
   have hfxs := flatStep_len xs
   have hq9xs : szG lenS xs = xs.length + gTo lenS xs xs.length := rfl
   refine X.skip (X.seq (X.region ?_))
   refine XL.cons (XOp.loadN [gv, ysv] Tryz.isAgg31 Tryz.sizeOf31 rfl rfl (Rd.ownN [] rfl rfl) ?_)
   refine XL.mv (.int .i64 (dec (dec 1048576 (ar.length + szR rs)) (f.length + szG lenS xs))) rfl ?_
   refine XL.cons (XOp.call (args := [.agg #[gv, ysv], .int .i64 (dec (dec 1048576 (ar.length + szR rs)) (f.length + szG lenS xs))]) Tryz.call9 rfl (szWalk_spec (z := dec (dec 1048576 (ar.length + szR rs)) (f.length + szG lenS xs)) hg hys (hz := (by first | assumption | rfl | omega | simp)) (hal := (by first | assumption | rfl | omega | simp)) (hrl := (by first | assumption | rfl | omega | simp)) (hrb := (by first | assumption | rfl | omega | simp))) ?_)
   rintro _ _ _ _ ⟨rfl, rfl, rfl⟩
   refine XL.as (.int .i64 (dec (dec (dec 1048576 (ar.length + szR rs)) (f.length + szG lenS xs)) (g.length + szG lenS ys))) rfl ?_
   refine XL.nil (X.seq (X.seq (X.region ?_)))
   refine XL.mv (.int .i64 (dec (dec (dec 1048576 (ar.length + szR rs)) (f.length + szG lenS xs)) (g.length + szG lenS ys))) rfl ?_
   refine XL.cons (XOp.lss (a := dec (dec (dec 1048576 (ar.length + szR rs)) (f.length + szG lenS xs)) (g.length + szG lenS ys)) (b := 0) rfl rfl ?_)
   refine XL.nil ?_
   refine X.condD (p := (dec (dec (dec 1048576 (ar.length + szR rs)) (f.length + szG lenS xs)) (g.length + szG lenS ys) : Int) < 0) rfl (fun h3 => ?_) (fun h3 => ?_)
   ·refine X.seq (X.region ?_)
    refine XL.as (.bool (true)) rfl ?_
    refine XL.nil ?_
    refine X.ret (thenQ_ret (retEnd (L' := L) [.bool (true)] (.bool (true)) (.tmp rfl .nil) rfl rF rF (Sub.drop (Sub.drop (Sub.drop sR))) ?_))
    exact ⟨rfl, rfl, rfl⟩
   ·have hd3 := dec_le2 h3 (by omega)
    have hzys := szG_le (f := lenS) (l := ys) ((0 : Int), (0 : Int), ([] : List Int))
    have hiys := hzys.2
    have hcys : ∀ i, i < ys.length → (ys.getD i (0, 0, [])).2.2.length ≤ 4000000 := fun i hi => by have h9 := hiys i hi; have h8 : lenS (ys.getD i (0, 0, [])) = (ys.getD i (0, 0, [])).2.2.length := rfl; omega
    have hfys := flatStep_len ys
    have hq9ys : szG lenS ys = ys.length + gTo lenS ys ys.length := rfl
    refine X.skip (X.seq ?_)
    refine X.drawG [cellsH b3 [gv, ysv] 31, cellsH b2 [fv, xsv] 31, cellsH b1 [arv, rsv] 27] L 12 [[], [], [], [], [], [], [], [6], [6], [], [], [6, 10]] [[], [0], [], [2], [], [4], [1, 3, 5], [6], [6, 7], [6, 7], [], [6, 8, 10]] [[], [], [], [], [], [], [], [], [], [], [], [10]] (phiG [fun FF us v => v = (.agg #[arv, rsv] : Value), fun FF us v => (.agg #[((aggAt v 0)), ((aggAt v 1))] : Value) = v ∧ (IntsF FF ((aggAt v 0)) ar) ∧ (PairsF FF ((aggAt v 1)) rs), fun FF us v => v = (.agg #[fv, xsv] : Value), fun FF us v => (.agg #[((aggAt v 0)), ((aggAt v 1))] : Value) = v ∧ (IntsF FF ((aggAt v 0)) f) ∧ (StepsF FF ((aggAt v 1)) xs), fun FF us v => v = (.agg #[gv, ysv] : Value), fun FF us v => (.agg #[((aggAt v 0)), ((aggAt v 1))] : Value) = v ∧ (IntsF FF ((aggAt v 0)) g) ∧ (StepsF FF ((aggAt v 1)) ys), fun FF us v => (.tuple #[.agg #[((aggAt (tupAt v 0) 0)), ((aggAt (tupAt v 0) 1))], .bool ((chainJF ar rs f xs g ys).2.2)] : Value) = v ∧ (IntsF FF ((aggAt (tupAt v 0) 0)) (chainJF ar rs f xs g ys).1) ∧ (MovesF FF ((aggAt (tupAt v 0) 1)) (chainJF ar rs f xs g ys).2.1), fun FF us v => v = (.tuple #[.agg #[((aggAt (tupAt (us.getD 0 undef) 0) 0)), ((aggAt (tupAt (us.getD 0 undef) 0) 1))], .bool ((chainJF ar rs f xs g ys).2.2)] : Value), fun FF us v => v = (.agg #[((aggAt (tupAt (us.getD 0 undef) 0) 0)), ((aggAt (tupAt (us.getD 0 undef) 0) 1))] : Value), fun FF us v => v = (.bool ((chainJF ar rs f xs g ys).2.2) : Value), fun FF us v => v = ptr (blk v) 0, fun FF us v => True]) (ownL [fun us v => [], fun us v => [], fun us v => [], fun us v => [], fun us v => [], fun us v => [], fun us v => [], fun us v => [], fun us v => [], fun us v => [], fun us v => [cellsH (blk v) [(.slice none 0 0), (.slice none 0 0)] 88], fun us v => [cellsH (blk (us.getD 1 undef)) [((aggAt (tupAt (us.getD 0 undef) 0) 0)), ((aggAt (tupAt (us.getD 0 undef) 0) 1))] 88]]) mixed rfl rfl (by kernel_rfl) (by kernel_rfl) (MonoG.get (MonoG.cons (fun le h => h) (MonoG.cons (fun le h => ⟨h.1, h.2.1.mono le, h.2.2.mono le⟩) (MonoG.cons (fun le h => h) (MonoG.cons (fun le h => ⟨h.1, h.2.1.mono le, h.2.2.mono le⟩) (MonoG.cons (fun le h => h) (MonoG.cons (fun le h => ⟨h.1, h.2.1.mono le, h.2.2.mono le⟩) (MonoG.cons (fun le h => ⟨h.1, h.2.1.mono le, h.2.2.mono le⟩) (MonoG.cons (fun le h => h) (MonoG.cons (fun le h => h) (MonoG.cons (fun le h => h) (MonoG.cons (fun le h => h) (MonoG.cons (fun le h => h) MonoG.nil))))))))))))) ?_ ?_
    ·refine stepsG.cons (fun vals Fs R leFs hpZ => ?_) ?_
     ·replace har := har.mono leFs
      replace hrs := hrs.mono leFs
      replace hf := hf.mono leFs
      replace hxs := hxs.mono leFs
      replace hg := hg.mono leFs
      replace hys := hys.mono leFs
      refine XG.op (XOp.loadN [arv, rsv] Tryz.isAgg27 Tryz.sizeOf27 rfl rfl (Rd.ownN [_, _] rfl rfl) ?_)
      exact ⟨rfl, rfl⟩
     refine stepsG.cons (fun vals Fs R leFs hpZ => ?_) ?_
     ·replace har := har.mono leFs
      replace hrs := hrs.mono leFs
      replace hf := hf.mono leFs
      replace hxs := hxs.mono leFs
      replace hg := hg.mono leFs
      replace hys := hys.mono leFs
      rw [eS (l := [(0, (.agg #[arv, rsv] : Value))]) ⟨(hpZ 0 (by decide)), trivial⟩]
      refine XG.op (XOp.call (args := [.agg #[arv, rsv]]) Tryz.call11 rfl (toSystem_spec har hrs (hla := (by first | assumption | rfl | omega | simp)) (hrl := (by first | assumption | rfl | omega | simp)) (hrb := (by first | assumption | rfl | omega | simp))) ?_)
      rintro _ F5 _ le5 ⟨x9, x10, rfl, hr12, hr13, hr14, rfl⟩
      replace har := har.mono le5
      replace hrs := hrs.mono le5
      replace hf := hf.mono le5
      replace hxs := hxs.mono le5
      replace hg := hg.mono le5
      replace hys := hys.mono le5
      exact ⟨⟨rfl, hr12, hr13⟩, rfl⟩
     refine stepsG.cons (fun vals Fs R leFs hpZ => ?_) ?_
     ·replace har := har.mono leFs
      replace hrs := hrs.mono leFs
      replace hf := hf.mono leFs
      replace hxs := hxs.mono leFs
      replace hg := hg.mono leFs
      replace hys := hys.mono leFs
      refine XG.op (XOp.loadN [fv, xsv] Tryz.isAgg31 Tryz.sizeOf31 rfl rfl (Rd.ownN [_] rfl rfl) ?_)
      exact ⟨rfl, rfl⟩
     refine stepsG.cons (fun vals Fs R leFs hpZ => ?_) ?_
     ·replace har := har.mono leFs
      replace hrs := hrs.mono leFs
      replace hf := hf.mono leFs
      replace hxs := hxs.mono leFs
      replace hg := hg.mono leFs
      replace hys := hys.mono leFs
      rw [eS (l := [(2, (.agg #[fv, xsv] : Value))]) ⟨(hpZ 2 (by decide)), trivial⟩]
      refine XG.op (XOp.call (args := [.agg #[fv, xsv]]) Tryz.call13 rfl (toWalk_spec hf hxs (hfl := (by first | assumption | rfl | omega | simp)) (hsl := (by first | assumption | rfl | omega | simp)) (hsb := (by first | assumption | rfl | omega | simp))) ?_)
      rintro _ F6 _ le6 ⟨x11, x12, rfl, hr15, hr16, hr17, rfl⟩
      replace har := har.mono le6
      replace hrs := hrs.mono le6
      replace hf := hf.mono le6
      replace hxs := hxs.mono le6
      replace hg := hg.mono le6
      replace hys := hys.mono le6
      exact ⟨⟨rfl, hr15, hr16⟩, rfl⟩
     refine stepsG.cons (fun vals Fs R leFs hpZ => ?_) ?_
     ·replace har := har.mono leFs
      replace hrs := hrs.mono leFs
      replace hf := hf.mono leFs
      replace hxs := hxs.mono leFs
      replace hg := hg.mono leFs
      replace hys := hys.mono leFs
      refine XG.op (XOp.loadN [gv, ysv] Tryz.isAgg31 Tryz.sizeOf31 rfl rfl (Rd.ownN [] rfl rfl) ?_)
      exact ⟨rfl, rfl⟩
     refine stepsG.cons (fun vals Fs R leFs hpZ => ?_) ?_
     ·replace har := har.mono leFs
      replace hrs := hrs.mono leFs
      replace hf := hf.mono leFs
      replace hxs := hxs.mono leFs
      replace hg := hg.mono leFs
      replace hys := hys.mono leFs
      rw [eS (l := [(4, (.agg #[gv, ysv] : Value))]) ⟨(hpZ 4 (by decide)), trivial⟩]
      refine XG.op (XOp.call (args := [.agg #[gv, ysv]]) Tryz.call13 rfl (toWalk_spec hg hys (hfl := (by first | assumption | rfl | omega | simp)) (hsl := (by first | assumption | rfl | omega | simp)) (hsb := (by first | assumption | rfl | omega | simp))) ?_)
      rintro _ F7 _ le7 ⟨x13, x14, rfl, hr18, hr19, hr20, rfl⟩
      replace har := har.mono le7
      replace hrs := hrs.mono le7
      replace hf := hf.mono le7
      replace hxs := hxs.mono le7
      replace hg := hg.mono le7
      replace hys := hys.mono le7
      exact ⟨⟨rfl, hr18, hr19⟩, rfl⟩
     refine stepsG.cons (fun vals Fs R leFs hpZ => ?_) ?_
     ·obtain ⟨e1, f1_1hr1, f1_1hr2⟩ := hpZ 1 (by decide)
      obtain ⟨e3, f3_1hr1, f3_1hr2⟩ := hpZ 3 (by decide)
      obtain ⟨e5, f5_1hr1, f5_1hr2⟩ := hpZ 5 (by decide)
      replace har := har.mono leFs
      replace hrs := hrs.mono leFs
      replace hf := hf.mono leFs
      replace hxs := hxs.mono leFs
      replace hg := hg.mono leFs
      replace hys := hys.mono leFs
      rw [eS (l := [(1, (.agg #[((aggAt (vals 1) 0)), ((aggAt (vals 1) 1))] : Value)), (3, (.agg #[((aggAt (vals 3) 0)), ((aggAt (vals 3) 1))] : Value)), (5, (.agg #[((aggAt (vals 5) 0)), ((aggAt (vals 5) 1))] : Value))]) ⟨(e1).symm, (e3).symm, (e5).symm, trivial⟩]
      refine XG.op (XOp.call (args := [.agg #[((aggAt (vals 1) 0)), ((aggAt (vals 1) 1))], .agg #[((aggAt (vals 3) 0)), ((aggAt (vals 3) 1))], .agg #[((aggAt (vals 5) 0)), ((aggAt (vals 5) 1))]]) Tryz.call40 rfl (sChainOfJoin_spec f1_1hr1 f1_1hr2 f3_1hr1 f3_1hr2 f5_1hr1 f5_1hr2 (hla := (by first | assumption | rfl | omega | simp)) (hlr := (by first | assumption | rfl | omega | simp)) (hrb := (by first | assumption | rfl | omega | simp)) (hlf := (by first | assumption | rfl | omega | simp)) (hlss := (by first | assumption | rfl | omega | simp)) (hsb := (by first | assumption | rfl | omega | simp)) (hlg := (by first | assumption | rfl | omega | simp)) (hlys := (by first | assumption | rfl | omega | simp)) (hyb := (by first | assumption | rfl | omega | simp))) ?_)
      rintro _ F8 _ le8 ⟨x15, x16, rfl, hr21, hr22, rfl⟩
      replace har := har.mono le8
      replace hrs := hrs.mono le8
      replace hf := hf.mono le8
      replace hxs := hxs.mono le8
      replace hg := hg.mono le8
      replace hys := hys.mono le8
      replace f1_1hr1 := f1_1hr1.mono le8
      replace f1_1hr2 := f1_1hr2.mono le8
      replace f3_1hr1 := f3_1hr1.mono le8
      replace f3_1hr2 := f3_1hr2.mono le8
      replace f5_1hr1 := f5_1hr1.mono le8
      replace f5_1hr2 := f5_1hr2.mono le8
      exact ⟨⟨rfl, hr21, hr22⟩, rfl⟩
     refine stepsG.cons (fun vals Fs R leFs hpZ => ?_) ?_
     ·obtain ⟨e6, f6_1hr1, f6_1hr2⟩ := hpZ 6 (by decide)
      rw [eS (l := [(6, (.tuple #[.agg #[((aggAt (tupAt (vals 6) 0) 0)), ((aggAt (tupAt (vals 6) 0) 1))], .bool ((chainJF ar rs f xs g ys).2.2)] : Value))]) ⟨(e6).symm, trivial⟩]
      refine XG.op (XOp.move (.tuple #[.agg #[((aggAt (tupAt (vals 6) 0) 0)), ((aggAt (tupAt (vals 6) 0) 1))], .bool ((chainJF ar rs f xs g ys).2.2)]) rfl ?_)
      exact ⟨rfl, rfl⟩
     refine stepsG.cons (fun vals Fs R leFs hpZ => ?_) ?_
     ·obtain ⟨e6, f6_1hr1, f6_1hr2⟩ := hpZ 6 (by decide)
      have e7 : vals 7 = (.tuple #[.agg #[((aggAt (tupAt (vals 6) 0) 0)), ((aggAt (tupAt (vals 6) 0) 1))], .bool ((chainJF ar rs f xs g ys).2.2)] : Value) := hpZ 7 (by decide)
      rw [eS (l := [(6, (.tuple #[.agg #[((aggAt (tupAt (vals 6) 0) 0)), ((aggAt (tupAt (vals 6) 0) 1))], .bool ((chainJF ar rs f xs g ys).2.2)] : Value)), (7, (.tuple #[.agg #[((aggAt (tupAt (vals 6) 0) 0)), ((aggAt (tupAt (vals 6) 0) 1))], .bool ((chainJF ar rs f xs g ys).2.2)] : Value))]) ⟨(e6).symm, e7, trivial⟩]
      refine XG.op (XOp.extract (.agg #[((aggAt (tupAt (vals 6) 0) 0)), ((aggAt (tupAt (vals 6) 0) 1))]) rfl rfl ?_)
      exact ⟨rfl, rfl⟩
     refine stepsG.cons (fun vals Fs R leFs hpZ => ?_) ?_
     ·obtain ⟨e6, f6_1hr1, f6_1hr2⟩ := hpZ 6 (by decide)
      have e7 : vals 7 = (.tuple #[.agg #[((aggAt (tupAt (vals 6) 0) 0)), ((aggAt (tupAt (vals 6) 0) 1))], .bool ((chainJF ar rs f xs g ys).2.2)] : Value) := hpZ 7 (by decide)
      rw [eS (l := [(6, (.tuple #[.agg #[((aggAt (tupAt (vals 6) 0) 0)), ((aggAt (tupAt (vals 6) 0) 1))], .bool ((chainJF ar rs f xs g ys).2.2)] : Value)), (7, (.tuple #[.agg #[((aggAt (tupAt (vals 6) 0) 0)), ((aggAt (tupAt (vals 6) 0) 1))], .bool ((chainJF ar rs f xs g ys).2.2)] : Value))]) ⟨(e6).symm, e7, trivial⟩]
      refine XG.op (XOp.extract (.bool ((chainJF ar rs f xs g ys).2.2)) rfl rfl ?_)
      exact ⟨rfl, rfl⟩
     refine stepsG.cons (fun vals Fs R leFs hpZ => ?_) ?_
     ·replace har := har.mono leFs
      replace hrs := hrs.mono leFs
      replace hf := hf.mono leFs
      replace hxs := hxs.mono leFs
      replace hg := hg.mono leFs
      replace hys := hys.mono leFs
      refine XG.op (XOp.alloc [(.slice none 0 0), (.slice none 0 0)] Tryz.zeroValue88 rfl ?_)
      intro b5
      exact ⟨rfl, rfl⟩
     refine stepsG.cons (fun vals Fs R leFs hpZ => ?_) ?_
     ·obtain ⟨e6, f6_1hr1, f6_1hr2⟩ := hpZ 6 (by decide)
      have e8 : vals 8 = (.agg #[((aggAt (tupAt (vals 6) 0) 0)), ((aggAt (tupAt (vals 6) 0) 1))] : Value) := hpZ 8 (by decide)
      have e10 : vals 10 = ptr (blk (vals 10)) 0 := hpZ 10 (by decide)
      replace har := har.mono leFs
      replace hrs := hrs.mono leFs
      replace hf := hf.mono leFs
      replace hxs := hxs.mono leFs
      replace hg := hg.mono leFs
      replace hys := hys.mono leFs
      rw [eS (l := [(6, (.tuple #[.agg #[((aggAt (tupAt (vals 6) 0) 0)), ((aggAt (tupAt (vals 6) 0) 1))], .bool ((chainJF ar rs f xs g ys).2.2)] : Value)), (8, (.agg #[((aggAt (tupAt (vals 6) 0) 0)), ((aggAt (tupAt (vals 6) 0) 1))] : Value)), (10, ptr (blk (vals 10)) 0)]) ⟨(e6).symm, e8, e10, trivial⟩]
      show XG _ _ _ _ _ (cellsH (blk (vals 10)) [(.slice none 0 0), (.slice none 0 0)] 88 :: ([cellsH b3 [gv, ysv] 31, cellsH b2 [fv, xsv] 31, cellsH b1 [arv, rsv] 27] ++ R)) _
      refine XG.op (XOp.storeN (vs := [((aggAt (tupAt (vals 6) 0) 0)), ((aggAt (tupAt (vals 6) 0) 1))]) [] _ [((aggAt (tupAt (vals 6) 0) 0)), ((aggAt (tupAt (vals 6) 0) 1))] Tryz.sizeOf88 rfl rfl rfl (ones_cons (one_sl (IntsF.isSl f6_1hr1)) (ones_cons (one_sl (MovesF.isSl f6_1hr2)) ones_nil)) rfl rfl rfl ?_)
      exact ⟨trivial, rfl⟩
     exact stepsG.nil
    ·intro vals F9 le9 hphi
     obtain ⟨e1, f1_1hr1, f1_1hr2⟩ := hphi 1 (by decide)
     obtain ⟨e3, f3_1hr1, f3_1hr2⟩ := hphi 3 (by decide)
     obtain ⟨e5, f5_1hr1, f5_1hr2⟩ := hphi 5 (by decide)
     obtain ⟨e6, f6_1hr1, f6_1hr2⟩ := hphi 6 (by decide)
     have e7 : vals 7 = (.tuple #[.agg #[((aggAt (tupAt (vals 6) 0) 0)), ((aggAt (tupAt (vals 6) 0) 1))], .bool ((chainJF ar rs f xs g ys).2.2)] : Value) := hphi 7 (by decide)
     have e8 : vals 8 = (.agg #[((aggAt (tupAt (vals 6) 0) 0)), ((aggAt (tupAt (vals 6) 0) 1))] : Value) := hphi 8 (by decide)
     have e10 : vals 10 = ptr (blk (vals 10)) 0 := hphi 10 (by decide)
     generalize hu1 : ((aggAt (vals 1) 0)) = u1 at e1 f1_1hr1 f1_1hr2 e3 f3_1hr1 f3_1hr2 e5 f5_1hr1 f5_1hr2 e6 f6_1hr1 f6_1hr2 e7 e8 e10
     generalize hu2 : ((aggAt (vals 1) 1)) = u2 at e1 f1_1hr1 f1_1hr2 e3 f3_1hr1 f3_1hr2 e5 f5_1hr1 f5_1hr2 e6 f6_1hr1 f6_1hr2 e7 e8 e10
     generalize hu3 : ((aggAt (vals 3) 0)) = u3 at e1 f1_1hr1 f1_1hr2 e3 f3_1hr1 f3_1hr2 e5 f5_1hr1 f5_1hr2 e6 f6_1hr1 f6_1hr2 e7 e8 e10
     generalize hu4 : ((aggAt (vals 3) 1)) = u4 at e1 f1_1hr1 f1_1hr2 e3 f3_1hr1 f3_1hr2 e5 f5_1hr1 f5_1hr2 e6 f6_1hr1 f6_1hr2 e7 e8 e10
     generalize hu5 : ((aggAt (vals 5) 0)) = u5 at e1 f1_1hr1 f1_1hr2 e3 f3_1hr1 f3_1hr2 e5 f5_1hr1 f5_1hr2 e6 f6_1hr1 f6_1hr2 e7 e8 e10
     generalize hu6 : ((aggAt (vals 5) 1)) = u6 at e1 f1_1hr1 f1_1hr2 e3 f3_1hr1 f3_1hr2 e5 f5_1hr1 f5_1hr2 e6 f6_1hr1 f6_1hr2 e7 e8 e10
     generalize hu7 : ((aggAt (tupAt (vals 6) 0) 0)) = u7 at e1 f1_1hr1 f1_1hr2 e3 f3_1hr1 f3_1hr2 e5 f5_1hr1 f5_1hr2 e6 f6_1hr1 f6_1hr2 e7 e8 e10
     generalize hu8 : ((aggAt (tupAt (vals 6) 0) 1)) = u8 at e1 f1_1hr1 f1_1hr2 e3 f3_1hr1 f3_1hr2 e5 f5_1hr1 f5_1hr2 e6 f6_1hr1 f6_1hr2 e7 e8 e10
     generalize hu9 : blk (vals 10) = b6 at e1 f1_1hr1 f1_1hr2 e3 f3_1hr1 f3_1hr2 e5 f5_1hr1 f5_1hr2 e6 f6_1hr1 f6_1hr2 e7 e8 e10
     rw [eS (l := [(0, (.agg #[arv, rsv] : Value)), (1, (.agg #[u1, u2] : Value)), (2, (.agg #[fv, xsv] : Value)), (3, (.agg #[u3, u4] : Value)), (4, (.agg #[gv, ysv] : Value)), (5, (.agg #[u5, u6] : Value)), (6, (.tuple #[.agg #[u7, u8], .bool ((chainJF ar rs f xs g ys).2.2)] : Value)), (7, (.tuple #[.agg #[u7, u8], .bool ((chainJF ar rs f xs g ys).2.2)] : Value)), (8, (.agg #[u7, u8] : Value)), (9, (.bool ((chainJF ar rs f xs g ys).2.2) : Value)), (10, ptr b6 0)]) ⟨(hphi 0 (by decide)), (e1).symm, (hphi 2 (by decide)), (e3).symm, (hphi 4 (by decide)), (e5).symm, (e6).symm, e7, e8, (hphi 9 (by decide)), e10, trivial⟩]
     replace har := har.mono le9
     replace hrs := hrs.mono le9
     replace hf := hf.mono le9
     replace hxs := hxs.mono le9
     replace hg := hg.mono le9
     replace hys := hys.mono le9
     show XL _ _ _ _ _ _ _ (cellsH b6 [u7, u8] 88 :: cellsH b3 [gv, ysv] 31 :: cellsH b2 [fv, xsv] 31 :: cellsH b1 [arv, rsv] 27 :: L)
     refine XL.as (.bool ((chainJF ar rs f xs g ys).2.2)) rfl ?_
     refine XL.nil (X.seq (X.region ?_))
     refine XL.cons (XOp.loadN [arv, rsv] Tryz.isAgg27 Tryz.sizeOf27 rfl rfl (Rd.ownN [_, _, _] rfl rfl) ?_)
     refine XL.cons (XOp.thawL ?_)
     refine id (XOp.call (args := [.agg #[arv, rsv]]) Tryz.call11 rfl (toSystem_spec har hrs (hla := (by first | assumption | rfl | omega | simp)) (hrl := (by first | assumption | rfl | omega | simp)) (hrb := (by first | assumption | rfl | omega | simp))) ?_)
     rintro _ F10 _ le10 ⟨x17, x18, rfl, hr23, hr24, hr25, rfl⟩
     refine ⟨[intsH 2 x17 ar, pairsD 2 161 x18 rs], hr25, ?_⟩
     show XL _ _ _ _ _ _ _ (intsH 2 x17 ar :: pairsD 2 161 x18 rs :: cellsH b6 [u7, u8] 88 :: cellsH b3 [gv, ysv] 31 :: cellsH b2 [fv, xsv] 31 :: cellsH b1 [arv, rsv] 27 :: L)
     refine XL.cons (XOp.alloc [(.slice none 0 0), (.slice none 0 0)] Tryz.zeroValue39 rfl ?_)
     intro b7
     refine XL.cons (XOp.storeN (vs := [x17, x18]) [] _ [x17, x18] Tryz.sizeOf39 rfl rfl rfl (ones_cons (one_sl (IntsF.isSl hr23)) (ones_cons (one_sl (PairsF.isSl hr24)) ones_nil)) rfl rfl rfl ?_)
     refine XL.nil (X.seq (X.region ?_))
     refine XL.cons (XOp.loadN [fv, xsv] Tryz.isAgg31 Tryz.sizeOf31 rfl rfl (Rd.ownN [_, _, _, _, _] rfl rfl) ?_)
     refine XL.cons (XOp.thawL ?_)
     refine id (XOp.call (args := [.agg #[fv, xsv]]) Tryz.call13 rfl (toWalk_spec hf hxs (hfl := (by first | assumption | rfl | omega | simp)) (hsl := (by first | assumption | rfl | omega | simp)) (hsb := (by first | assumption | rfl | omega | simp))) ?_)
     rintro _ F11 _ le11 ⟨x19, x20, rfl, hr26, hr27, hr28, rfl⟩
     refine ⟨[intsH 2 x19 f, stepsD 2 158 x20 xs], hr28, ?_⟩
     show XL _ _ _ _ _ _ _ (intsH 2 x19 f :: stepsD 2 158 x20 xs :: cellsH b7 [x17, x18] 39 :: intsH 2 x17 ar :: pairsD 2 161 x18 rs :: cellsH b6 [u7, u8] 88 :: cellsH b3 [gv, ysv] 31 :: cellsH b2 [fv, xsv] 31 :: cellsH b1 [arv, rsv] 27 :: L)
     refine XL.cons (XOp.alloc [(.slice none 0 0), (.slice none 0 0)] Tryz.zeroValue45 rfl ?_)
     intro b8
     refine XL.cons (XOp.storeN (vs := [x19, x20]) [] _ [x19, x20] Tryz.sizeOf45 rfl rfl rfl (ones_cons (one_sl (IntsF.isSl hr26)) (ones_cons (one_sl (StepsF.isSl hr27)) ones_nil)) rfl rfl rfl ?_)
     refine XL.nil (X.seq (X.region ?_))
     refine XL.cons (XOp.loadN [gv, ysv] Tryz.isAgg31 Tryz.sizeOf31 rfl rfl (Rd.ownN [_, _, _, _, _, _, _] rfl rfl) ?_)
     refine XL.cons (XOp.thawL ?_)
     refine id (XOp.call (args := [.agg #[gv, ysv]]) Tryz.call13 rfl (toWalk_spec hg hys (hfl := (by first | assumption | rfl | omega | simp)) (hsl := (by first | assumption | rfl | omega | simp)) (hsb := (by first | assumption | rfl | omega | simp))) ?_)
     rintro _ F12 _ le12 ⟨x21, x22, rfl, hr29, hr30, hr31, rfl⟩
     refine ⟨[intsH 2 x21 g, stepsD 2 158 x22 ys], hr31, ?_⟩
     show XL _ _ _ _ _ _ _ (intsH 2 x21 g :: stepsD 2 158 x22 ys :: cellsH b8 [x19, x20] 45 :: intsH 2 x19 f :: stepsD 2 158 x20 xs :: cellsH b7 [x17, x18] 39 :: intsH 2 x17 ar :: pairsD 2 161 x18 rs :: cellsH b6 [u7, u8] 88 :: cellsH b3 [gv, ysv] 31 :: cellsH b2 [fv, xsv] 31 :: cellsH b1 [arv, rsv] 27 :: L)
     refine XL.cons (XOp.alloc [(.slice none 0 0), (.slice none 0 0)] Tryz.zeroValue45 rfl ?_)
     intro b9
     refine XL.cons (XOp.storeN (vs := [x21, x22]) [] _ [x21, x22] Tryz.sizeOf45 rfl rfl rfl (ones_cons (one_sl (IntsF.isSl hr29)) (ones_cons (one_sl (StepsF.isSl hr30)) ones_nil)) rfl rfl rfl ?_)
     refine XL.nil (X.seq (X.region ?_))
     refine XL.cons (XOp.loadN [x17, x18] Tryz.isAgg39 Tryz.sizeOf39 rfl rfl (Rd.ownN [_, _, _, _, _, _] rfl rfl) ?_)
     refine XL.cons (XOp.loadN [x19, x20] Tryz.isAgg45 Tryz.sizeOf45 rfl rfl (Rd.ownN [_, _, _] rfl rfl) ?_)
     refine XL.cons (XOp.loadN [x21, x22] Tryz.isAgg45 Tryz.sizeOf45 rfl rfl (Rd.ownN [] rfl rfl) ?_)
     refine XL.cons (XOp.lend [_, _, _, _, _, _, _] _ _ rfl (fun F13 le13 hz1 => ?_))
     refine id (XOp.lend [_, _, _, _, _, _, _] _ _ rfl (fun F14 le14 hz2 => ?_))
     refine id (XOp.lend [_, _, _, _] _ _ rfl (fun F15 le15 hz3 => ?_))
     refine id (XOp.lend [_, _, _, _] _ _ rfl (fun F16 le16 hz4 => ?_))
     refine id (XOp.lend [_] _ _ rfl (fun F17 le17 hz5 => ?_))
     refine id (XOp.lend [_] _ _ rfl (fun F18 le18 hz6 => ?_))
     have hf1 : IntsF _ x17 ar := (intsH.fz (xs := ar) hz1).mono (FLe.trans (FLe.trans (FLe.trans (FLe.trans le14 le15) le16) le17) le18)
     have hf2 : PairsF _ x18 rs := (pairsD.fz hz2).mono (FLe.trans (FLe.trans (FLe.trans le15 le16) le17) le18)
     have hf3 : IntsF _ x19 f := (intsH.fz (xs := f) hz3).mono (FLe.trans (FLe.trans le16 le17) le18)
     have hf4 : StepsF _ x20 xs := (stepsD.fz hz4).mono (FLe.trans le17 le18)
     have hf5 : IntsF _ x21 g := (intsH.fz (xs := g) hz5).mono le18
     have hf6 : StepsF _ x22 ys := stepsD.fz hz6
     refine id (XOp.thawL ?_)
     refine id (XOp.call (args := [.agg #[x17, x18], .agg #[x19, x20], .agg #[x21, x22]]) Tryz.call41 rfl (ChainOfJoin_spec hf1 hf2 hf3 hf4 hf5 hf6 (hlf := (by first | assumption | rfl | omega | simp)) (hsb := (by first | assumption | rfl | omega | simp)) (hlg := (by first | assumption | rfl | omega | simp)) (hyb := (by first | assumption | rfl | omega | simp))) ?_)
     rintro _ F19 _ le19 ⟨x23, x24, rfl, hr32, hr33, hr34, rfl⟩
     refine ⟨[intsH 2 x23 ((chainJF ar rs f xs g ys).1), movesD 2 195 x24 ((chainJF ar rs f xs g ys).2.1)], hr34, ?_⟩
     show XL _ _ _ _ _ _ _ (intsH 2 x17 ar :: pairsD 2 161 x18 rs :: intsH 2 x19 f :: stepsD 2 158 x20 xs :: intsH 2 x21 g :: stepsD 2 158 x22 ys :: intsH 2 x23 ((chainJF ar rs f xs g ys).1) :: movesD 2 195 x24 ((chainJF ar rs f xs g ys).2.1) :: cellsH b9 [x21, x22] 45 :: cellsH b8 [x19, x20] 45 :: cellsH b7 [x17, x18] 39 :: cellsH b6 [u7, u8] 88 :: cellsH b3 [gv, ysv] 31 :: cellsH b2 [fv, xsv] 31 :: cellsH b1 [arv, rsv] 27 :: L)
     refine XL.mv (.tuple #[.agg #[x23, x24], .bool ((chainJF ar rs f xs g ys).2.2)]) rfl ?_
     refine XL.cons (XOp.extract (.agg #[x23, x24]) rfl rfl ?_)
     refine XL.cons (XOp.extract (.bool ((chainJF ar rs f xs g ys).2.2)) rfl rfl ?_)
     refine XL.cons (XOp.alloc [(.slice none 0 0), (.slice none 0 0)] Tryz.zeroValue88 rfl ?_)
     intro b10
     refine XL.cons (XOp.storeN (vs := [x23, x24]) [] _ [x23, x24] Tryz.sizeOf88 rfl rfl rfl (ones_cons (one_sl (IntsF.isSl hr32)) (ones_cons (one_sl (MovesF.isSl hr33)) ones_nil)) rfl rfl rfl ?_)
     refine XL.as (.bool ((chainJF ar rs f xs g ys).2.2)) rfl ?_
     refine XL.nil (X.seq (X.seq (X.region ?_)))
     refine XL.cons (XOp.loadN [x23, x24] Tryz.isAgg88 Tryz.sizeOf88 rfl rfl (Rd.ownN [] rfl rfl) ?_)
     refine XL.cons (XOp.loadN [u7, u8] Tryz.isAgg88 Tryz.sizeOf88 rfl rfl (Rd.ownN [_, _, _, _, _, _, _, _, _, _, _, _] rfl rfl) ?_)
     refine XL.cons (XOp.lend [_, _, _, _, _, _, _] _ _ rfl (fun F20 le20 hz7 => ?_))
     refine id (XOp.lend [_, _, _, _, _, _, _] _ _ rfl (fun F21 le21 hz8 => ?_))
     have hf7 : IntsF _ x23 ((chainJF ar rs f xs g ys).1) := (intsH.fz (xs := (chainJF ar rs f xs g ys).1) hz7).mono le21
     have hf8 : MovesF _ x24 ((chainJF ar rs f xs g ys).2.1) := movesD.fz hz8
     refine id (XOp.call (args := [.agg #[x23, x24], .agg #[u7, u8]]) Tryz.call42 rfl (eqChain_spec hf7 hf8 ((f6_1hr1.mono (FLe.trans le20 le21))) ((f6_1hr2.mono (FLe.trans le20 le21))) (hfl := (by first | assumption | rfl | omega | simp)) (hal := (by first | assumption | rfl | omega | simp)) (hbd := (by first | assumption | exact fun i hi => by have := hne i hi; omega))) ?_)
     rintro _ _ _ _ ⟨rfl, rfl, rfl⟩
     show XL _ _ _ _ _ _ _ (intsH 2 x23 ((chainJF ar rs f xs g ys).1) :: movesD 2 195 x24 ((chainJF ar rs f xs g ys).2.1) :: cellsH b10 [x23, x24] 88 :: intsH 2 x17 ar :: pairsD 2 161 x18 rs :: intsH 2 x19 f :: stepsD 2 158 x20 xs :: intsH 2 x21 g :: stepsD 2 158 x22 ys :: cellsH b9 [x21, x22] 45 :: cellsH b8 [x19, x20] 45 :: cellsH b7 [x17, x18] 39 :: cellsH b6 [u7, u8] 88 :: cellsH b3 [gv, ysv] 31 :: cellsH b2 [fv, xsv] 31 :: cellsH b1 [arv, rsv] 27 :: L)
     refine XL.cons (XOp.notD (p := ((chainJF ar rs f xs g ys).1) = ((chainJF ar rs f xs g ys).1) ∧ ((chainJF ar rs f xs g ys).2.1) = ((chainJF ar rs f xs g ys).2.1)) rfl ?_)
     refine XL.mv (.bool (decide (¬(((chainJF ar rs f xs g ys).1) = ((chainJF ar rs f xs g ys).1) ∧ ((chainJF ar rs f xs g ys).2.1) = ((chainJF ar rs f xs g ys).2.1))))) rfl ?_
     by_cases h4 : ¬(((chainJF ar rs f xs g ys).1) = ((chainJF ar rs f xs g ys).1) ∧ ((chainJF ar rs f xs g ys).2.1) = ((chainJF ar rs f xs g ys).2.1))
     ·exact absurd (by first | rfl | exact ⟨rfl, rfl⟩ | exact ⟨⟨rfl, rfl⟩, rfl, rfl⟩ | simp) h4
     ·refine XL.yes (t := 62) rfl (vF h4) (XOp.move (.bool ((chainJF ar rs f xs g ys).2.2)) rfl ?_)
      refine XL.yes (t := 62) rfl (vF h4) (XOp.move (.bool ((chainJF ar rs f xs g ys).2.2)) rfl ?_)
      refine XL.yes (t := 62) rfl (vF h4) (XOp.neB (a := (chainJF ar rs f xs g ys).2.2) (b := (chainJF ar rs f xs g ys).2.2) Tryz.runUnderlying4 rfl rfl ?_)
      refine XL.cons (XOp.pickF (.bool (decide (((chainJF ar rs f xs g ys).2.2) ≠ ((chainJF ar rs f xs g ys).2.2)))) (vF h4) rfl ?_)
      refine XL.nil ?_
      refine X.condD (p := ((chainJF ar rs f xs g ys).2.2) ≠ ((chainJF ar rs f xs g ys).2.2)) rfl (fun h5 => ?_) (fun h5 => ?_)
      ·exact absurd rfl h5
      ·refine X.skip (X.seq (X.seq ?_))
       refine X.drawG [intsH 2 x23 ((chainJF ar rs f xs g ys).1), movesD 2 195 x24 ((chainJF ar rs f xs g ys).2.1), cellsH b10 [x23, x24] 88, intsH 2 x17 ar, pairsD 2 161 x18 rs, intsH 2 x19 f, stepsD 2 158 x20 xs, intsH 2 x21 g, stepsD 2 158 x22 ys, cellsH b9 [x21, x22] 45, cellsH b8 [x19, x20] 45, cellsH b7 [x17, x18] 39, cellsH b6 [u7, u8] 88, cellsH b3 [gv, ysv] 31, cellsH b2 [fv, xsv] 31, cellsH b1 [arv, rsv] 27] L 3 [[], [], []] [[], [], [1]] [[], [], []] (phiG [fun FF us v => v = (.agg #[x17, x18] : Value), fun FF us v => v = (.agg #[arv, rsv] : Value), fun FF us v => (.agg #[((aggAt v 0)), ((aggAt v 1))] : Value) = v ∧ (IntsF FF ((aggAt v 0)) ar) ∧ (PairsF FF ((aggAt v 1)) rs)]) (ownL [fun us v => [], fun us v => [], fun us v => []]) mixed rfl rfl (by kernel_rfl) (by kernel_rfl) (MonoG.get (MonoG.cons (fun le h => h) (MonoG.cons (fun le h => h) (MonoG.cons (fun le h => ⟨h.1, h.2.1.mono le, h.2.2.mono le⟩) MonoG.nil)))) ?_ ?_
       ·refine stepsG.cons (fun vals Fs R leFs hpZ => ?_) ?_
        ·replace har := har.mono leFs
         replace hrs := hrs.mono leFs
         replace hf := hf.mono leFs
         replace hxs := hxs.mono leFs
         replace hg := hg.mono leFs
         replace hys := hys.mono leFs
         replace f1_1hr1 := f1_1hr1.mono leFs
         replace f1_1hr2 := f1_1hr2.mono leFs
         replace f3_1hr1 := f3_1hr1.mono leFs
         replace f3_1hr2 := f3_1hr2.mono leFs
         replace f5_1hr1 := f5_1hr1.mono leFs
         replace f5_1hr2 := f5_1hr2.mono leFs
         replace f6_1hr1 := f6_1hr1.mono leFs
         replace f6_1hr2 := f6_1hr2.mono leFs
         refine XG.op (XOp.loadN [x17, x18] Tryz.isAgg39 Tryz.sizeOf39 rfl rfl (Rd.ownN [_, _, _, _, _, _, _, _, _, _, _] rfl rfl) ?_)
         exact ⟨rfl, rfl⟩
        refine stepsG.cons (fun vals Fs R leFs hpZ => ?_) ?_
        ·replace har := har.mono leFs
         replace hrs := hrs.mono leFs
         replace hf := hf.mono leFs
         replace hxs := hxs.mono leFs
         replace hg := hg.mono leFs
         replace hys := hys.mono leFs
         replace f1_1hr1 := f1_1hr1.mono leFs
         replace f1_1hr2 := f1_1hr2.mono leFs
         replace f3_1hr1 := f3_1hr1.mono leFs
         replace f3_1hr2 := f3_1hr2.mono leFs
         replace f5_1hr1 := f5_1hr1.mono leFs
         replace f5_1hr2 := f5_1hr2.mono leFs
         replace f6_1hr1 := f6_1hr1.mono leFs
         replace f6_1hr2 := f6_1hr2.mono leFs
         refine XG.op (XOp.loadN [arv, rsv] Tryz.isAgg27 Tryz.sizeOf27 rfl rfl (Rd.ownN [_, _, _, _, _, _, _, _, _, _, _, _, _, _, _] rfl rfl) ?_)
         exact ⟨rfl, rfl⟩
        refine stepsG.cons (fun vals Fs R leFs hpZ => ?_) ?_
        ·replace har := har.mono leFs
         replace hrs := hrs.mono leFs
         replace hf := hf.mono leFs
         replace hxs := hxs.mono leFs
         replace hg := hg.mono leFs
         replace hys := hys.mono leFs
         replace f1_1hr1 := f1_1hr1.mono leFs
         replace f1_1hr2 := f1_1hr2.mono leFs
         replace f3_1hr1 := f3_1hr1.mono leFs
         replace f3_1hr2 := f3_1hr2.mono leFs
         replace f5_1hr1 := f5_1hr1.mono leFs
         replace f5_1hr2 := f5_1hr2.mono leFs
         replace f6_1hr1 := f6_1hr1.mono leFs
         replace f6_1hr2 := f6_1hr2.mono leFs
         rw [eS (l := [(1, (.agg #[arv, rsv] : Value))]) ⟨(hpZ 1 (by decide)), trivial⟩]
         refine XG.op (XOp.call (args := [.agg #[arv, rsv]]) Tryz.call11 rfl (toSystem_spec har hrs (hla := (by first | assumption | rfl | omega | simp)) (hrl := (by first | assumption | rfl | omega | simp)) (hrb := (by first | assumption | rfl | omega | simp))) ?_)
         rintro _ F23 _ le23 ⟨x27, x28, rfl, hr38, hr39, hr40, rfl⟩
         replace har := har.mono le23
         replace hrs := hrs.mono le23
         replace hf := hf.mono le23
         replace hxs := hxs.mono le23
         replace hg := hg.mono le23
         replace hys := hys.mono le23
         replace f1_1hr1 := f1_1hr1.mono le23
         replace f1_1hr2 := f1_1hr2.mono le23
         replace f3_1hr1 := f3_1hr1.mono le23
         replace f3_1hr2 := f3_1hr2.mono le23
         replace f5_1hr1 := f5_1hr1.mono le23
         replace f5_1hr2 := f5_1hr2.mono le23
         replace f6_1hr1 := f6_1hr1.mono le23
         replace f6_1hr2 := f6_1hr2.mono le23
         exact ⟨⟨rfl, hr38, hr39⟩, rfl⟩
        exact stepsG.nil
       ·intro vals F24 le24 hphi
        obtain ⟨e2, f2_2hr1, f2_2hr2⟩ := hphi 2 (by decide)
        generalize hu10 : ((aggAt (vals 2) 0)) = u9 at e2 f2_2hr1 f2_2hr2
        generalize hu11 : ((aggAt (vals 2) 1)) = u10 at e2 f2_2hr1 f2_2hr2
        rw [eS (l := [(0, (.agg #[x17, x18] : Value)), (1, (.agg #[arv, rsv] : Value)), (2, (.agg #[u9, u10] : Value))]) ⟨(hphi 0 (by decide)), (hphi 1 (by decide)), (e2).symm, trivial⟩]
        replace har := har.mono le24
        replace hrs := hrs.mono le24
        replace hf := hf.mono le24
        replace hxs := hxs.mono le24
        replace hg := hg.mono le24
        replace hys := hys.mono le24
        replace f1_1hr1 := f1_1hr1.mono le24
        replace f1_1hr2 := f1_1hr2.mono le24
        replace f3_1hr1 := f3_1hr1.mono le24
        replace f3_1hr2 := f3_1hr2.mono le24
        replace f5_1hr1 := f5_1hr1.mono le24
        replace f5_1hr2 := f5_1hr2.mono le24
        replace f6_1hr1 := f6_1hr1.mono le24
        replace f6_1hr2 := f6_1hr2.mono le24
        show XL _ _ _ _ _ _ _ (intsH 2 x23 ((chainJF ar rs f xs g ys).1) :: movesD 2 195 x24 ((chainJF ar rs f xs g ys).2.1) :: cellsH b10 [x23, x24] 88 :: intsH 2 x17 ar :: pairsD 2 161 x18 rs :: intsH 2 x19 f :: stepsD 2 158 x20 xs :: intsH 2 x21 g :: stepsD 2 158 x22 ys :: cellsH b9 [x21, x22] 45 :: cellsH b8 [x19, x20] 45 :: cellsH b7 [x17, x18] 39 :: cellsH b6 [u7, u8] 88 :: cellsH b3 [gv, ysv] 31 :: cellsH b2 [fv, xsv] 31 :: cellsH b1 [arv, rsv] 27 :: L)
        refine XL.cons (XOp.lend [_, _, _] _ _ rfl (fun F25 le25 hz9 => ?_))
        refine id (XOp.lend [_, _, _] _ _ rfl (fun F26 le26 hz10 => ?_))
        have hf9 : IntsF _ x17 ar := (intsH.fz (xs := ar) hz9).mono le26
        have hf10 : PairsF _ x18 rs := pairsD.fz hz10
        refine id (XOp.call (args := [.agg #[x17, x18], .agg #[u9, u10]]) Tryz.call15 rfl (eqSystem_spec hf9 hf10 ((f2_2hr1.mono (FLe.trans le25 le26))) ((f2_2hr2.mono (FLe.trans le25 le26))) (hcl := (by first | assumption | rfl | omega | simp)) (hal := (by first | assumption | rfl | omega | simp)) (hbd := (by first | assumption | rfl | omega | simp))) ?_)
        rintro _ _ _ _ ⟨rfl, rfl, rfl⟩
        show XL _ _ _ _ _ _ _ (intsH 2 x17 ar :: pairsD 2 161 x18 rs :: intsH 2 x23 ((chainJF ar rs f xs g ys).1) :: movesD 2 195 x24 ((chainJF ar rs f xs g ys).2.1) :: cellsH b10 [x23, x24] 88 :: intsH 2 x19 f :: stepsD 2 158 x20 xs :: intsH 2 x21 g :: stepsD 2 158 x22 ys :: cellsH b9 [x21, x22] 45 :: cellsH b8 [x19, x20] 45 :: cellsH b7 [x17, x18] 39 :: cellsH b6 [u7, u8] 88 :: cellsH b3 [gv, ysv] 31 :: cellsH b2 [fv, xsv] 31 :: cellsH b1 [arv, rsv] 27 :: L)
        refine XL.cons (XOp.notD (p := ar = ar ∧ rs = rs) rfl ?_)
        refine XL.nil ?_
        refine X.condD (p := ¬(ar = ar ∧ rs = rs)) rfl (fun h6 => ?_) (fun h6 => ?_)
        ·exact absurd (by first | rfl | exact ⟨rfl, rfl⟩ | exact ⟨⟨rfl, rfl⟩, rfl, rfl⟩ | simp) h6
        ·refine X.skip (X.seq (X.seq ?_))
         refine X.drawG [intsH 2 x17 ar, pairsD 2 161 x18 rs, intsH 2 x23 ((chainJF ar rs f xs g ys).1), movesD 2 195 x24 ((chainJF ar rs f xs g ys).2.1), cellsH b10 [x23, x24] 88, intsH 2 x19 f, stepsD 2 158 x20 xs, intsH 2 x21 g, stepsD 2 158 x22 ys, cellsH b9 [x21, x22] 45, cellsH b8 [x19, x20] 45, cellsH b7 [x17, x18] 39, cellsH b6 [u7, u8] 88, cellsH b3 [gv, ysv] 31, cellsH b2 [fv, xsv] 31, cellsH b1 [arv, rsv] 27] L 3 [[], [], []] [[], [], [1]] [[], [], []] (phiG [fun FF us v => v = (.agg #[x19, x20] : Value), fun FF us v => v = (.agg #[fv, xsv] : Value), fun FF us v => (.agg #[((aggAt v 0)), ((aggAt v 1))] : Value) = v ∧ (IntsF FF ((aggAt v 0)) f) ∧ (StepsF FF ((aggAt v 1)) xs)]) (ownL [fun us v => [], fun us v => [], fun us v => []]) mixed rfl rfl (by kernel_rfl) (by kernel_rfl) (MonoG.get (MonoG.cons (fun le h => h) (MonoG.cons (fun le h => h) (MonoG.cons (fun le h => ⟨h.1, h.2.1.mono le, h.2.2.mono le⟩) MonoG.nil)))) ?_ ?_
         ·refine stepsG.cons (fun vals Fs R leFs hpZ => ?_) ?_
          ·replace har := har.mono leFs
           replace hrs := hrs.mono leFs
           replace hf := hf.mono leFs
           replace hxs := hxs.mono leFs
           replace hg := hg.mono leFs
           replace hys := hys.mono leFs
           replace f1_1hr1 := f1_1hr1.mono leFs
           replace f1_1hr2 := f1_1hr2.mono leFs
           replace f3_1hr1 := f3_1hr1.mono leFs
           replace f3_1hr2 := f3_1hr2.mono leFs
           replace f5_1hr1 := f5_1hr1.mono leFs
           replace f5_1hr2 := f5_1hr2.mono leFs
           replace f6_1hr1 := f6_1hr1.mono leFs
           replace f6_1hr2 := f6_1hr2.mono leFs
           replace f2_2hr1 := f2_2hr1.mono leFs
           replace f2_2hr2 := f2_2hr2.mono leFs
           refine XG.op (XOp.loadN [x19, x20] Tryz.isAgg45 Tryz.sizeOf45 rfl rfl (Rd.ownN [_, _, _, _, _, _, _, _, _, _] rfl rfl) ?_)
           exact ⟨rfl, rfl⟩
          refine stepsG.cons (fun vals Fs R leFs hpZ => ?_) ?_
          ·replace har := har.mono leFs
           replace hrs := hrs.mono leFs
           replace hf := hf.mono leFs
           replace hxs := hxs.mono leFs
           replace hg := hg.mono leFs
           replace hys := hys.mono leFs
           replace f1_1hr1 := f1_1hr1.mono leFs
           replace f1_1hr2 := f1_1hr2.mono leFs
           replace f3_1hr1 := f3_1hr1.mono leFs
           replace f3_1hr2 := f3_1hr2.mono leFs
           replace f5_1hr1 := f5_1hr1.mono leFs
           replace f5_1hr2 := f5_1hr2.mono leFs
           replace f6_1hr1 := f6_1hr1.mono leFs
           replace f6_1hr2 := f6_1hr2.mono leFs
           replace f2_2hr1 := f2_2hr1.mono leFs
           replace f2_2hr2 := f2_2hr2.mono leFs
           refine XG.op (XOp.loadN [fv, xsv] Tryz.isAgg31 Tryz.sizeOf31 rfl rfl (Rd.ownN [_, _, _, _, _, _, _, _, _, _, _, _, _, _] rfl rfl) ?_)
           exact ⟨rfl, rfl⟩
          refine stepsG.cons (fun vals Fs R leFs hpZ => ?_) ?_
          ·replace har := har.mono leFs
           replace hrs := hrs.mono leFs
           replace hf := hf.mono leFs
           replace hxs := hxs.mono leFs
           replace hg := hg.mono leFs
           replace hys := hys.mono leFs
           replace f1_1hr1 := f1_1hr1.mono leFs
           replace f1_1hr2 := f1_1hr2.mono leFs
           replace f3_1hr1 := f3_1hr1.mono leFs
           replace f3_1hr2 := f3_1hr2.mono leFs
           replace f5_1hr1 := f5_1hr1.mono leFs
           replace f5_1hr2 := f5_1hr2.mono leFs
           replace f6_1hr1 := f6_1hr1.mono leFs
           replace f6_1hr2 := f6_1hr2.mono leFs
           replace f2_2hr1 := f2_2hr1.mono leFs
           replace f2_2hr2 := f2_2hr2.mono leFs
           rw [eS (l := [(1, (.agg #[fv, xsv] : Value))]) ⟨(hpZ 1 (by decide)), trivial⟩]
           refine XG.op (XOp.call (args := [.agg #[fv, xsv]]) Tryz.call13 rfl (toWalk_spec hf hxs (hfl := (by first | assumption | rfl | omega | simp)) (hsl := (by first | assumption | rfl | omega | simp)) (hsb := (by first | assumption | rfl | omega | simp))) ?_)
           rintro _ F28 _ le28 ⟨x31, x32, rfl, hr44, hr45, hr46, rfl⟩
           replace har := har.mono le28
           replace hrs := hrs.mono le28
           replace hf := hf.mono le28
           replace hxs := hxs.mono le28
           replace hg := hg.mono le28
           replace hys := hys.mono le28
           replace f1_1hr1 := f1_1hr1.mono le28
           replace f1_1hr2 := f1_1hr2.mono le28
           replace f3_1hr1 := f3_1hr1.mono le28
           replace f3_1hr2 := f3_1hr2.mono le28
           replace f5_1hr1 := f5_1hr1.mono le28
           replace f5_1hr2 := f5_1hr2.mono le28
           replace f6_1hr1 := f6_1hr1.mono le28
           replace f6_1hr2 := f6_1hr2.mono le28
           replace f2_2hr1 := f2_2hr1.mono le28
           replace f2_2hr2 := f2_2hr2.mono le28
           exact ⟨⟨rfl, hr44, hr45⟩, rfl⟩
          exact stepsG.nil
         ·intro vals F29 le29 hphi
          obtain ⟨e2, f2_3hr1, f2_3hr2⟩ := hphi 2 (by decide)
          generalize hu12 : ((aggAt (vals 2) 0)) = u11 at e2 f2_3hr1 f2_3hr2
          generalize hu13 : ((aggAt (vals 2) 1)) = u12 at e2 f2_3hr1 f2_3hr2
          rw [eS (l := [(0, (.agg #[x19, x20] : Value)), (1, (.agg #[fv, xsv] : Value)), (2, (.agg #[u11, u12] : Value))]) ⟨(hphi 0 (by decide)), (hphi 1 (by decide)), (e2).symm, trivial⟩]
          replace har := har.mono le29
          replace hrs := hrs.mono le29
          replace hf := hf.mono le29
          replace hxs := hxs.mono le29
          replace hg := hg.mono le29
          replace hys := hys.mono le29
          replace f1_1hr1 := f1_1hr1.mono le29
          replace f1_1hr2 := f1_1hr2.mono le29
          replace f3_1hr1 := f3_1hr1.mono le29
          replace f3_1hr2 := f3_1hr2.mono le29
          replace f5_1hr1 := f5_1hr1.mono le29
          replace f5_1hr2 := f5_1hr2.mono le29
          replace f6_1hr1 := f6_1hr1.mono le29
          replace f6_1hr2 := f6_1hr2.mono le29
          replace f2_2hr1 := f2_2hr1.mono le29
          replace f2_2hr2 := f2_2hr2.mono le29
          show XL _ _ _ _ _ _ _ (intsH 2 x17 ar :: pairsD 2 161 x18 rs :: intsH 2 x23 ((chainJF ar rs f xs g ys).1) :: movesD 2 195 x24 ((chainJF ar rs f xs g ys).2.1) :: cellsH b10 [x23, x24] 88 :: intsH 2 x19 f :: stepsD 2 158 x20 xs :: intsH 2 x21 g :: stepsD 2 158 x22 ys :: cellsH b9 [x21, x22] 45 :: cellsH b8 [x19, x20] 45 :: cellsH b7 [x17, x18] 39 :: cellsH b6 [u7, u8] 88 :: cellsH b3 [gv, ysv] 31 :: cellsH b2 [fv, xsv] 31 :: cellsH b1 [arv, rsv] 27 :: L)
          refine XL.cons (XOp.lend [_, _, _, _, _] _ _ rfl (fun F30 le30 hz11 => ?_))
          refine id (XOp.lend [_, _, _, _, _] _ _ rfl (fun F31 le31 hz12 => ?_))
          have hf11 : IntsF _ x19 f := (intsH.fz (xs := f) hz11).mono le31
          have hf12 : StepsF _ x20 xs := stepsD.fz hz12
          refine id (XOp.call (args := [.agg #[x19, x20], .agg #[u11, u12]]) Tryz.call17 rfl (eqWalk_spec hf11 hf12 ((f2_3hr1.mono (FLe.trans le30 le31))) ((f2_3hr2.mono (FLe.trans le30 le31))) (hfl := (by first | assumption | rfl | omega | simp)) (hal := (by first | assumption | rfl | omega | simp)) (hbd := (by first | assumption | rfl | omega | simp))) ?_)
          rintro _ _ _ _ ⟨rfl, rfl, rfl⟩
          show XL _ _ _ _ _ _ _ (intsH 2 x19 f :: stepsD 2 158 x20 xs :: intsH 2 x17 ar :: pairsD 2 161 x18 rs :: intsH 2 x23 ((chainJF ar rs f xs g ys).1) :: movesD 2 195 x24 ((chainJF ar rs f xs g ys).2.1) :: cellsH b10 [x23, x24] 88 :: intsH 2 x21 g :: stepsD 2 158 x22 ys :: cellsH b9 [x21, x22] 45 :: cellsH b8 [x19, x20] 45 :: cellsH b7 [x17, x18] 39 :: cellsH b6 [u7, u8] 88 :: cellsH b3 [gv, ysv] 31 :: cellsH b2 [fv, xsv] 31 :: cellsH b1 [arv, rsv] 27 :: L)
          refine XL.cons (XOp.notD (p := f = f ∧ xs = xs) rfl ?_)
          refine XL.nil ?_
          refine X.condD (p := ¬(f = f ∧ xs = xs)) rfl (fun h7 => ?_) (fun h7 => ?_)
          ·exact absurd (by first | rfl | exact ⟨rfl, rfl⟩ | exact ⟨⟨rfl, rfl⟩, rfl, rfl⟩ | simp) h7
          ·refine X.skip (X.seq (X.seq ?_))
           refine X.drawG [intsH 2 x19 f, stepsD 2 158 x20 xs, intsH 2 x17 ar, pairsD 2 161 x18 rs, intsH 2 x23 ((chainJF ar rs f xs g ys).1), movesD 2 195 x24 ((chainJF ar rs f xs g ys).2.1), cellsH b10 [x23, x24] 88, intsH 2 x21 g, stepsD 2 158 x22 ys, cellsH b9 [x21, x22] 45, cellsH b8 [x19, x20] 45, cellsH b7 [x17, x18] 39, cellsH b6 [u7, u8] 88, cellsH b3 [gv, ysv] 31, cellsH b2 [fv, xsv] 31, cellsH b1 [arv, rsv] 27] L 3 [[], [], []] [[], [], [1]] [[], [], []] (phiG [fun FF us v => v = (.agg #[x21, x22] : Value), fun FF us v => v = (.agg #[gv, ysv] : Value), fun FF us v => (.agg #[((aggAt v 0)), ((aggAt v 1))] : Value) = v ∧ (IntsF FF ((aggAt v 0)) g) ∧ (StepsF FF ((aggAt v 1)) ys)]) (ownL [fun us v => [], fun us v => [], fun us v => []]) mixed rfl rfl (by kernel_rfl) (by kernel_rfl) (MonoG.get (MonoG.cons (fun le h => h) (MonoG.cons (fun le h => h) (MonoG.cons (fun le h => ⟨h.1, h.2.1.mono le, h.2.2.mono le⟩) MonoG.nil)))) ?_ ?_
           ·refine stepsG.cons (fun vals Fs R leFs hpZ => ?_) ?_
            ·replace har := har.mono leFs
             replace hrs := hrs.mono leFs
             replace hf := hf.mono leFs
             replace hxs := hxs.mono leFs
             replace hg := hg.mono leFs
             replace hys := hys.mono leFs
             replace f1_1hr1 := f1_1hr1.mono leFs
             replace f1_1hr2 := f1_1hr2.mono leFs
             replace f3_1hr1 := f3_1hr1.mono leFs
             replace f3_1hr2 := f3_1hr2.mono leFs
             replace f5_1hr1 := f5_1hr1.mono leFs
             replace f5_1hr2 := f5_1hr2.mono leFs
             replace f6_1hr1 := f6_1hr1.mono leFs
             replace f6_1hr2 := f6_1hr2.mono leFs
             replace f2_2hr1 := f2_2hr1.mono leFs
             replace f2_2hr2 := f2_2hr2.mono leFs
             replace f2_3hr1 := f2_3hr1.mono leFs
             replace f2_3hr2 := f2_3hr2.mono leFs
             refine XG.op (XOp.loadN [x21, x22] Tryz.isAgg45 Tryz.sizeOf45 rfl rfl (Rd.ownN [_, _, _, _, _, _, _, _, _] rfl rfl) ?_)
             exact ⟨rfl, rfl⟩
            refine stepsG.cons (fun vals Fs R leFs hpZ => ?_) ?_
            ·replace har := har.mono leFs
             replace hrs := hrs.mono leFs
             replace hf := hf.mono leFs
             replace hxs := hxs.mono leFs
             replace hg := hg.mono leFs
             replace hys := hys.mono leFs
             replace f1_1hr1 := f1_1hr1.mono leFs
             replace f1_1hr2 := f1_1hr2.mono leFs
             replace f3_1hr1 := f3_1hr1.mono leFs
             replace f3_1hr2 := f3_1hr2.mono leFs
             replace f5_1hr1 := f5_1hr1.mono leFs
             replace f5_1hr2 := f5_1hr2.mono leFs
             replace f6_1hr1 := f6_1hr1.mono leFs
             replace f6_1hr2 := f6_1hr2.mono leFs
             replace f2_2hr1 := f2_2hr1.mono leFs
             replace f2_2hr2 := f2_2hr2.mono leFs
             replace f2_3hr1 := f2_3hr1.mono leFs
             replace f2_3hr2 := f2_3hr2.mono leFs
             refine XG.op (XOp.loadN [gv, ysv] Tryz.isAgg31 Tryz.sizeOf31 rfl rfl (Rd.ownN [_, _, _, _, _, _, _, _, _, _, _, _, _] rfl rfl) ?_)
             exact ⟨rfl, rfl⟩
            refine stepsG.cons (fun vals Fs R leFs hpZ => ?_) ?_
            ·replace har := har.mono leFs
             replace hrs := hrs.mono leFs
             replace hf := hf.mono leFs
             replace hxs := hxs.mono leFs
             replace hg := hg.mono leFs
             replace hys := hys.mono leFs
             replace f1_1hr1 := f1_1hr1.mono leFs
             replace f1_1hr2 := f1_1hr2.mono leFs
             replace f3_1hr1 := f3_1hr1.mono leFs
             replace f3_1hr2 := f3_1hr2.mono leFs
             replace f5_1hr1 := f5_1hr1.mono leFs
             replace f5_1hr2 := f5_1hr2.mono leFs
             replace f6_1hr1 := f6_1hr1.mono leFs
             replace f6_1hr2 := f6_1hr2.mono leFs
             replace f2_2hr1 := f2_2hr1.mono leFs
             replace f2_2hr2 := f2_2hr2.mono leFs
             replace f2_3hr1 := f2_3hr1.mono leFs
             replace f2_3hr2 := f2_3hr2.mono leFs
             rw [eS (l := [(1, (.agg #[gv, ysv] : Value))]) ⟨(hpZ 1 (by decide)), trivial⟩]
             refine XG.op (XOp.call (args := [.agg #[gv, ysv]]) Tryz.call13 rfl (toWalk_spec hg hys (hfl := (by first | assumption | rfl | omega | simp)) (hsl := (by first | assumption | rfl | omega | simp)) (hsb := (by first | assumption | rfl | omega | simp))) ?_)
             rintro _ F33 _ le33 ⟨x35, x36, rfl, hr50, hr51, hr52, rfl⟩
             replace har := har.mono le33
             replace hrs := hrs.mono le33
             replace hf := hf.mono le33
             replace hxs := hxs.mono le33
             replace hg := hg.mono le33
             replace hys := hys.mono le33
             replace f1_1hr1 := f1_1hr1.mono le33
             replace f1_1hr2 := f1_1hr2.mono le33
             replace f3_1hr1 := f3_1hr1.mono le33
             replace f3_1hr2 := f3_1hr2.mono le33
             replace f5_1hr1 := f5_1hr1.mono le33
             replace f5_1hr2 := f5_1hr2.mono le33
             replace f6_1hr1 := f6_1hr1.mono le33
             replace f6_1hr2 := f6_1hr2.mono le33
             replace f2_2hr1 := f2_2hr1.mono le33
             replace f2_2hr2 := f2_2hr2.mono le33
             replace f2_3hr1 := f2_3hr1.mono le33
             replace f2_3hr2 := f2_3hr2.mono le33
             exact ⟨⟨rfl, hr50, hr51⟩, rfl⟩
            exact stepsG.nil
           ·intro vals F34 le34 hphi
            obtain ⟨e2, f2_4hr1, f2_4hr2⟩ := hphi 2 (by decide)
            generalize hu14 : ((aggAt (vals 2) 0)) = u13 at e2 f2_4hr1 f2_4hr2
            generalize hu15 : ((aggAt (vals 2) 1)) = u14 at e2 f2_4hr1 f2_4hr2
            rw [eS (l := [(0, (.agg #[x21, x22] : Value)), (1, (.agg #[gv, ysv] : Value)), (2, (.agg #[u13, u14] : Value))]) ⟨(hphi 0 (by decide)), (hphi 1 (by decide)), (e2).symm, trivial⟩]
            replace har := har.mono le34
            replace hrs := hrs.mono le34
            replace hf := hf.mono le34
            replace hxs := hxs.mono le34
            replace hg := hg.mono le34
            replace hys := hys.mono le34
            replace f1_1hr1 := f1_1hr1.mono le34
            replace f1_1hr2 := f1_1hr2.mono le34
            replace f3_1hr1 := f3_1hr1.mono le34
            replace f3_1hr2 := f3_1hr2.mono le34
            replace f5_1hr1 := f5_1hr1.mono le34
            replace f5_1hr2 := f5_1hr2.mono le34
            replace f6_1hr1 := f6_1hr1.mono le34
            replace f6_1hr2 := f6_1hr2.mono le34
            replace f2_2hr1 := f2_2hr1.mono le34
            replace f2_2hr2 := f2_2hr2.mono le34
            replace f2_3hr1 := f2_3hr1.mono le34
            replace f2_3hr2 := f2_3hr2.mono le34
            show XL _ _ _ _ _ _ _ (intsH 2 x19 f :: stepsD 2 158 x20 xs :: intsH 2 x17 ar :: pairsD 2 161 x18 rs :: intsH 2 x23 ((chainJF ar rs f xs g ys).1) :: movesD 2 195 x24 ((chainJF ar rs f xs g ys).2.1) :: cellsH b10 [x23, x24] 88 :: intsH 2 x21 g :: stepsD 2 158 x22 ys :: cellsH b9 [x21, x22] 45 :: cellsH b8 [x19, x20] 45 :: cellsH b7 [x17, x18] 39 :: cellsH b6 [u7, u8] 88 :: cellsH b3 [gv, ysv] 31 :: cellsH b2 [fv, xsv] 31 :: cellsH b1 [arv, rsv] 27 :: L)
            refine XL.cons (XOp.lend [_, _, _, _, _, _, _] _ _ rfl (fun F35 le35 hz13 => ?_))
            refine id (XOp.lend [_, _, _, _, _, _, _] _ _ rfl (fun F36 le36 hz14 => ?_))
            have hf13 : IntsF _ x21 g := (intsH.fz (xs := g) hz13).mono le36
            have hf14 : StepsF _ x22 ys := stepsD.fz hz14
            refine id (XOp.call (args := [.agg #[x21, x22], .agg #[u13, u14]]) Tryz.call17 rfl (eqWalk_spec hf13 hf14 ((f2_4hr1.mono (FLe.trans le35 le36))) ((f2_4hr2.mono (FLe.trans le35 le36))) (hfl := (by first | assumption | rfl | omega | simp)) (hal := (by first | assumption | rfl | omega | simp)) (hbd := (by first | assumption | rfl | omega | simp))) ?_)
            rintro _ _ _ _ ⟨rfl, rfl, rfl⟩
            show XL _ _ _ _ _ _ _ (intsH 2 x21 g :: stepsD 2 158 x22 ys :: intsH 2 x19 f :: stepsD 2 158 x20 xs :: intsH 2 x17 ar :: pairsD 2 161 x18 rs :: intsH 2 x23 ((chainJF ar rs f xs g ys).1) :: movesD 2 195 x24 ((chainJF ar rs f xs g ys).2.1) :: cellsH b10 [x23, x24] 88 :: cellsH b9 [x21, x22] 45 :: cellsH b8 [x19, x20] 45 :: cellsH b7 [x17, x18] 39 :: cellsH b6 [u7, u8] 88 :: cellsH b3 [gv, ysv] 31 :: cellsH b2 [fv, xsv] 31 :: cellsH b1 [arv, rsv] 27 :: L)
            refine XL.cons (XOp.notD (p := g = g ∧ ys = ys) rfl ?_)
            refine XL.nil ?_
            refine X.condD (p := ¬(g = g ∧ ys = ys)) rfl (fun h8 => ?_) (fun h8 => ?_)
            ·exact absurd (by first | rfl | exact ⟨rfl, rfl⟩ | exact ⟨⟨rfl, rfl⟩, rfl, rfl⟩ | simp) h8
            ·refine X.skip (X.seq (X.region ?_))
             refine XL.as (.int .i64 (1)) rfl ?_
             refine XL.nil (X.seq (X.region ?_))
             refine XL.cons (XOp.loadN [x17, x18] Tryz.isAgg39 Tryz.sizeOf39 rfl rfl (Rd.ownN [_, _, _, _, _, _, _, _, _, _, _] rfl rfl) ?_)
             refine XL.mv (.int .i64 (1)) rfl ?_
             refine XL.weaken (Sub.front (A := [_, _, _, _, _])) ?_
             show XL _ _ _ _ _ _ _ (pairsD 2 161 x18 rs :: intsH 2 x21 g :: stepsD 2 158 x22 ys :: intsH 2 x19 f :: stepsD 2 158 x20 xs :: intsH 2 x17 ar :: intsH 2 x23 ((chainJF ar rs f xs g ys).1) :: movesD 2 195 x24 ((chainJF ar rs f xs g ys).2.1) :: cellsH b10 [x23, x24] 88 :: cellsH b9 [x21, x22] 45 :: cellsH b8 [x19, x20] 45 :: cellsH b7 [x17, x18] 39 :: cellsH b6 [u7, u8] 88 :: cellsH b3 [gv, ysv] 31 :: cellsH b2 [fv, xsv] 31 :: cellsH b1 [arv, rsv] 27 :: L)
             refine XL.weaken (Sub.front (A := [_, _, _, _, _])) ?_
             show XL _ _ _ _ _ _ _ (intsH 2 x17 ar :: pairsD 2 161 x18 rs :: intsH 2 x21 g :: stepsD 2 158 x22 ys :: intsH 2 x19 f :: stepsD 2 158 x20 xs :: intsH 2 x23 ((chainJF ar rs f xs g ys).1) :: movesD 2 195 x24 ((chainJF ar rs f xs g ys).2.1) :: cellsH b10 [x23, x24] 88 :: cellsH b9 [x21, x22] 45 :: cellsH b8 [x19, x20] 45 :: cellsH b7 [x17, x18] 39 :: cellsH b6 [u7, u8] 88 :: cellsH b3 [gv, ysv] 31 :: cellsH b2 [fv, xsv] 31 :: cellsH b1 [arv, rsv] 27 :: L)
             refine XL.cons (XOp.call (args := [.agg #[x17, x18], .int .i64 (1)]) Tryz.call36 rfl (markSystem_spec (by (try simp only [List.length_append]); omega) (by omega)) ?_)
             rintro _ _ _ _ ⟨m1, m2, hm1, hk1, rfl, rfl, rfl⟩
             have hml1 := congrArg List.length hm1
             rw [iota_len] at hml1
             try simp only [List.length_append] at hml1
             refine XL.as (.int .i64 (1 + (((ar) ++ (rs.flatMap flatPair)).length : Int))) rfl ?_
             refine XL.nil (X.seq (X.region ?_))
             refine XL.cons (XOp.loadN [x19, x20] Tryz.isAgg45 Tryz.sizeOf45 rfl rfl (Rd.ownN [_, _, _, _, _, _, _, _, _, _] rfl rfl) ?_)
             refine XL.mv (.int .i64 (1 + (((ar) ++ (rs.flatMap flatPair)).length : Int))) rfl ?_
             refine XL.weaken (Sub.front (A := [_, _, _, _, _])) ?_
             show XL _ _ _ _ _ _ _ (stepsD 2 158 x20 xs :: intsH 2 x17 m1 :: pairsD 2 161 x18 m2 :: intsH 2 x21 g :: stepsD 2 158 x22 ys :: intsH 2 x19 f :: intsH 2 x23 ((chainJF ar rs f xs g ys).1) :: movesD 2 195 x24 ((chainJF ar rs f xs g ys).2.1) :: cellsH b10 [x23, x24] 88 :: cellsH b9 [x21, x22] 45 :: cellsH b8 [x19, x20] 45 :: cellsH b7 [x17, x18] 39 :: cellsH b6 [u7, u8] 88 :: cellsH b3 [gv, ysv] 31 :: cellsH b2 [fv, xsv] 31 :: cellsH b1 [arv, rsv] 27 :: L)
             refine XL.weaken (Sub.front (A := [_, _, _, _, _])) ?_
             show XL _ _ _ _ _ _ _ (intsH 2 x19 f :: stepsD 2 158 x20 xs :: intsH 2 x17 m1 :: pairsD 2 161 x18 m2 :: intsH 2 x21 g :: stepsD 2 158 x22 ys :: intsH 2 x23 ((chainJF ar rs f xs g ys).1) :: movesD 2 195 x24 ((chainJF ar rs f xs g ys).2.1) :: cellsH b10 [x23, x24] 88 :: cellsH b9 [x21, x22] 45 :: cellsH b8 [x19, x20] 45 :: cellsH b7 [x17, x18] 39 :: cellsH b6 [u7, u8] 88 :: cellsH b3 [gv, ysv] 31 :: cellsH b2 [fv, xsv] 31 :: cellsH b1 [arv, rsv] 27 :: L)
             refine XL.cons (XOp.call (args := [.agg #[x19, x20], .int .i64 (1 + (((ar) ++ (rs.flatMap flatPair)).length : Int))]) Tryz.call43 rfl (markWalk_spec (by (try simp only [List.length_append]); omega) (by omega)) ?_)
             rintro _ _ _ _ ⟨m3, m4, hm2, hk2, rfl, rfl, rfl⟩
             have hml2 := congrArg List.length hm2
             rw [iota_len] at hml2
             try simp only [List.length_append] at hml2
             refine XL.as (.int .i64 ((1 + (((ar) ++ (rs.flatMap flatPair)).length : Int)) + (((f) ++ (xs.flatMap flatStep)).length : Int))) rfl ?_
             refine XL.nil (X.seq (X.region ?_))
             refine XL.cons (XOp.loadN [x21, x22] Tryz.isAgg45 Tryz.sizeOf45 rfl rfl (Rd.ownN [_, _, _, _, _, _, _, _, _] rfl rfl) ?_)
             refine XL.mv (.int .i64 ((1 + (((ar) ++ (rs.flatMap flatPair)).length : Int)) + (((f) ++ (xs.flatMap flatStep)).length : Int))) rfl ?_
             refine XL.weaken (Sub.front (A := [_, _, _, _, _])) ?_
             show XL _ _ _ _ _ _ _ (stepsD 2 158 x22 ys :: intsH 2 x19 m3 :: stepsD 2 158 x20 m4 :: intsH 2 x17 m1 :: pairsD 2 161 x18 m2 :: intsH 2 x21 g :: intsH 2 x23 ((chainJF ar rs f xs g ys).1) :: movesD 2 195 x24 ((chainJF ar rs f xs g ys).2.1) :: cellsH b10 [x23, x24] 88 :: cellsH b9 [x21, x22] 45 :: cellsH b8 [x19, x20] 45 :: cellsH b7 [x17, x18] 39 :: cellsH b6 [u7, u8] 88 :: cellsH b3 [gv, ysv] 31 :: cellsH b2 [fv, xsv] 31 :: cellsH b1 [arv, rsv] 27 :: L)
             refine XL.weaken (Sub.front (A := [_, _, _, _, _])) ?_
             show XL _ _ _ _ _ _ _ (intsH 2 x21 g :: stepsD 2 158 x22 ys :: intsH 2 x19 m3 :: stepsD 2 158 x20 m4 :: intsH 2 x17 m1 :: pairsD 2 161 x18 m2 :: intsH 2 x23 ((chainJF ar rs f xs g ys).1) :: movesD 2 195 x24 ((chainJF ar rs f xs g ys).2.1) :: cellsH b10 [x23, x24] 88 :: cellsH b9 [x21, x22] 45 :: cellsH b8 [x19, x20] 45 :: cellsH b7 [x17, x18] 39 :: cellsH b6 [u7, u8] 88 :: cellsH b3 [gv, ysv] 31 :: cellsH b2 [fv, xsv] 31 :: cellsH b1 [arv, rsv] 27 :: L)
             refine XL.cons (XOp.call (args := [.agg #[x21, x22], .int .i64 ((1 + (((ar) ++ (rs.flatMap flatPair)).length : Int)) + (((f) ++ (xs.flatMap flatStep)).length : Int))]) Tryz.call43 rfl (markWalk_spec (by (try simp only [List.length_append]); omega) (by omega)) ?_)
             rintro _ _ _ _ ⟨m5, m6, hm3, hk3, rfl, rfl, rfl⟩
             have hml3 := congrArg List.length hm3
             rw [iota_len] at hml3
             try simp only [List.length_append] at hml3
             refine XL.as (.int .i64 (((1 + (((ar) ++ (rs.flatMap flatPair)).length : Int)) + (((f) ++ (xs.flatMap flatStep)).length : Int)) + (((g) ++ (ys.flatMap flatStep)).length : Int))) rfl ?_
             refine XL.nil (X.seq (X.seq (X.region ?_)))
             refine XL.mv (.int .i64 (((1 + (((ar) ++ (rs.flatMap flatPair)).length : Int)) + (((f) ++ (xs.flatMap flatStep)).length : Int)) + (((g) ++ (ys.flatMap flatStep)).length : Int))) rfl ?_
             refine XL.cons (XOp.lss (a := ((1 + (((ar) ++ (rs.flatMap flatPair)).length : Int)) + (((f) ++ (xs.flatMap flatStep)).length : Int)) + (((g) ++ (ys.flatMap flatStep)).length : Int)) (b := 0) rfl rfl ?_)
             refine XL.mv (.bool (decide ((((1 + (((ar) ++ (rs.flatMap flatPair)).length : Int)) + (((f) ++ (xs.flatMap flatStep)).length : Int)) + (((g) ++ (ys.flatMap flatStep)).length : Int) : Int) < 0))) rfl ?_
             by_cases h9 : (((1 + (((ar) ++ (rs.flatMap flatPair)).length : Int)) + (((f) ++ (xs.flatMap flatStep)).length : Int)) + (((g) ++ (ys.flatMap flatStep)).length : Int) : Int) < 0
             ·exact absurd h9 (by omega)
             ·refine XL.yes (t := 93) rfl (vF h9) (XOp.loadN [x23, x24] Tryz.isAgg88 Tryz.sizeOf88 rfl rfl (Rd.ownN [_, _, _, _, _, _, _, _] rfl rfl) ?_)
              refine XL.yes (t := 93) rfl (vF h9) (XOp.loadN [u7, u8] Tryz.isAgg88 Tryz.sizeOf88 rfl rfl (Rd.ownN [_, _, _, _, _, _, _, _, _, _, _, _] rfl rfl) ?_)
              refine XL.yes (t := 93) rfl (vF h9) (XOp.lend [_, _, _, _, _, _] _ _ rfl (fun F37 le37 hz15 => ?_))
              refine id (XOp.lend [_, _, _, _, _, _] _ _ rfl (fun F38 le38 hz16 => ?_))
              have hf15 : IntsF _ x23 ((chainJF ar rs f xs g ys).1) := (intsH.fz (xs := (chainJF ar rs f xs g ys).1) hz15).mono le38
              have hf16 : MovesF _ x24 ((chainJF ar rs f xs g ys).2.1) := movesD.fz hz16
              refine id (XOp.call (args := [.agg #[x23, x24], .agg #[u7, u8]]) Tryz.call42 rfl (eqChain_spec hf15 hf16 ((f6_1hr1.mono (FLe.trans le37 le38))) ((f6_1hr2.mono (FLe.trans le37 le38))) (hfl := (by first | assumption | rfl | omega | simp)) (hal := (by first | assumption | rfl | omega | simp)) (hbd := (by first | assumption | exact fun i hi => by have := hne i hi; omega))) ?_)
              rintro _ _ _ _ ⟨rfl, rfl, rfl⟩
              show XL _ _ _ _ _ _ _ (intsH 2 x23 ((chainJF ar rs f xs g ys).1) :: movesD 2 195 x24 ((chainJF ar rs f xs g ys).2.1) :: intsH 2 x21 m5 :: stepsD 2 158 x22 m6 :: intsH 2 x19 m3 :: stepsD 2 158 x20 m4 :: intsH 2 x17 m1 :: pairsD 2 161 x18 m2 :: cellsH b10 [x23, x24] 88 :: cellsH b9 [x21, x22] 45 :: cellsH b8 [x19, x20] 45 :: cellsH b7 [x17, x18] 39 :: cellsH b6 [u7, u8] 88 :: cellsH b3 [gv, ysv] 31 :: cellsH b2 [fv, xsv] 31 :: cellsH b1 [arv, rsv] 27 :: L)
              refine XL.yes (t := 93) rfl (vF h9) (XOp.notD (p := ((chainJF ar rs f xs g ys).1) = ((chainJF ar rs f xs g ys).1) ∧ ((chainJF ar rs f xs g ys).2.1) = ((chainJF ar rs f xs g ys).2.1)) rfl ?_)
              refine XL.cons (XOp.pickF (.bool (decide (¬(((chainJF ar rs f xs g ys).1) = ((chainJF ar rs f xs g ys).1) ∧ ((chainJF ar rs f xs g ys).2.1) = ((chainJF ar rs f xs g ys).2.1))))) (vF h9) rfl ?_)
              refine XL.mv (.bool (decide (¬(((chainJF ar rs f xs g ys).1) = ((chainJF ar rs f xs g ys).1) ∧ ((chainJF ar rs f xs g ys).2.1) = ((chainJF ar rs f xs g ys).2.1))))) rfl ?_
              refine XL.yes (t := 99) rfl (vF h4) (XOp.move (.bool ((chainJF ar rs f xs g ys).2.2)) rfl ?_)
              refine XL.yes (t := 99) rfl (vF h4) (XOp.move (.bool ((chainJF ar rs f xs g ys).2.2)) rfl ?_)
              refine XL.yes (t := 99) rfl (vF h4) (XOp.neB (a := (chainJF ar rs f xs g ys).2.2) (b := (chainJF ar rs f xs g ys).2.2) Tryz.runUnderlying4 rfl rfl ?_)
              refine XL.cons (XOp.pickF (.bool (decide (((chainJF ar rs f xs g ys).2.2) ≠ ((chainJF ar rs f xs g ys).2.2)))) (vF h4) rfl ?_)
              refine XL.nil ?_
              refine X.condF (vF h5) ?_
              refine X.skip (X.seq (X.region ?_))
              refine XL.as (.int .i64 (1)) rfl ?_
              refine XL.nil (X.seq (X.region ?_))
              refine XL.cons (XOp.loadN [x23, x24] Tryz.isAgg88 Tryz.sizeOf88 rfl rfl (Rd.ownN [_, _, _, _, _, _, _, _] rfl rfl) ?_)
              refine XL.mv (.int .i64 (1)) rfl ?_
              refine XL.weaken (Sub.front (A := [_])) ?_
              show XL _ _ _ _ _ _ _ (movesD 2 195 x24 ((chainJF ar rs f xs g ys).2.1) :: intsH 2 x23 ((chainJF ar rs f xs g ys).1) :: intsH 2 x21 m5 :: stepsD 2 158 x22 m6 :: intsH 2 x19 m3 :: stepsD 2 158 x20 m4 :: intsH 2 x17 m1 :: pairsD 2 161 x18 m2 :: cellsH b10 [x23, x24] 88 :: cellsH b9 [x21, x22] 45 :: cellsH b8 [x19, x20] 45 :: cellsH b7 [x17, x18] 39 :: cellsH b6 [u7, u8] 88 :: cellsH b3 [gv, ysv] 31 :: cellsH b2 [fv, xsv] 31 :: cellsH b1 [arv, rsv] 27 :: L)
              refine XL.weaken (Sub.front (A := [_])) ?_
              show XL _ _ _ _ _ _ _ (intsH 2 x23 ((chainJF ar rs f xs g ys).1) :: movesD 2 195 x24 ((chainJF ar rs f xs g ys).2.1) :: intsH 2 x21 m5 :: stepsD 2 158 x22 m6 :: intsH 2 x19 m3 :: stepsD 2 158 x20 m4 :: intsH 2 x17 m1 :: pairsD 2 161 x18 m2 :: cellsH b10 [x23, x24] 88 :: cellsH b9 [x21, x22] 45 :: cellsH b8 [x19, x20] 45 :: cellsH b7 [x17, x18] 39 :: cellsH b6 [u7, u8] 88 :: cellsH b3 [gv, ysv] 31 :: cellsH b2 [fv, xsv] 31 :: cellsH b1 [arv, rsv] 27 :: L)
              refine XL.cons (XOp.call (args := [.agg #[x23, x24], .int .i64 (1)]) Tryz.call44 rfl (markChain_spec (by (try simp only [List.length_append]); omega) (by omega)) ?_)
              rintro _ _ _ _ ⟨m7, m8, hm4, hk4, rfl, rfl, rfl⟩
              have hml4 := congrArg List.length hm4
              rw [iota_len] at hml4
              try simp only [List.length_append] at hml4
              refine XL.as (.int .i64 (1 + (((((chainJF ar rs f xs g ys).1)) ++ (((chainJF ar rs f xs g ys).2.1).flatMap flatMove)).length : Int))) rfl ?_
              refine XL.nil (X.seq (X.region ?_))
              refine XL.as (.int .i64 (1)) rfl ?_
              refine XL.nil (X.seq (X.region ?_))
              refine XL.cons (XOp.loadN [x23, x24] Tryz.isAgg88 Tryz.sizeOf88 rfl rfl (Rd.ownN [_, _, _, _, _, _, _, _] rfl rfl) ?_)
              refine XL.mv (.int .i64 (1)) rfl ?_
              refine XL.cons (XOp.lend [] _ _ rfl (fun F39 le39 hz17 => ?_))
              refine id (XOp.lend [] _ _ rfl (fun F40 le40 hz18 => ?_))
              have hf17 : IntsF _ x23 m7 := (intsH.fz (xs := m7) hz17).mono le40
              have hf18 : MovesF _ x24 m8 := movesD.fz hz18
              refine id (XOp.call (args := [.agg #[x23, x24], .int .i64 (1)]) Tryz.call45 rfl (heldChain_spec (z := 1) hf17 hf18 (hzb := (by first | assumption | rfl | omega | simp)) (hxl := (by first | assumption | rfl | omega | simp))) ?_)
              rintro _ _ _ _ ⟨rfl, rfl, rfl⟩
              show XL _ _ _ _ _ _ _ (intsH 2 x23 m7 :: movesD 2 195 x24 m8 :: intsH 2 x21 m5 :: stepsD 2 158 x22 m6 :: intsH 2 x19 m3 :: stepsD 2 158 x20 m4 :: intsH 2 x17 m1 :: pairsD 2 161 x18 m2 :: cellsH b10 [x23, x24] 88 :: cellsH b9 [x21, x22] 45 :: cellsH b8 [x19, x20] 45 :: cellsH b7 [x17, x18] 39 :: cellsH b6 [u7, u8] 88 :: cellsH b3 [gv, ysv] 31 :: cellsH b2 [fv, xsv] 31 :: cellsH b1 [arv, rsv] 27 :: L)
              refine XL.as (.int .i64 (heldF (m7 ++ m8.flatMap flatMove) 1)) rfl ?_
              refine XL.nil (X.seq (X.seq (X.region ?_)))
              refine XL.mv (.int .i64 (heldF (m7 ++ m8.flatMap flatMove) 1)) rfl ?_
              refine XL.cons (XOp.lss (a := heldF (m7 ++ m8.flatMap flatMove) 1) (b := 0) rfl rfl ?_)
              refine XL.nil ?_
              refine X.condD (p := (heldF (m7 ++ m8.flatMap flatMove) 1 : Int) < 0) rfl (fun h10 => ?_) (fun h10 => ?_)
              ·rw [hm4, heldF_iota] at h10
               exact absurd h10 (by omega)
              ·have hh2 := (fun (l : List Int) (k k2 : Int) (n : Nat) (h : l = iota k n) (hk : k2 = k) => show heldF l k2 = k + n from (by subst hk; rw [h, heldF_iota])) _ _ (1) _ hm4 (by first | rfl | omega)
               have hh2l := hh2
               try simp only [List.length_append] at hh2l
               refine X.skip (X.seq (X.seq (X.region ?_)))
               refine XL.mv (.int .i64 (heldF (m7 ++ m8.flatMap flatMove) 1)) rfl ?_
               refine XL.mv (.int .i64 (1 + (((((chainJF ar rs f xs g ys).1)) ++ (((chainJF ar rs f xs g ys).2.1).flatMap flatMove)).length : Int))) rfl ?_
               refine XL.cons (XOp.neq (a := heldF (m7 ++ m8.flatMap flatMove) 1) (b := 1 + (((((chainJF ar rs f xs g ys).1)) ++ (((chainJF ar rs f xs g ys).2.1).flatMap flatMove)).length : Int)) rfl rfl ?_)
               refine XL.nil ?_
               refine X.condD (p := (heldF (m7 ++ m8.flatMap flatMove) 1 : Int) ≠ 1 + (((((chainJF ar rs f xs g ys).1)) ++ (((chainJF ar rs f xs g ys).2.1).flatMap flatMove)).length : Int)) rfl (fun h11 => ?_) (fun h11 => ?_)
               ·exact absurd (by rw [hm4, heldF_iota]) h11
               ·refine X.skip (X.seq ?_)
                refine X.drawG [intsH 2 x23 m7, movesD 2 195 x24 m8, intsH 2 x21 m5, stepsD 2 158 x22 m6, intsH 2 x19 m3, stepsD 2 158 x20 m4, intsH 2 x17 m1, pairsD 2 161 x18 m2, cellsH b10 [x23, x24] 88, cellsH b9 [x21, x22] 45, cellsH b8 [x19, x20] 45, cellsH b7 [x17, x18] 39, cellsH b6 [u7, u8] 88, cellsH b3 [gv, ysv] 31, cellsH b2 [fv, xsv] 31, cellsH b1 [arv, rsv] 27] L 12 [[], [], [], [], [], [], [], [6], [6], [], [], [6, 10]] [[], [0], [], [2], [], [4], [1, 3, 5], [6], [6, 7], [6, 7], [], [6, 8, 10]] [[], [], [], [], [], [], [], [], [], [], [], [10]] (phiG [fun FF us v => v = (.agg #[arv, rsv] : Value), fun FF us v => (.agg #[((aggAt v 0)), ((aggAt v 1))] : Value) = v ∧ (IntsF FF ((aggAt v 0)) ar) ∧ (PairsF FF ((aggAt v 1)) rs), fun FF us v => v = (.agg #[fv, xsv] : Value), fun FF us v => (.agg #[((aggAt v 0)), ((aggAt v 1))] : Value) = v ∧ (IntsF FF ((aggAt v 0)) f) ∧ (StepsF FF ((aggAt v 1)) xs), fun FF us v => v = (.agg #[gv, ysv] : Value), fun FF us v => (.agg #[((aggAt v 0)), ((aggAt v 1))] : Value) = v ∧ (IntsF FF ((aggAt v 0)) g) ∧ (StepsF FF ((aggAt v 1)) ys), fun FF us v => (.tuple #[.agg #[((aggAt (tupAt v 0) 0)), ((aggAt (tupAt v 0) 1))], .bool ((chainJF ar rs f xs g ys).2.2)] : Value) = v ∧ (IntsF FF ((aggAt (tupAt v 0) 0)) (chainJF ar rs f xs g ys).1) ∧ (MovesF FF ((aggAt (tupAt v 0) 1)) (chainJF ar rs f xs g ys).2.1), fun FF us v => v = (.tuple #[.agg #[((aggAt (tupAt (us.getD 0 undef) 0) 0)), ((aggAt (tupAt (us.getD 0 undef) 0) 1))], .bool ((chainJF ar rs f xs g ys).2.2)] : Value), fun FF us v => v = (.agg #[((aggAt (tupAt (us.getD 0 undef) 0) 0)), ((aggAt (tupAt (us.getD 0 undef) 0) 1))] : Value), fun FF us v => v = (.bool ((chainJF ar rs f xs g ys).2.2) : Value), fun FF us v => v = ptr (blk v) 0, fun FF us v => True]) (ownL [fun us v => [], fun us v => [], fun us v => [], fun us v => [], fun us v => [], fun us v => [], fun us v => [], fun us v => [], fun us v => [], fun us v => [], fun us v => [cellsH (blk v) [(.slice none 0 0), (.slice none 0 0)] 88], fun us v => [cellsH (blk (us.getD 1 undef)) [((aggAt (tupAt (us.getD 0 undef) 0) 0)), ((aggAt (tupAt (us.getD 0 undef) 0) 1))] 88]]) mixed rfl rfl (by kernel_rfl) (by kernel_rfl) (MonoG.get (MonoG.cons (fun le h => h) (MonoG.cons (fun le h => ⟨h.1, h.2.1.mono le, h.2.2.mono le⟩) (MonoG.cons (fun le h => h) (MonoG.cons (fun le h => ⟨h.1, h.2.1.mono le, h.2.2.mono le⟩) (MonoG.cons (fun le h => h) (MonoG.cons (fun le h => ⟨h.1, h.2.1.mono le, h.2.2.mono le⟩) (MonoG.cons (fun le h => ⟨h.1, h.2.1.mono le, h.2.2.mono le⟩) (MonoG.cons (fun le h => h) (MonoG.cons (fun le h => h) (MonoG.cons (fun le h => h) (MonoG.cons (fun le h => h) (MonoG.cons (fun le h => h) MonoG.nil))))))))))))) ?_ ?_
                ·refine stepsG.cons (fun vals Fs R leFs hpZ => ?_) ?_
                 ·replace har := har.mono leFs
                  replace hrs := hrs.mono leFs
                  replace hf := hf.mono leFs
                  replace hxs := hxs.mono leFs
                  replace hg := hg.mono leFs
                  replace hys := hys.mono leFs
                  replace f1_1hr1 := f1_1hr1.mono leFs
                  replace f1_1hr2 := f1_1hr2.mono leFs
                  replace f3_1hr1 := f3_1hr1.mono leFs
                  replace f3_1hr2 := f3_1hr2.mono leFs
                  replace f5_1hr1 := f5_1hr1.mono leFs
                  replace f5_1hr2 := f5_1hr2.mono leFs
                  replace f6_1hr1 := f6_1hr1.mono leFs
                  replace f6_1hr2 := f6_1hr2.mono leFs
                  replace f2_2hr1 := f2_2hr1.mono leFs
                  replace f2_2hr2 := f2_2hr2.mono leFs
                  replace f2_3hr1 := f2_3hr1.mono leFs
                  replace f2_3hr2 := f2_3hr2.mono leFs
                  replace f2_4hr1 := f2_4hr1.mono leFs
                  replace f2_4hr2 := f2_4hr2.mono leFs
                  refine XG.op (XOp.loadN [arv, rsv] Tryz.isAgg27 Tryz.sizeOf27 rfl rfl (Rd.ownN [_, _, _, _, _, _, _, _, _, _, _, _, _, _, _] rfl rfl) ?_)
                  exact ⟨rfl, rfl⟩
                 refine stepsG.cons (fun vals Fs R leFs hpZ => ?_) ?_
                 ·replace har := har.mono leFs
                  replace hrs := hrs.mono leFs
                  replace hf := hf.mono leFs
                  replace hxs := hxs.mono leFs
                  replace hg := hg.mono leFs
                  replace hys := hys.mono leFs
                  replace f1_1hr1 := f1_1hr1.mono leFs
                  replace f1_1hr2 := f1_1hr2.mono leFs
                  replace f3_1hr1 := f3_1hr1.mono leFs
                  replace f3_1hr2 := f3_1hr2.mono leFs
                  replace f5_1hr1 := f5_1hr1.mono leFs
                  replace f5_1hr2 := f5_1hr2.mono leFs
                  replace f6_1hr1 := f6_1hr1.mono leFs
                  replace f6_1hr2 := f6_1hr2.mono leFs
                  replace f2_2hr1 := f2_2hr1.mono leFs
                  replace f2_2hr2 := f2_2hr2.mono leFs
                  replace f2_3hr1 := f2_3hr1.mono leFs
                  replace f2_3hr2 := f2_3hr2.mono leFs
                  replace f2_4hr1 := f2_4hr1.mono leFs
                  replace f2_4hr2 := f2_4hr2.mono leFs
                  rw [eS (l := [(0, (.agg #[arv, rsv] : Value))]) ⟨(hpZ 0 (by decide)), trivial⟩]
                  refine XG.op (XOp.call (args := [.agg #[arv, rsv]]) Tryz.call11 rfl (toSystem_spec har hrs (hla := (by first | assumption | rfl | omega | simp)) (hrl := (by first | assumption | rfl | omega | simp)) (hrb := (by first | assumption | rfl | omega | simp))) ?_)
                  rintro _ F45 _ le45 ⟨x45, x46, rfl, hr65, hr66, hr67, rfl⟩
                  replace har := har.mono le45
                  replace hrs := hrs.mono le45
                  replace hf := hf.mono le45
                  replace hxs := hxs.mono le45
                  replace hg := hg.mono le45
                  replace hys := hys.mono le45
                  replace f1_1hr1 := f1_1hr1.mono le45
                  replace f1_1hr2 := f1_1hr2.mono le45
                  replace f3_1hr1 := f3_1hr1.mono le45
                  replace f3_1hr2 := f3_1hr2.mono le45
                  replace f5_1hr1 := f5_1hr1.mono le45
                  replace f5_1hr2 := f5_1hr2.mono le45
                  replace f6_1hr1 := f6_1hr1.mono le45
                  replace f6_1hr2 := f6_1hr2.mono le45
                  replace f2_2hr1 := f2_2hr1.mono le45
                  replace f2_2hr2 := f2_2hr2.mono le45
                  replace f2_3hr1 := f2_3hr1.mono le45
                  replace f2_3hr2 := f2_3hr2.mono le45
                  replace f2_4hr1 := f2_4hr1.mono le45
                  replace f2_4hr2 := f2_4hr2.mono le45
                  exact ⟨⟨rfl, hr65, hr66⟩, rfl⟩
                 refine stepsG.cons (fun vals Fs R leFs hpZ => ?_) ?_
                 ·replace har := har.mono leFs
                  replace hrs := hrs.mono leFs
                  replace hf := hf.mono leFs
                  replace hxs := hxs.mono leFs
                  replace hg := hg.mono leFs
                  replace hys := hys.mono leFs
                  replace f1_1hr1 := f1_1hr1.mono leFs
                  replace f1_1hr2 := f1_1hr2.mono leFs
                  replace f3_1hr1 := f3_1hr1.mono leFs
                  replace f3_1hr2 := f3_1hr2.mono leFs
                  replace f5_1hr1 := f5_1hr1.mono leFs
                  replace f5_1hr2 := f5_1hr2.mono leFs
                  replace f6_1hr1 := f6_1hr1.mono leFs
                  replace f6_1hr2 := f6_1hr2.mono leFs
                  replace f2_2hr1 := f2_2hr1.mono leFs
                  replace f2_2hr2 := f2_2hr2.mono leFs
                  replace f2_3hr1 := f2_3hr1.mono leFs
                  replace f2_3hr2 := f2_3hr2.mono leFs
                  replace f2_4hr1 := f2_4hr1.mono leFs
                  replace f2_4hr2 := f2_4hr2.mono leFs
                  refine XG.op (XOp.loadN [fv, xsv] Tryz.isAgg31 Tryz.sizeOf31 rfl rfl (Rd.ownN [_, _, _, _, _, _, _, _, _, _, _, _, _, _] rfl rfl) ?_)
                  exact ⟨rfl, rfl⟩
                 refine stepsG.cons (fun vals Fs R leFs hpZ => ?_) ?_
                 ·replace har := har.mono leFs
                  replace hrs := hrs.mono leFs
                  replace hf := hf.mono leFs
                  replace hxs := hxs.mono leFs
                  replace hg := hg.mono leFs
                  replace hys := hys.mono leFs
                  replace f1_1hr1 := f1_1hr1.mono leFs
                  replace f1_1hr2 := f1_1hr2.mono leFs
                  replace f3_1hr1 := f3_1hr1.mono leFs
                  replace f3_1hr2 := f3_1hr2.mono leFs
                  replace f5_1hr1 := f5_1hr1.mono leFs
                  replace f5_1hr2 := f5_1hr2.mono leFs
                  replace f6_1hr1 := f6_1hr1.mono leFs
                  replace f6_1hr2 := f6_1hr2.mono leFs
                  replace f2_2hr1 := f2_2hr1.mono leFs
                  replace f2_2hr2 := f2_2hr2.mono leFs
                  replace f2_3hr1 := f2_3hr1.mono leFs
                  replace f2_3hr2 := f2_3hr2.mono leFs
                  replace f2_4hr1 := f2_4hr1.mono leFs
                  replace f2_4hr2 := f2_4hr2.mono leFs
                  rw [eS (l := [(2, (.agg #[fv, xsv] : Value))]) ⟨(hpZ 2 (by decide)), trivial⟩]
                  refine XG.op (XOp.call (args := [.agg #[fv, xsv]]) Tryz.call13 rfl (toWalk_spec hf hxs (hfl := (by first | assumption | rfl | omega | simp)) (hsl := (by first | assumption | rfl | omega | simp)) (hsb := (by first | assumption | rfl | omega | simp))) ?_)
                  rintro _ F46 _ le46 ⟨x47, x48, rfl, hr68, hr69, hr70, rfl⟩
                  replace har := har.mono le46
                  replace hrs := hrs.mono le46
                  replace hf := hf.mono le46
                  replace hxs := hxs.mono le46
                  replace hg := hg.mono le46
                  replace hys := hys.mono le46
                  replace f1_1hr1 := f1_1hr1.mono le46
                  replace f1_1hr2 := f1_1hr2.mono le46
                  replace f3_1hr1 := f3_1hr1.mono le46
                  replace f3_1hr2 := f3_1hr2.mono le46
                  replace f5_1hr1 := f5_1hr1.mono le46
                  replace f5_1hr2 := f5_1hr2.mono le46
                  replace f6_1hr1 := f6_1hr1.mono le46
                  replace f6_1hr2 := f6_1hr2.mono le46
                  replace f2_2hr1 := f2_2hr1.mono le46
                  replace f2_2hr2 := f2_2hr2.mono le46
                  replace f2_3hr1 := f2_3hr1.mono le46
                  replace f2_3hr2 := f2_3hr2.mono le46
                  replace f2_4hr1 := f2_4hr1.mono le46
                  replace f2_4hr2 := f2_4hr2.mono le46
                  exact ⟨⟨rfl, hr68, hr69⟩, rfl⟩
                 refine stepsG.cons (fun vals Fs R leFs hpZ => ?_) ?_
                 ·replace har := har.mono leFs
                  replace hrs := hrs.mono leFs
                  replace hf := hf.mono leFs
                  replace hxs := hxs.mono leFs
                  replace hg := hg.mono leFs
                  replace hys := hys.mono leFs
                  replace f1_1hr1 := f1_1hr1.mono leFs
                  replace f1_1hr2 := f1_1hr2.mono leFs
                  replace f3_1hr1 := f3_1hr1.mono leFs
                  replace f3_1hr2 := f3_1hr2.mono leFs
                  replace f5_1hr1 := f5_1hr1.mono leFs
                  replace f5_1hr2 := f5_1hr2.mono leFs
                  replace f6_1hr1 := f6_1hr1.mono leFs
                  replace f6_1hr2 := f6_1hr2.mono leFs
                  replace f2_2hr1 := f2_2hr1.mono leFs
                  replace f2_2hr2 := f2_2hr2.mono leFs
                  replace f2_3hr1 := f2_3hr1.mono leFs
                  replace f2_3hr2 := f2_3hr2.mono leFs
                  replace f2_4hr1 := f2_4hr1.mono leFs
                  replace f2_4hr2 := f2_4hr2.mono leFs
                  refine XG.op (XOp.loadN [gv, ysv] Tryz.isAgg31 Tryz.sizeOf31 rfl rfl (Rd.ownN [_, _, _, _, _, _, _, _, _, _, _, _, _] rfl rfl) ?_)
                  exact ⟨rfl, rfl⟩
                 refine stepsG.cons (fun vals Fs R leFs hpZ => ?_) ?_
                 ·replace har := har.mono leFs
                  replace hrs := hrs.mono leFs
                  replace hf := hf.mono leFs
                  replace hxs := hxs.mono leFs
                  replace hg := hg.mono leFs
                  replace hys := hys.mono leFs
                  replace f1_1hr1 := f1_1hr1.mono leFs
                  replace f1_1hr2 := f1_1hr2.mono leFs
                  replace f3_1hr1 := f3_1hr1.mono leFs
                  replace f3_1hr2 := f3_1hr2.mono leFs
                  replace f5_1hr1 := f5_1hr1.mono leFs
                  replace f5_1hr2 := f5_1hr2.mono leFs
                  replace f6_1hr1 := f6_1hr1.mono leFs
                  replace f6_1hr2 := f6_1hr2.mono leFs
                  replace f2_2hr1 := f2_2hr1.mono leFs
                  replace f2_2hr2 := f2_2hr2.mono leFs
                  replace f2_3hr1 := f2_3hr1.mono leFs
                  replace f2_3hr2 := f2_3hr2.mono leFs
                  replace f2_4hr1 := f2_4hr1.mono leFs
                  replace f2_4hr2 := f2_4hr2.mono leFs
                  rw [eS (l := [(4, (.agg #[gv, ysv] : Value))]) ⟨(hpZ 4 (by decide)), trivial⟩]
                  refine XG.op (XOp.call (args := [.agg #[gv, ysv]]) Tryz.call13 rfl (toWalk_spec hg hys (hfl := (by first | assumption | rfl | omega | simp)) (hsl := (by first | assumption | rfl | omega | simp)) (hsb := (by first | assumption | rfl | omega | simp))) ?_)
                  rintro _ F47 _ le47 ⟨x49, x50, rfl, hr71, hr72, hr73, rfl⟩
                  replace har := har.mono le47
                  replace hrs := hrs.mono le47
                  replace hf := hf.mono le47
                  replace hxs := hxs.mono le47
                  replace hg := hg.mono le47
                  replace hys := hys.mono le47
                  replace f1_1hr1 := f1_1hr1.mono le47
                  replace f1_1hr2 := f1_1hr2.mono le47
                  replace f3_1hr1 := f3_1hr1.mono le47
                  replace f3_1hr2 := f3_1hr2.mono le47
                  replace f5_1hr1 := f5_1hr1.mono le47
                  replace f5_1hr2 := f5_1hr2.mono le47
                  replace f6_1hr1 := f6_1hr1.mono le47
                  replace f6_1hr2 := f6_1hr2.mono le47
                  replace f2_2hr1 := f2_2hr1.mono le47
                  replace f2_2hr2 := f2_2hr2.mono le47
                  replace f2_3hr1 := f2_3hr1.mono le47
                  replace f2_3hr2 := f2_3hr2.mono le47
                  replace f2_4hr1 := f2_4hr1.mono le47
                  replace f2_4hr2 := f2_4hr2.mono le47
                  exact ⟨⟨rfl, hr71, hr72⟩, rfl⟩
                 refine stepsG.cons (fun vals Fs R leFs hpZ => ?_) ?_
                 ·obtain ⟨e1, f1_5hr1, f1_5hr2⟩ := hpZ 1 (by decide)
                  obtain ⟨e3, f3_5hr1, f3_5hr2⟩ := hpZ 3 (by decide)
                  obtain ⟨e5, f5_5hr1, f5_5hr2⟩ := hpZ 5 (by decide)
                  replace har := har.mono leFs
                  replace hrs := hrs.mono leFs
                  replace hf := hf.mono leFs
                  replace hxs := hxs.mono leFs
                  replace hg := hg.mono leFs
                  replace hys := hys.mono leFs
                  replace f1_1hr1 := f1_1hr1.mono leFs
                  replace f1_1hr2 := f1_1hr2.mono leFs
                  replace f3_1hr1 := f3_1hr1.mono leFs
                  replace f3_1hr2 := f3_1hr2.mono leFs
                  replace f5_1hr1 := f5_1hr1.mono leFs
                  replace f5_1hr2 := f5_1hr2.mono leFs
                  replace f6_1hr1 := f6_1hr1.mono leFs
                  replace f6_1hr2 := f6_1hr2.mono leFs
                  replace f2_2hr1 := f2_2hr1.mono leFs
                  replace f2_2hr2 := f2_2hr2.mono leFs
                  replace f2_3hr1 := f2_3hr1.mono leFs
                  replace f2_3hr2 := f2_3hr2.mono leFs
                  replace f2_4hr1 := f2_4hr1.mono leFs
                  replace f2_4hr2 := f2_4hr2.mono leFs
                  rw [eS (l := [(1, (.agg #[((aggAt (vals 1) 0)), ((aggAt (vals 1) 1))] : Value)), (3, (.agg #[((aggAt (vals 3) 0)), ((aggAt (vals 3) 1))] : Value)), (5, (.agg #[((aggAt (vals 5) 0)), ((aggAt (vals 5) 1))] : Value))]) ⟨(e1).symm, (e3).symm, (e5).symm, trivial⟩]
                  refine XG.op (XOp.call (args := [.agg #[((aggAt (vals 1) 0)), ((aggAt (vals 1) 1))], .agg #[((aggAt (vals 3) 0)), ((aggAt (vals 3) 1))], .agg #[((aggAt (vals 5) 0)), ((aggAt (vals 5) 1))]]) Tryz.call41 rfl (ChainOfJoin_spec f1_5hr1 f1_5hr2 f3_5hr1 f3_5hr2 f5_5hr1 f5_5hr2 (hlf := (by first | assumption | rfl | omega | simp)) (hsb := (by first | assumption | rfl | omega | simp)) (hlg := (by first | assumption | rfl | omega | simp)) (hyb := (by first | assumption | rfl | omega | simp))) ?_)
                  rintro _ F48 _ le48 ⟨x51, x52, rfl, hr74, hr75, hr76, rfl⟩
                  replace har := har.mono le48
                  replace hrs := hrs.mono le48
                  replace hf := hf.mono le48
                  replace hxs := hxs.mono le48
                  replace hg := hg.mono le48
                  replace hys := hys.mono le48
                  replace f1_1hr1 := f1_1hr1.mono le48
                  replace f1_1hr2 := f1_1hr2.mono le48
                  replace f3_1hr1 := f3_1hr1.mono le48
                  replace f3_1hr2 := f3_1hr2.mono le48
                  replace f5_1hr1 := f5_1hr1.mono le48
                  replace f5_1hr2 := f5_1hr2.mono le48
                  replace f6_1hr1 := f6_1hr1.mono le48
                  replace f6_1hr2 := f6_1hr2.mono le48
                  replace f2_2hr1 := f2_2hr1.mono le48
                  replace f2_2hr2 := f2_2hr2.mono le48
                  replace f2_3hr1 := f2_3hr1.mono le48
                  replace f2_3hr2 := f2_3hr2.mono le48
                  replace f2_4hr1 := f2_4hr1.mono le48
                  replace f2_4hr2 := f2_4hr2.mono le48
                  replace f1_5hr1 := f1_5hr1.mono le48
                  replace f1_5hr2 := f1_5hr2.mono le48
                  replace f3_5hr1 := f3_5hr1.mono le48
                  replace f3_5hr2 := f3_5hr2.mono le48
                  replace f5_5hr1 := f5_5hr1.mono le48
                  replace f5_5hr2 := f5_5hr2.mono le48
                  exact ⟨⟨rfl, hr74, hr75⟩, rfl⟩
                 refine stepsG.cons (fun vals Fs R leFs hpZ => ?_) ?_
                 ·obtain ⟨e6, f6_5hr1, f6_5hr2⟩ := hpZ 6 (by decide)
                  rw [eS (l := [(6, (.tuple #[.agg #[((aggAt (tupAt (vals 6) 0) 0)), ((aggAt (tupAt (vals 6) 0) 1))], .bool ((chainJF ar rs f xs g ys).2.2)] : Value))]) ⟨(e6).symm, trivial⟩]
                  refine XG.op (XOp.move (.tuple #[.agg #[((aggAt (tupAt (vals 6) 0) 0)), ((aggAt (tupAt (vals 6) 0) 1))], .bool ((chainJF ar rs f xs g ys).2.2)]) rfl ?_)
                  exact ⟨rfl, rfl⟩
                 refine stepsG.cons (fun vals Fs R leFs hpZ => ?_) ?_
                 ·obtain ⟨e6, f6_5hr1, f6_5hr2⟩ := hpZ 6 (by decide)
                  have e7 : vals 7 = (.tuple #[.agg #[((aggAt (tupAt (vals 6) 0) 0)), ((aggAt (tupAt (vals 6) 0) 1))], .bool ((chainJF ar rs f xs g ys).2.2)] : Value) := hpZ 7 (by decide)
                  rw [eS (l := [(6, (.tuple #[.agg #[((aggAt (tupAt (vals 6) 0) 0)), ((aggAt (tupAt (vals 6) 0) 1))], .bool ((chainJF ar rs f xs g ys).2.2)] : Value)), (7, (.tuple #[.agg #[((aggAt (tupAt (vals 6) 0) 0)), ((aggAt (tupAt (vals 6) 0) 1))], .bool ((chainJF ar rs f xs g ys).2.2)] : Value))]) ⟨(e6).symm, e7, trivial⟩]
                  refine XG.op (XOp.extract (.agg #[((aggAt (tupAt (vals 6) 0) 0)), ((aggAt (tupAt (vals 6) 0) 1))]) rfl rfl ?_)
                  exact ⟨rfl, rfl⟩
                 refine stepsG.cons (fun vals Fs R leFs hpZ => ?_) ?_
                 ·obtain ⟨e6, f6_5hr1, f6_5hr2⟩ := hpZ 6 (by decide)
                  have e7 : vals 7 = (.tuple #[.agg #[((aggAt (tupAt (vals 6) 0) 0)), ((aggAt (tupAt (vals 6) 0) 1))], .bool ((chainJF ar rs f xs g ys).2.2)] : Value) := hpZ 7 (by decide)
                  rw [eS (l := [(6, (.tuple #[.agg #[((aggAt (tupAt (vals 6) 0) 0)), ((aggAt (tupAt (vals 6) 0) 1))], .bool ((chainJF ar rs f xs g ys).2.2)] : Value)), (7, (.tuple #[.agg #[((aggAt (tupAt (vals 6) 0) 0)), ((aggAt (tupAt (vals 6) 0) 1))], .bool ((chainJF ar rs f xs g ys).2.2)] : Value))]) ⟨(e6).symm, e7, trivial⟩]
                  refine XG.op (XOp.extract (.bool ((chainJF ar rs f xs g ys).2.2)) rfl rfl ?_)
                  exact ⟨rfl, rfl⟩
                 refine stepsG.cons (fun vals Fs R leFs hpZ => ?_) ?_
                 ·replace har := har.mono leFs
                  replace hrs := hrs.mono leFs
                  replace hf := hf.mono leFs
                  replace hxs := hxs.mono leFs
                  replace hg := hg.mono leFs
                  replace hys := hys.mono leFs
                  replace f1_1hr1 := f1_1hr1.mono leFs
                  replace f1_1hr2 := f1_1hr2.mono leFs
                  replace f3_1hr1 := f3_1hr1.mono leFs
                  replace f3_1hr2 := f3_1hr2.mono leFs
                  replace f5_1hr1 := f5_1hr1.mono leFs
                  replace f5_1hr2 := f5_1hr2.mono leFs
                  replace f6_1hr1 := f6_1hr1.mono leFs
                  replace f6_1hr2 := f6_1hr2.mono leFs
                  replace f2_2hr1 := f2_2hr1.mono leFs
                  replace f2_2hr2 := f2_2hr2.mono leFs
                  replace f2_3hr1 := f2_3hr1.mono leFs
                  replace f2_3hr2 := f2_3hr2.mono leFs
                  replace f2_4hr1 := f2_4hr1.mono leFs
                  replace f2_4hr2 := f2_4hr2.mono leFs
                  refine XG.op (XOp.alloc [(.slice none 0 0), (.slice none 0 0)] Tryz.zeroValue88 rfl ?_)
                  intro b12
                  exact ⟨rfl, rfl⟩
                 refine stepsG.cons (fun vals Fs R leFs hpZ => ?_) ?_
                 ·obtain ⟨e6, f6_5hr1, f6_5hr2⟩ := hpZ 6 (by decide)
                  have e8 : vals 8 = (.agg #[((aggAt (tupAt (vals 6) 0) 0)), ((aggAt (tupAt (vals 6) 0) 1))] : Value) := hpZ 8 (by decide)
                  have e10 : vals 10 = ptr (blk (vals 10)) 0 := hpZ 10 (by decide)
                  replace har := har.mono leFs
                  replace hrs := hrs.mono leFs
                  replace hf := hf.mono leFs
                  replace hxs := hxs.mono leFs
                  replace hg := hg.mono leFs
                  replace hys := hys.mono leFs
                  replace f1_1hr1 := f1_1hr1.mono leFs
                  replace f1_1hr2 := f1_1hr2.mono leFs
                  replace f3_1hr1 := f3_1hr1.mono leFs
                  replace f3_1hr2 := f3_1hr2.mono leFs
                  replace f5_1hr1 := f5_1hr1.mono leFs
                  replace f5_1hr2 := f5_1hr2.mono leFs
                  replace f6_1hr1 := f6_1hr1.mono leFs
                  replace f6_1hr2 := f6_1hr2.mono leFs
                  replace f2_2hr1 := f2_2hr1.mono leFs
                  replace f2_2hr2 := f2_2hr2.mono leFs
                  replace f2_3hr1 := f2_3hr1.mono leFs
                  replace f2_3hr2 := f2_3hr2.mono leFs
                  replace f2_4hr1 := f2_4hr1.mono leFs
                  replace f2_4hr2 := f2_4hr2.mono leFs
                  rw [eS (l := [(6, (.tuple #[.agg #[((aggAt (tupAt (vals 6) 0) 0)), ((aggAt (tupAt (vals 6) 0) 1))], .bool ((chainJF ar rs f xs g ys).2.2)] : Value)), (8, (.agg #[((aggAt (tupAt (vals 6) 0) 0)), ((aggAt (tupAt (vals 6) 0) 1))] : Value)), (10, ptr (blk (vals 10)) 0)]) ⟨(e6).symm, e8, e10, trivial⟩]
                  show XG _ _ _ _ _ (cellsH (blk (vals 10)) [(.slice none 0 0), (.slice none 0 0)] 88 :: ([intsH 2 x23 m7, movesD 2 195 x24 m8, intsH 2 x21 m5, stepsD 2 158 x22 m6, intsH 2 x19 m3, stepsD 2 158 x20 m4, intsH 2 x17 m1, pairsD 2 161 x18 m2, cellsH b10 [x23, x24] 88, cellsH b9 [x21, x22] 45, cellsH b8 [x19, x20] 45, cellsH b7 [x17, x18] 39, cellsH b6 [u7, u8] 88, cellsH b3 [gv, ysv] 31, cellsH b2 [fv, xsv] 31, cellsH b1 [arv, rsv] 27] ++ R)) _
                  refine XG.op (XOp.storeN (vs := [((aggAt (tupAt (vals 6) 0) 0)), ((aggAt (tupAt (vals 6) 0) 1))]) [] _ [((aggAt (tupAt (vals 6) 0) 0)), ((aggAt (tupAt (vals 6) 0) 1))] Tryz.sizeOf88 rfl rfl rfl (ones_cons (one_sl (IntsF.isSl f6_5hr1)) (ones_cons (one_sl (MovesF.isSl f6_5hr2)) ones_nil)) rfl rfl rfl ?_)
                  exact ⟨trivial, rfl⟩
                 exact stepsG.nil
                ·intro vals F49 le49 hphi
                 obtain ⟨e1, f1_5hr1, f1_5hr2⟩ := hphi 1 (by decide)
                 obtain ⟨e3, f3_5hr1, f3_5hr2⟩ := hphi 3 (by decide)
                 obtain ⟨e5, f5_5hr1, f5_5hr2⟩ := hphi 5 (by decide)
                 obtain ⟨e6, f6_5hr1, f6_5hr2⟩ := hphi 6 (by decide)
                 have e7 : vals 7 = (.tuple #[.agg #[((aggAt (tupAt (vals 6) 0) 0)), ((aggAt (tupAt (vals 6) 0) 1))], .bool ((chainJF ar rs f xs g ys).2.2)] : Value) := hphi 7 (by decide)
                 have e8 : vals 8 = (.agg #[((aggAt (tupAt (vals 6) 0) 0)), ((aggAt (tupAt (vals 6) 0) 1))] : Value) := hphi 8 (by decide)
                 have e10 : vals 10 = ptr (blk (vals 10)) 0 := hphi 10 (by decide)
                 generalize hu16 : ((aggAt (vals 1) 0)) = u15 at e1 f1_5hr1 f1_5hr2 e3 f3_5hr1 f3_5hr2 e5 f5_5hr1 f5_5hr2 e6 f6_5hr1 f6_5hr2 e7 e8 e10
                 generalize hu17 : ((aggAt (vals 1) 1)) = u16 at e1 f1_5hr1 f1_5hr2 e3 f3_5hr1 f3_5hr2 e5 f5_5hr1 f5_5hr2 e6 f6_5hr1 f6_5hr2 e7 e8 e10
                 generalize hu18 : ((aggAt (vals 3) 0)) = u17 at e1 f1_5hr1 f1_5hr2 e3 f3_5hr1 f3_5hr2 e5 f5_5hr1 f5_5hr2 e6 f6_5hr1 f6_5hr2 e7 e8 e10
                 generalize hu19 : ((aggAt (vals 3) 1)) = u18 at e1 f1_5hr1 f1_5hr2 e3 f3_5hr1 f3_5hr2 e5 f5_5hr1 f5_5hr2 e6 f6_5hr1 f6_5hr2 e7 e8 e10
                 generalize hu20 : ((aggAt (vals 5) 0)) = u19 at e1 f1_5hr1 f1_5hr2 e3 f3_5hr1 f3_5hr2 e5 f5_5hr1 f5_5hr2 e6 f6_5hr1 f6_5hr2 e7 e8 e10
                 generalize hu21 : ((aggAt (vals 5) 1)) = u20 at e1 f1_5hr1 f1_5hr2 e3 f3_5hr1 f3_5hr2 e5 f5_5hr1 f5_5hr2 e6 f6_5hr1 f6_5hr2 e7 e8 e10
                 generalize hu22 : ((aggAt (tupAt (vals 6) 0) 0)) = u21 at e1 f1_5hr1 f1_5hr2 e3 f3_5hr1 f3_5hr2 e5 f5_5hr1 f5_5hr2 e6 f6_5hr1 f6_5hr2 e7 e8 e10
                 generalize hu23 : ((aggAt (tupAt (vals 6) 0) 1)) = u22 at e1 f1_5hr1 f1_5hr2 e3 f3_5hr1 f3_5hr2 e5 f5_5hr1 f5_5hr2 e6 f6_5hr1 f6_5hr2 e7 e8 e10
                 generalize hu24 : blk (vals 10) = b13 at e1 f1_5hr1 f1_5hr2 e3 f3_5hr1 f3_5hr2 e5 f5_5hr1 f5_5hr2 e6 f6_5hr1 f6_5hr2 e7 e8 e10
                 rw [eS (l := [(0, (.agg #[arv, rsv] : Value)), (1, (.agg #[u15, u16] : Value)), (2, (.agg #[fv, xsv] : Value)), (3, (.agg #[u17, u18] : Value)), (4, (.agg #[gv, ysv] : Value)), (5, (.agg #[u19, u20] : Value)), (6, (.tuple #[.agg #[u21, u22], .bool ((chainJF ar rs f xs g ys).2.2)] : Value)), (7, (.tuple #[.agg #[u21, u22], .bool ((chainJF ar rs f xs g ys).2.2)] : Value)), (8, (.agg #[u21, u22] : Value)), (9, (.bool ((chainJF ar rs f xs g ys).2.2) : Value)), (10, ptr b13 0)]) ⟨(hphi 0 (by decide)), (e1).symm, (hphi 2 (by decide)), (e3).symm, (hphi 4 (by decide)), (e5).symm, (e6).symm, e7, e8, (hphi 9 (by decide)), e10, trivial⟩]
                 replace har := har.mono le49
                 replace hrs := hrs.mono le49
                 replace hf := hf.mono le49
                 replace hxs := hxs.mono le49
                 replace hg := hg.mono le49
                 replace hys := hys.mono le49
                 replace f1_1hr1 := f1_1hr1.mono le49
                 replace f1_1hr2 := f1_1hr2.mono le49
                 replace f3_1hr1 := f3_1hr1.mono le49
                 replace f3_1hr2 := f3_1hr2.mono le49
                 replace f5_1hr1 := f5_1hr1.mono le49
                 replace f5_1hr2 := f5_1hr2.mono le49
                 replace f6_1hr1 := f6_1hr1.mono le49
                 replace f6_1hr2 := f6_1hr2.mono le49
                 replace f2_2hr1 := f2_2hr1.mono le49
                 replace f2_2hr2 := f2_2hr2.mono le49
                 replace f2_3hr1 := f2_3hr1.mono le49
                 replace f2_3hr2 := f2_3hr2.mono le49
                 replace f2_4hr1 := f2_4hr1.mono le49
                 replace f2_4hr2 := f2_4hr2.mono le49
                 show XL _ _ _ _ _ _ _ (cellsH b13 [u21, u22] 88 :: intsH 2 x23 m7 :: movesD 2 195 x24 m8 :: intsH 2 x21 m5 :: stepsD 2 158 x22 m6 :: intsH 2 x19 m3 :: stepsD 2 158 x20 m4 :: intsH 2 x17 m1 :: pairsD 2 161 x18 m2 :: cellsH b10 [x23, x24] 88 :: cellsH b9 [x21, x22] 45 :: cellsH b8 [x19, x20] 45 :: cellsH b7 [x17, x18] 39 :: cellsH b6 [u7, u8] 88 :: cellsH b3 [gv, ysv] 31 :: cellsH b2 [fv, xsv] 31 :: cellsH b1 [arv, rsv] 27 :: L)
                 refine XL.as (.bool ((chainJF ar rs f xs g ys).2.2)) rfl ?_
                 refine XL.nil (X.seq (X.seq (X.region ?_)))
                 refine XL.cons (XOp.loadN [u21, u22] Tryz.isAgg88 Tryz.sizeOf88 rfl rfl (Rd.ownN [] rfl rfl) ?_)
                 refine XL.cons (XOp.loadN [u7, u8] Tryz.isAgg88 Tryz.sizeOf88 rfl rfl (Rd.ownN [_, _, _, _, _, _, _, _, _, _, _, _, _] rfl rfl) ?_)
                 refine XL.cons (XOp.call (args := [.agg #[u21, u22], .agg #[u7, u8]]) Tryz.call42 rfl (eqChain_spec f6_5hr1 f6_5hr2 f6_1hr1 f6_1hr2 (hfl := (by first | assumption | rfl | omega | simp)) (hal := (by first | assumption | rfl | omega | simp)) (hbd := (by first | assumption | exact fun i hi => by have := hne i hi; omega))) ?_)
                 rintro _ _ _ _ ⟨rfl, rfl, rfl⟩
                 refine XL.cons (XOp.notD (p := ((chainJF ar rs f xs g ys).1) = ((chainJF ar rs f xs g ys).1) ∧ ((chainJF ar rs f xs g ys).2.1) = ((chainJF ar rs f xs g ys).2.1)) rfl ?_)
                 refine XL.mv (.bool (decide (¬(((chainJF ar rs f xs g ys).1) = ((chainJF ar rs f xs g ys).1) ∧ ((chainJF ar rs f xs g ys).2.1) = ((chainJF ar rs f xs g ys).2.1))))) rfl ?_
                 refine XL.yes (t := 129) rfl (vF h4) (XOp.move (.bool ((chainJF ar rs f xs g ys).2.2)) rfl ?_)
                 refine XL.yes (t := 129) rfl (vF h4) (XOp.move (.bool ((chainJF ar rs f xs g ys).2.2)) rfl ?_)
                 refine XL.yes (t := 129) rfl (vF h4) (XOp.neB (a := (chainJF ar rs f xs g ys).2.2) (b := (chainJF ar rs f xs g ys).2.2) Tryz.runUnderlying4 rfl rfl ?_)
                 refine XL.cons (XOp.pickF (.bool (decide (((chainJF ar rs f xs g ys).2.2) ≠ ((chainJF ar rs f xs g ys).2.2)))) (vF h4) rfl ?_)
                 refine XL.nil ?_
                 refine X.condF (vF h5) ?_
                 refine X.skip (X.seq (X.region ?_))
                 refine XL.as (.int .i64 (1)) rfl ?_
                 refine XL.nil (X.seq (X.region ?_))
                 refine XL.cons (XOp.loadN [x23, x24] Tryz.isAgg88 Tryz.sizeOf88 rfl rfl (Rd.ownN [_, _, _, _, _, _, _, _, _] rfl rfl) ?_)
                 refine XL.mv (.int .i64 (1)) rfl ?_
                 refine XL.cons (XOp.lend [_] _ _ rfl (fun F50 le50 hz19 => ?_))
                 refine id (XOp.lend [_] _ _ rfl (fun F51 le51 hz20 => ?_))
                 have hf19 : IntsF _ x23 m7 := (intsH.fz (xs := m7) hz19).mono le51
                 have hf20 : MovesF _ x24 m8 := movesD.fz hz20
                 refine id (XOp.call (args := [.agg #[x23, x24], .int .i64 (1)]) Tryz.call45 rfl (heldChain_spec (z := 1) hf19 hf20 (hzb := (by first | assumption | rfl | omega | simp)) (hxl := (by first | assumption | rfl | omega | simp))) ?_)
                 rintro _ _ _ _ ⟨rfl, rfl, rfl⟩
                 show XL _ _ _ _ _ _ _ (intsH 2 x23 m7 :: movesD 2 195 x24 m8 :: cellsH b13 [u21, u22] 88 :: intsH 2 x21 m5 :: stepsD 2 158 x22 m6 :: intsH 2 x19 m3 :: stepsD 2 158 x20 m4 :: intsH 2 x17 m1 :: pairsD 2 161 x18 m2 :: cellsH b10 [x23, x24] 88 :: cellsH b9 [x21, x22] 45 :: cellsH b8 [x19, x20] 45 :: cellsH b7 [x17, x18] 39 :: cellsH b6 [u7, u8] 88 :: cellsH b3 [gv, ysv] 31 :: cellsH b2 [fv, xsv] 31 :: cellsH b1 [arv, rsv] 27 :: L)
                 refine XL.as (.int .i64 (heldF (m7 ++ m8.flatMap flatMove) 1)) rfl ?_
                 refine XL.nil (X.seq (X.seq (X.region ?_)))
                 refine XL.mv (.int .i64 (heldF (m7 ++ m8.flatMap flatMove) 1)) rfl ?_
                 refine XL.cons (XOp.lss (a := heldF (m7 ++ m8.flatMap flatMove) 1) (b := 0) rfl rfl ?_)
                 refine XL.nil ?_
                 refine X.condF (vF h10) ?_
                 refine X.skip (X.seq (X.seq (X.region ?_)))
                 refine XL.mv (.int .i64 (heldF (m7 ++ m8.flatMap flatMove) 1)) rfl ?_
                 refine XL.mv (.int .i64 (1 + (((((chainJF ar rs f xs g ys).1)) ++ (((chainJF ar rs f xs g ys).2.1).flatMap flatMove)).length : Int))) rfl ?_
                 refine XL.cons (XOp.neq (a := heldF (m7 ++ m8.flatMap flatMove) 1) (b := 1 + (((((chainJF ar rs f xs g ys).1)) ++ (((chainJF ar rs f xs g ys).2.1).flatMap flatMove)).length : Int)) rfl rfl ?_)
                 refine XL.nil ?_
                 refine X.condF (vF h11) ?_
                 refine X.skip (X.seq (X.region ?_))
                 refine XL.as (.bool (true)) rfl ?_
                 refine XL.nil ?_
                 refine X.ret (retEnd (L' := L) [.bool (true)] (.bool (true)) (.tmp rfl .nil) rfl rF (FLe.trans (FLe.trans (FLe.trans (FLe.trans le9 le24) le29) le34) le49) (Sub.drop (Sub.drop (Sub.drop (Sub.drop (Sub.drop (Sub.drop (Sub.drop (Sub.drop (Sub.drop (Sub.drop (Sub.drop (Sub.drop (Sub.drop (Sub.drop (Sub.drop (Sub.drop (Sub.drop sR))))))))))))))))) ?_)
                 exact ⟨rfl, rfl, rfl⟩
end Go.Proofs.YtnloeeaidknblaaGreat
