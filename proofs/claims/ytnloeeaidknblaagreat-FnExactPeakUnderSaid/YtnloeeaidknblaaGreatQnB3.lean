/-
  Walks, one after the other (part 4).
-/
import Derived.Test.YtnloeeaidknblaaGreatQnB2
import Derived.Test.YtnloeeaidknblaaGreatX19
import Derived.Test.YtnloeeaidknblaaGreatP18
set_option linter.unusedSimpArgs false
set_option linter.unusedVariables false
namespace Go.Proofs.YtnloeeaidknblaaGreat
open Go X M

/- impl.argsAt -/
theorem argsAt_spec {F : FH} {L : List HP} {arv : Value} {ar : List Int} (har : IntsF F arv ar) {tv : Value} {t : List Int} (ht : IntsF F tv t) {p : Nat} (ho : termOk ar t = true) (hp : p < t.length) :
    Does Tryz.prog 217 [.agg #[arv], tv, .int .i64 (((p : Nat) : Int))] F (L) (fun v F' L' => F = F' ∧ IsSl v ∧ intsH 3 v (argsL ar t p) :: L = L') := by
 refine Does.of_X Tryz.func217 rfl rfl rfl ?_
 have hsl := sigOk_spec (termOk_sig ho)
 have htl := termOk_len ho
 have hsig := termOk_sig ho
 have hA := arity_le hsig (termOk_lt ho hp)
 have hge := termOk_ge ho hp
 have hlt := termOk_lt ho hp
 refine X.seq ?_
 refine X.region ?_
 refine XL.cons (XOp.box [arv] rfl rfl ?_)
 intro b1
 refine XL.cons (XOp.assign ((.slice none 0 0)) rfl ?_)
 refine XL.nil ?_
 refine X.seq ?_
 refine X.region ?_
 refine XL.cons (XOp.assign ((.slice none 0 0)) rfl ?_)
 refine XL.nil ?_
 refine X.seq ?_
 refine X.region ?_
 refine XL.cons (XOp.move (.int .i64 (((p : Nat) : Int))) rfl ?_)
 refine XL.cons (XOp.addR (a := ((p : Nat) : Int)) (b := 1) (((p + 1 : Nat) : Int)) rfl rfl (by omega) (by omega) ?_)
 refine XL.cons (XOp.assign (.int .i64 (((p + 1 : Nat) : Int))) rfl ?_)
 refine XL.nil ?_
 refine X.seq ?_
 refine X.seq ?_
 refine X.draw [cellsH b1 [arv] 36] L 5 [[], [], [], [], []] [[], [], [], [1, 2], [3]] (phiL [fun us v => v = (.agg #[arv] : Value), fun us v => v = tv, fun us v => v = (.int .i64 (((p : Nat) : Int)) : Value), fun us v => v = (.pointer (some (elemA tv (p))) : Value), fun us v => v = (.int .i64 (t.getD p 0) : Value)]) (ownL [fun us v => [], fun us v => [], fun us v => [], fun us v => [], fun us v => []]) mixed rfl rfl (by kernel_rfl) ?_ ?_
 ·refine stepsP.cons (fun vals R hpZ => ?_) ?_
  ·refine XG.op (XOp.loadN [arv] Tryz.isAgg36 Tryz.sizeOf36 rfl rfl (Rd.ownN [] rfl rfl) ?_)
   exact ⟨rfl, rfl, rfl⟩
  refine stepsP.cons (fun vals R hpZ => ?_) ?_
  ·refine XG.op (XOp.move (tv) rfl ?_)
   exact ⟨rfl, rfl, rfl⟩
  refine stepsP.cons (fun vals R hpZ => ?_) ?_
  ·refine XG.op (XOp.move (.int .i64 (((p : Nat) : Int))) rfl ?_)
   exact ⟨rfl, rfl, rfl⟩
  refine stepsP.cons (fun vals R hpZ => ?_) ?_
  ·rw [(envs_of_sat (l := [(1, tv), (2, (.int .i64 (((p : Nat) : Int)) : Value))]) ⟨hpZ 1 (by decide), hpZ 2 (by decide), trivial⟩).symm]
   refine XG.op (XOp.indexS (v := tv) (i := ((p : Nat) : Int)) (n := (t).length) p Tryz.runUnderlying22 Tryz.sizeOf2 rfl rfl rfl ht.slv (by omega) (Nat.mul_one _) ?_)
   exact ⟨rfl, rfl, rfl⟩
  refine stepsP.cons (fun vals R hpZ => ?_) ?_
  ·rw [(envs_of_sat (l := [(3, (.pointer (some (elemA tv (p))) : Value))]) ⟨hpZ 3 (by decide), trivial⟩).symm]
   refine XG.op (XOp.load1 (v := .int .i64 (t.getD p 0)) Tryz.isAgg2 rfl (ht.rd (by omega)) ?_)
   exact ⟨rfl, rfl, rfl⟩
  exact stepsP.nil
 ·intro vals hphi
  have e0 : vals 0 = (.agg #[arv] : Value) := hphi 0 (by decide)
  have e1 : vals 1 = tv := hphi 1 (by decide)
  have e2 : vals 2 = (.int .i64 (((p : Nat) : Int)) : Value) := hphi 2 (by decide)
  have e3 : vals 3 = (.pointer (some (elemA tv (p))) : Value) := hphi 3 (by decide)
  have e4 : vals 4 = (.int .i64 (t.getD p 0) : Value) := hphi 4 (by decide)
  rw [(envs_of_sat (l := [(0, (.agg #[arv] : Value)), (1, tv), (2, (.int .i64 (((p : Nat) : Int)) : Value)), (3, (.pointer (some (elemA tv (p))) : Value)), (4, (.int .i64 (t.getD p 0) : Value))]) ⟨e0, e1, e2, e3, e4, trivial⟩).symm]
  show XL _ _ _ _ _ _ _ (cellsH b1 [arv] 36 :: L)
  refine XL.cons (XOp.call (args := [.agg #[arv], .int .i64 (t.getD p 0)]) Tryz.call228 rfl (arityAt_spec (n := t.getD p 0) har (hn := (by first | assumption | rfl | omega | (left; simp; done) | (right; simp; done)))) ?_)
  rintro _ _ _ _ ⟨rfl, rfl, rfl⟩
  refine XL.cons (XOp.assign (.int .i64 (arity ar (t.getD p 0))) rfl ?_)
  refine XL.nil ?_
  refine X.block ?_
  refine X.loop (α := Nat × Nat × Value × List Int) (fun xQ => [(1, tv), (3, ptr b1 0), (7, xQ.2.2.1), (8, .int .i64 (((xQ.2.1 : Nat) : Int))), (9, .int .i64 (((xQ.1 : Nat) : Int)))]) (fun xQ => intsH 3 xQ.2.2.1 xQ.2.2.2 :: cellsH b1 [arv] 36 :: L) (fun xQ F' => F = F' ∧ (IsSl xQ.2.2.1) ∧ (Stand ar t xQ.1 xQ.2.1 (endN ar t p)) ∧ (argsL ar t p = xQ.2.2.2 ++ argsGo ar t xQ.1 xQ.2.1) ∧ (xQ.2.2.2.length + xQ.1 ≤ 3)) (fun xQ => xQ.1) ((arity ar (t.getD p 0)).toNat, p + 1, (.slice none 0 0), []) ⟨rfl, rfl, rfl, rfl, (congrArg (Value.int .i64) (by first | omega | (rw [sArity_eq (by omega)]; omega))), trivial⟩ (Sub.trans (intsH.addNil 3 none _) (Sub.cons (Sub.cons (Sub.refl _)))) ⟨rfl, (⟨_, _, _, rfl⟩), (stand_start ho hp), (rfl), (by rw [List.length_nil]; omega)⟩ ?_
  rintro ⟨m, q, ov, os⟩ rE _ _ ⟨rfl, hov, hS, hos, hol⟩
  show X _ _ _ _ (envs [(1, tv), (3, ptr b1 0), (7, ov), (8, .int .i64 (((q : Nat) : Int))), (9, .int .i64 (((m : Nat) : Int)))] rE) _ (intsH 3 ov os :: cellsH b1 [arv] 36 :: L)
  dsimp only at hov hS hos hol
  have hst := fun (h : 1 ≤ m) => stand_step ho (n := m - 1) (by rw [Nat.sub_add_cancel h]; exact hS)
  refine X.seq ?_
  refine X.seq ?_
  refine X.region ?_
  refine XL.cons (XOp.move (.int .i64 (((m : Nat) : Int))) rfl ?_)
  refine XL.cons (XOp.gtr (a := ((m : Nat) : Int)) (b := 0) rfl rfl ?_)
  refine XL.nil ?_
  refine X.condD (p := (((m : Nat) : Int) : Int) > 0) rfl (fun h1 => ?_) (fun h1 => ?_)
  ·refine X.skip ?_
   refine X.seq ?_
   refine X.block ?_
   refine X.seq ?_
   refine X.region ?_
   refine XL.cons (XOp.move (ov) rfl ?_)
   refine XL.cons (XOp.move (.int .i64 (((q : Nat) : Int))) rfl ?_)
   refine XL.cons (XOp.buildSlice (s := 1) [.int .i64 (((q : Nat) : Int))] [.int .i64 (0)] [(0, [.int .i64 (((q : Nat) : Int))])] Tryz.runUnderlying235 Tryz.sizeOf3 Tryz.zeroValue3 rfl (by decide) rfl (.cons rfl CellsAre.nil) rfl ?_)
   intro v1 hv1
   refine XL.cons (XOp.append1 (u := ((q : Nat) : Int)) [_] _ Tryz.runUnderlying235 Tryz.typeInfo3 rfl rfl rfl rfl rfl rfl (SlV.own [] rfl) (Rd.sl [] rfl rfl) (by (try simp only [List.length_append, List.length_nil, List.length_cons, List.length_singleton, List.length_take, List.length_drop]); omega) ?_)
   intro v2 hs1 hn1
   refine XL.cons (XOp.assign (v2) rfl ?_)
   refine XL.nil ?_
   refine X.region ?_
   refine XL.cons (XOp.loadN [arv] Tryz.isAgg36 Tryz.sizeOf36 rfl rfl (Rd.ownN [_, _] rfl rfl) ?_)
   refine XL.cons (XOp.move (tv) rfl ?_)
   refine XL.cons (XOp.move (.int .i64 (((q : Nat) : Int))) rfl ?_)
   refine XL.cons (XOp.call (args := [.agg #[arv], tv, .int .i64 ((q : Nat) : Int)]) Tryz.call144 rfl (endAt_ok (p := q) har ht (ho := (by first | assumption | rfl | omega | (left; simp; done) | (right; simp; done))) (hp := (by first | assumption | rfl | omega | (left; simp; done) | (right; simp; done)))) ?_)
   rintro _ _ _ _ ⟨rfl, rfl, rfl⟩
   refine XL.cons (XOp.assign (.int .i64 (((endN ar t q : Nat) : Int))) rfl ?_)
   refine XL.nil ?_
   refine X.region ?_
   refine XL.cons (XOp.move (.int .i64 (((m : Nat) : Int))) rfl ?_)
   refine XL.cons (XOp.subR (a := ((m : Nat) : Int)) (b := 1) ((((m : Nat) : Int)) - 1) rfl rfl (by omega) (by omega) ?_)
   refine XL.cons (XOp.assign (.int .i64 ((((m : Nat) : Int)) - 1)) rfl ?_)
   refine XL.nil ?_
   exact ⟨(m - 1, endN ar t q, v2, os ++ [((q : Nat) : Int)]), _, FLe.refl _, (FLe.refl _), ⟨rfl, rfl, rfl, rfl, (congrArg (Value.int .i64) (by omega)), trivial⟩, (Sub.drop (Sub.cons (Sub.cons (Sub.refl _)))), ⟨rfl, (hs1), ((hst (by omega)).2.1), (args_next ho (by omega) hos), (by dsimp only; rw [List.length_append, List.length_singleton]; omega)⟩, (by omega)⟩
  ·refine X.exit (thenQ_exit (thenQ_exit (blockQ_exit ?_)))
   refine X.seq ?_
   refine X.region ?_
   refine XL.cons (XOp.move (ov) rfl ?_)
   refine XL.cons (XOp.assign (ov) rfl ?_)
   refine XL.nil ?_
   refine X.ret (retEnd (L' := intsH 3 ov os :: L) [ov] (ov) (.tmp rfl .nil) rfl (FLe.refl _) (FLe.refl _) (Sub.cons (Sub.drop (Sub.refl _))) ?_)
   refine ⟨rfl, hov, ?_⟩
   have hxs : (argsL ar t p : List Int) = os := by rw [hos, show m = 0 from by omega]; simp [argsGo]
   exact congrArg (fun z => intsH 3 _ z :: L) hxs

/- spec.l1Args -/
theorem l1Args_spec {F : FH} {L : List HP} {arv : Value} {ar : List Int} (har : IntsF F arv ar) {tv : Value} {t : List Int} (ht : IntsF F tv t) {p : Nat} (ho : termOk ar t = true) (hp : p < t.length) :
    Does Tryz.prog 193 [.agg #[arv], tv, .int .i64 (((p : Nat) : Int))] F (L) (fun v F' L' => F = F' ∧ IsSl v ∧ intsH 2 v (argsL ar t p) :: L = L') := by
 refine Does.of_X Tryz.func193 rfl rfl rfl ?_
 have hsl := sigOk_spec (termOk_sig ho)
 have htl := termOk_len ho
 have hsig := termOk_sig ho
 have hA := arity_le hsig (termOk_lt ho hp)
 have hge := termOk_ge ho hp
 have hlt := termOk_lt ho hp
 refine X.seq ?_
 refine X.region ?_
 refine XL.cons (XOp.box [arv] rfl rfl ?_)
 intro b1
 refine XL.cons (XOp.assign ((.slice none 0 0)) rfl ?_)
 refine XL.nil ?_
 refine X.seq ?_
 refine X.region ?_
 refine XL.cons (XOp.buildSlice (s := 1) [] [.int .i64 (0)] [] Tryz.runUnderlying22 Tryz.sizeOf2 Tryz.zeroValue2 rfl (by decide) rfl CellsAre.nil rfl ?_)
 intro v1 hv1
 refine XL.cons (XOp.assign (v1) rfl ?_)
 refine XL.nil ?_
 refine X.seq ?_
 refine X.region ?_
 refine XL.cons (XOp.move (.int .i64 (((p : Nat) : Int))) rfl ?_)
 refine XL.cons (XOp.addR (a := ((p : Nat) : Int)) (b := 1) (((p + 1 : Nat) : Int)) rfl rfl (by omega) (by omega) ?_)
 refine XL.cons (XOp.assign (.int .i64 (((p + 1 : Nat) : Int))) rfl ?_)
 refine XL.nil ?_
 refine X.seq ?_
 refine X.seq ?_
 refine X.draw [slH 2 1 v1 0 [], cellsH b1 [arv] 36] L 5 [[], [], [], [], []] [[], [], [], [1, 2], [3]] (phiL [fun us v => v = (.agg #[arv] : Value), fun us v => v = tv, fun us v => v = (.int .i64 (((p : Nat) : Int)) : Value), fun us v => v = (.pointer (some (elemA tv (p))) : Value), fun us v => v = (.int .i64 (t.getD p 0) : Value)]) (ownL [fun us v => [], fun us v => [], fun us v => [], fun us v => [], fun us v => []]) mixed rfl rfl (by kernel_rfl) ?_ ?_
 ·refine stepsP.cons (fun vals R hpZ => ?_) ?_
  ·refine XG.op (XOp.loadN [arv] Tryz.isAgg36 Tryz.sizeOf36 rfl rfl (Rd.ownN [_] rfl rfl) ?_)
   exact ⟨rfl, rfl, rfl⟩
  refine stepsP.cons (fun vals R hpZ => ?_) ?_
  ·refine XG.op (XOp.move (tv) rfl ?_)
   exact ⟨rfl, rfl, rfl⟩
  refine stepsP.cons (fun vals R hpZ => ?_) ?_
  ·refine XG.op (XOp.move (.int .i64 (((p : Nat) : Int))) rfl ?_)
   exact ⟨rfl, rfl, rfl⟩
  refine stepsP.cons (fun vals R hpZ => ?_) ?_
  ·rw [(envs_of_sat (l := [(1, tv), (2, (.int .i64 (((p : Nat) : Int)) : Value))]) ⟨hpZ 1 (by decide), hpZ 2 (by decide), trivial⟩).symm]
   refine XG.op (XOp.indexS (v := tv) (i := ((p : Nat) : Int)) (n := (t).length) p Tryz.runUnderlying22 Tryz.sizeOf2 rfl rfl rfl ht.slv (by omega) (Nat.mul_one _) ?_)
   exact ⟨rfl, rfl, rfl⟩
  refine stepsP.cons (fun vals R hpZ => ?_) ?_
  ·rw [(envs_of_sat (l := [(3, (.pointer (some (elemA tv (p))) : Value))]) ⟨hpZ 3 (by decide), trivial⟩).symm]
   refine XG.op (XOp.load1 (v := .int .i64 (t.getD p 0)) Tryz.isAgg2 rfl (ht.rd (by omega)) ?_)
   exact ⟨rfl, rfl, rfl⟩
  exact stepsP.nil
 ·intro vals hphi
  have e0 : vals 0 = (.agg #[arv] : Value) := hphi 0 (by decide)
  have e1 : vals 1 = tv := hphi 1 (by decide)
  have e2 : vals 2 = (.int .i64 (((p : Nat) : Int)) : Value) := hphi 2 (by decide)
  have e3 : vals 3 = (.pointer (some (elemA tv (p))) : Value) := hphi 3 (by decide)
  have e4 : vals 4 = (.int .i64 (t.getD p 0) : Value) := hphi 4 (by decide)
  rw [(envs_of_sat (l := [(0, (.agg #[arv] : Value)), (1, tv), (2, (.int .i64 (((p : Nat) : Int)) : Value)), (3, (.pointer (some (elemA tv (p))) : Value)), (4, (.int .i64 (t.getD p 0) : Value))]) ⟨e0, e1, e2, e3, e4, trivial⟩).symm]
  show XL _ _ _ _ _ _ _ (slH 2 1 v1 0 [] :: cellsH b1 [arv] 36 :: L)
  refine XL.cons (XOp.call (args := [.agg #[arv], .int .i64 (t.getD p 0)]) Tryz.call182 rfl (l1Arity_spec (n := t.getD p 0) har (hla := (by first | assumption | rfl | omega | (left; simp; done) | (right; simp; done)))) ?_)
  rintro _ _ _ _ ⟨rfl, rfl, rfl⟩
  refine XL.cons (XOp.assign (.int .i64 (sArity ar (t.getD p 0))) rfl ?_)
  refine XL.nil ?_
  refine X.block ?_
  refine X.loop (α := Nat × Nat × Value × List Int) (fun xQ => [(1, tv), (3, ptr b1 0), (7, xQ.2.2.1), (8, .int .i64 (((xQ.2.1 : Nat) : Int))), (9, .int .i64 (((xQ.1 : Nat) : Int)))]) (fun xQ => intsH 2 xQ.2.2.1 xQ.2.2.2 :: cellsH b1 [arv] 36 :: L) (fun xQ F' => F = F' ∧ (IsSl xQ.2.2.1) ∧ (Stand ar t xQ.1 xQ.2.1 (endN ar t p)) ∧ (argsL ar t p = xQ.2.2.2 ++ argsGo ar t xQ.1 xQ.2.1) ∧ (xQ.2.2.2.length + xQ.1 ≤ 3)) (fun xQ => xQ.1) ((arity ar (t.getD p 0)).toNat, p + 1, v1, []) ⟨rfl, rfl, rfl, rfl, (congrArg (Value.int .i64) (by first | omega | (rw [sArity_eq (by omega)]; omega))), trivial⟩ (Sub.cons (Sub.cons (Sub.refl _))) ⟨rfl, ((isSl_lit hv1)), (stand_start ho hp), (rfl), (by rw [List.length_nil]; omega)⟩ ?_
  rintro ⟨m, q, ov, os⟩ rE _ _ ⟨rfl, hov, hS, hos, hol⟩
  show X _ _ _ _ (envs [(1, tv), (3, ptr b1 0), (7, ov), (8, .int .i64 (((q : Nat) : Int))), (9, .int .i64 (((m : Nat) : Int)))] rE) _ (intsH 2 ov os :: cellsH b1 [arv] 36 :: L)
  dsimp only at hov hS hos hol
  have hst := fun (h : 1 ≤ m) => stand_step ho (n := m - 1) (by rw [Nat.sub_add_cancel h]; exact hS)
  refine X.seq ?_
  refine X.seq ?_
  refine X.region ?_
  refine XL.cons (XOp.move (.int .i64 (((m : Nat) : Int))) rfl ?_)
  refine XL.cons (XOp.gtr (a := ((m : Nat) : Int)) (b := 0) rfl rfl ?_)
  refine XL.nil ?_
  refine X.condD (p := (((m : Nat) : Int) : Int) > 0) rfl (fun h1 => ?_) (fun h1 => ?_)
  ·refine X.skip ?_
   refine X.seq ?_
   refine X.block ?_
   refine X.seq ?_
   refine X.region ?_
   refine XL.cons (XOp.move (ov) rfl ?_)
   refine XL.cons (XOp.move (.int .i64 (((q : Nat) : Int))) rfl ?_)
   refine XL.cons (XOp.buildSlice (s := 1) [.int .i64 (((q : Nat) : Int))] [.int .i64 (0)] [(0, [.int .i64 (((q : Nat) : Int))])] Tryz.runUnderlying22 Tryz.sizeOf2 Tryz.zeroValue2 rfl (by decide) rfl (.cons rfl CellsAre.nil) rfl ?_)
   intro v2 hv2
   refine XL.cons (XOp.append1 (u := ((q : Nat) : Int)) [_] _ Tryz.runUnderlying22 Tryz.typeInfo2 rfl rfl rfl rfl rfl rfl (SlV.own [] rfl) (Rd.sl [] rfl rfl) (by (try simp only [List.length_append, List.length_nil, List.length_cons, List.length_singleton, List.length_take, List.length_drop]); omega) ?_)
   intro v3 hs1 hn1
   refine XL.cons (XOp.assign (v3) rfl ?_)
   refine XL.nil ?_
   refine X.region ?_
   refine XL.cons (XOp.loadN [arv] Tryz.isAgg36 Tryz.sizeOf36 rfl rfl (Rd.ownN [_, _] rfl rfl) ?_)
   refine XL.cons (XOp.move (tv) rfl ?_)
   refine XL.cons (XOp.move (.int .i64 (((q : Nat) : Int))) rfl ?_)
   refine XL.cons (XOp.call (args := [.agg #[arv], tv, .int .i64 ((q : Nat) : Int)]) Tryz.call130 rfl (l1End_ok (p := q) har ht (ho := (by first | assumption | rfl | omega | (left; simp; done) | (right; simp; done))) (hp := (by first | assumption | rfl | omega | (left; simp; done) | (right; simp; done)))) ?_)
   rintro _ _ _ _ ⟨rfl, rfl, rfl⟩
   refine XL.cons (XOp.assign (.int .i64 (((endN ar t q : Nat) : Int))) rfl ?_)
   refine XL.nil ?_
   refine X.region ?_
   refine XL.cons (XOp.move (.int .i64 (((m : Nat) : Int))) rfl ?_)
   refine XL.cons (XOp.subR (a := ((m : Nat) : Int)) (b := 1) ((((m : Nat) : Int)) - 1) rfl rfl (by omega) (by omega) ?_)
   refine XL.cons (XOp.assign (.int .i64 ((((m : Nat) : Int)) - 1)) rfl ?_)
   refine XL.nil ?_
   exact ⟨(m - 1, endN ar t q, v3, os ++ [((q : Nat) : Int)]), _, FLe.refl _, (FLe.refl _), ⟨rfl, rfl, rfl, rfl, (congrArg (Value.int .i64) (by omega)), trivial⟩, (Sub.drop (Sub.cons (Sub.cons (Sub.refl _)))), ⟨rfl, (hs1), ((hst (by omega)).2.1), (args_next ho (by omega) hos), (by dsimp only; rw [List.length_append, List.length_singleton]; omega)⟩, (by omega)⟩
  ·refine X.exit (thenQ_exit (thenQ_exit (blockQ_exit ?_)))
   refine X.seq ?_
   refine X.region ?_
   refine XL.cons (XOp.move (ov) rfl ?_)
   refine XL.cons (XOp.assign (ov) rfl ?_)
   refine XL.nil ?_
   refine X.ret (retEnd (L' := intsH 2 ov os :: L) [ov] (ov) (.tmp rfl .nil) rfl (FLe.refl _) (FLe.refl _) (Sub.cons (Sub.drop (Sub.refl _))) ?_)
   refine ⟨rfl, hov, ?_⟩
   have hxs : (argsL ar t p : List Int) = os := by rw [hos, show m = 0 from by omega]; simp [argsGo]
   exact congrArg (fun z => intsH 2 _ z :: L) hxs

/- spec.l3Inside -/
theorem l3Inside_spec {F : FH} {L : List HP} {arv : Value} {ar : List Int} (har : IntsF F arv ar) {tv : Value} {t : List Int} (ht : IntsF F tv t) {p : Nat} {q : Int} (ho : termOk ar t = true) (hp : p < t.length) :
    Does Tryz.prog 216 [.agg #[arv], tv, .int .i64 (((p : Nat) : Int)), .int .i64 (q)] F (L) (fun v F' L' => (.bool (decide ((p : Int) ≤ q ∧ q < (endN ar t p : Int))) : Value) = v ∧ F = F' ∧ L = L') := by
 refine Does.of_X Tryz.func216 rfl rfl rfl ?_
 have hsl := sigOk_spec (termOk_sig ho)
 have htl := termOk_len ho
 have hsig := termOk_sig ho
 have hee := endN_spec ho hp
 refine X.seq ?_
 refine X.region ?_
 refine XL.cons (XOp.box [arv] rfl rfl ?_)
 intro b1
 refine XL.cons (XOp.assign (.bool (false)) rfl ?_)
 refine XL.nil ?_
 refine X.seq ?_
 refine X.region ?_
 refine XL.cons (XOp.move (.int .i64 (q)) rfl ?_)
 refine XL.cons (XOp.move (.int .i64 (((p : Nat) : Int))) rfl ?_)
 refine XL.cons (XOp.loadN [arv] Tryz.isAgg36 Tryz.sizeOf36 rfl rfl (Rd.ownN [] rfl rfl) ?_)
 refine XL.cons (XOp.move (tv) rfl ?_)
 refine XL.cons (XOp.move (.int .i64 (((p : Nat) : Int))) rfl ?_)
 refine XL.cons (XOp.call (args := [.agg #[arv], tv, .int .i64 ((p : Nat) : Int)]) Tryz.call130 rfl (l1End_ok (p := p) har ht (ho := (by first | assumption | rfl | omega | (left; simp; done) | (right; simp; done))) (hp := (by first | assumption | rfl | omega | (left; simp; done) | (right; simp; done)))) ?_)
 rintro _ _ _ _ ⟨rfl, rfl, rfl⟩
 refine XL.cons (XOp.subR (a := ((endN ar t p : Nat) : Int)) (b := 1) ((((endN ar t p : Nat) : Int)) - 1) rfl rfl (by omega) (by omega) ?_)
 refine XL.cons (XOp.call (args := [.int .i64 (q), .int .i64 (((p : Nat) : Int)), .int .i64 ((((endN ar t p : Nat) : Int)) - 1)]) Tryz.call66 rfl (l1In_spec (n := q) (a := ((p : Nat) : Int)) (b := (((endN ar t p : Nat) : Int)) - 1)) ?_)
 rintro _ _ _ _ ⟨rfl, rfl, rfl⟩
 refine XL.cons (XOp.assign (.bool (decide ((((p : Nat) : Int)) ≤ q ∧ q ≤ ((((endN ar t p : Nat) : Int)) - 1)))) rfl ?_)
 refine XL.nil ?_
 refine X.ret (retEnd (L' := L) [.bool (decide ((((p : Nat) : Int)) ≤ q ∧ q ≤ ((((endN ar t p : Nat) : Int)) - 1)))] (.bool (decide ((((p : Nat) : Int)) ≤ q ∧ q ≤ ((((endN ar t p : Nat) : Int)) - 1)))) (.tmp rfl .nil) rfl (FLe.refl _) (FLe.refl _) (Sub.drop (Sub.refl _)) ?_)
 exact ⟨(congrArg Value.bool (decide_eq_decide.2 (by omega))), rfl, rfl⟩

/- impl.pathTo -/
theorem pathTo_spec {F : FH} {L : List HP} {arv : Value} {ar : List Int} (har : IntsF F arv ar) {tv : Value} {t : List Int} (ht : IntsF F tv t) {x : Nat} (ho : termOk ar t = true) (hx : x < t.length) :
    Does Tryz.prog 198 [.agg #[arv], tv, .int .i64 (((x : Nat) : Int))] F (L) (fun v F' L' => F = F' ∧ IsSl v ∧ intsH 2 v (pathL ar t x) :: L = L') := by
 refine Does.of_X Tryz.func198 rfl rfl rfl ?_
 have hsl := sigOk_spec (termOk_sig ho)
 have htl := termOk_len ho
 have hsig := termOk_sig ho
 have hz0 : endN ar t 0 = t.length := endN_zero ho
 refine X.seq ?_
 refine X.region ?_
 refine XL.cons (XOp.box [arv] rfl rfl ?_)
 intro b1
 refine XL.cons (XOp.assign ((.slice none 0 0)) rfl ?_)
 refine XL.nil ?_
 refine X.scope ?_
 refine X.seq ?_
 refine X.region ?_
 refine XL.cons (XOp.assign ((.slice none 0 0)) rfl ?_)
 refine XL.nil ?_
 refine X.seq ?_
 refine X.region ?_
 refine XL.cons (XOp.assign (.int .i64 (0)) rfl ?_)
 refine XL.nil ?_
 refine X.seq ?_
 refine X.label ?_
 refine X.seq ?_
 refine X.block ?_
 refine X.loop (α := Nat × Nat × Value × List Int × FH) (fun xQ => [(1, tv), (2, .int .i64 (((x : Nat) : Int))), (3, ptr b1 0), (7, xQ.2.2.1), (8, .int .i64 (((xQ.2.1 : Nat) : Int)))]) (fun xQ => intsH 2 xQ.2.2.1 xQ.2.2.2.1 :: cellsH b1 [arv] 36 :: L) (fun xQ F' => xQ.2.2.2.2 = F' ∧ F ≤ xQ.2.2.2.2 ∧ (IsSl xQ.2.2.1) ∧ (xQ.2.1 ≤ x ∧ x < endN ar t xQ.2.1) ∧ (x - xQ.2.1 ≤ xQ.1) ∧ (pathL ar t x = xQ.2.2.2.1 ++ pathGo ar t x xQ.1 xQ.2.1) ∧ (xQ.2.2.2.1.length + xQ.1 ≤ t.length)) (fun xQ => x - xQ.2.1) (t.length, 0, (.slice none 0 0), [], F) ⟨rfl, rfl, rfl, rfl, rfl, trivial⟩ (Sub.trans (intsH.addNil 2 none _) (Sub.cons (Sub.cons (Sub.refl _)))) ⟨rfl, FLe.refl _, (⟨_, _, _, rfl⟩), (⟨Nat.zero_le _, by rw [hz0]; exact hx⟩), (by omega), (rfl), (by simp)⟩ ?_
 rintro ⟨f, p, ov, os, G1⟩ rE _ _ ⟨rfl, leG, hov, hpx, hf, hos, hol⟩
 show X _ _ _ _ (envs [(1, tv), (2, .int .i64 (((x : Nat) : Int))), (3, ptr b1 0), (7, ov), (8, .int .i64 (((p : Nat) : Int)))] rE) _ (intsH 2 ov os :: cellsH b1 [arv] 36 :: L)
 replace leG : F ≤ G1 := leG
 dsimp only at hov hpx hf hos hol
 have leG1 := leG
 replace har := har.mono leG1
 replace ht := ht.mono leG1
 refine X.seq ?_
 refine X.seq ?_
 refine X.region ?_
 refine XL.cons (XOp.move (.int .i64 (((p : Nat) : Int))) rfl ?_)
 refine XL.cons (XOp.move (.int .i64 (((x : Nat) : Int))) rfl ?_)
 refine XL.cons (XOp.neq (a := ((p : Nat) : Int)) (b := ((x : Nat) : Int)) rfl rfl ?_)
 refine XL.nil ?_
 refine X.condD (p := (((p : Nat) : Int) : Int) ≠ ((x : Nat) : Int)) rfl (fun h1 => ?_) (fun h1 => ?_)
 ·refine X.skip ?_
  refine X.block ?_
  refine X.seq ?_
  refine X.region ?_
  refine XL.cons (XOp.loadN [arv] Tryz.isAgg36 Tryz.sizeOf36 rfl rfl (Rd.ownN [_] rfl rfl) ?_)
  refine XL.cons (XOp.move (tv) rfl ?_)
  refine XL.cons (XOp.move (.int .i64 (((p : Nat) : Int))) rfl ?_)
  refine XL.cons (XOp.frzF <| XOp.call (args := [.agg #[arv], tv, .int .i64 ((p : Nat) : Int)]) Tryz.call217 rfl (argsAt_spec (p := p) har ht (ho := (by first | assumption | rfl | omega | (left; simp; done) | (right; simp; done))) (hp := (by first | assumption | rfl | omega | (left; simp; done) | (right; simp; done)))) ?_)
  rintro v1 _ _ _ ⟨rfl, hs1, rfl⟩
  refine ⟨_, _, rfl, fun F1 le1 hz1 => ?_⟩
  replace har := har.mono le1
  replace ht := ht.mono le1
  have hf1 : IntsF F1 v1 ((argsL ar t p)) := intsH.fz (xs := (argsL ar t p)) hz1.fz
  refine XL.cons (XOp.lenS (v := v1) (n := ((argsL ar t p)).length) Tryz.runUnderlying235 rfl hf1.slv ?_)
  refine XL.cons (XOp.move (.int .i64 (0)) rfl ?_)
  refine XL.nil ?_
  refine X.block ?_
  refine X.loop (α := Nat) (fun k => [(1, tv), (2, .int .i64 (((x : Nat) : Int))), (3, ptr b1 0), (7, ov), (8, .int .i64 (((p : Nat) : Int))), (17, v1), (18, .int .i64 (((((argsL ar t p)).length : Nat) : Int))), (19, .int .i64 (((k : Nat) : Int)))]) (fun k => intsH 2 ov os :: cellsH b1 [arv] 36 :: L) (fun k F' => F1 = F' ∧ (k ≤ (argsL ar t p).length) ∧ (∀ i, i < k → inAt ar t x ((argsL ar t p).getD i 0) = false)) (fun k => (argsL ar t p).length - k) 0 ⟨rfl, rfl, rfl, rfl, rfl, rfl, rfl, rfl, trivial⟩ (Sub.cons (Sub.cons (Sub.refl _))) ⟨rfl, (by (try dsimp only) <;> omega), (fun i hi => absurd hi (by omega))⟩ ?_
  rintro k rE _ _ ⟨rfl, hk, hall⟩
  show X _ _ _ _ (envs [(1, tv), (2, .int .i64 (((x : Nat) : Int))), (3, ptr b1 0), (7, ov), (8, .int .i64 (((p : Nat) : Int))), (17, v1), (18, .int .i64 (((((argsL ar t p)).length : Nat) : Int))), (19, .int .i64 (((k : Nat) : Int)))] rE) _ (intsH 2 ov os :: cellsH b1 [arv] 36 :: L)
  have hle := argsL_le ho (show p < t.length by omega)
  have hia := fun (h : k < (argsL ar t p).length) => argsL_in ho (by omega) h
  refine X.seq ?_
  refine X.region ?_
  refine XL.cons (XOp.lss (a := ((k : Nat) : Int)) (b := ((((argsL ar t p)).length : Nat) : Int)) rfl rfl ?_)
  refine XL.nil ?_
  refine X.seq ?_
  refine X.condD (p := (((k : Nat) : Int) : Int) < ((((argsL ar t p)).length : Nat) : Int)) rfl (fun h2 => ?_) (fun h2 => ?_)
  ·refine X.skip ?_
   refine X.seq ?_
   refine X.block ?_
   refine X.seq ?_
   refine X.region ?_
   refine XL.cons (XOp.move (.int .i64 (((k : Nat) : Int))) rfl ?_)
   refine XL.cons (XOp.indexS (v := v1) (i := ((k : Nat) : Int)) (n := ((argsL ar t p)).length) k Tryz.runUnderlying235 Tryz.sizeOf3 rfl rfl rfl hf1.slv (by omega) (Nat.mul_one _) ?_)
   refine XL.cons (XOp.load1 (v := .int .i64 (((argsL ar t p)).getD k 0)) Tryz.isAgg3 rfl (hf1.rd (by omega)) ?_)
   refine XL.cons (XOp.assign (.int .i64 (((k : Nat) : Int))) rfl ?_)
   refine XL.cons (XOp.assign (.int .i64 (((argsL ar t p)).getD k 0)) rfl ?_)
   refine XL.nil ?_
   refine X.seq ?_
   refine X.region ?_
   refine XL.cons (XOp.loadN [arv] Tryz.isAgg36 Tryz.sizeOf36 rfl rfl (Rd.ownN [_] rfl rfl) ?_)
   refine XL.cons (XOp.move (tv) rfl ?_)
   refine XL.cons (XOp.move (.int .i64 (((argsL ar t p)).getD k 0)) rfl ?_)
   refine XL.cons (XOp.move (.int .i64 (((x : Nat) : Int))) rfl ?_)
   refine XL.cons (XOp.call (args := [.agg #[arv], tv, .int .i64 (((((argsL ar t p)).getD k 0).toNat : Nat) : Int), .int .i64 (((x : Nat) : Int))]) Tryz.call218 (by rw [show (((((argsL ar t p)).getD k 0).toNat : Nat) : Int) = ((argsL ar t p)).getD k 0 from by omega]; rfl) (inside_spec (p := (((argsL ar t p)).getD k 0).toNat) (q := ((x : Nat) : Int)) har ht (ho := (ho)) (hp := (by have := hia (by omega); omega))) ?_)
   rintro _ _ _ _ ⟨rfl, rfl, rfl⟩
   refine XL.nil ?_
   refine X.condD (p := (((((argsL ar t p)).getD k 0).toNat) : Int) ≤ (((x : Nat) : Int)) ∧ (((x : Nat) : Int)) < (endN ar t ((((argsL ar t p)).getD k 0).toNat) : Int)) rfl (fun h3 => ?_) (fun h3 => ?_)
   ·have hyes : inAt ar t x ((argsL ar t p).getD k 0) = true := inAt_iff.2 (by have := hia (by omega); omega)
    refine X.seq ?_
    refine X.region ?_
    refine XL.cons (XOp.move (ov) rfl ?_)
    refine XL.cons (XOp.move (.int .i64 (((k : Nat) : Int))) rfl ?_)
    refine XL.cons (XOp.buildSlice (s := 1) [.int .i64 (((k : Nat) : Int))] [.int .i64 (0)] [(0, [.int .i64 (((k : Nat) : Int))])] Tryz.runUnderlying22 Tryz.sizeOf2 Tryz.zeroValue2 rfl (by decide) rfl (.cons rfl CellsAre.nil) rfl ?_)
    intro v2 hv1
    refine XL.cons (XOp.append1 (u := ((k : Nat) : Int)) [_] _ Tryz.runUnderlying22 Tryz.typeInfo2 rfl rfl rfl rfl rfl rfl (SlV.own [] rfl) (Rd.sl [] rfl rfl) (by (try simp only [List.length_append, List.length_nil, List.length_cons, List.length_singleton, List.length_take, List.length_drop]); omega) ?_)
    intro v3 hs2 hn1
    refine XL.cons (XOp.assign (v3) rfl ?_)
    refine XL.nil ?_
    refine X.seq ?_
    refine X.region ?_
    refine XL.cons (XOp.move (.int .i64 (((argsL ar t p)).getD k 0)) rfl ?_)
    refine XL.cons (XOp.assign (.int .i64 (((argsL ar t p)).getD k 0)) rfl ?_)
    refine XL.nil ?_
    refine X.exit (blockQ_other (by decide) (thenQ_exit (thenQ_exit (blockQ_other (by decide) (blockQ_exit ?_)))))
    exact ⟨(f - 1, ((argsL ar t p).getD k 0).toNat, v3, os ++ [((k : Nat) : Int)], F1), _, (FLe.trans leG1 le1), (FLe.refl _), ⟨rfl, rfl, rfl, rfl, (congrArg (Value.int .i64) (by have := hia (by omega); dsimp only; omega)), trivial⟩, (Sub.drop (Sub.cons (Sub.cons (Sub.refl _)))), ⟨rfl, (FLe.trans leG1 le1), (hs2), ((by have h9 := inAt_iff.1 hyes; have := hia (by omega); dsimp only; constructor <;> omega)), (by have := hia (by omega); dsimp only; omega), (by (try dsimp only); exact path_next hos hf (by omega) (by omega) hyes hall), (by dsimp only; rw [List.length_append, List.length_singleton]; omega)⟩, (by have h9 := inAt_iff.1 hyes; have := hia (by omega); dsimp only; omega)⟩
   ·have hno : inAt ar t x ((argsL ar t p).getD k 0) = false := by
      rw [Bool.eq_false_iff]; intro h9; have h8 := inAt_iff.1 h9; have := hia (by omega); omega
    refine X.skip ?_
    refine X.region ?_
    refine XL.cons (XOp.addR (a := ((k : Nat) : Int)) (b := 1) (((k + 1 : Nat) : Int)) rfl rfl (by omega) (by omega) ?_)
    refine XL.cons (XOp.move (.int .i64 (((k + 1 : Nat) : Int))) rfl ?_)
    refine XL.nil ?_
    exact ⟨k + 1, _, FLe.refl _, (FLe.refl _), ⟨rfl, rfl, rfl, rfl, rfl, rfl, rfl, rfl, trivial⟩, (Sub.cons (Sub.cons (Sub.refl _))), ⟨rfl, (by (try dsimp only) <;> omega), (fun i hi => (Nat.lt_or_ge i k).elim (fun h => hall i h) (fun h => by obtain rfl : i = k := (by omega); exact hno))⟩, (by omega)⟩
  ·exact (args_some ho (by omega) hpx.2 hx (fun i hi => hall i (by omega))).elim
 ·refine X.exit (thenQ_exit (thenQ_exit (blockQ_exit ?_)))
  refine X.seq ?_
  refine X.region ?_
  refine XL.cons (XOp.move (ov) rfl ?_)
  refine XL.cons (XOp.assign (ov) rfl ?_)
  refine XL.nil ?_
  refine X.ret (scopeQ_ret (retEnd (L' := intsH 2 ov os :: L) [ov] (ov) (.tmp rfl .nil) rfl (FLe.refl _) leG1 (Sub.cons (Sub.drop (Sub.refl _))) ?_))
  refine ⟨rfl, hov, ?_⟩
  have hxs : (pathL ar t x : List Int) = os := by have h0 : p = x := (by omega); rw [h0] at hos; exact path_end hos
  exact congrArg (fun z => intsH 2 _ z :: L) hxs

/- spec.l3Path -/
theorem l3Path_spec {F : FH} {L : List HP} {arv : Value} {ar : List Int} (har : IntsF F arv ar) {tv : Value} {t : List Int} (ht : IntsF F tv t) {x : Nat} (ho : termOk ar t = true) (hx : x < t.length) :
    Does Tryz.prog 195 [.agg #[arv], tv, .int .i64 (((x : Nat) : Int))] F (L) (fun v F' L' => F = F' ∧ IsSl v ∧ intsH 2 v (pathL ar t x) :: L = L') := by
 refine Does.of_X Tryz.func195 rfl rfl rfl ?_
 have hsl := sigOk_spec (termOk_sig ho)
 have htl := termOk_len ho
 have hsig := termOk_sig ho
 have hz0 : endN ar t 0 = t.length := endN_zero ho
 refine X.seq ?_
 refine X.region ?_
 refine XL.cons (XOp.box [arv] rfl rfl ?_)
 intro b1
 refine XL.cons (XOp.assign ((.slice none 0 0)) rfl ?_)
 refine XL.nil ?_
 refine X.seq ?_
 refine X.region ?_
 refine XL.cons (XOp.buildSlice (s := 1) [] [.int .i64 (0)] [] Tryz.runUnderlying22 Tryz.sizeOf2 Tryz.zeroValue2 rfl (by decide) rfl CellsAre.nil rfl ?_)
 intro v1 hv1
 refine XL.cons (XOp.assign (v1) rfl ?_)
 refine XL.nil ?_
 refine X.seq ?_
 refine X.region ?_
 refine XL.cons (XOp.assign (.int .i64 (0)) rfl ?_)
 refine XL.nil ?_
 refine X.seq ?_
 refine X.block ?_
 refine X.loop (α := Nat × Nat × Value × List Int × FH) (fun xQ => [(1, tv), (2, .int .i64 (((x : Nat) : Int))), (3, ptr b1 0), (7, xQ.2.2.1), (8, .int .i64 (((xQ.2.1 : Nat) : Int)))]) (fun xQ => intsH 2 xQ.2.2.1 xQ.2.2.2.1 :: cellsH b1 [arv] 36 :: L) (fun xQ F' => xQ.2.2.2.2 = F' ∧ F ≤ xQ.2.2.2.2 ∧ (IsSl xQ.2.2.1) ∧ (xQ.2.1 ≤ x ∧ x < endN ar t xQ.2.1) ∧ (x - xQ.2.1 ≤ xQ.1) ∧ (pathL ar t x = xQ.2.2.2.1 ++ pathGo ar t x xQ.1 xQ.2.1) ∧ (xQ.2.2.2.1.length + xQ.1 ≤ t.length)) (fun xQ => x - xQ.2.1) (t.length, 0, v1, [], F) ⟨rfl, rfl, rfl, rfl, rfl, trivial⟩ (Sub.cons (Sub.cons (Sub.refl _))) ⟨rfl, FLe.refl _, ((isSl_lit hv1)), (⟨Nat.zero_le _, by rw [hz0]; exact hx⟩), (by omega), (rfl), (by simp)⟩ ?_
 rintro ⟨f, p, ov, os, G1⟩ rE _ _ ⟨rfl, leG, hov, hpx, hf, hos, hol⟩
 show X _ _ _ _ (envs [(1, tv), (2, .int .i64 (((x : Nat) : Int))), (3, ptr b1 0), (7, ov), (8, .int .i64 (((p : Nat) : Int)))] rE) _ (intsH 2 ov os :: cellsH b1 [arv] 36 :: L)
 replace leG : F ≤ G1 := leG
 dsimp only at hov hpx hf hos hol
 have leG1 := leG
 replace har := har.mono leG1
 replace ht := ht.mono leG1
 refine X.seq ?_
 refine X.seq ?_
 refine X.region ?_
 refine XL.cons (XOp.move (.int .i64 (((p : Nat) : Int))) rfl ?_)
 refine XL.cons (XOp.move (.int .i64 (((x : Nat) : Int))) rfl ?_)
 refine XL.cons (XOp.neq (a := ((p : Nat) : Int)) (b := ((x : Nat) : Int)) rfl rfl ?_)
 refine XL.nil ?_
 refine X.condD (p := (((p : Nat) : Int) : Int) ≠ ((x : Nat) : Int)) rfl (fun h1 => ?_) (fun h1 => ?_)
 ·refine X.skip ?_
  refine X.block ?_
  refine X.seq ?_
  refine X.region ?_
  refine XL.cons (XOp.loadN [arv] Tryz.isAgg36 Tryz.sizeOf36 rfl rfl (Rd.ownN [_] rfl rfl) ?_)
  refine XL.cons (XOp.move (tv) rfl ?_)
  refine XL.cons (XOp.move (.int .i64 (((p : Nat) : Int))) rfl ?_)
  refine XL.cons (XOp.frzF <| XOp.call (args := [.agg #[arv], tv, .int .i64 ((p : Nat) : Int)]) Tryz.call193 rfl (l1Args_spec (p := p) har ht (ho := (by first | assumption | rfl | omega | (left; simp; done) | (right; simp; done))) (hp := (by first | assumption | rfl | omega | (left; simp; done) | (right; simp; done)))) ?_)
  rintro v2 _ _ _ ⟨rfl, hs1, rfl⟩
  refine ⟨_, _, rfl, fun F1 le1 hz1 => ?_⟩
  replace har := har.mono le1
  replace ht := ht.mono le1
  have hf1 : IntsF F1 v2 ((argsL ar t p)) := intsH.fz (xs := (argsL ar t p)) hz1.fz
  refine XL.cons (XOp.assign (v2) rfl ?_)
  refine XL.nil ?_
  refine X.seq ?_
  refine X.region ?_
  refine XL.cons (XOp.assign (.int .i64 (0)) rfl ?_)
  refine XL.nil ?_
  refine X.block ?_
  refine X.loop (α := Nat) (fun k => [(1, tv), (2, .int .i64 (((x : Nat) : Int))), (3, ptr b1 0), (7, ov), (8, .int .i64 (((p : Nat) : Int))), (9, v2), (10, .int .i64 (((k : Nat) : Int)))]) (fun k => intsH 2 ov os :: cellsH b1 [arv] 36 :: L) (fun k F' => F1 = F' ∧ (k ≤ (argsL ar t p).length) ∧ (∀ i, i < k → inAt ar t x ((argsL ar t p).getD i 0) = false)) (fun k => (argsL ar t p).length - k) 0 ⟨rfl, rfl, rfl, rfl, rfl, rfl, rfl, trivial⟩ (Sub.cons (Sub.cons (Sub.refl _))) ⟨rfl, (by (try dsimp only) <;> omega), (fun i hi => absurd hi (by omega))⟩ ?_
  rintro k rE _ _ ⟨rfl, hk, hall⟩
  show X _ _ _ _ (envs [(1, tv), (2, .int .i64 (((x : Nat) : Int))), (3, ptr b1 0), (7, ov), (8, .int .i64 (((p : Nat) : Int))), (9, v2), (10, .int .i64 (((k : Nat) : Int)))] rE) _ (intsH 2 ov os :: cellsH b1 [arv] 36 :: L)
  have hle := argsL_le ho (show p < t.length by omega)
  have hia := fun (h : k < (argsL ar t p).length) => argsL_in ho (by omega) h
  refine X.seq ?_
  refine X.seq ?_
  refine X.region ?_
  refine XL.cons (XOp.move (.int .i64 (((k : Nat) : Int))) rfl ?_)
  refine XL.cons (XOp.move (v2) rfl ?_)
  refine XL.cons (XOp.lenS (v := v2) (n := ((argsL ar t p)).length) Tryz.runUnderlying22 rfl hf1.slv ?_)
  refine XL.cons (XOp.lss (a := ((k : Nat) : Int)) (b := ((((argsL ar t p)).length : Nat) : Int)) rfl rfl ?_)
  refine XL.nil ?_
  refine X.condD (p := (((k : Nat) : Int) : Int) < ((((argsL ar t p)).length : Nat) : Int)) rfl (fun h2 => ?_) (fun h2 => ?_)
  ·refine X.skip ?_
   refine X.seq ?_
   refine X.block ?_
   refine X.seq ?_
   refine X.draw [intsH 2 ov os, cellsH b1 [arv] 36] L 7 [[], [], [], [], [], [], []] [[], [], [], [], [2, 3], [4], []] (phiL [fun us v => v = (.agg #[arv] : Value), fun us v => v = tv, fun us v => v = v2, fun us v => v = (.int .i64 (((k : Nat) : Int)) : Value), fun us v => v = (.pointer (some (elemA v2 (k))) : Value), fun us v => v = (.int .i64 (((argsL ar t p)).getD k 0) : Value), fun us v => v = (.int .i64 (((x : Nat) : Int)) : Value)]) (ownL [fun us v => [], fun us v => [], fun us v => [], fun us v => [], fun us v => [], fun us v => [], fun us v => []]) mixed rfl rfl (by kernel_rfl) ?_ ?_
   ·refine stepsP.cons (fun vals R hpZ => ?_) ?_
    ·refine XG.op (XOp.loadN [arv] Tryz.isAgg36 Tryz.sizeOf36 rfl rfl (Rd.ownN [_] rfl rfl) ?_)
     exact ⟨rfl, rfl, rfl⟩
    refine stepsP.cons (fun vals R hpZ => ?_) ?_
    ·refine XG.op (XOp.move (tv) rfl ?_)
     exact ⟨rfl, rfl, rfl⟩
    refine stepsP.cons (fun vals R hpZ => ?_) ?_
    ·refine XG.op (XOp.move (v2) rfl ?_)
     exact ⟨rfl, rfl, rfl⟩
    refine stepsP.cons (fun vals R hpZ => ?_) ?_
    ·refine XG.op (XOp.move (.int .i64 (((k : Nat) : Int))) rfl ?_)
     exact ⟨rfl, rfl, rfl⟩
    refine stepsP.cons (fun vals R hpZ => ?_) ?_
    ·rw [(envs_of_sat (l := [(2, v2), (3, (.int .i64 (((k : Nat) : Int)) : Value))]) ⟨hpZ 2 (by decide), hpZ 3 (by decide), trivial⟩).symm]
     refine XG.op (XOp.indexS (v := v2) (i := ((k : Nat) : Int)) (n := ((argsL ar t p)).length) k Tryz.runUnderlying22 Tryz.sizeOf2 rfl rfl rfl hf1.slv (by omega) (Nat.mul_one _) ?_)
     exact ⟨rfl, rfl, rfl⟩
    refine stepsP.cons (fun vals R hpZ => ?_) ?_
    ·rw [(envs_of_sat (l := [(4, (.pointer (some (elemA v2 (k))) : Value))]) ⟨hpZ 4 (by decide), trivial⟩).symm]
     refine XG.op (XOp.load1 (v := .int .i64 (((argsL ar t p)).getD k 0)) Tryz.isAgg2 rfl (hf1.rd (by omega)) ?_)
     exact ⟨rfl, rfl, rfl⟩
    refine stepsP.cons (fun vals R hpZ => ?_) ?_
    ·refine XG.op (XOp.move (.int .i64 (((x : Nat) : Int))) rfl ?_)
     exact ⟨rfl, rfl, rfl⟩
    exact stepsP.nil
   ·intro vals hphi
    have e0 : vals 0 = (.agg #[arv] : Value) := hphi 0 (by decide)
    have e1 : vals 1 = tv := hphi 1 (by decide)
    have e2 : vals 2 = v2 := hphi 2 (by decide)
    have e3 : vals 3 = (.int .i64 (((k : Nat) : Int)) : Value) := hphi 3 (by decide)
    have e4 : vals 4 = (.pointer (some (elemA v2 (k))) : Value) := hphi 4 (by decide)
    have e5 : vals 5 = (.int .i64 (((argsL ar t p)).getD k 0) : Value) := hphi 5 (by decide)
    have e6 : vals 6 = (.int .i64 (((x : Nat) : Int)) : Value) := hphi 6 (by decide)
    rw [(envs_of_sat (l := [(0, (.agg #[arv] : Value)), (1, tv), (2, v2), (3, (.int .i64 (((k : Nat) : Int)) : Value)), (4, (.pointer (some (elemA v2 (k))) : Value)), (5, (.int .i64 (((argsL ar t p)).getD k 0) : Value)), (6, (.int .i64 (((x : Nat) : Int)) : Value))]) ⟨e0, e1, e2, e3, e4, e5, e6, trivial⟩).symm]
    show XL _ _ _ _ _ _ _ (intsH 2 ov os :: cellsH b1 [arv] 36 :: L)
    refine XL.cons (XOp.call (args := [.agg #[arv], tv, .int .i64 (((((argsL ar t p)).getD k 0).toNat : Nat) : Int), .int .i64 (((x : Nat) : Int))]) Tryz.call216 (by rw [show (((((argsL ar t p)).getD k 0).toNat : Nat) : Int) = ((argsL ar t p)).getD k 0 from by omega]; rfl) (l3Inside_spec (p := (((argsL ar t p)).getD k 0).toNat) (q := ((x : Nat) : Int)) har ht (ho := (ho)) (hp := (by have := hia (by omega); omega))) ?_)
    rintro _ _ _ _ ⟨rfl, rfl, rfl⟩
    refine XL.nil ?_
    refine X.condD (p := (((((argsL ar t p)).getD k 0).toNat) : Int) ≤ (((x : Nat) : Int)) ∧ (((x : Nat) : Int)) < (endN ar t ((((argsL ar t p)).getD k 0).toNat) : Int)) rfl (fun h3 => ?_) (fun h3 => ?_)
    ·have hyes : inAt ar t x ((argsL ar t p).getD k 0) = true := inAt_iff.2 (by have := hia (by omega); omega)
     refine X.seq ?_
     refine X.region ?_
     refine XL.cons (XOp.move (ov) rfl ?_)
     refine XL.cons (XOp.move (.int .i64 (((k : Nat) : Int))) rfl ?_)
     refine XL.cons (XOp.buildSlice (s := 1) [.int .i64 (((k : Nat) : Int))] [.int .i64 (0)] [(0, [.int .i64 (((k : Nat) : Int))])] Tryz.runUnderlying22 Tryz.sizeOf2 Tryz.zeroValue2 rfl (by decide) rfl (.cons rfl CellsAre.nil) rfl ?_)
     intro v3 hv2
     refine XL.cons (XOp.append1 (u := ((k : Nat) : Int)) [_] _ Tryz.runUnderlying22 Tryz.typeInfo2 rfl rfl rfl rfl rfl rfl (SlV.own [] rfl) (Rd.sl [] rfl rfl) (by (try simp only [List.length_append, List.length_nil, List.length_cons, List.length_singleton, List.length_take, List.length_drop]); omega) ?_)
     intro v4 hs2 hn1
     refine XL.cons (XOp.assign (v4) rfl ?_)
     refine XL.nil ?_
     refine X.seq ?_
     refine X.region ?_
     refine XL.cons (XOp.move (v2) rfl ?_)
     refine XL.cons (XOp.move (.int .i64 (((k : Nat) : Int))) rfl ?_)
     refine XL.cons (XOp.indexS (v := v2) (i := ((k : Nat) : Int)) (n := ((argsL ar t p)).length) k Tryz.runUnderlying22 Tryz.sizeOf2 rfl rfl rfl hf1.slv (by omega) (Nat.mul_one _) ?_)
     refine XL.cons (XOp.load1 (v := .int .i64 (((argsL ar t p)).getD k 0)) Tryz.isAgg2 rfl (hf1.rd (by omega)) ?_)
     refine XL.cons (XOp.assign (.int .i64 (((argsL ar t p)).getD k 0)) rfl ?_)
     refine XL.nil ?_
     refine X.exit (blockQ_other (by decide) (thenQ_exit (thenQ_exit (blockQ_exit ?_))))
     exact ⟨(f - 1, ((argsL ar t p).getD k 0).toNat, v4, os ++ [((k : Nat) : Int)], F1), _, (FLe.trans leG1 le1), (FLe.refl _), ⟨rfl, rfl, rfl, rfl, (congrArg (Value.int .i64) (by have := hia (by omega); dsimp only; omega)), trivial⟩, (Sub.drop (Sub.cons (Sub.cons (Sub.refl _)))), ⟨rfl, (FLe.trans leG1 le1), (hs2), ((by have h9 := inAt_iff.1 hyes; have := hia (by omega); dsimp only; constructor <;> omega)), (by have := hia (by omega); dsimp only; omega), (by (try dsimp only); exact path_next hos hf (by omega) (by omega) hyes hall), (by dsimp only; rw [List.length_append, List.length_singleton]; omega)⟩, (by have h9 := inAt_iff.1 hyes; have := hia (by omega); dsimp only; omega)⟩
    ·have hno : inAt ar t x ((argsL ar t p).getD k 0) = false := by
       rw [Bool.eq_false_iff]; intro h9; have h8 := inAt_iff.1 h9; have := hia (by omega); omega
     refine X.skip ?_
     refine X.region ?_
     refine XL.cons (XOp.move (.int .i64 (((k : Nat) : Int))) rfl ?_)
     refine XL.cons (XOp.addR (a := ((k : Nat) : Int)) (b := 1) (((k + 1 : Nat) : Int)) rfl rfl (by omega) (by omega) ?_)
     refine XL.cons (XOp.assign (.int .i64 (((k + 1 : Nat) : Int))) rfl ?_)
     refine XL.nil ?_
     exact ⟨k + 1, _, FLe.refl _, (FLe.refl _), ⟨rfl, rfl, rfl, rfl, rfl, rfl, rfl, trivial⟩, (Sub.cons (Sub.cons (Sub.refl _))), ⟨rfl, (by (try dsimp only) <;> omega), (fun i hi => (Nat.lt_or_ge i k).elim (fun h => hall i h) (fun h => by obtain rfl : i = k := (by omega); exact hno))⟩, (by omega)⟩
  ·exact (args_some ho (by omega) hpx.2 hx (fun i hi => hall i (by omega))).elim
 ·refine X.exit (thenQ_exit (thenQ_exit (blockQ_exit ?_)))
  refine X.seq ?_
  refine X.region ?_
  refine XL.cons (XOp.move (ov) rfl ?_)
  refine XL.cons (XOp.assign (ov) rfl ?_)
  refine XL.nil ?_
  refine X.ret (retEnd (L' := intsH 2 ov os :: L) [ov] (ov) (.tmp rfl .nil) rfl (FLe.refl _) leG1 (Sub.cons (Sub.drop (Sub.refl _))) ?_)
  refine ⟨rfl, hov, ?_⟩
  have hxs : (pathL ar t x : List Int) = os := by have h0 : p = x := (by omega); rw [h0] at hos; exact path_end hos
  exact congrArg (fun z => intsH 2 _ z :: L) hxs

/- spec.l3Right -/
theorem l3Right_spec {F : FH} {L : List HP} {arv : Value} {ar : List Int} (har : IntsF F arv ar) {tv : Value} {t : List Int} (ht : IntsF F tv t) {n : Int} (hla : ar.length ≤ 4000000) (hlt : t.length ≤ 4000000) :
    Does Tryz.prog 194 [.agg #[arv], tv, .int .i64 (n)] F (L) (fun v F' L' => (.bool (posOk ar t n) : Value) = v ∧ F = F' ∧ L = L') := by
 refine Does.of_X Tryz.func194 rfl rfl rfl ?_
 refine X.seq ?_
 refine X.region ?_
 refine XL.cons (XOp.box [arv] rfl rfl ?_)
 intro b1
 refine XL.cons (XOp.assign (.bool (false)) rfl ?_)
 refine XL.nil ?_
 refine X.seq ?_
 refine X.region ?_
 refine XL.cons (XOp.loadN [arv] Tryz.isAgg36 Tryz.sizeOf36 rfl rfl (Rd.ownN [] rfl rfl) ?_)
 refine XL.cons (XOp.move (tv) rfl ?_)
 refine XL.cons (XOp.call (args := [.agg #[arv], tv]) Tryz.call128 rfl (sTermOk_spec har ht (hla := (by first | assumption | rfl | omega | (left; simp; done) | (right; simp; done))) (hlt := (by first | assumption | rfl | omega | (left; simp; done) | (right; simp; done)))) ?_)
 rintro _ _ _ _ ⟨rfl, rfl, rfl⟩
 refine XL.cons (XOp.move (.bool (termOk ar t)) rfl ?_)
 by_cases h1 : (termOk ar t) = true
 ·refine XL.yes (t := 10) rfl (congrArg Value.bool h1) (XOp.move (tv) rfl ?_)
  refine XL.yes (t := 10) rfl (congrArg Value.bool h1) (XOp.move (.int .i64 (n)) rfl ?_)
  refine XL.yes (t := 10) rfl (congrArg Value.bool h1) (XOp.call (args := [tv, .int .i64 (n)]) Tryz.call168 rfl (l1There_spec (n := n) ht (hbd := (by first | assumption | rfl | omega | (left; simp; done) | (right; simp; done)))) ?_)
  rintro _ _ _ _ ⟨rfl, rfl, rfl⟩
  refine XL.cons (XOp.pickT (.bool (decide (0 ≤ n ∧ n < (t.length : Int)))) (congrArg Value.bool h1) rfl ?_)
  refine XL.cons (XOp.assign (.bool (decide (0 ≤ n ∧ n < (t.length : Int)))) rfl ?_)
  refine XL.nil ?_
  refine X.ret (retEnd (L' := L) [.bool (decide (0 ≤ n ∧ n < (t.length : Int)))] (.bool (decide (0 ≤ n ∧ n < (t.length : Int)))) (.tmp rfl .nil) rfl (FLe.refl _) (FLe.refl _) (Sub.drop (Sub.refl _)) ?_)
  exact ⟨((by unfold posOk; simp_all)), rfl, rfl⟩
 ·rw [Bool.not_eq_true] at h1
  refine XL.no (t := 10) rfl (congrArg Value.bool h1) ?_
  refine XL.no (t := 10) rfl (congrArg Value.bool h1) ?_
  refine XL.no (t := 10) rfl (congrArg Value.bool h1) ?_
  refine XL.cons (XOp.pickF (.bool (false)) (congrArg Value.bool h1) rfl ?_)
  refine XL.cons (XOp.assign (.bool (false)) rfl ?_)
  refine XL.nil ?_
  refine X.ret (retEnd (L' := L) [.bool (false)] (.bool (false)) (.tmp rfl .nil) rfl (FLe.refl _) (FLe.refl _) (Sub.drop (Sub.refl _)) ?_)
  exact ⟨((by unfold posOk; simp_all)), rfl, rfl⟩

/- spec.PathOf -/
theorem sPathOf_spec {F : FH} {L : List HP} {arv : Value} {ar : List Int} (har : IntsF F arv ar) {tv : Value} {t : List Int} (ht : IntsF F tv t) {n : Int} (ho : termOk ar t = true) (hn : 0 ≤ n ∧ n < (t.length : Int)) :
    Does Tryz.prog 157 [.agg #[arv], tv, .int .i64 (n)] F (L) (fun v F' L' => F = F' ∧ IsSl v ∧ intsH 2 v (pathL ar t n.toNat) :: L = L') := by
 refine Does.of_X Tryz.func157 rfl rfl rfl ?_
 have hsl := sigOk_spec (termOk_sig ho)
 have htl := termOk_len ho
 have hsig := termOk_sig ho
 have hpo : posOk ar t n = true := posOk_iff.2 ⟨ho, hn⟩
 refine X.seq ?_
 refine X.region ?_
 refine XL.cons (XOp.box [arv] rfl rfl ?_)
 intro b1
 refine XL.cons (XOp.assign ((.slice none 0 0)) rfl ?_)
 refine XL.nil ?_
 refine X.seq ?_
 refine X.seq ?_
 refine X.region ?_
 refine XL.cons (XOp.loadN [arv] Tryz.isAgg36 Tryz.sizeOf36 rfl rfl (Rd.ownN [] rfl rfl) ?_)
 refine XL.cons (XOp.move (tv) rfl ?_)
 refine XL.cons (XOp.move (.int .i64 (n)) rfl ?_)
 refine XL.cons (XOp.call (args := [.agg #[arv], tv, .int .i64 (n)]) Tryz.call194 rfl (l3Right_spec (n := n) har ht (hla := (by first | assumption | rfl | omega | (left; simp; done) | (right; simp; done))) (hlt := (by first | assumption | rfl | omega | (left; simp; done) | (right; simp; done)))) ?_)
 rintro _ _ _ _ ⟨rfl, rfl, rfl⟩
 refine XL.cons (XOp.notB (b := posOk ar t n) rfl ?_)
 refine XL.nil ?_
 refine X.cond (t := !(posOk ar t n)) rfl (fun h1 => ?_) (fun h1 => ?_)
 ·exact absurd h1 (by simp [hpo])
 ·refine X.skip ?_
  refine X.seq ?_
  refine X.region ?_
  refine XL.cons (XOp.loadN [arv] Tryz.isAgg36 Tryz.sizeOf36 rfl rfl (Rd.ownN [] rfl rfl) ?_)
  refine XL.cons (XOp.move (tv) rfl ?_)
  refine XL.cons (XOp.move (.int .i64 (n)) rfl ?_)
  refine XL.cons (XOp.call (args := [.agg #[arv], tv, .int .i64 (((n).toNat : Nat) : Int)]) Tryz.call195 (by rw [show (((n).toNat : Nat) : Int) = n from by omega]; rfl) (l3Path_spec (x := (n).toNat) har ht (ho := (by first | assumption | rfl | omega | (left; simp; done) | (right; simp; done))) (hx := (by first | assumption | rfl | omega | (left; simp; done) | (right; simp; done)))) ?_)
  rintro v1 _ _ _ ⟨rfl, hs1, rfl⟩
  refine XL.cons (XOp.assign (v1) rfl ?_)
  refine XL.nil ?_
  refine X.ret (retEnd (L' := intsH 2 v1 ((pathL ar t ((n).toNat))) :: L) [v1] (v1) (.tmp rfl .nil) rfl (FLe.refl _) (FLe.refl _) (Sub.cons (Sub.drop (Sub.refl _))) ?_)
  refine ⟨rfl, hs1, ?_⟩
  have hxs : (pathL ar t n.toNat : List Int) = (pathL ar t ((n).toNat)) := rfl
  exact congrArg (fun z => intsH 2 _ z :: L) hxs

/- impl.PlaceOf -/
theorem PlaceOf_spec {F : FH} {L : List HP} {arv : Value} {ar : List Int} (har : IntsF F arv ar) {tv : Value} {t : List Int} (ht : IntsF F tv t) {pathv : Value} {path : List Int} (hpath : IntsF F pathv path) (hlp : path.length ≤ 4000000) :
    Does Tryz.prog 197 [.agg #[arv], tv, pathv] F (L) (fun v F' L' => (.int .i64 (placeL ar t path) : Value) = v ∧ F = F' ∧ L = L') := by
 refine Does.of_X Tryz.func197 rfl rfl rfl ?_
 refine X.seq ?_
 refine X.region ?_
 refine XL.cons (XOp.box [arv] rfl rfl ?_)
 intro b1
 refine XL.cons (XOp.assign (.int .i64 (0)) rfl ?_)
 refine XL.nil ?_
 refine X.seq ?_
 refine X.seq ?_
 refine X.region ?_
 refine XL.cons (XOp.loadN [arv] Tryz.isAgg36 Tryz.sizeOf36 rfl rfl (Rd.ownN [] rfl rfl) ?_)
 refine XL.cons (XOp.move (tv) rfl ?_)
 refine XL.cons (XOp.call (args := [.agg #[arv], tv]) Tryz.call141 rfl (TermOk_spec har ht) ?_)
 rintro _ _ _ _ ⟨rfl, rfl, rfl⟩
 refine XL.cons (XOp.notB (b := termOk ar t) rfl ?_)
 refine XL.nil ?_
 refine X.cond (t := !(termOk ar t)) rfl (fun h1 => ?_) (fun h1 => ?_)
 ·refine X.seq ?_
  refine X.region ?_
  refine XL.cons (XOp.assign (.int .i64 (-1)) rfl ?_)
  refine XL.nil ?_
  refine X.ret (thenQ_ret (retEnd (L' := L) [.int .i64 (-1)] (.int .i64 (-1)) (.tmp rfl .nil) rfl (FLe.refl _) (FLe.refl _) (Sub.drop (Sub.refl _)) ?_))
  exact ⟨(congrArg (Value.int .i64) (by unfold placeL; rw [if_neg (by simp_all)])), rfl, rfl⟩
 ·have ho : termOk ar t = true := by simpa using h1
  have hsl := sigOk_spec (termOk_sig ho)
  have htl := termOk_len ho
  have hsig := termOk_sig ho
  refine X.skip ?_
  refine X.seq ?_
  refine X.region ?_
  refine XL.cons (XOp.assign (.int .i64 (0)) rfl ?_)
  refine XL.nil ?_
  refine X.seq ?_
  refine X.seq ?_
  refine X.region ?_
  refine XL.cons (XOp.move (pathv) rfl ?_)
  refine XL.cons (XOp.lenS (v := pathv) (n := (path).length) Tryz.runUnderlying22 rfl hpath.slv ?_)
  refine XL.cons (XOp.move (.int .i64 (0)) rfl ?_)
  refine XL.nil ?_
  refine X.block ?_
  refine X.loop (α := Nat × Nat × FH) (fun xQ => [(1, tv), (3, ptr b1 0), (7, .int .i64 (((xQ.2.1 : Nat) : Int))), (15, pathv), (16, .int .i64 ((((path).length : Nat) : Int))), (17, .int .i64 (((xQ.1 : Nat) : Int)))]) (fun xQ => cellsH b1 [arv] 36 :: L) (fun xQ F' => xQ.2.2 = F' ∧ F ≤ xQ.2.2 ∧ (xQ.1 ≤ path.length) ∧ (xQ.2.1 < t.length) ∧ (placeGo ar t path 0 = placeGo ar t (path.drop xQ.1) xQ.2.1)) (fun xQ => path.length - xQ.1) (0, 0, F) ⟨rfl, rfl, rfl, rfl, rfl, rfl, trivial⟩ (Sub.cons (Sub.refl _)) ⟨rfl, FLe.refl _, (by (try dsimp only) <;> omega), (by (try dsimp only) <;> omega), (rfl)⟩ ?_
  rintro ⟨k, q, G1⟩ rE _ _ ⟨rfl, leG, hk, hq, hos⟩
  show X _ _ _ _ (envs [(1, tv), (3, ptr b1 0), (7, .int .i64 (((q : Nat) : Int))), (15, pathv), (16, .int .i64 ((((path).length : Nat) : Int))), (17, .int .i64 (((k : Nat) : Int)))] rE) _ (cellsH b1 [arv] 36 :: L)
  replace leG : F ≤ G1 := leG
  dsimp only at hk hq hos
  have hle := argsL_le ho hq
  have hia := fun (i : Nat) (h : i < (argsL ar t q).length) => argsL_in ho hq h
  have leG1 := leG
  replace har := har.mono leG1
  replace ht := ht.mono leG1
  replace hpath := hpath.mono leG1
  refine X.seq ?_
  refine X.region ?_
  refine XL.cons (XOp.lss (a := ((k : Nat) : Int)) (b := (((path).length : Nat) : Int)) rfl rfl ?_)
  refine XL.nil ?_
  refine X.seq ?_
  refine X.condD (p := (((k : Nat) : Int) : Int) < (((path).length : Nat) : Int)) rfl (fun h2 => ?_) (fun h2 => ?_)
  ·refine X.skip ?_
   refine X.seq ?_
   refine X.block ?_
   refine X.seq ?_
   refine X.region ?_
   refine XL.cons (XOp.indexS (v := pathv) (i := ((k : Nat) : Int)) (n := (path).length) k Tryz.runUnderlying22 Tryz.sizeOf2 rfl rfl rfl hpath.slv (by omega) (Nat.mul_one _) ?_)
   refine XL.cons (XOp.load1 (v := .int .i64 (path.getD k 0)) Tryz.isAgg2 rfl (hpath.rd (by omega)) ?_)
   refine XL.cons (XOp.assign (.int .i64 (path.getD k 0)) rfl ?_)
   refine XL.nil ?_
   refine X.seq ?_
   refine X.region ?_
   refine XL.cons (XOp.loadN [arv] Tryz.isAgg36 Tryz.sizeOf36 rfl rfl (Rd.ownN [] rfl rfl) ?_)
   refine XL.cons (XOp.move (tv) rfl ?_)
   refine XL.cons (XOp.move (.int .i64 (((q : Nat) : Int))) rfl ?_)
   refine XL.cons (XOp.frzF <| XOp.call (args := [.agg #[arv], tv, .int .i64 ((q : Nat) : Int)]) Tryz.call217 rfl (argsAt_spec (p := q) har ht (ho := (ho)) (hp := (hq))) ?_)
   rintro v1 _ _ _ ⟨rfl, hs1, rfl⟩
   refine ⟨_, _, rfl, fun F1 le1 hz1 => ?_⟩
   replace har := har.mono le1
   replace ht := ht.mono le1
   replace hpath := hpath.mono le1
   have hf1 : IntsF F1 v1 ((argsL ar t q)) := intsH.fz (xs := (argsL ar t q)) hz1.fz
   refine XL.cons (XOp.assign (v1) rfl ?_)
   refine XL.nil ?_
   refine X.seq ?_
   refine X.seq ?_
   refine X.region ?_
   refine XL.cons (XOp.move (.int .i64 (path.getD k 0)) rfl ?_)
   refine XL.cons (XOp.lss (a := path.getD k 0) (b := 0) rfl rfl ?_)
   refine XL.cons (XOp.move (.bool (decide ((path.getD k 0 : Int) < 0))) rfl ?_)
   by_cases h3 : (path.getD k 0 : Int) < 0
   ·refine XL.no (t := 27) rfl (congrArg Value.bool (decide_eq_true h3)) ?_
    refine XL.no (t := 27) rfl (congrArg Value.bool (decide_eq_true h3)) ?_
    refine XL.no (t := 27) rfl (congrArg Value.bool (decide_eq_true h3)) ?_
    refine XL.no (t := 27) rfl (congrArg Value.bool (decide_eq_true h3)) ?_
    refine XL.cons (XOp.pickT (.bool (true)) (congrArg Value.bool (decide_eq_true h3)) rfl ?_)
    refine XL.nil ?_
    refine X.condT rfl ?_
    refine X.seq ?_
    refine X.region ?_
    refine XL.cons (XOp.assign (.int .i64 (-1)) rfl ?_)
    refine XL.nil ?_
    refine X.ret (thenQ_ret (blockQ_ret (thenQ_ret (thenQ_ret (blockQ_ret (thenQ_ret (retEnd (L' := L) [.int .i64 (-1)] (.int .i64 (-1)) (.tmp rfl .nil) rfl (FLe.refl _) (FLe.trans leG1 le1) (Sub.drop (Sub.refl _)) ?_)))))))
    exact ⟨(congrArg (Value.int .i64) (by unfold placeL; rw [if_pos ho, hos]; exact place_out (by omega) (by omega))), rfl, rfl⟩
   ·refine XL.yes (t := 27) rfl (congrArg Value.bool (decide_eq_false h3)) (XOp.move (.int .i64 (path.getD k 0)) rfl ?_)
    refine XL.yes (t := 27) rfl (congrArg Value.bool (decide_eq_false h3)) (XOp.move (v1) rfl ?_)
    refine XL.yes (t := 27) rfl (congrArg Value.bool (decide_eq_false h3)) (XOp.lenS (v := v1) (n := ((argsL ar t q)).length) Tryz.runUnderlying235 rfl hf1.slv ?_)
    refine XL.yes (t := 27) rfl (congrArg Value.bool (decide_eq_false h3)) (XOp.geq (a := path.getD k 0) (b := ((((argsL ar t q)).length : Nat) : Int)) rfl rfl ?_)
    refine XL.cons (XOp.pickF (.bool (decide ((path.getD k 0 : Int) ≥ ((((argsL ar t q)).length : Nat) : Int)))) (congrArg Value.bool (decide_eq_false h3)) rfl ?_)
    refine XL.nil ?_
    refine X.condD (p := (path.getD k 0 : Int) ≥ ((((argsL ar t q)).length : Nat) : Int)) rfl (fun h4 => ?_) (fun h4 => ?_)
    ·refine X.seq ?_
     refine X.region ?_
     refine XL.cons (XOp.assign (.int .i64 (-1)) rfl ?_)
     refine XL.nil ?_
     refine X.ret (thenQ_ret (blockQ_ret (thenQ_ret (thenQ_ret (blockQ_ret (thenQ_ret (retEnd (L' := L) [.int .i64 (-1)] (.int .i64 (-1)) (.tmp rfl .nil) rfl (FLe.refl _) (FLe.trans leG1 le1) (Sub.drop (Sub.refl _)) ?_)))))))
     exact ⟨(congrArg (Value.int .i64) (by unfold placeL; rw [if_pos ho, hos]; exact place_out (by omega) (by omega))), rfl, rfl⟩
    ·refine X.skip ?_
     refine X.region ?_
     refine XL.cons (XOp.move (v1) rfl ?_)
     refine XL.cons (XOp.move (.int .i64 (path.getD k 0)) rfl ?_)
     refine XL.cons (XOp.indexS (v := v1) (i := path.getD k 0) (n := ((argsL ar t q)).length) ((path.getD k 0).toNat) Tryz.runUnderlying235 Tryz.sizeOf3 rfl rfl (by omega) hf1.slv (by omega) (Nat.mul_one _) ?_)
     refine XL.cons (XOp.load1 (v := .int .i64 (((argsL ar t q)).getD ((path.getD k 0).toNat) 0)) Tryz.isAgg3 rfl (hf1.rd (by omega)) ?_)
     refine XL.cons (XOp.assign (.int .i64 (((argsL ar t q)).getD ((path.getD k 0).toNat) 0)) rfl ?_)
     refine XL.nil ?_
     refine X.region ?_
     refine XL.cons (XOp.addR (a := ((k : Nat) : Int)) (b := 1) (((k + 1 : Nat) : Int)) rfl rfl (by omega) (by omega) ?_)
     refine XL.cons (XOp.move (.int .i64 (((k + 1 : Nat) : Int))) rfl ?_)
     refine XL.nil ?_
     exact ⟨(k + 1, ((argsL ar t q).getD (path.getD k 0).toNat 0).toNat, F1), _, (FLe.trans leG1 le1), (FLe.refl _), ⟨rfl, rfl, (congrArg (Value.int .i64) (by have := hia (path.getD k 0).toNat (by omega); dsimp only; omega)), rfl, rfl, rfl, trivial⟩, (Sub.cons (Sub.refl _)), ⟨rfl, (FLe.trans leG1 le1), (by (try dsimp only) <;> omega), (by have := hia (path.getD k 0).toNat (by omega); dsimp only; omega), (by dsimp only; exact hos.trans (place_next (by omega) (by omega)))⟩, (by omega)⟩
  ·refine X.exit (thenQ_exit (thenQ_exit (blockQ_exit ?_)))
   refine X.seq ?_
   refine X.region ?_
   refine XL.cons (XOp.move (.int .i64 (((q : Nat) : Int))) rfl ?_)
   refine XL.cons (XOp.assign (.int .i64 (((q : Nat) : Int))) rfl ?_)
   refine XL.nil ?_
   refine X.ret (retEnd (L' := L) [.int .i64 (((q : Nat) : Int))] (.int .i64 (((q : Nat) : Int))) (.tmp rfl .nil) rfl (FLe.refl _) leG1 (Sub.drop (Sub.refl _)) ?_)
   exact ⟨(congrArg (Value.int .i64) (by unfold placeL; rw [if_pos ho, hos]; exact place_end (by omega))), rfl, rfl⟩

/- spec.PlaceOf -/
theorem sPlaceOf_spec {F : FH} {L : List HP} {arv : Value} {ar : List Int} (har : IntsF F arv ar) {tv : Value} {t : List Int} (ht : IntsF F tv t) {pathv : Value} {path : List Int} (hpath : IntsF F pathv path) (hlp : path.length ≤ 4000000) (hla : ar.length ≤ 4000000) (hlt : t.length ≤ 4000000) :
    Does Tryz.prog 156 [.agg #[arv], tv, pathv] F (L) (fun v F' L' => (.int .i64 (placeL ar t path) : Value) = v ∧ F = F' ∧ L = L') := by
 refine Does.of_X Tryz.func156 rfl rfl rfl ?_
 refine X.seq ?_
 refine X.region ?_
 refine XL.cons (XOp.box [arv] rfl rfl ?_)
 intro b1
 refine XL.cons (XOp.assign (.int .i64 (0)) rfl ?_)
 refine XL.nil ?_
 refine X.seq ?_
 refine X.seq ?_
 refine X.region ?_
 refine XL.cons (XOp.loadN [arv] Tryz.isAgg36 Tryz.sizeOf36 rfl rfl (Rd.ownN [] rfl rfl) ?_)
 refine XL.cons (XOp.move (tv) rfl ?_)
 refine XL.cons (XOp.call (args := [.agg #[arv], tv]) Tryz.call128 rfl (sTermOk_spec har ht (hla := (by first | assumption | rfl | omega | (left; simp; done) | (right; simp; done))) (hlt := (by first | assumption | rfl | omega | (left; simp; done) | (right; simp; done)))) ?_)
 rintro _ _ _ _ ⟨rfl, rfl, rfl⟩
 refine XL.cons (XOp.notB (b := termOk ar t) rfl ?_)
 refine XL.nil ?_
 refine X.cond (t := !(termOk ar t)) rfl (fun h1 => ?_) (fun h1 => ?_)
 ·refine X.seq ?_
  refine X.region ?_
  refine XL.cons (XOp.assign (.int .i64 (-1)) rfl ?_)
  refine XL.nil ?_
  refine X.ret (thenQ_ret (retEnd (L' := L) [.int .i64 (-1)] (.int .i64 (-1)) (.tmp rfl .nil) rfl (FLe.refl _) (FLe.refl _) (Sub.drop (Sub.refl _)) ?_))
  exact ⟨(congrArg (Value.int .i64) (by unfold placeL; rw [if_neg (by simp_all)])), rfl, rfl⟩
 ·have ho : termOk ar t = true := by simpa using h1
  have hsl := sigOk_spec (termOk_sig ho)
  have htl := termOk_len ho
  have hsig := termOk_sig ho
  refine X.skip ?_
  refine X.seq ?_
  refine X.region ?_
  refine XL.cons (XOp.assign (.int .i64 (0)) rfl ?_)
  refine XL.nil ?_
  refine X.seq ?_
  refine X.seq ?_
  refine X.region ?_
  refine XL.cons (XOp.assign (.int .i64 (0)) rfl ?_)
  refine XL.nil ?_
  refine X.block ?_
  refine X.loop (α := Nat × Nat × FH) (fun xQ => [(1, tv), (2, pathv), (3, ptr b1 0), (7, .int .i64 (((xQ.2.1 : Nat) : Int))), (8, .int .i64 (((xQ.1 : Nat) : Int)))]) (fun xQ => cellsH b1 [arv] 36 :: L) (fun xQ F' => xQ.2.2 = F' ∧ F ≤ xQ.2.2 ∧ (xQ.1 ≤ path.length) ∧ (xQ.2.1 < t.length) ∧ (placeGo ar t path 0 = placeGo ar t (path.drop xQ.1) xQ.2.1)) (fun xQ => path.length - xQ.1) (0, 0, F) ⟨rfl, rfl, rfl, rfl, rfl, trivial⟩ (Sub.cons (Sub.refl _)) ⟨rfl, FLe.refl _, (by (try dsimp only) <;> omega), (by (try dsimp only) <;> omega), (rfl)⟩ ?_
  rintro ⟨k, q, G1⟩ rE _ _ ⟨rfl, leG, hk, hq, hos⟩
  show X _ _ _ _ (envs [(1, tv), (2, pathv), (3, ptr b1 0), (7, .int .i64 (((q : Nat) : Int))), (8, .int .i64 (((k : Nat) : Int)))] rE) _ (cellsH b1 [arv] 36 :: L)
  replace leG : F ≤ G1 := leG
  dsimp only at hk hq hos
  have hle := argsL_le ho hq
  have hia := fun (i : Nat) (h : i < (argsL ar t q).length) => argsL_in ho hq h
  have leG1 := leG
  replace har := har.mono leG1
  replace ht := ht.mono leG1
  replace hpath := hpath.mono leG1
  refine X.seq ?_
  refine X.seq ?_
  refine X.region ?_
  refine XL.cons (XOp.move (.int .i64 (((k : Nat) : Int))) rfl ?_)
  refine XL.cons (XOp.move (pathv) rfl ?_)
  refine XL.cons (XOp.lenS (v := pathv) (n := (path).length) Tryz.runUnderlying22 rfl hpath.slv ?_)
  refine XL.cons (XOp.lss (a := ((k : Nat) : Int)) (b := (((path).length : Nat) : Int)) rfl rfl ?_)
  refine XL.nil ?_
  refine X.condD (p := (((k : Nat) : Int) : Int) < (((path).length : Nat) : Int)) rfl (fun h2 => ?_) (fun h2 => ?_)
  ·refine X.skip ?_
   refine X.seq ?_
   refine X.block ?_
   refine X.seq ?_
   refine X.region ?_
   refine XL.cons (XOp.loadN [arv] Tryz.isAgg36 Tryz.sizeOf36 rfl rfl (Rd.ownN [] rfl rfl) ?_)
   refine XL.cons (XOp.move (tv) rfl ?_)
   refine XL.cons (XOp.move (.int .i64 (((q : Nat) : Int))) rfl ?_)
   refine XL.cons (XOp.frzF <| XOp.call (args := [.agg #[arv], tv, .int .i64 ((q : Nat) : Int)]) Tryz.call193 rfl (l1Args_spec (p := q) har ht (ho := (ho)) (hp := (hq))) ?_)
   rintro v1 _ _ _ ⟨rfl, hs1, rfl⟩
   refine ⟨_, _, rfl, fun F1 le1 hz1 => ?_⟩
   replace har := har.mono le1
   replace ht := ht.mono le1
   replace hpath := hpath.mono le1
   have hf1 : IntsF F1 v1 ((argsL ar t q)) := intsH.fz (xs := (argsL ar t q)) hz1.fz
   refine XL.cons (XOp.assign (v1) rfl ?_)
   refine XL.nil ?_
   refine X.seq ?_
   refine X.seq ?_
   refine X.region ?_
   refine XL.cons (XOp.move (pathv) rfl ?_)
   refine XL.cons (XOp.move (.int .i64 (((k : Nat) : Int))) rfl ?_)
   refine XL.cons (XOp.indexS (v := pathv) (i := ((k : Nat) : Int)) (n := (path).length) k Tryz.runUnderlying22 Tryz.sizeOf2 rfl rfl rfl hpath.slv (by omega) (Nat.mul_one _) ?_)
   refine XL.cons (XOp.load1 (v := .int .i64 (path.getD k 0)) Tryz.isAgg2 rfl (hpath.rd (by omega)) ?_)
   refine XL.cons (XOp.move (v1) rfl ?_)
   refine XL.cons (XOp.lenS (v := v1) (n := ((argsL ar t q)).length) Tryz.runUnderlying22 rfl hf1.slv ?_)
   refine XL.cons (XOp.subR (a := ((((argsL ar t q)).length : Nat) : Int)) (b := 1) ((((((argsL ar t q)).length : Nat) : Int)) - 1) rfl rfl (by omega) (by omega) ?_)
   refine XL.cons (XOp.call (args := [.int .i64 (path.getD k 0), .int .i64 (0), .int .i64 ((((((argsL ar t q)).length : Nat) : Int)) - 1)]) Tryz.call66 rfl (l1In_spec (n := path.getD k 0) (a := 0) (b := (((((argsL ar t q)).length : Nat) : Int)) - 1)) ?_)
   rintro _ _ _ _ ⟨rfl, rfl, rfl⟩
   refine XL.cons (XOp.notD (p := 0 ≤ (path.getD k 0) ∧ (path.getD k 0) ≤ ((((((argsL ar t q)).length : Nat) : Int)) - 1)) rfl ?_)
   refine XL.nil ?_
   refine X.condD (p := ¬(0 ≤ (path.getD k 0) ∧ (path.getD k 0) ≤ ((((((argsL ar t q)).length : Nat) : Int)) - 1))) rfl (fun h3 => ?_) (fun h3 => ?_)
   ·refine X.seq ?_
    refine X.region ?_
    refine XL.cons (XOp.assign (.int .i64 (-1)) rfl ?_)
    refine XL.nil ?_
    refine X.ret (thenQ_ret (blockQ_ret (thenQ_ret (thenQ_ret (blockQ_ret (thenQ_ret (retEnd (L' := L) [.int .i64 (-1)] (.int .i64 (-1)) (.tmp rfl .nil) rfl (FLe.refl _) (FLe.trans leG1 le1) (Sub.drop (Sub.refl _)) ?_)))))))
    exact ⟨(congrArg (Value.int .i64) (by unfold placeL; rw [if_pos ho, hos]; exact place_out (by omega) (by omega))), rfl, rfl⟩
   ·refine X.skip ?_
    refine X.region ?_
    refine XL.cons (XOp.move (v1) rfl ?_)
    refine XL.cons (XOp.move (pathv) rfl ?_)
    refine XL.cons (XOp.move (.int .i64 (((k : Nat) : Int))) rfl ?_)
    refine XL.cons (XOp.indexS (v := pathv) (i := ((k : Nat) : Int)) (n := (path).length) k Tryz.runUnderlying22 Tryz.sizeOf2 rfl rfl rfl hpath.slv (by omega) (Nat.mul_one _) ?_)
    refine XL.cons (XOp.load1 (v := .int .i64 (path.getD k 0)) Tryz.isAgg2 rfl (hpath.rd (by omega)) ?_)
    refine XL.cons (XOp.indexS (v := v1) (i := path.getD k 0) (n := ((argsL ar t q)).length) ((path.getD k 0).toNat) Tryz.runUnderlying22 Tryz.sizeOf2 rfl rfl (by omega) hf1.slv (by omega) (Nat.mul_one _) ?_)
    refine XL.cons (XOp.load1 (v := .int .i64 (((argsL ar t q)).getD ((path.getD k 0).toNat) 0)) Tryz.isAgg2 rfl (hf1.rd (by omega)) ?_)
    refine XL.cons (XOp.assign (.int .i64 (((argsL ar t q)).getD ((path.getD k 0).toNat) 0)) rfl ?_)
    refine XL.nil ?_
    refine X.region ?_
    refine XL.cons (XOp.move (.int .i64 (((k : Nat) : Int))) rfl ?_)
    refine XL.cons (XOp.addR (a := ((k : Nat) : Int)) (b := 1) (((k + 1 : Nat) : Int)) rfl rfl (by omega) (by omega) ?_)
    refine XL.cons (XOp.assign (.int .i64 (((k + 1 : Nat) : Int))) rfl ?_)
    refine XL.nil ?_
    exact ⟨(k + 1, ((argsL ar t q).getD (path.getD k 0).toNat 0).toNat, F1), _, (FLe.trans leG1 le1), (FLe.refl _), ⟨rfl, rfl, rfl, (congrArg (Value.int .i64) (by have := hia (path.getD k 0).toNat (by omega); dsimp only; omega)), rfl, trivial⟩, (Sub.cons (Sub.refl _)), ⟨rfl, (FLe.trans leG1 le1), (by (try dsimp only) <;> omega), (by have := hia (path.getD k 0).toNat (by omega); dsimp only; omega), (by dsimp only; exact hos.trans (place_next (by omega) (by omega)))⟩, (by omega)⟩
  ·refine X.exit (thenQ_exit (thenQ_exit (blockQ_exit ?_)))
   refine X.seq ?_
   refine X.region ?_
   refine XL.cons (XOp.move (.int .i64 (((q : Nat) : Int))) rfl ?_)
   refine XL.cons (XOp.assign (.int .i64 (((q : Nat) : Int))) rfl ?_)
   refine XL.nil ?_
   refine X.ret (retEnd (L' := L) [.int .i64 (((q : Nat) : Int))] (.int .i64 (((q : Nat) : Int))) (.tmp rfl .nil) rfl (FLe.refl _) leG1 (Sub.drop (Sub.refl _)) ?_)
   exact ⟨(congrArg (Value.int .i64) (by unfold placeL; rw [if_pos ho, hos]; exact place_end (by omega))), rfl, rfl⟩

/- impl.ruleIn -/
theorem ruleIn_spec {F : FH} {L : List HP} {arv : Value} {ar : List Int} (har : IntsF F arv ar) {rsv : Value} {rs : List (List Int × List Int)} (hrs : PairsF F rsv rs) {n : Int} :
    Does Tryz.prog 196 [.agg #[arv, rsv], .int .i64 (n)] F (L) (fun v F' L' => (.bool (decide (0 ≤ n ∧ n < (rs.length : Int))) : Value) = v ∧ F = F' ∧ L = L') := by
 refine Does.of_X Tryz.func196 rfl rfl rfl ?_
 refine X.seq ?_
 refine X.region ?_
 refine XL.cons (XOp.box [arv, rsv] rfl rfl ?_)
 intro b1
 refine XL.cons (XOp.assign (.bool (false)) rfl ?_)
 refine XL.nil ?_
 refine X.seq ?_
 refine X.region ?_
 refine XL.cons (XOp.move (.int .i64 (n)) rfl ?_)
 refine XL.cons (XOp.geq (a := n) (b := 0) rfl rfl ?_)
 refine XL.cons (XOp.move (.bool (decide ((n : Int) ≥ 0))) rfl ?_)
 by_cases h1 : (n : Int) ≥ 0
 ·refine XL.yes (t := 7) rfl (congrArg Value.bool (decide_eq_true h1)) (XOp.move (.int .i64 (n)) rfl ?_)
  refine XL.yes (t := 7) rfl (congrArg Value.bool (decide_eq_true h1)) (XOp.fieldP (b := b1) (1) Tryz.runUnderlying39 rfl Tryz.sizeOf37 (by decide) rfl rfl ?_)
  refine XL.yes (t := 7) rfl (congrArg Value.bool (decide_eq_true h1)) (XOp.load1 (v := rsv) Tryz.isAgg37 rfl (Rd.own [] rfl rfl) ?_)
  refine XL.yes (t := 7) rfl (congrArg Value.bool (decide_eq_true h1)) (XOp.lenS (v := rsv) (n := (rs).length) Tryz.runUnderlying37 rfl hrs.slv ?_)
  refine XL.yes (t := 7) rfl (congrArg Value.bool (decide_eq_true h1)) (XOp.lss (a := n) (b := (((rs).length : Nat) : Int)) rfl rfl ?_)
  refine XL.cons (XOp.pickT (.bool (decide ((n : Int) < (((rs).length : Nat) : Int)))) (congrArg Value.bool (decide_eq_true h1)) rfl ?_)
  refine XL.cons (XOp.assign (.bool (decide ((n : Int) < (((rs).length : Nat) : Int)))) rfl ?_)
  refine XL.nil ?_
  refine X.ret (retEnd (L' := L) [.bool (decide ((n : Int) < (((rs).length : Nat) : Int)))] (.bool (decide ((n : Int) < (((rs).length : Nat) : Int)))) (.tmp rfl .nil) rfl (FLe.refl _) (FLe.refl _) (Sub.drop (Sub.refl _)) ?_)
  exact ⟨(congrArg Value.bool (decide_eq_decide.2 (by omega))), rfl, rfl⟩
 ·refine XL.no (t := 7) rfl (congrArg Value.bool (decide_eq_false h1)) ?_
  refine XL.no (t := 7) rfl (congrArg Value.bool (decide_eq_false h1)) ?_
  refine XL.no (t := 7) rfl (congrArg Value.bool (decide_eq_false h1)) ?_
  refine XL.no (t := 7) rfl (congrArg Value.bool (decide_eq_false h1)) ?_
  refine XL.no (t := 7) rfl (congrArg Value.bool (decide_eq_false h1)) ?_
  refine XL.cons (XOp.pickF (.bool (false)) (congrArg Value.bool (decide_eq_false h1)) rfl ?_)
  refine XL.cons (XOp.assign (.bool (false)) rfl ?_)
  refine XL.nil ?_
  refine X.ret (retEnd (L' := L) [.bool (false)] (.bool (false)) (.tmp rfl .nil) rfl (FLe.refl _) (FLe.refl _) (Sub.drop (Sub.refl _)) ?_)
  exact ⟨(congrArg Value.bool (decide_eq_false (by omega))), rfl, rfl⟩

/- spec.l11Rule -/
theorem l11Rule_spec {F : FH} {L : List HP} {arv : Value} {ar : List Int} (har : IntsF F arv ar) {rsv : Value} {rs : List (List Int × List Int)} (hrs : PairsF F rsv rs) {n : Int} (hlr : rs.length ≤ 4000000) :
    Does Tryz.prog 155 [.agg #[arv, rsv], .int .i64 (n)] F (L) (fun v F' L' => (.bool (decide (0 ≤ n ∧ n < (rs.length : Int))) : Value) = v ∧ F = F' ∧ L = L') := by
 refine Does.of_X Tryz.func155 rfl rfl rfl ?_
 refine X.seq ?_
 refine X.region ?_
 refine XL.cons (XOp.box [arv, rsv] rfl rfl ?_)
 intro b1
 refine XL.cons (XOp.assign (.bool (false)) rfl ?_)
 refine XL.nil ?_
 refine X.seq ?_
 refine X.region ?_
 refine XL.cons (XOp.move (.int .i64 (n)) rfl ?_)
 refine XL.cons (XOp.fieldP (b := b1) (1) Tryz.runUnderlying39 rfl Tryz.sizeOf37 (by decide) rfl rfl ?_)
 refine XL.cons (XOp.load1 (v := rsv) Tryz.isAgg37 rfl (Rd.own [] rfl rfl) ?_)
 refine XL.cons (XOp.lenS (v := rsv) (n := (rs).length) Tryz.runUnderlying37 rfl hrs.slv ?_)
 refine XL.cons (XOp.subR (a := (((rs).length : Nat) : Int)) (b := 1) (((((rs).length : Nat) : Int)) - 1) rfl rfl (by omega) (by omega) ?_)
 refine XL.cons (XOp.call (args := [.int .i64 (n), .int .i64 (0), .int .i64 (((((rs).length : Nat) : Int)) - 1)]) Tryz.call66 rfl (l1In_spec (n := n) (a := 0) (b := ((((rs).length : Nat) : Int)) - 1)) ?_)
 rintro _ _ _ _ ⟨rfl, rfl, rfl⟩
 refine XL.cons (XOp.assign (.bool (decide (0 ≤ n ∧ n ≤ (((((rs).length : Nat) : Int)) - 1)))) rfl ?_)
 refine XL.nil ?_
 refine X.ret (retEnd (L' := L) [.bool (decide (0 ≤ n ∧ n ≤ (((((rs).length : Nat) : Int)) - 1)))] (.bool (decide (0 ≤ n ∧ n ≤ (((((rs).length : Nat) : Int)) - 1)))) (.tmp rfl .nil) rfl (FLe.refl _) (FLe.refl _) (Sub.drop (Sub.refl _)) ?_)
 exact ⟨(congrArg Value.bool (decide_eq_decide.2 (by omega))), rfl, rfl⟩

/- impl.peakOk -/
set_option maxRecDepth 20000 in
theorem peakOk_spec {F : FH} {L : List HP} {arv : Value} {ar : List Int} (har : IntsF F arv ar) {rsv : Value} {rs : List (List Int × List Int)} (hrs : PairsF F rsv rs) {tpv : Value} {tp : List Int} (htp : IntsF F tpv tp) {lfv : Value} {lf : List Int} (hlf : IntsF F lfv lf) {rtv : Value} {rt : List Int} (hrt : IntsF F rtv rt) {a : Int} {u : Int} {o : Int} (hsys : sysOk ar rs = true) (hll0 : lf.length ≤ 4000000) (hlr0 : rt.length ≤ 4000000) :
    Does Tryz.prog 159 [.agg #[arv, rsv], .agg #[tpv, lfv, rtv, .int .i64 (a), .int .i64 (u), .int .i64 (o)]] F (L) (fun v F' L' => (.bool (peakL ar rs tp lf rt a u o) : Value) = v ∧ F = F' ∧ L = L') := by
 refine Does.of_X Tryz.func159 rfl rfl rfl ?_
 have hrl := (sysOk_iff.1 hsys).2.1
 have hRL := fun (h : 0 ≤ o ∧ o < (rs.length : Int)) => (ruleOk_iff.1 ((sysOk_iff.1 hsys).2.2 o.toNat (by omega))).left
 have hRl := fun (h : 0 ≤ o ∧ o < (rs.length : Int)) => termOk_len (hRL h)
 refine X.seq ?_
 refine X.region ?_
 refine XL.cons (XOp.box [arv, rsv] rfl rfl ?_)
 intro b1
 refine XL.cons (XOp.box [tpv, lfv, rtv, .int .i64 (a), .int .i64 (u), .int .i64 (o)] rfl rfl ?_)
 intro b2
 refine XL.cons (XOp.assign (.bool (false)) rfl ?_)
 refine XL.nil ?_
 refine X.seq ?_
 refine X.seq ?_
 refine X.region ?_
 refine XL.cons (XOp.loadN [arv, rsv] Tryz.isAgg39 Tryz.sizeOf39 rfl rfl (Rd.ownN [_] rfl rfl) ?_)
 refine XL.cons (XOp.fieldP (b := b2) (5) Tryz.runUnderlying74 rfl Tryz.sizeOf2 (by decide) rfl rfl ?_)
 refine XL.cons (XOp.load1 (v := .int .i64 (o)) Tryz.isAgg2 rfl (Rd.own [] rfl rfl) ?_)
 refine XL.cons (XOp.call (args := [.agg #[arv, rsv], .int .i64 (o)]) Tryz.call196 rfl (ruleIn_spec (n := o) har hrs) ?_)
 rintro _ _ _ _ ⟨rfl, rfl, rfl⟩
 refine XL.cons (XOp.notD (p := 0 ≤ o ∧ o < (rs.length : Int)) rfl ?_)
 refine XL.cons (XOp.move (.bool (decide (¬(0 ≤ o ∧ o < (rs.length : Int))))) rfl ?_)
 by_cases h1 : ¬(0 ≤ o ∧ o < (rs.length : Int))
 ·refine XL.no (t := 15) rfl (congrArg Value.bool (decide_eq_true h1)) ?_
  refine XL.no (t := 15) rfl (congrArg Value.bool (decide_eq_true h1)) ?_
  refine XL.no (t := 15) rfl (congrArg Value.bool (decide_eq_true h1)) ?_
  refine XL.no (t := 15) rfl (congrArg Value.bool (decide_eq_true h1)) ?_
  refine XL.no (t := 15) rfl (congrArg Value.bool (decide_eq_true h1)) ?_
  refine XL.cons (XOp.pickT (.bool (true)) (congrArg Value.bool (decide_eq_true h1)) rfl ?_)
  refine XL.cons (XOp.move (.bool (true)) rfl ?_)
  refine XL.no (t := 22) rfl rfl ?_
  refine XL.no (t := 22) rfl rfl ?_
  refine XL.no (t := 22) rfl rfl ?_
  refine XL.no (t := 22) rfl rfl ?_
  refine XL.noU (t := 26) rfl rfl ?_
  refine XL.noU (t := 26) rfl rfl ?_
  refine XL.noU (t := 26) rfl rfl ?_
  refine XL.noU (t := 26) rfl rfl ?_
  refine XL.noU (t := 26) rfl rfl ?_
  refine XL.no (t := 22) rfl rfl ?_
  refine XL.cons (XOp.pickT (.bool (true)) rfl rfl ?_)
  refine XL.nil ?_
  refine X.condT rfl ?_
  refine X.seq ?_
  refine X.region ?_
  refine XL.cons (XOp.assign (.bool (false)) rfl ?_)
  refine XL.nil ?_
  refine X.ret (thenQ_ret (retEnd (L' := L) [.bool (false)] (.bool (false)) (.tmp rfl .nil) rfl (FLe.refl _) (FLe.refl _) (Sub.drop (Sub.drop (Sub.refl _))) ?_))
  exact ⟨(congrArg Value.bool (by refine peakL_no (fun h => ?_); obtain ⟨h1, h2, h3, h4⟩ := h; have h5 := peakArgs_iff.1 h2; first | omega | simp_all | (simp_all; done) | (exfalso; simp_all; omega))), rfl, rfl⟩
 ·refine XL.yes (t := 15) rfl (congrArg Value.bool (decide_eq_false h1)) (XOp.loadN [arv, rsv] Tryz.isAgg39 Tryz.sizeOf39 rfl rfl (Rd.ownN [_] rfl rfl) ?_)
  refine XL.yes (t := 15) rfl (congrArg Value.bool (decide_eq_false h1)) (XOp.fieldP (b := b2) (4) Tryz.runUnderlying74 rfl Tryz.sizeOf2 (by decide) rfl rfl ?_)
  refine XL.yes (t := 15) rfl (congrArg Value.bool (decide_eq_false h1)) (XOp.load1 (v := .int .i64 (u)) Tryz.isAgg2 rfl (Rd.own [] rfl rfl) ?_)
  refine XL.yes (t := 15) rfl (congrArg Value.bool (decide_eq_false h1)) (XOp.call (args := [.agg #[arv, rsv], .int .i64 (u)]) Tryz.call196 rfl (ruleIn_spec (n := u) har hrs) ?_)
  rintro _ _ _ _ ⟨rfl, rfl, rfl⟩
  refine XL.yes (t := 15) rfl (congrArg Value.bool (decide_eq_false h1)) (XOp.notD (p := 0 ≤ u ∧ u < (rs.length : Int)) rfl ?_)
  refine XL.cons (XOp.pickF (.bool (decide (¬(0 ≤ u ∧ u < (rs.length : Int))))) (congrArg Value.bool (decide_eq_false h1)) rfl ?_)
  refine XL.cons (XOp.move (.bool (decide (¬(0 ≤ u ∧ u < (rs.length : Int))))) rfl ?_)
  by_cases h2 : ¬(0 ≤ u ∧ u < (rs.length : Int))
  ·refine XL.no (t := 22) rfl (congrArg Value.bool (decide_eq_true h2)) ?_
   refine XL.no (t := 22) rfl (congrArg Value.bool (decide_eq_true h2)) ?_
   refine XL.no (t := 22) rfl (congrArg Value.bool (decide_eq_true h2)) ?_
   refine XL.no (t := 22) rfl (congrArg Value.bool (decide_eq_true h2)) ?_
   refine XL.noU (t := 26) rfl rfl ?_
   refine XL.noU (t := 26) rfl rfl ?_
   refine XL.noU (t := 26) rfl rfl ?_
   refine XL.noU (t := 26) rfl rfl ?_
   refine XL.noU (t := 26) rfl rfl ?_
   refine XL.no (t := 22) rfl (congrArg Value.bool (decide_eq_true h2)) ?_
   refine XL.cons (XOp.pickT (.bool (true)) (congrArg Value.bool (decide_eq_true h2)) rfl ?_)
   refine XL.nil ?_
   refine X.condT rfl ?_
   refine X.seq ?_
   refine X.region ?_
   refine XL.cons (XOp.assign (.bool (false)) rfl ?_)
   refine XL.nil ?_
   refine X.ret (thenQ_ret (retEnd (L' := L) [.bool (false)] (.bool (false)) (.tmp rfl .nil) rfl (FLe.refl _) (FLe.refl _) (Sub.drop (Sub.drop (Sub.refl _))) ?_))
   exact ⟨(congrArg Value.bool (by refine peakL_no (fun h => ?_); obtain ⟨h1, h2, h3, h4⟩ := h; have h5 := peakArgs_iff.1 h2; first | omega | simp_all | (simp_all; done) | (exfalso; simp_all; omega))), rfl, rfl⟩
  ·refine XL.yes (t := 22) rfl (congrArg Value.bool (decide_eq_false h2)) (XOp.fieldP (b := b2) (3) Tryz.runUnderlying74 rfl Tryz.sizeOf2 (by decide) rfl rfl ?_)
   refine XL.yes (t := 22) rfl (congrArg Value.bool (decide_eq_false h2)) (XOp.load1 (v := .int .i64 (a)) Tryz.isAgg2 rfl (Rd.own [] rfl rfl) ?_)
   refine XL.yes (t := 22) rfl (congrArg Value.bool (decide_eq_false h2)) (XOp.eql (a := a) (b := 0) rfl rfl ?_)
   refine XL.yes (t := 22) rfl (congrArg Value.bool (decide_eq_false h2)) (XOp.move (.bool (decide ((a : Int) = 0))) rfl ?_)
   by_cases h3 : (a : Int) = 0
   ·refine XL.yes (t := 26) rfl (congrArg Value.bool (decide_eq_true h3)) (XOp.fieldP (b := b2) (5) Tryz.runUnderlying74 rfl Tryz.sizeOf2 (by decide) rfl rfl ?_)
    refine XL.yes (t := 26) rfl (congrArg Value.bool (decide_eq_true h3)) (XOp.load1 (v := .int .i64 (o)) Tryz.isAgg2 rfl (Rd.own [] rfl rfl) ?_)
    refine XL.yes (t := 26) rfl (congrArg Value.bool (decide_eq_true h3)) (XOp.fieldP (b := b2) (4) Tryz.runUnderlying74 rfl Tryz.sizeOf2 (by decide) rfl rfl ?_)
    refine XL.yes (t := 26) rfl (congrArg Value.bool (decide_eq_true h3)) (XOp.load1 (v := .int .i64 (u)) Tryz.isAgg2 rfl (Rd.own [] rfl rfl) ?_)
    refine XL.yes (t := 26) rfl (congrArg Value.bool (decide_eq_true h3)) (XOp.eql (a := o) (b := u) rfl rfl ?_)
    refine XL.yes (t := 22) rfl (congrArg Value.bool (decide_eq_false h2)) (XOp.pickT (.bool (decide ((o : Int) = u))) (congrArg Value.bool (decide_eq_true h3)) rfl ?_)
    refine XL.cons (XOp.pickF (.bool (decide ((o : Int) = u))) (congrArg Value.bool (decide_eq_false h2)) rfl ?_)
    refine XL.nil ?_
    refine X.condD (p := (o : Int) = u) rfl (fun h4 => ?_) (fun h4 => ?_)
    ·refine X.seq ?_
     refine X.region ?_
     refine XL.cons (XOp.assign (.bool (false)) rfl ?_)
     refine XL.nil ?_
     refine X.ret (thenQ_ret (retEnd (L' := L) [.bool (false)] (.bool (false)) (.tmp rfl .nil) rfl (FLe.refl _) (FLe.refl _) (Sub.drop (Sub.drop (Sub.refl _))) ?_))
     exact ⟨(congrArg Value.bool (by refine peakL_no (fun h => ?_); obtain ⟨h1, h2, h3, h4⟩ := h; have h5 := peakArgs_iff.1 h2; first | omega | simp_all | (simp_all; done) | (exfalso; simp_all; omega))), rfl, rfl⟩
    ·refine X.skip ?_
     refine X.seq ?_
     refine X.region ?_
     refine XL.cons (XOp.fieldP (b := b1) (1) Tryz.runUnderlying39 rfl Tryz.sizeOf37 (by decide) rfl rfl ?_)
     refine XL.cons (XOp.load1 (v := rsv) Tryz.isAgg37 rfl (Rd.own [_] rfl rfl) ?_)
     refine XL.cons (XOp.fieldP (b := b2) (5) Tryz.runUnderlying74 rfl Tryz.sizeOf2 (by decide) rfl rfl ?_)
     refine XL.cons (XOp.load1 (v := .int .i64 (o)) Tryz.isAgg2 rfl (Rd.own [] rfl rfl) ?_)
     refine XL.cons (XOp.indexS (v := rsv) (i := o) (n := (rs).length) ((o).toNat) Tryz.runUnderlying37 Tryz.sizeOf161 rfl rfl (by omega) hrs.slv (by omega) rfl ?_)
     refine XL.cons (XOp.fieldE (v := rsv) (((o).toNat) * 2) Tryz.runUnderlying161 rfl Tryz.sizeOf22 (by decide) rfl rfl ?_)
     obtain ⟨a1, a2, ha1, ha2, hr1, hr2⟩ := hrs.rd (i := (o).toNat) (by omega)
     refine XL.cons (XOp.load1 (v := a1) Tryz.isAgg22 rfl (hr1 _) ?_)
     refine XL.cons (XOp.assign (a1) rfl ?_)
     refine XL.nil ?_
     refine X.seq ?_
     refine X.seq ?_
     refine X.region ?_
     refine XL.cons (XOp.fieldP (b := b2) (3) Tryz.runUnderlying74 rfl Tryz.sizeOf2 (by decide) rfl rfl ?_)
     refine XL.cons (XOp.load1 (v := .int .i64 (a)) Tryz.isAgg2 rfl (Rd.own [] rfl rfl) ?_)
     refine XL.cons (XOp.lss (a := a) (b := 0) rfl rfl ?_)
     refine XL.cons (XOp.move (.bool (decide ((a : Int) < 0))) rfl ?_)
     by_cases h5 : (a : Int) < 0
     ·refine XL.no (t := 44) rfl (congrArg Value.bool (decide_eq_true h5)) ?_
      refine XL.no (t := 44) rfl (congrArg Value.bool (decide_eq_true h5)) ?_
      refine XL.no (t := 44) rfl (congrArg Value.bool (decide_eq_true h5)) ?_
      refine XL.no (t := 44) rfl (congrArg Value.bool (decide_eq_true h5)) ?_
      refine XL.no (t := 44) rfl (congrArg Value.bool (decide_eq_true h5)) ?_
      refine XL.cons (XOp.pickT (.bool (true)) (congrArg Value.bool (decide_eq_true h5)) rfl ?_)
      refine XL.cons (XOp.move (.bool (true)) rfl ?_)
      refine XL.no (t := 51) rfl rfl ?_
      refine XL.no (t := 51) rfl rfl ?_
      refine XL.no (t := 51) rfl rfl ?_
      refine XL.no (t := 51) rfl rfl ?_
      refine XL.no (t := 51) rfl rfl ?_
      refine XL.no (t := 51) rfl rfl ?_
      refine XL.cons (XOp.pickT (.bool (true)) rfl rfl ?_)
      refine XL.nil ?_
      refine X.condT rfl ?_
      refine X.seq ?_
      refine X.region ?_
      refine XL.cons (XOp.assign (.bool (false)) rfl ?_)
      refine XL.nil ?_
      refine X.ret (thenQ_ret (retEnd (L' := L) [.bool (false)] (.bool (false)) (.tmp rfl .nil) rfl (FLe.refl _) (FLe.refl _) (Sub.drop (Sub.drop (Sub.refl _))) ?_))
      exact ⟨(congrArg Value.bool (by refine peakL_no (fun h => ?_); obtain ⟨h1, h2, h3, h4⟩ := h; have h5 := peakArgs_iff.1 h2; first | omega | simp_all | (simp_all; done) | (exfalso; simp_all; omega))), rfl, rfl⟩
     ·refine XL.yes (t := 44) rfl (congrArg Value.bool (decide_eq_false h5)) (XOp.fieldP (b := b2) (3) Tryz.runUnderlying74 rfl Tryz.sizeOf2 (by decide) rfl rfl ?_)
      refine XL.yes (t := 44) rfl (congrArg Value.bool (decide_eq_false h5)) (XOp.load1 (v := .int .i64 (a)) Tryz.isAgg2 rfl (Rd.own [] rfl rfl) ?_)
      refine XL.yes (t := 44) rfl (congrArg Value.bool (decide_eq_false h5)) (XOp.move (a1) rfl ?_)
      refine XL.yes (t := 44) rfl (congrArg Value.bool (decide_eq_false h5)) (XOp.lenS (v := a1) (n := ((rs.getD ((o).toNat) ([], [])).1).length) Tryz.runUnderlying22 rfl ha1.slv ?_)
      refine XL.yes (t := 44) rfl (congrArg Value.bool (decide_eq_false h5)) (XOp.geq (a := a) (b := ((((rs.getD ((o).toNat) ([], [])).1).length : Nat) : Int)) rfl rfl ?_)
      refine XL.cons (XOp.pickF (.bool (decide ((a : Int) ≥ ((((rs.getD ((o).toNat) ([], [])).1).length : Nat) : Int)))) (congrArg Value.bool (decide_eq_false h5)) rfl ?_)
      refine XL.cons (XOp.move (.bool (decide ((a : Int) ≥ ((((rs.getD ((o).toNat) ([], [])).1).length : Nat) : Int)))) rfl ?_)
      by_cases h6 : (a : Int) ≥ ((((rs.getD ((o).toNat) ([], [])).1).length : Nat) : Int)
      ·refine XL.no (t := 51) rfl (congrArg Value.bool (decide_eq_true h6)) ?_
       refine XL.no (t := 51) rfl (congrArg Value.bool (decide_eq_true h6)) ?_
       refine XL.no (t := 51) rfl (congrArg Value.bool (decide_eq_true h6)) ?_
       refine XL.no (t := 51) rfl (congrArg Value.bool (decide_eq_true h6)) ?_
       refine XL.no (t := 51) rfl (congrArg Value.bool (decide_eq_true h6)) ?_
       refine XL.no (t := 51) rfl (congrArg Value.bool (decide_eq_true h6)) ?_
       refine XL.cons (XOp.pickT (.bool (true)) (congrArg Value.bool (decide_eq_true h6)) rfl ?_)
       refine XL.nil ?_
       refine X.condT rfl ?_
       refine X.seq ?_
       refine X.region ?_
       refine XL.cons (XOp.assign (.bool (false)) rfl ?_)
       refine XL.nil ?_
       refine X.ret (thenQ_ret (retEnd (L' := L) [.bool (false)] (.bool (false)) (.tmp rfl .nil) rfl (FLe.refl _) (FLe.refl _) (Sub.drop (Sub.drop (Sub.refl _))) ?_))
       exact ⟨(congrArg Value.bool (by refine peakL_no (fun h => ?_); obtain ⟨h1, h2, h3, h4⟩ := h; have h5 := peakArgs_iff.1 h2; first | omega | simp_all | (simp_all; done) | (exfalso; simp_all; omega))), rfl, rfl⟩
      ·refine XL.yes (t := 51) rfl (congrArg Value.bool (decide_eq_false h6)) (XOp.move (a1) rfl ?_)
       refine XL.yes (t := 51) rfl (congrArg Value.bool (decide_eq_false h6)) (XOp.fieldP (b := b2) (3) Tryz.runUnderlying74 rfl Tryz.sizeOf2 (by decide) rfl rfl ?_)
       refine XL.yes (t := 51) rfl (congrArg Value.bool (decide_eq_false h6)) (XOp.load1 (v := .int .i64 (a)) Tryz.isAgg2 rfl (Rd.own [] rfl rfl) ?_)
       refine XL.yes (t := 51) rfl (congrArg Value.bool (decide_eq_false h6)) (XOp.indexS (v := a1) (i := a) (n := ((rs.getD ((o).toNat) ([], [])).1).length) ((a).toNat) Tryz.runUnderlying22 Tryz.sizeOf2 rfl rfl (by omega) ha1.slv (by omega) (Nat.mul_one _) ?_)
       refine XL.yes (t := 51) rfl (congrArg Value.bool (decide_eq_false h6)) (XOp.load1 (v := .int .i64 (((rs.getD ((o).toNat) ([], [])).1).getD ((a).toNat) 0)) Tryz.isAgg2 rfl (ha1.rd (by omega)) ?_)
       refine XL.yes (t := 51) rfl (congrArg Value.bool (decide_eq_false h6)) (XOp.lss (a := ((rs.getD ((o).toNat) ([], [])).1).getD ((a).toNat) 0) (b := 0) rfl rfl ?_)
       refine XL.cons (XOp.pickF (.bool (decide ((((rs.getD ((o).toNat) ([], [])).1).getD ((a).toNat) 0 : Int) < 0))) (congrArg Value.bool (decide_eq_false h6)) rfl ?_)
       refine XL.nil ?_
       refine X.condD (p := (((rs.getD ((o).toNat) ([], [])).1).getD ((a).toNat) 0 : Int) < 0) rfl (fun h7 => ?_) (fun h7 => ?_)
       ·refine X.seq ?_
        refine X.region ?_
        refine XL.cons (XOp.assign (.bool (false)) rfl ?_)
        refine XL.nil ?_
        refine X.ret (thenQ_ret (retEnd (L' := L) [.bool (false)] (.bool (false)) (.tmp rfl .nil) rfl (FLe.refl _) (FLe.refl _) (Sub.drop (Sub.drop (Sub.refl _))) ?_))
        exact ⟨(congrArg Value.bool (by refine peakL_no (fun h => ?_); obtain ⟨h1, h2, h3, h4⟩ := h; have h5 := peakArgs_iff.1 h2; first | omega | simp_all | (simp_all; done) | (exfalso; simp_all; omega))), rfl, rfl⟩
       ·refine X.skip ?_
        refine X.seq ?_
        refine X.region ?_
        refine XL.cons (XOp.loadN [arv, rsv] Tryz.isAgg39 Tryz.sizeOf39 rfl rfl (Rd.ownN [_] rfl rfl) ?_)
        refine XL.cons (XOp.fieldP (b := b2) (0) Tryz.runUnderlying74 rfl Tryz.sizeOf22 (by decide) rfl rfl ?_)
        refine XL.cons (XOp.load1 (v := tpv) Tryz.isAgg22 rfl (Rd.own [] rfl rfl) ?_)
        refine XL.cons (XOp.fieldP (b := b2) (5) Tryz.runUnderlying74 rfl Tryz.sizeOf2 (by decide) rfl rfl ?_)
        refine XL.cons (XOp.load1 (v := .int .i64 (o)) Tryz.isAgg2 rfl (Rd.own [] rfl rfl) ?_)
        refine XL.cons (XOp.call (args := [.agg #[arv, rsv], tpv, .int .i64 (0), .int .i64 (o)]) Tryz.call174 rfl (StepAt_spec (p := 0) (r := o) har hrs htp) ?_)
        rintro _ F1 _ le1 ⟨x1, rfl, hr3, hr4, rfl⟩
        replace har := har.mono le1
        replace hrs := hrs.mono le1
        replace htp := htp.mono le1
        replace hlf := hlf.mono le1
        replace hrt := hrt.mono le1
        replace ha1 := ha1.mono le1
        replace ha2 := ha2.mono le1
        replace hr1 := Rd.monoA hr1 le1
        replace hr2 := Rd.monoA hr2 le1
        refine XL.cons (XOp.move (.tuple #[x1, .bool ((stepAtL ar rs tp 0 o).isSome)]) rfl ?_)
        refine XL.cons (XOp.extract (x1) rfl rfl ?_)
        refine XL.cons (XOp.extract (.bool ((stepAtL ar rs tp 0 o).isSome)) rfl rfl ?_)
        refine XL.cons (XOp.assign (x1) rfl ?_)
        refine XL.cons (XOp.assign (.bool ((stepAtL ar rs tp 0 o).isSome)) rfl ?_)
        refine XL.nil ?_
        refine X.seq ?_
        refine X.seq ?_
        refine X.region ?_
        refine XL.cons (XOp.move (.bool ((stepAtL ar rs tp 0 o).isSome)) rfl ?_)
        refine XL.cons (XOp.notB (b := (stepAtL ar rs tp 0 o).isSome) rfl ?_)
        refine XL.cons (XOp.move (.bool (!((stepAtL ar rs tp 0 o).isSome))) rfl ?_)
        by_cases h8 : (!((stepAtL ar rs tp 0 o).isSome)) = true
        ·have hst1 : (stepAtL ar rs tp 0 o).isSome = false := by simpa using h8
         refine XL.no (t := 70) rfl (congrArg Value.bool h8) ?_
         refine XL.no (t := 70) rfl (congrArg Value.bool h8) ?_
         refine XL.no (t := 70) rfl (congrArg Value.bool h8) ?_
         refine XL.no (t := 70) rfl (congrArg Value.bool h8) ?_
         refine XL.no (t := 70) rfl (congrArg Value.bool h8) ?_
         refine XL.cons (XOp.pickT (.bool (true)) (congrArg Value.bool h8) rfl ?_)
         refine XL.nil ?_
         refine X.condT rfl ?_
         refine X.seq ?_
         refine X.region ?_
         refine XL.cons (XOp.assign (.bool (false)) rfl ?_)
         refine XL.nil ?_
         refine X.ret (thenQ_ret (retEnd (L' := L) [.bool (false)] (.bool (false)) (.tmp rfl .nil) rfl (FLe.refl _) le1 (Sub.drop (Sub.drop (Sub.refl _))) ?_))
         exact ⟨(congrArg Value.bool (peakL_no (fun h => by first | exact opt_no1 hst1 h.2.2.1 | exact opt_no2 hst2 h.2.2.1))), rfl, rfl⟩
        ·rw [Bool.not_eq_true] at h8
         have hst1 : (stepAtL ar rs tp 0 o).isSome = true := by simpa using h8
         refine XL.yes (t := 70) rfl (congrArg Value.bool h8) (XOp.move (x1) rfl ?_)
         refine XL.yes (t := 70) rfl (congrArg Value.bool h8) (XOp.fieldP (b := b2) (2) Tryz.runUnderlying74 rfl Tryz.sizeOf22 (by decide) rfl rfl ?_)
         refine XL.yes (t := 70) rfl (congrArg Value.bool h8) (XOp.load1 (v := rtv) Tryz.isAgg22 rfl (Rd.own [] rfl rfl) ?_)
         refine XL.yes (t := 70) rfl (congrArg Value.bool h8) (XOp.call (args := [x1, rtv]) Tryz.call163 rfl (Equal_spec hr3 hrt (hbd := (by first | assumption | rfl | omega | (left; simp; done) | (right; simp; done)))) ?_)
         rintro _ _ _ _ ⟨rfl, rfl, rfl⟩
         refine XL.yes (t := 70) rfl (congrArg Value.bool h8) (XOp.notD (p := ((stepAtL ar rs tp 0 o).getD []) = rt) rfl ?_)
         refine XL.cons (XOp.pickF (.bool (decide (¬(((stepAtL ar rs tp 0 o).getD []) = rt)))) (congrArg Value.bool h8) rfl ?_)
         refine XL.nil ?_
         refine X.condD (p := ¬(((stepAtL ar rs tp 0 o).getD []) = rt)) rfl (fun h9 => ?_) (fun h9 => ?_)
         ·have hst2 : (stepAtL ar rs tp 0 o).getD [] ≠ rt := h9
          refine X.seq ?_
          refine X.region ?_
          refine XL.cons (XOp.assign (.bool (false)) rfl ?_)
          refine XL.nil ?_
          refine X.ret (thenQ_ret (retEnd (L' := L) [.bool (false)] (.bool (false)) (.tmp rfl .nil) rfl (FLe.refl _) le1 (Sub.drop (Sub.drop (Sub.refl _))) ?_))
          exact ⟨(congrArg Value.bool (peakL_no (fun h => by first | exact opt_no1 hst1 h.2.2.1 | exact opt_no2 hst2 h.2.2.1))), rfl, rfl⟩
         ·have hst2 : (stepAtL ar rs tp 0 o).getD [] = rt := Classical.not_not.1 h9
          refine X.skip ?_
          refine X.seq ?_
          refine X.drawG [cellsH b2 [tpv, lfv, rtv, .int .i64 (a), .int .i64 (u), .int .i64 (o)] 74, cellsH b1 [arv, rsv] 39] L 10 [[], [], [], [], [], [], [], [], [], []] [[], [0], [], [2], [], [4], [], [], [7], [5, 6, 8]] [[], [], [], [], [], [], [], [], [], []] (phiG [fun FF us v => v = ptr b1 0, fun FF us v => v = (.agg #[arv] : Value), fun FF us v => v = ptr b2 0, fun FF us v => v = tpv, fun FF us v => v = ptr b1 0, fun FF us v => v = (.agg #[arv] : Value), fun FF us v => v = a1, fun FF us v => v = ptr b2 3, fun FF us v => v = (.int .i64 (a) : Value), fun FF us v => ((v) : Value) = v ∧ (IntsF FF (v) (pathL ar ((rs.getD ((o).toNat) ([], [])).1) ((a).toNat)))]) (ownL [fun us v => [], fun us v => [], fun us v => [], fun us v => [], fun us v => [], fun us v => [], fun us v => [], fun us v => [], fun us v => [], fun us v => []]) mixed rfl rfl (by kernel_rfl) (by kernel_rfl) (MonoG.get (MonoG.cons (fun le h => h) (MonoG.cons (fun le h => h) (MonoG.cons (fun le h => h) (MonoG.cons (fun le h => h) (MonoG.cons (fun le h => h) (MonoG.cons (fun le h => h) (MonoG.cons (fun le h => h) (MonoG.cons (fun le h => h) (MonoG.cons (fun le h => h) (MonoG.cons (fun le h => ⟨h.1, h.2.mono le⟩) MonoG.nil))))))))))) ?_ ?_
          ·refine stepsG.cons (fun vals Fs R leFs hpZ => ?_) ?_
           ·refine XG.op (XOp.fieldP (b := b1) (0) Tryz.runUnderlying39 rfl Tryz.sizeOf36 (by decide) rfl rfl ?_)
            exact ⟨rfl, rfl⟩
           refine stepsG.cons (fun vals Fs R leFs hpZ => ?_) ?_
           ·have e0 : vals 0 = ptr b1 0 := hpZ 0 (by decide)
            replace har := har.mono leFs
            replace hrs := hrs.mono leFs
            replace htp := htp.mono leFs
            replace hlf := hlf.mono leFs
            replace hrt := hrt.mono leFs
            replace ha1 := ha1.mono leFs
            replace ha2 := ha2.mono leFs
            replace hr3 := hr3.mono leFs
            replace hr1 := Rd.monoA hr1 leFs
            replace hr2 := Rd.monoA hr2 leFs
            rw [(envs_of_sat (l := [(0, ptr b1 0)]) ⟨e0, trivial⟩).symm]
            refine XG.op (XOp.loadN [arv] Tryz.isAgg36 Tryz.sizeOf36 rfl rfl (Rd.ownN [_] rfl rfl) ?_)
            exact ⟨rfl, rfl⟩
           refine stepsG.cons (fun vals Fs R leFs hpZ => ?_) ?_
           ·refine XG.op (XOp.fieldP (b := b2) (0) Tryz.runUnderlying74 rfl Tryz.sizeOf22 (by decide) rfl rfl ?_)
            exact ⟨rfl, rfl⟩
           refine stepsG.cons (fun vals Fs R leFs hpZ => ?_) ?_
           ·have e2 : vals 2 = ptr b2 0 := hpZ 2 (by decide)
            replace har := har.mono leFs
            replace hrs := hrs.mono leFs
            replace htp := htp.mono leFs
            replace hlf := hlf.mono leFs
            replace hrt := hrt.mono leFs
            replace ha1 := ha1.mono leFs
            replace ha2 := ha2.mono leFs
            replace hr3 := hr3.mono leFs
            replace hr1 := Rd.monoA hr1 leFs
            replace hr2 := Rd.monoA hr2 leFs
            rw [(envs_of_sat (l := [(2, ptr b2 0)]) ⟨e2, trivial⟩).symm]
            refine XG.op (XOp.load1 (v := tpv) Tryz.isAgg22 rfl (Rd.own [] rfl rfl) ?_)
            exact ⟨rfl, rfl⟩
           refine stepsG.cons (fun vals Fs R leFs hpZ => ?_) ?_
           ·refine XG.op (XOp.fieldP (b := b1) (0) Tryz.runUnderlying39 rfl Tryz.sizeOf36 (by decide) rfl rfl ?_)
            exact ⟨rfl, rfl⟩
           refine stepsG.cons (fun vals Fs R leFs hpZ => ?_) ?_
           ·have e4 : vals 4 = ptr b1 0 := hpZ 4 (by decide)
            replace har := har.mono leFs
            replace hrs := hrs.mono leFs
            replace htp := htp.mono leFs
            replace hlf := hlf.mono leFs
            replace hrt := hrt.mono leFs
            replace ha1 := ha1.mono leFs
            replace ha2 := ha2.mono leFs
            replace hr3 := hr3.mono leFs
            replace hr1 := Rd.monoA hr1 leFs
            replace hr2 := Rd.monoA hr2 leFs
            rw [(envs_of_sat (l := [(4, ptr b1 0)]) ⟨e4, trivial⟩).symm]
            refine XG.op (XOp.loadN [arv] Tryz.isAgg36 Tryz.sizeOf36 rfl rfl (Rd.ownN [_] rfl rfl) ?_)
            exact ⟨rfl, rfl⟩
           refine stepsG.cons (fun vals Fs R leFs hpZ => ?_) ?_
           ·refine XG.op (XOp.move (a1) rfl ?_)
            exact ⟨rfl, rfl⟩
           refine stepsG.cons (fun vals Fs R leFs hpZ => ?_) ?_
           ·refine XG.op (XOp.fieldP (b := b2) (3) Tryz.runUnderlying74 rfl Tryz.sizeOf2 (by decide) rfl rfl ?_)
            exact ⟨rfl, rfl⟩
           refine stepsG.cons (fun vals Fs R leFs hpZ => ?_) ?_
           ·have e7 : vals 7 = ptr b2 3 := hpZ 7 (by decide)
            replace har := har.mono leFs
            replace hrs := hrs.mono leFs
            replace htp := htp.mono leFs
            replace hlf := hlf.mono leFs
            replace hrt := hrt.mono leFs
            replace ha1 := ha1.mono leFs
            replace ha2 := ha2.mono leFs
            replace hr3 := hr3.mono leFs
            replace hr1 := Rd.monoA hr1 leFs
            replace hr2 := Rd.monoA hr2 leFs
            rw [(envs_of_sat (l := [(7, ptr b2 3)]) ⟨e7, trivial⟩).symm]
            refine XG.op (XOp.load1 (v := .int .i64 (a)) Tryz.isAgg2 rfl (Rd.own [] rfl rfl) ?_)
            exact ⟨rfl, rfl⟩
           refine stepsG.cons (fun vals Fs R leFs hpZ => ?_) ?_
           ·have e5 : vals 5 = (.agg #[arv] : Value) := hpZ 5 (by decide)
            have e6 : vals 6 = a1 := hpZ 6 (by decide)
            have e8 : vals 8 = (.int .i64 (a) : Value) := hpZ 8 (by decide)
            replace har := har.mono leFs
            replace hrs := hrs.mono leFs
            replace htp := htp.mono leFs
            replace hlf := hlf.mono leFs
            replace hrt := hrt.mono leFs
            replace ha1 := ha1.mono leFs
            replace ha2 := ha2.mono leFs
            replace hr3 := hr3.mono leFs
            replace hr1 := Rd.monoA hr1 leFs
            replace hr2 := Rd.monoA hr2 leFs
            rw [(envs_of_sat (l := [(5, (.agg #[arv] : Value)), (6, a1), (8, (.int .i64 (a) : Value))]) ⟨e5, e6, e8, trivial⟩).symm]
            refine XG.op (XOp.frzF <| XOp.call (args := [.agg #[arv], a1, .int .i64 (((a).toNat : Nat) : Int)]) Tryz.call198 (by rw [show (((a).toNat : Nat) : Int) = a from by omega]; rfl) (pathTo_spec (x := (a).toNat) har ha1 (ho := (hRL (by omega))) (hx := (by omega))) ?_)
            rintro v2 _ _ _ ⟨rfl, hs2, rfl⟩
            refine ⟨_, _, rfl, fun F2 le2 hz1 => ?_⟩
            replace har := har.mono le2
            replace hrs := hrs.mono le2
            replace htp := htp.mono le2
            replace hlf := hlf.mono le2
            replace hrt := hrt.mono le2
            replace ha1 := ha1.mono le2
            replace ha2 := ha2.mono le2
            replace hr3 := hr3.mono le2
            replace hr1 := Rd.monoA hr1 le2
            replace hr2 := Rd.monoA hr2 le2
            have hf1 : IntsF F2 v2 ((pathL ar ((rs.getD ((o).toNat) ([], [])).1) ((a).toNat))) := intsH.fz (xs := (pathL ar ((rs.getD ((o).toNat) ([], [])).1) ((a).toNat))) hz1.fz
            exact ⟨⟨rfl, hf1⟩, rfl⟩
           exact stepsG.nil
          ·intro vals F3 le3 hphi
           have e0 : vals 0 = ptr b1 0 := hphi 0 (by decide)
           have e1 : vals 1 = (.agg #[arv] : Value) := hphi 1 (by decide)
           have e2 : vals 2 = ptr b2 0 := hphi 2 (by decide)
           have e3 : vals 3 = tpv := hphi 3 (by decide)
           have e4 : vals 4 = ptr b1 0 := hphi 4 (by decide)
           have e5 : vals 5 = (.agg #[arv] : Value) := hphi 5 (by decide)
           have e6 : vals 6 = a1 := hphi 6 (by decide)
           have e7 : vals 7 = ptr b2 3 := hphi 7 (by decide)
           have e8 : vals 8 = (.int .i64 (a) : Value) := hphi 8 (by decide)
           obtain ⟨e9, f9_1ha⟩ := hphi 9 (by decide)
           generalize hu1 : ((vals 9)) = u1 at e0 e1 e2 e3 e4 e5 e6 e7 e8 e9 f9_1ha
           rw [(envs_of_sat (l := [(0, ptr b1 0), (1, (.agg #[arv] : Value)), (2, ptr b2 0), (3, tpv), (4, ptr b1 0), (5, (.agg #[arv] : Value)), (6, a1), (7, ptr b2 3), (8, (.int .i64 (a) : Value)), (9, u1)]) ⟨e0, e1, e2, e3, e4, e5, e6, e7, e8, hu1, trivial⟩).symm]
           replace har := har.mono le3
           replace hrs := hrs.mono le3
           replace htp := htp.mono le3
           replace hlf := hlf.mono le3
           replace hrt := hrt.mono le3
           replace ha1 := ha1.mono le3
           replace ha2 := ha2.mono le3
           replace hr3 := hr3.mono le3
           replace hr1 := Rd.monoA hr1 le3
           replace hr2 := Rd.monoA hr2 le3
           show XL _ _ _ _ _ _ _ (cellsH b2 [tpv, lfv, rtv, .int .i64 (a), .int .i64 (u), .int .i64 (o)] 74 :: cellsH b1 [arv, rsv] 39 :: L)
           refine XL.cons (XOp.call (args := [.agg #[arv], tpv, u1]) Tryz.call197 rfl (PlaceOf_spec har htp f9_1ha (hlp := (by have := pathL_len ar (rs.getD o.toNat ([], [])).1 a.toNat; have := hRl (by omega); omega))) ?_)
           rintro _ _ _ _ ⟨rfl, rfl, rfl⟩
           refine XL.cons (XOp.assign (.int .i64 (placeL ar tp ((pathL ar ((rs.getD ((o).toNat) ([], [])).1) ((a).toNat))))) rfl ?_)
           refine XL.nil ?_
           refine X.seq ?_
           refine X.region ?_
           refine XL.cons (XOp.loadN [arv, rsv] Tryz.isAgg39 Tryz.sizeOf39 rfl rfl (Rd.ownN [_] rfl rfl) ?_)
           refine XL.cons (XOp.fieldP (b := b2) (0) Tryz.runUnderlying74 rfl Tryz.sizeOf22 (by decide) rfl rfl ?_)
           refine XL.cons (XOp.load1 (v := tpv) Tryz.isAgg22 rfl (Rd.own [] rfl rfl) ?_)
           refine XL.cons (XOp.move (.int .i64 (placeL ar tp ((pathL ar ((rs.getD ((o).toNat) ([], [])).1) ((a).toNat))))) rfl ?_)
           refine XL.cons (XOp.fieldP (b := b2) (4) Tryz.runUnderlying74 rfl Tryz.sizeOf2 (by decide) rfl rfl ?_)
           refine XL.cons (XOp.load1 (v := .int .i64 (u)) Tryz.isAgg2 rfl (Rd.own [] rfl rfl) ?_)
           refine XL.cons (XOp.call (args := [.agg #[arv, rsv], tpv, .int .i64 (placeL ar tp ((pathL ar ((rs.getD ((o).toNat) ([], [])).1) ((a).toNat)))), .int .i64 (u)]) Tryz.call174 rfl (StepAt_spec (p := placeL ar tp ((pathL ar ((rs.getD ((o).toNat) ([], [])).1) ((a).toNat)))) (r := u) har hrs htp) ?_)
           rintro _ F4 _ le4 ⟨x2, rfl, hr5, hr6, rfl⟩
           replace har := har.mono le4
           replace hrs := hrs.mono le4
           replace htp := htp.mono le4
           replace hlf := hlf.mono le4
           replace hrt := hrt.mono le4
           replace ha1 := ha1.mono le4
           replace ha2 := ha2.mono le4
           replace hr3 := hr3.mono le4
           replace f9_1ha := f9_1ha.mono le4
           replace hr1 := Rd.monoA hr1 le4
           replace hr2 := Rd.monoA hr2 le4
           refine XL.cons (XOp.move (.tuple #[x2, .bool ((stepAtL ar rs tp (placeL ar tp ((pathL ar ((rs.getD ((o).toNat) ([], [])).1) ((a).toNat)))) u).isSome)]) rfl ?_)
           refine XL.cons (XOp.extract (x2) rfl rfl ?_)
           refine XL.cons (XOp.extract (.bool ((stepAtL ar rs tp (placeL ar tp ((pathL ar ((rs.getD ((o).toNat) ([], [])).1) ((a).toNat)))) u).isSome)) rfl rfl ?_)
           refine XL.cons (XOp.assign (x2) rfl ?_)
           refine XL.cons (XOp.assign (.bool ((stepAtL ar rs tp (placeL ar tp ((pathL ar ((rs.getD ((o).toNat) ([], [])).1) ((a).toNat)))) u).isSome)) rfl ?_)
           refine XL.nil ?_
           refine X.seq ?_
           refine X.region ?_
           refine XL.cons (XOp.move (.bool ((stepAtL ar rs tp (placeL ar tp ((pathL ar ((rs.getD ((o).toNat) ([], [])).1) ((a).toNat)))) u).isSome)) rfl ?_)
           refine XL.cons (XOp.move (.bool ((stepAtL ar rs tp (placeL ar tp ((pathL ar ((rs.getD ((o).toNat) ([], [])).1) ((a).toNat)))) u).isSome)) rfl ?_)
           by_cases h10 : ((stepAtL ar rs tp (placeL ar tp ((pathL ar ((rs.getD ((o).toNat) ([], [])).1) ((a).toNat)))) u).isSome) = true
           ·refine XL.yes (t := 99) rfl (congrArg Value.bool h10) (XOp.move (x2) rfl ?_)
            refine XL.yes (t := 99) rfl (congrArg Value.bool h10) (XOp.fieldP (b := b2) (1) Tryz.runUnderlying74 rfl Tryz.sizeOf22 (by decide) rfl rfl ?_)
            refine XL.yes (t := 99) rfl (congrArg Value.bool h10) (XOp.load1 (v := lfv) Tryz.isAgg22 rfl (Rd.own [] rfl rfl) ?_)
            refine XL.yes (t := 99) rfl (congrArg Value.bool h10) (XOp.call (args := [x2, lfv]) Tryz.call163 rfl (Equal_spec hr5 hlf (hbd := (by first | assumption | rfl | omega | (left; simp; done) | (right; simp; done)))) ?_)
            rintro _ _ _ _ ⟨rfl, rfl, rfl⟩
            refine XL.cons (XOp.pickT (.bool (decide (((stepAtL ar rs tp (placeL ar tp ((pathL ar ((rs.getD ((o).toNat) ([], [])).1) ((a).toNat)))) u).getD []) = lf))) (congrArg Value.bool h10) rfl ?_)
            refine XL.cons (XOp.assign (.bool (decide (((stepAtL ar rs tp (placeL ar tp ((pathL ar ((rs.getD ((o).toNat) ([], [])).1) ((a).toNat)))) u).getD []) = lf))) rfl ?_)
            refine XL.nil ?_
            refine X.ret (retEnd (L' := L) [.bool (decide (((stepAtL ar rs tp (placeL ar tp ((pathL ar ((rs.getD ((o).toNat) ([], [])).1) ((a).toNat)))) u).getD []) = lf))] (.bool (decide (((stepAtL ar rs tp (placeL ar tp ((pathL ar ((rs.getD ((o).toNat) ([], [])).1) ((a).toNat)))) u).getD []) = lf))) (.tmp rfl .nil) rfl (FLe.refl _) (FLe.trans (FLe.trans le1 le3) le4) (Sub.drop (Sub.drop (Sub.refl _))) ?_)
            exact ⟨(congrArg Value.bool (by rw [Bool.eq_iff_iff, peakL_iff, decide_eq_true_eq]; exact ⟨fun h => (getD_some (by assumption)).1 h.2.2.2, fun h => ⟨hsys, peakArgs_iff.2 (by omega), (getD_some hst1).2 hst2, (getD_some (by assumption)).2 h⟩⟩)), rfl, rfl⟩
           ·rw [Bool.not_eq_true] at h10
            refine XL.no (t := 99) rfl (congrArg Value.bool h10) ?_
            refine XL.no (t := 99) rfl (congrArg Value.bool h10) ?_
            refine XL.no (t := 99) rfl (congrArg Value.bool h10) ?_
            refine XL.no (t := 99) rfl (congrArg Value.bool h10) ?_
            refine XL.cons (XOp.pickF (.bool (false)) (congrArg Value.bool h10) rfl ?_)
            refine XL.cons (XOp.assign (.bool (false)) rfl ?_)
            refine XL.nil ?_
            refine X.ret (retEnd (L' := L) [.bool (false)] (.bool (false)) (.tmp rfl .nil) rfl (FLe.refl _) (FLe.trans (FLe.trans le1 le3) le4) (Sub.drop (Sub.drop (Sub.refl _))) ?_)
            exact ⟨(congrArg Value.bool (peakL_no (fun h => opt_no1 (by assumption) h.2.2.2))), rfl, rfl⟩
   ·refine XL.no (t := 26) rfl (congrArg Value.bool (decide_eq_false h3)) ?_
    refine XL.no (t := 26) rfl (congrArg Value.bool (decide_eq_false h3)) ?_
    refine XL.no (t := 26) rfl (congrArg Value.bool (decide_eq_false h3)) ?_
    refine XL.no (t := 26) rfl (congrArg Value.bool (decide_eq_false h3)) ?_
    refine XL.no (t := 26) rfl (congrArg Value.bool (decide_eq_false h3)) ?_
    refine XL.yes (t := 22) rfl (congrArg Value.bool (decide_eq_false h2)) (XOp.pickF (.bool (false)) (congrArg Value.bool (decide_eq_false h3)) rfl ?_)
    refine XL.cons (XOp.pickF (.bool (false)) (congrArg Value.bool (decide_eq_false h2)) rfl ?_)
    refine XL.nil ?_
    refine X.condF rfl ?_
    refine X.skip ?_
    refine X.seq ?_
    refine X.region ?_
    refine XL.cons (XOp.fieldP (b := b1) (1) Tryz.runUnderlying39 rfl Tryz.sizeOf37 (by decide) rfl rfl ?_)
    refine XL.cons (XOp.load1 (v := rsv) Tryz.isAgg37 rfl (Rd.own [_] rfl rfl) ?_)
    refine XL.cons (XOp.fieldP (b := b2) (5) Tryz.runUnderlying74 rfl Tryz.sizeOf2 (by decide) rfl rfl ?_)
    refine XL.cons (XOp.load1 (v := .int .i64 (o)) Tryz.isAgg2 rfl (Rd.own [] rfl rfl) ?_)
    refine XL.cons (XOp.indexS (v := rsv) (i := o) (n := (rs).length) ((o).toNat) Tryz.runUnderlying37 Tryz.sizeOf161 rfl rfl (by omega) hrs.slv (by omega) rfl ?_)
    refine XL.cons (XOp.fieldE (v := rsv) (((o).toNat) * 2) Tryz.runUnderlying161 rfl Tryz.sizeOf22 (by decide) rfl rfl ?_)
    obtain ⟨a3, a4, ha3, ha4, hr7, hr8⟩ := hrs.rd (i := (o).toNat) (by omega)
    refine XL.cons (XOp.load1 (v := a3) Tryz.isAgg22 rfl (hr7 _) ?_)
    refine XL.cons (XOp.assign (a3) rfl ?_)
    refine XL.nil ?_
    refine X.seq ?_
    refine X.seq ?_
    refine X.region ?_
    refine XL.cons (XOp.fieldP (b := b2) (3) Tryz.runUnderlying74 rfl Tryz.sizeOf2 (by decide) rfl rfl ?_)
    refine XL.cons (XOp.load1 (v := .int .i64 (a)) Tryz.isAgg2 rfl (Rd.own [] rfl rfl) ?_)
    refine XL.cons (XOp.lss (a := a) (b := 0) rfl rfl ?_)
    refine XL.cons (XOp.move (.bool (decide ((a : Int) < 0))) rfl ?_)
    by_cases h11 : (a : Int) < 0
    ·refine XL.no (t := 44) rfl (congrArg Value.bool (decide_eq_true h11)) ?_
     refine XL.no (t := 44) rfl (congrArg Value.bool (decide_eq_true h11)) ?_
     refine XL.no (t := 44) rfl (congrArg Value.bool (decide_eq_true h11)) ?_
     refine XL.no (t := 44) rfl (congrArg Value.bool (decide_eq_true h11)) ?_
     refine XL.no (t := 44) rfl (congrArg Value.bool (decide_eq_true h11)) ?_
     refine XL.cons (XOp.pickT (.bool (true)) (congrArg Value.bool (decide_eq_true h11)) rfl ?_)
     refine XL.cons (XOp.move (.bool (true)) rfl ?_)
     refine XL.no (t := 51) rfl rfl ?_
     refine XL.no (t := 51) rfl rfl ?_
     refine XL.no (t := 51) rfl rfl ?_
     refine XL.no (t := 51) rfl rfl ?_
     refine XL.no (t := 51) rfl rfl ?_
     refine XL.no (t := 51) rfl rfl ?_
     refine XL.cons (XOp.pickT (.bool (true)) rfl rfl ?_)
     refine XL.nil ?_
     refine X.condT rfl ?_
     refine X.seq ?_
     refine X.region ?_
     refine XL.cons (XOp.assign (.bool (false)) rfl ?_)
     refine XL.nil ?_
     refine X.ret (thenQ_ret (retEnd (L' := L) [.bool (false)] (.bool (false)) (.tmp rfl .nil) rfl (FLe.refl _) (FLe.refl _) (Sub.drop (Sub.drop (Sub.refl _))) ?_))
     exact ⟨(congrArg Value.bool (by refine peakL_no (fun h => ?_); obtain ⟨h1, h2, h3, h4⟩ := h; have h5 := peakArgs_iff.1 h2; first | omega | simp_all | (simp_all; done) | (exfalso; simp_all; omega))), rfl, rfl⟩
    ·refine XL.yes (t := 44) rfl (congrArg Value.bool (decide_eq_false h11)) (XOp.fieldP (b := b2) (3) Tryz.runUnderlying74 rfl Tryz.sizeOf2 (by decide) rfl rfl ?_)
     refine XL.yes (t := 44) rfl (congrArg Value.bool (decide_eq_false h11)) (XOp.load1 (v := .int .i64 (a)) Tryz.isAgg2 rfl (Rd.own [] rfl rfl) ?_)
     refine XL.yes (t := 44) rfl (congrArg Value.bool (decide_eq_false h11)) (XOp.move (a3) rfl ?_)
     refine XL.yes (t := 44) rfl (congrArg Value.bool (decide_eq_false h11)) (XOp.lenS (v := a3) (n := ((rs.getD ((o).toNat) ([], [])).1).length) Tryz.runUnderlying22 rfl ha3.slv ?_)
     refine XL.yes (t := 44) rfl (congrArg Value.bool (decide_eq_false h11)) (XOp.geq (a := a) (b := ((((rs.getD ((o).toNat) ([], [])).1).length : Nat) : Int)) rfl rfl ?_)
     refine XL.cons (XOp.pickF (.bool (decide ((a : Int) ≥ ((((rs.getD ((o).toNat) ([], [])).1).length : Nat) : Int)))) (congrArg Value.bool (decide_eq_false h11)) rfl ?_)
     refine XL.cons (XOp.move (.bool (decide ((a : Int) ≥ ((((rs.getD ((o).toNat) ([], [])).1).length : Nat) : Int)))) rfl ?_)
     by_cases h12 : (a : Int) ≥ ((((rs.getD ((o).toNat) ([], [])).1).length : Nat) : Int)
     ·refine XL.no (t := 51) rfl (congrArg Value.bool (decide_eq_true h12)) ?_
      refine XL.no (t := 51) rfl (congrArg Value.bool (decide_eq_true h12)) ?_
      refine XL.no (t := 51) rfl (congrArg Value.bool (decide_eq_true h12)) ?_
      refine XL.no (t := 51) rfl (congrArg Value.bool (decide_eq_true h12)) ?_
      refine XL.no (t := 51) rfl (congrArg Value.bool (decide_eq_true h12)) ?_
      refine XL.no (t := 51) rfl (congrArg Value.bool (decide_eq_true h12)) ?_
      refine XL.cons (XOp.pickT (.bool (true)) (congrArg Value.bool (decide_eq_true h12)) rfl ?_)
      refine XL.nil ?_
      refine X.condT rfl ?_
      refine X.seq ?_
      refine X.region ?_
      refine XL.cons (XOp.assign (.bool (false)) rfl ?_)
      refine XL.nil ?_
      refine X.ret (thenQ_ret (retEnd (L' := L) [.bool (false)] (.bool (false)) (.tmp rfl .nil) rfl (FLe.refl _) (FLe.refl _) (Sub.drop (Sub.drop (Sub.refl _))) ?_))
      exact ⟨(congrArg Value.bool (by refine peakL_no (fun h => ?_); obtain ⟨h1, h2, h3, h4⟩ := h; have h5 := peakArgs_iff.1 h2; first | omega | simp_all | (simp_all; done) | (exfalso; simp_all; omega))), rfl, rfl⟩
     ·refine XL.yes (t := 51) rfl (congrArg Value.bool (decide_eq_false h12)) (XOp.move (a3) rfl ?_)
      refine XL.yes (t := 51) rfl (congrArg Value.bool (decide_eq_false h12)) (XOp.fieldP (b := b2) (3) Tryz.runUnderlying74 rfl Tryz.sizeOf2 (by decide) rfl rfl ?_)
      refine XL.yes (t := 51) rfl (congrArg Value.bool (decide_eq_false h12)) (XOp.load1 (v := .int .i64 (a)) Tryz.isAgg2 rfl (Rd.own [] rfl rfl) ?_)
      refine XL.yes (t := 51) rfl (congrArg Value.bool (decide_eq_false h12)) (XOp.indexS (v := a3) (i := a) (n := ((rs.getD ((o).toNat) ([], [])).1).length) ((a).toNat) Tryz.runUnderlying22 Tryz.sizeOf2 rfl rfl (by omega) ha3.slv (by omega) (Nat.mul_one _) ?_)
      refine XL.yes (t := 51) rfl (congrArg Value.bool (decide_eq_false h12)) (XOp.load1 (v := .int .i64 (((rs.getD ((o).toNat) ([], [])).1).getD ((a).toNat) 0)) Tryz.isAgg2 rfl (ha3.rd (by omega)) ?_)
      refine XL.yes (t := 51) rfl (congrArg Value.bool (decide_eq_false h12)) (XOp.lss (a := ((rs.getD ((o).toNat) ([], [])).1).getD ((a).toNat) 0) (b := 0) rfl rfl ?_)
      refine XL.cons (XOp.pickF (.bool (decide ((((rs.getD ((o).toNat) ([], [])).1).getD ((a).toNat) 0 : Int) < 0))) (congrArg Value.bool (decide_eq_false h12)) rfl ?_)
      refine XL.nil ?_
      refine X.condD (p := (((rs.getD ((o).toNat) ([], [])).1).getD ((a).toNat) 0 : Int) < 0) rfl (fun h13 => ?_) (fun h13 => ?_)
      ·refine X.seq ?_
       refine X.region ?_
       refine XL.cons (XOp.assign (.bool (false)) rfl ?_)
       refine XL.nil ?_
       refine X.ret (thenQ_ret (retEnd (L' := L) [.bool (false)] (.bool (false)) (.tmp rfl .nil) rfl (FLe.refl _) (FLe.refl _) (Sub.drop (Sub.drop (Sub.refl _))) ?_))
       exact ⟨(congrArg Value.bool (by refine peakL_no (fun h => ?_); obtain ⟨h1, h2, h3, h4⟩ := h; have h5 := peakArgs_iff.1 h2; first | omega | simp_all | (simp_all; done) | (exfalso; simp_all; omega))), rfl, rfl⟩
      ·refine X.skip ?_
       refine X.seq ?_
       refine X.region ?_
       refine XL.cons (XOp.loadN [arv, rsv] Tryz.isAgg39 Tryz.sizeOf39 rfl rfl (Rd.ownN [_] rfl rfl) ?_)
       refine XL.cons (XOp.fieldP (b := b2) (0) Tryz.runUnderlying74 rfl Tryz.sizeOf22 (by decide) rfl rfl ?_)
       refine XL.cons (XOp.load1 (v := tpv) Tryz.isAgg22 rfl (Rd.own [] rfl rfl) ?_)
       refine XL.cons (XOp.fieldP (b := b2) (5) Tryz.runUnderlying74 rfl Tryz.sizeOf2 (by decide) rfl rfl ?_)
       refine XL.cons (XOp.load1 (v := .int .i64 (o)) Tryz.isAgg2 rfl (Rd.own [] rfl rfl) ?_)
       refine XL.cons (XOp.call (args := [.agg #[arv, rsv], tpv, .int .i64 (0), .int .i64 (o)]) Tryz.call174 rfl (StepAt_spec (p := 0) (r := o) har hrs htp) ?_)
       rintro _ F5 _ le5 ⟨x3, rfl, hr9, hr10, rfl⟩
       replace har := har.mono le5
       replace hrs := hrs.mono le5
       replace htp := htp.mono le5
       replace hlf := hlf.mono le5
       replace hrt := hrt.mono le5
       replace ha3 := ha3.mono le5
       replace ha4 := ha4.mono le5
       replace hr7 := Rd.monoA hr7 le5
       replace hr8 := Rd.monoA hr8 le5
       refine XL.cons (XOp.move (.tuple #[x3, .bool ((stepAtL ar rs tp 0 o).isSome)]) rfl ?_)
       refine XL.cons (XOp.extract (x3) rfl rfl ?_)
       refine XL.cons (XOp.extract (.bool ((stepAtL ar rs tp 0 o).isSome)) rfl rfl ?_)
       refine XL.cons (XOp.assign (x3) rfl ?_)
       refine XL.cons (XOp.assign (.bool ((stepAtL ar rs tp 0 o).isSome)) rfl ?_)
       refine XL.nil ?_
       refine X.seq ?_
       refine X.seq ?_
       refine X.region ?_
       refine XL.cons (XOp.move (.bool ((stepAtL ar rs tp 0 o).isSome)) rfl ?_)
       refine XL.cons (XOp.notB (b := (stepAtL ar rs tp 0 o).isSome) rfl ?_)
       refine XL.cons (XOp.move (.bool (!((stepAtL ar rs tp 0 o).isSome))) rfl ?_)
       by_cases h14 : (!((stepAtL ar rs tp 0 o).isSome)) = true
       ·have hst1 : (stepAtL ar rs tp 0 o).isSome = false := by simpa using h14
        refine XL.no (t := 70) rfl (congrArg Value.bool h14) ?_
        refine XL.no (t := 70) rfl (congrArg Value.bool h14) ?_
        refine XL.no (t := 70) rfl (congrArg Value.bool h14) ?_
        refine XL.no (t := 70) rfl (congrArg Value.bool h14) ?_
        refine XL.no (t := 70) rfl (congrArg Value.bool h14) ?_
        refine XL.cons (XOp.pickT (.bool (true)) (congrArg Value.bool h14) rfl ?_)
        refine XL.nil ?_
        refine X.condT rfl ?_
        refine X.seq ?_
        refine X.region ?_
        refine XL.cons (XOp.assign (.bool (false)) rfl ?_)
        refine XL.nil ?_
        refine X.ret (thenQ_ret (retEnd (L' := L) [.bool (false)] (.bool (false)) (.tmp rfl .nil) rfl (FLe.refl _) le5 (Sub.drop (Sub.drop (Sub.refl _))) ?_))
        exact ⟨(congrArg Value.bool (peakL_no (fun h => by first | exact opt_no1 hst1 h.2.2.1 | exact opt_no2 hst2 h.2.2.1))), rfl, rfl⟩
       ·rw [Bool.not_eq_true] at h14
        have hst1 : (stepAtL ar rs tp 0 o).isSome = true := by simpa using h14
        refine XL.yes (t := 70) rfl (congrArg Value.bool h14) (XOp.move (x3) rfl ?_)
        refine XL.yes (t := 70) rfl (congrArg Value.bool h14) (XOp.fieldP (b := b2) (2) Tryz.runUnderlying74 rfl Tryz.sizeOf22 (by decide) rfl rfl ?_)
        refine XL.yes (t := 70) rfl (congrArg Value.bool h14) (XOp.load1 (v := rtv) Tryz.isAgg22 rfl (Rd.own [] rfl rfl) ?_)
        refine XL.yes (t := 70) rfl (congrArg Value.bool h14) (XOp.call (args := [x3, rtv]) Tryz.call163 rfl (Equal_spec hr9 hrt (hbd := (by first | assumption | rfl | omega | (left; simp; done) | (right; simp; done)))) ?_)
        rintro _ _ _ _ ⟨rfl, rfl, rfl⟩
        refine XL.yes (t := 70) rfl (congrArg Value.bool h14) (XOp.notD (p := ((stepAtL ar rs tp 0 o).getD []) = rt) rfl ?_)
        refine XL.cons (XOp.pickF (.bool (decide (¬(((stepAtL ar rs tp 0 o).getD []) = rt)))) (congrArg Value.bool h14) rfl ?_)
        refine XL.nil ?_
        refine X.condD (p := ¬(((stepAtL ar rs tp 0 o).getD []) = rt)) rfl (fun h15 => ?_) (fun h15 => ?_)
        ·have hst2 : (stepAtL ar rs tp 0 o).getD [] ≠ rt := h15
         refine X.seq ?_
         refine X.region ?_
         refine XL.cons (XOp.assign (.bool (false)) rfl ?_)
         refine XL.nil ?_
         refine X.ret (thenQ_ret (retEnd (L' := L) [.bool (false)] (.bool (false)) (.tmp rfl .nil) rfl (FLe.refl _) le5 (Sub.drop (Sub.drop (Sub.refl _))) ?_))
         exact ⟨(congrArg Value.bool (peakL_no (fun h => by first | exact opt_no1 hst1 h.2.2.1 | exact opt_no2 hst2 h.2.2.1))), rfl, rfl⟩
        ·have hst2 : (stepAtL ar rs tp 0 o).getD [] = rt := Classical.not_not.1 h15
         refine X.skip ?_
         refine X.seq ?_
         refine X.drawG [cellsH b2 [tpv, lfv, rtv, .int .i64 (a), .int .i64 (u), .int .i64 (o)] 74, cellsH b1 [arv, rsv] 39] L 10 [[], [], [], [], [], [], [], [], [], []] [[], [0], [], [2], [], [4], [], [], [7], [5, 6, 8]] [[], [], [], [], [], [], [], [], [], []] (phiG [fun FF us v => v = ptr b1 0, fun FF us v => v = (.agg #[arv] : Value), fun FF us v => v = ptr b2 0, fun FF us v => v = tpv, fun FF us v => v = ptr b1 0, fun FF us v => v = (.agg #[arv] : Value), fun FF us v => v = a3, fun FF us v => v = ptr b2 3, fun FF us v => v = (.int .i64 (a) : Value), fun FF us v => ((v) : Value) = v ∧ (IntsF FF (v) (pathL ar ((rs.getD ((o).toNat) ([], [])).1) ((a).toNat)))]) (ownL [fun us v => [], fun us v => [], fun us v => [], fun us v => [], fun us v => [], fun us v => [], fun us v => [], fun us v => [], fun us v => [], fun us v => []]) mixed rfl rfl (by kernel_rfl) (by kernel_rfl) (MonoG.get (MonoG.cons (fun le h => h) (MonoG.cons (fun le h => h) (MonoG.cons (fun le h => h) (MonoG.cons (fun le h => h) (MonoG.cons (fun le h => h) (MonoG.cons (fun le h => h) (MonoG.cons (fun le h => h) (MonoG.cons (fun le h => h) (MonoG.cons (fun le h => h) (MonoG.cons (fun le h => ⟨h.1, h.2.mono le⟩) MonoG.nil))))))))))) ?_ ?_
         ·refine stepsG.cons (fun vals Fs R leFs hpZ => ?_) ?_
          ·refine XG.op (XOp.fieldP (b := b1) (0) Tryz.runUnderlying39 rfl Tryz.sizeOf36 (by decide) rfl rfl ?_)
           exact ⟨rfl, rfl⟩
          refine stepsG.cons (fun vals Fs R leFs hpZ => ?_) ?_
          ·have e0 : vals 0 = ptr b1 0 := hpZ 0 (by decide)
           replace har := har.mono leFs
           replace hrs := hrs.mono leFs
           replace htp := htp.mono leFs
           replace hlf := hlf.mono leFs
           replace hrt := hrt.mono leFs
           replace ha3 := ha3.mono leFs
           replace ha4 := ha4.mono leFs
           replace hr9 := hr9.mono leFs
           replace hr7 := Rd.monoA hr7 leFs
           replace hr8 := Rd.monoA hr8 leFs
           rw [(envs_of_sat (l := [(0, ptr b1 0)]) ⟨e0, trivial⟩).symm]
           refine XG.op (XOp.loadN [arv] Tryz.isAgg36 Tryz.sizeOf36 rfl rfl (Rd.ownN [_] rfl rfl) ?_)
           exact ⟨rfl, rfl⟩
          refine stepsG.cons (fun vals Fs R leFs hpZ => ?_) ?_
          ·refine XG.op (XOp.fieldP (b := b2) (0) Tryz.runUnderlying74 rfl Tryz.sizeOf22 (by decide) rfl rfl ?_)
           exact ⟨rfl, rfl⟩
          refine stepsG.cons (fun vals Fs R leFs hpZ => ?_) ?_
          ·have e2 : vals 2 = ptr b2 0 := hpZ 2 (by decide)
           replace har := har.mono leFs
           replace hrs := hrs.mono leFs
           replace htp := htp.mono leFs
           replace hlf := hlf.mono leFs
           replace hrt := hrt.mono leFs
           replace ha3 := ha3.mono leFs
           replace ha4 := ha4.mono leFs
           replace hr9 := hr9.mono leFs
           replace hr7 := Rd.monoA hr7 leFs
           replace hr8 := Rd.monoA hr8 leFs
           rw [(envs_of_sat (l := [(2, ptr b2 0)]) ⟨e2, trivial⟩).symm]
           refine XG.op (XOp.load1 (v := tpv) Tryz.isAgg22 rfl (Rd.own [] rfl rfl) ?_)
           exact ⟨rfl, rfl⟩
          refine stepsG.cons (fun vals Fs R leFs hpZ => ?_) ?_
          ·refine XG.op (XOp.fieldP (b := b1) (0) Tryz.runUnderlying39 rfl Tryz.sizeOf36 (by decide) rfl rfl ?_)
           exact ⟨rfl, rfl⟩
          refine stepsG.cons (fun vals Fs R leFs hpZ => ?_) ?_
          ·have e4 : vals 4 = ptr b1 0 := hpZ 4 (by decide)
           replace har := har.mono leFs
           replace hrs := hrs.mono leFs
           replace htp := htp.mono leFs
           replace hlf := hlf.mono leFs
           replace hrt := hrt.mono leFs
           replace ha3 := ha3.mono leFs
           replace ha4 := ha4.mono leFs
           replace hr9 := hr9.mono leFs
           replace hr7 := Rd.monoA hr7 leFs
           replace hr8 := Rd.monoA hr8 leFs
           rw [(envs_of_sat (l := [(4, ptr b1 0)]) ⟨e4, trivial⟩).symm]
           refine XG.op (XOp.loadN [arv] Tryz.isAgg36 Tryz.sizeOf36 rfl rfl (Rd.ownN [_] rfl rfl) ?_)
           exact ⟨rfl, rfl⟩
          refine stepsG.cons (fun vals Fs R leFs hpZ => ?_) ?_
          ·refine XG.op (XOp.move (a3) rfl ?_)
           exact ⟨rfl, rfl⟩
          refine stepsG.cons (fun vals Fs R leFs hpZ => ?_) ?_
          ·refine XG.op (XOp.fieldP (b := b2) (3) Tryz.runUnderlying74 rfl Tryz.sizeOf2 (by decide) rfl rfl ?_)
           exact ⟨rfl, rfl⟩
          refine stepsG.cons (fun vals Fs R leFs hpZ => ?_) ?_
          ·have e7 : vals 7 = ptr b2 3 := hpZ 7 (by decide)
           replace har := har.mono leFs
           replace hrs := hrs.mono leFs
           replace htp := htp.mono leFs
           replace hlf := hlf.mono leFs
           replace hrt := hrt.mono leFs
           replace ha3 := ha3.mono leFs
           replace ha4 := ha4.mono leFs
           replace hr9 := hr9.mono leFs
           replace hr7 := Rd.monoA hr7 leFs
           replace hr8 := Rd.monoA hr8 leFs
           rw [(envs_of_sat (l := [(7, ptr b2 3)]) ⟨e7, trivial⟩).symm]
           refine XG.op (XOp.load1 (v := .int .i64 (a)) Tryz.isAgg2 rfl (Rd.own [] rfl rfl) ?_)
           exact ⟨rfl, rfl⟩
          refine stepsG.cons (fun vals Fs R leFs hpZ => ?_) ?_
          ·have e5 : vals 5 = (.agg #[arv] : Value) := hpZ 5 (by decide)
           have e6 : vals 6 = a3 := hpZ 6 (by decide)
           have e8 : vals 8 = (.int .i64 (a) : Value) := hpZ 8 (by decide)
           replace har := har.mono leFs
           replace hrs := hrs.mono leFs
           replace htp := htp.mono leFs
           replace hlf := hlf.mono leFs
           replace hrt := hrt.mono leFs
           replace ha3 := ha3.mono leFs
           replace ha4 := ha4.mono leFs
           replace hr9 := hr9.mono leFs
           replace hr7 := Rd.monoA hr7 leFs
           replace hr8 := Rd.monoA hr8 leFs
           rw [(envs_of_sat (l := [(5, (.agg #[arv] : Value)), (6, a3), (8, (.int .i64 (a) : Value))]) ⟨e5, e6, e8, trivial⟩).symm]
           refine XG.op (XOp.frzF <| XOp.call (args := [.agg #[arv], a3, .int .i64 (((a).toNat : Nat) : Int)]) Tryz.call198 (by rw [show (((a).toNat : Nat) : Int) = a from by omega]; rfl) (pathTo_spec (x := (a).toNat) har ha3 (ho := (hRL (by omega))) (hx := (by omega))) ?_)
           rintro v4 _ _ _ ⟨rfl, hs4, rfl⟩
           refine ⟨_, _, rfl, fun F6 le6 hz2 => ?_⟩
           replace har := har.mono le6
           replace hrs := hrs.mono le6
           replace htp := htp.mono le6
           replace hlf := hlf.mono le6
           replace hrt := hrt.mono le6
           replace ha3 := ha3.mono le6
           replace ha4 := ha4.mono le6
           replace hr9 := hr9.mono le6
           replace hr7 := Rd.monoA hr7 le6
           replace hr8 := Rd.monoA hr8 le6
           have hf2 : IntsF F6 v4 ((pathL ar ((rs.getD ((o).toNat) ([], [])).1) ((a).toNat))) := intsH.fz (xs := (pathL ar ((rs.getD ((o).toNat) ([], [])).1) ((a).toNat))) hz2.fz
           exact ⟨⟨rfl, hf2⟩, rfl⟩
          exact stepsG.nil
         ·intro vals F7 le7 hphi
          have e0 : vals 0 = ptr b1 0 := hphi 0 (by decide)
          have e1 : vals 1 = (.agg #[arv] : Value) := hphi 1 (by decide)
          have e2 : vals 2 = ptr b2 0 := hphi 2 (by decide)
          have e3 : vals 3 = tpv := hphi 3 (by decide)
          have e4 : vals 4 = ptr b1 0 := hphi 4 (by decide)
          have e5 : vals 5 = (.agg #[arv] : Value) := hphi 5 (by decide)
          have e6 : vals 6 = a3 := hphi 6 (by decide)
          have e7 : vals 7 = ptr b2 3 := hphi 7 (by decide)
          have e8 : vals 8 = (.int .i64 (a) : Value) := hphi 8 (by decide)
          obtain ⟨e9, f9_2ha⟩ := hphi 9 (by decide)
          generalize hu2 : ((vals 9)) = u2 at e0 e1 e2 e3 e4 e5 e6 e7 e8 e9 f9_2ha
          rw [(envs_of_sat (l := [(0, ptr b1 0), (1, (.agg #[arv] : Value)), (2, ptr b2 0), (3, tpv), (4, ptr b1 0), (5, (.agg #[arv] : Value)), (6, a3), (7, ptr b2 3), (8, (.int .i64 (a) : Value)), (9, u2)]) ⟨e0, e1, e2, e3, e4, e5, e6, e7, e8, hu2, trivial⟩).symm]
          replace har := har.mono le7
          replace hrs := hrs.mono le7
          replace htp := htp.mono le7
          replace hlf := hlf.mono le7
          replace hrt := hrt.mono le7
          replace ha3 := ha3.mono le7
          replace ha4 := ha4.mono le7
          replace hr9 := hr9.mono le7
          replace hr7 := Rd.monoA hr7 le7
          replace hr8 := Rd.monoA hr8 le7
          show XL _ _ _ _ _ _ _ (cellsH b2 [tpv, lfv, rtv, .int .i64 (a), .int .i64 (u), .int .i64 (o)] 74 :: cellsH b1 [arv, rsv] 39 :: L)
          refine XL.cons (XOp.call (args := [.agg #[arv], tpv, u2]) Tryz.call197 rfl (PlaceOf_spec har htp f9_2ha (hlp := (by have := pathL_len ar (rs.getD o.toNat ([], [])).1 a.toNat; have := hRl (by omega); omega))) ?_)
          rintro _ _ _ _ ⟨rfl, rfl, rfl⟩
          refine XL.cons (XOp.assign (.int .i64 (placeL ar tp ((pathL ar ((rs.getD ((o).toNat) ([], [])).1) ((a).toNat))))) rfl ?_)
          refine XL.nil ?_
          refine X.seq ?_
          refine X.region ?_
          refine XL.cons (XOp.loadN [arv, rsv] Tryz.isAgg39 Tryz.sizeOf39 rfl rfl (Rd.ownN [_] rfl rfl) ?_)
          refine XL.cons (XOp.fieldP (b := b2) (0) Tryz.runUnderlying74 rfl Tryz.sizeOf22 (by decide) rfl rfl ?_)
          refine XL.cons (XOp.load1 (v := tpv) Tryz.isAgg22 rfl (Rd.own [] rfl rfl) ?_)
          refine XL.cons (XOp.move (.int .i64 (placeL ar tp ((pathL ar ((rs.getD ((o).toNat) ([], [])).1) ((a).toNat))))) rfl ?_)
          refine XL.cons (XOp.fieldP (b := b2) (4) Tryz.runUnderlying74 rfl Tryz.sizeOf2 (by decide) rfl rfl ?_)
          refine XL.cons (XOp.load1 (v := .int .i64 (u)) Tryz.isAgg2 rfl (Rd.own [] rfl rfl) ?_)
          refine XL.cons (XOp.call (args := [.agg #[arv, rsv], tpv, .int .i64 (placeL ar tp ((pathL ar ((rs.getD ((o).toNat) ([], [])).1) ((a).toNat)))), .int .i64 (u)]) Tryz.call174 rfl (StepAt_spec (p := placeL ar tp ((pathL ar ((rs.getD ((o).toNat) ([], [])).1) ((a).toNat)))) (r := u) har hrs htp) ?_)
          rintro _ F8 _ le8 ⟨x4, rfl, hr11, hr12, rfl⟩
          replace har := har.mono le8
          replace hrs := hrs.mono le8
          replace htp := htp.mono le8
          replace hlf := hlf.mono le8
          replace hrt := hrt.mono le8
          replace ha3 := ha3.mono le8
          replace ha4 := ha4.mono le8
          replace hr9 := hr9.mono le8
          replace f9_2ha := f9_2ha.mono le8
          replace hr7 := Rd.monoA hr7 le8
          replace hr8 := Rd.monoA hr8 le8
          refine XL.cons (XOp.move (.tuple #[x4, .bool ((stepAtL ar rs tp (placeL ar tp ((pathL ar ((rs.getD ((o).toNat) ([], [])).1) ((a).toNat)))) u).isSome)]) rfl ?_)
          refine XL.cons (XOp.extract (x4) rfl rfl ?_)
          refine XL.cons (XOp.extract (.bool ((stepAtL ar rs tp (placeL ar tp ((pathL ar ((rs.getD ((o).toNat) ([], [])).1) ((a).toNat)))) u).isSome)) rfl rfl ?_)
          refine XL.cons (XOp.assign (x4) rfl ?_)
          refine XL.cons (XOp.assign (.bool ((stepAtL ar rs tp (placeL ar tp ((pathL ar ((rs.getD ((o).toNat) ([], [])).1) ((a).toNat)))) u).isSome)) rfl ?_)
          refine XL.nil ?_
          refine X.seq ?_
          refine X.region ?_
          refine XL.cons (XOp.move (.bool ((stepAtL ar rs tp (placeL ar tp ((pathL ar ((rs.getD ((o).toNat) ([], [])).1) ((a).toNat)))) u).isSome)) rfl ?_)
          refine XL.cons (XOp.move (.bool ((stepAtL ar rs tp (placeL ar tp ((pathL ar ((rs.getD ((o).toNat) ([], [])).1) ((a).toNat)))) u).isSome)) rfl ?_)
          by_cases h16 : ((stepAtL ar rs tp (placeL ar tp ((pathL ar ((rs.getD ((o).toNat) ([], [])).1) ((a).toNat)))) u).isSome) = true
          ·refine XL.yes (t := 99) rfl (congrArg Value.bool h16) (XOp.move (x4) rfl ?_)
           refine XL.yes (t := 99) rfl (congrArg Value.bool h16) (XOp.fieldP (b := b2) (1) Tryz.runUnderlying74 rfl Tryz.sizeOf22 (by decide) rfl rfl ?_)
           refine XL.yes (t := 99) rfl (congrArg Value.bool h16) (XOp.load1 (v := lfv) Tryz.isAgg22 rfl (Rd.own [] rfl rfl) ?_)
           refine XL.yes (t := 99) rfl (congrArg Value.bool h16) (XOp.call (args := [x4, lfv]) Tryz.call163 rfl (Equal_spec hr11 hlf (hbd := (by first | assumption | rfl | omega | (left; simp; done) | (right; simp; done)))) ?_)
           rintro _ _ _ _ ⟨rfl, rfl, rfl⟩
           refine XL.cons (XOp.pickT (.bool (decide (((stepAtL ar rs tp (placeL ar tp ((pathL ar ((rs.getD ((o).toNat) ([], [])).1) ((a).toNat)))) u).getD []) = lf))) (congrArg Value.bool h16) rfl ?_)
           refine XL.cons (XOp.assign (.bool (decide (((stepAtL ar rs tp (placeL ar tp ((pathL ar ((rs.getD ((o).toNat) ([], [])).1) ((a).toNat)))) u).getD []) = lf))) rfl ?_)
           refine XL.nil ?_
           refine X.ret (retEnd (L' := L) [.bool (decide (((stepAtL ar rs tp (placeL ar tp ((pathL ar ((rs.getD ((o).toNat) ([], [])).1) ((a).toNat)))) u).getD []) = lf))] (.bool (decide (((stepAtL ar rs tp (placeL ar tp ((pathL ar ((rs.getD ((o).toNat) ([], [])).1) ((a).toNat)))) u).getD []) = lf))) (.tmp rfl .nil) rfl (FLe.refl _) (FLe.trans (FLe.trans le5 le7) le8) (Sub.drop (Sub.drop (Sub.refl _))) ?_)
           exact ⟨(congrArg Value.bool (by rw [Bool.eq_iff_iff, peakL_iff, decide_eq_true_eq]; exact ⟨fun h => (getD_some (by assumption)).1 h.2.2.2, fun h => ⟨hsys, peakArgs_iff.2 (by omega), (getD_some hst1).2 hst2, (getD_some (by assumption)).2 h⟩⟩)), rfl, rfl⟩
          ·rw [Bool.not_eq_true] at h16
           refine XL.no (t := 99) rfl (congrArg Value.bool h16) ?_
           refine XL.no (t := 99) rfl (congrArg Value.bool h16) ?_
           refine XL.no (t := 99) rfl (congrArg Value.bool h16) ?_
           refine XL.no (t := 99) rfl (congrArg Value.bool h16) ?_
           refine XL.cons (XOp.pickF (.bool (false)) (congrArg Value.bool h16) rfl ?_)
           refine XL.cons (XOp.assign (.bool (false)) rfl ?_)
           refine XL.nil ?_
           refine X.ret (retEnd (L' := L) [.bool (false)] (.bool (false)) (.tmp rfl .nil) rfl (FLe.refl _) (FLe.trans (FLe.trans le5 le7) le8) (Sub.drop (Sub.drop (Sub.refl _))) ?_)
           exact ⟨(congrArg Value.bool (peakL_no (fun h => opt_no1 (by assumption) h.2.2.2))), rfl, rfl⟩

/- impl.PeakOk -/
theorem PeakOk_spec {F : FH} {L : List HP} {arv : Value} {ar : List Int} (har : IntsF F arv ar) {rsv : Value} {rs : List (List Int × List Int)} (hrs : PairsF F rsv rs) {tpv : Value} {tp : List Int} (htp : IntsF F tpv tp) {lfv : Value} {lf : List Int} (hlf : IntsF F lfv lf) {rtv : Value} {rt : List Int} (hrt : IntsF F rtv rt) {a : Int} {u : Int} {o : Int} (hll0 : lf.length ≤ 4000000) (hlr0 : rt.length ≤ 4000000) :
    Does Tryz.prog 93 [.agg #[arv, rsv], .agg #[tpv, lfv, rtv, .int .i64 (a), .int .i64 (u), .int .i64 (o)]] F (L) (fun v F' L' => (.bool (peakL ar rs tp lf rt a u o) : Value) = v ∧ F = F' ∧ L = L') := by
 refine Does.of_X Tryz.func93 rfl rfl rfl ?_
 refine X.seq ?_
 refine X.region ?_
 refine XL.cons (XOp.box [arv, rsv] rfl rfl ?_)
 intro b1
 refine XL.cons (XOp.box [tpv, lfv, rtv, .int .i64 (a), .int .i64 (u), .int .i64 (o)] rfl rfl ?_)
 intro b2
 refine XL.cons (XOp.assign (.bool (false)) rfl ?_)
 refine XL.nil ?_
 refine X.seq ?_
 refine X.region ?_
 refine XL.cons (XOp.loadN [arv, rsv] Tryz.isAgg39 Tryz.sizeOf39 rfl rfl (Rd.ownN [_] rfl rfl) ?_)
 refine XL.cons (XOp.call (args := [.agg #[arv, rsv]]) Tryz.call118 rfl (SystemOk_spec har hrs) ?_)
 rintro _ _ _ _ ⟨rfl, rfl, rfl⟩
 refine XL.cons (XOp.move (.bool (sysOk ar rs)) rfl ?_)
 by_cases h1 : (sysOk ar rs) = true
 ·refine XL.yes (t := 7) rfl (congrArg Value.bool h1) (XOp.loadN [arv, rsv] Tryz.isAgg39 Tryz.sizeOf39 rfl rfl (Rd.ownN [_] rfl rfl) ?_)
  refine XL.yes (t := 7) rfl (congrArg Value.bool h1) (XOp.loadN [tpv, lfv, rtv, .int .i64 (a), .int .i64 (u), .int .i64 (o)] Tryz.isAgg74 Tryz.sizeOf74 rfl rfl (Rd.ownN [] rfl rfl) ?_)
  refine XL.yes (t := 7) rfl (congrArg Value.bool h1) (XOp.call (args := [.agg #[arv, rsv], .agg #[tpv, lfv, rtv, .int .i64 (a), .int .i64 (u), .int .i64 (o)]]) Tryz.call159 rfl (peakOk_spec har hrs htp hlf hrt (hsys := (by first | assumption | rfl | omega | (left; simp; done) | (right; simp; done))) (hll0 := (by first | assumption | rfl | omega | (left; simp; done) | (right; simp; done))) (hlr0 := (by first | assumption | rfl | omega | (left; simp; done) | (right; simp; done)))) ?_)
  rintro _ _ _ _ ⟨rfl, rfl, rfl⟩
  refine XL.cons (XOp.pickT (.bool (peakL ar rs tp lf rt a u o)) (congrArg Value.bool h1) rfl ?_)
  refine XL.cons (XOp.assign (.bool (peakL ar rs tp lf rt a u o)) rfl ?_)
  refine XL.nil ?_
  refine X.ret (retEnd (L' := L) [.bool (peakL ar rs tp lf rt a u o)] (.bool (peakL ar rs tp lf rt a u o)) (.tmp rfl .nil) rfl (FLe.refl _) (FLe.refl _) (Sub.drop (Sub.drop (Sub.refl _))) ?_)
  exact ⟨rfl, rfl, rfl⟩
 ·rw [Bool.not_eq_true] at h1
  refine XL.no (t := 7) rfl (congrArg Value.bool h1) ?_
  refine XL.no (t := 7) rfl (congrArg Value.bool h1) ?_
  refine XL.no (t := 7) rfl (congrArg Value.bool h1) ?_
  refine XL.cons (XOp.pickF (.bool (false)) (congrArg Value.bool h1) rfl ?_)
  refine XL.cons (XOp.assign (.bool (false)) rfl ?_)
  refine XL.nil ?_
  refine X.ret (retEnd (L' := L) [.bool (false)] (.bool (false)) (.tmp rfl .nil) rfl (FLe.refl _) (FLe.refl _) (Sub.drop (Sub.drop (Sub.refl _))) ?_)
  exact ⟨(congrArg Value.bool (peakL_no (fun h => by have := h.1; simp_all))), rfl, rfl⟩

/- spec.PeakOk -/
set_option maxRecDepth 20000 in
theorem sPeakOk_spec {F : FH} {L : List HP} {arv : Value} {ar : List Int} (har : IntsF F arv ar) {rsv : Value} {rs : List (List Int × List Int)} (hrs : PairsF F rsv rs) {tpv : Value} {tp : List Int} (htp : IntsF F tpv tp) {lfv : Value} {lf : List Int} (hlf : IntsF F lfv lf) {rtv : Value} {rt : List Int} (hrt : IntsF F rtv rt) {a : Int} {u : Int} {o : Int} (hla : ar.length ≤ 4000000) (hlr : rs.length ≤ 4000000) (hrb : ∀ i, i < rs.length → (rs.getD i ([], [])).1.length ≤ 4000000 ∧ (rs.getD i ([], [])).2.length ≤ 4000000) (hlt0 : tp.length ≤ 4000000) (hll0 : lf.length ≤ 4000000) (hlr0 : rt.length ≤ 4000000) :
    Does Tryz.prog 90 [.agg #[arv, rsv], .agg #[tpv, lfv, rtv, .int .i64 (a), .int .i64 (u), .int .i64 (o)]] F (L) (fun v F' L' => (.bool (peakL ar rs tp lf rt a u o) : Value) = v ∧ F = F' ∧ L = L') := by
 refine Does.of_X Tryz.func90 rfl rfl rfl ?_
 refine X.seq ?_
 refine X.region ?_
 refine XL.cons (XOp.box [arv, rsv] rfl rfl ?_)
 intro b1
 refine XL.cons (XOp.box [tpv, lfv, rtv, .int .i64 (a), .int .i64 (u), .int .i64 (o)] rfl rfl ?_)
 intro b2
 refine XL.cons (XOp.assign (.bool (false)) rfl ?_)
 refine XL.nil ?_
 refine X.seq ?_
 refine X.seq ?_
 refine X.region ?_
 refine XL.cons (XOp.loadN [arv, rsv] Tryz.isAgg39 Tryz.sizeOf39 rfl rfl (Rd.ownN [_] rfl rfl) ?_)
 refine XL.cons (XOp.call (args := [.agg #[arv, rsv]]) Tryz.call154 rfl (sSystemOk_spec har hrs (hla := (by first | assumption | rfl | omega | (left; simp; done) | (right; simp; done))) (hlr := (by first | assumption | rfl | omega | (left; simp; done) | (right; simp; done))) (hrb := (by first | assumption | rfl | omega | (left; simp; done) | (right; simp; done)))) ?_)
 rintro _ _ _ _ ⟨rfl, rfl, rfl⟩
 refine XL.cons (XOp.notB (b := sysOk ar rs) rfl ?_)
 refine XL.cons (XOp.move (.bool (!(sysOk ar rs))) rfl ?_)
 by_cases h1 : (!(sysOk ar rs)) = true
 ·refine XL.no (t := 13) rfl (congrArg Value.bool h1) ?_
  refine XL.no (t := 13) rfl (congrArg Value.bool h1) ?_
  refine XL.no (t := 13) rfl (congrArg Value.bool h1) ?_
  refine XL.no (t := 13) rfl (congrArg Value.bool h1) ?_
  refine XL.no (t := 13) rfl (congrArg Value.bool h1) ?_
  refine XL.cons (XOp.pickT (.bool (true)) (congrArg Value.bool h1) rfl ?_)
  refine XL.cons (XOp.move (.bool (true)) rfl ?_)
  refine XL.no (t := 20) rfl rfl ?_
  refine XL.no (t := 20) rfl rfl ?_
  refine XL.no (t := 20) rfl rfl ?_
  refine XL.no (t := 20) rfl rfl ?_
  refine XL.no (t := 20) rfl rfl ?_
  refine XL.cons (XOp.pickT (.bool (true)) rfl rfl ?_)
  refine XL.nil ?_
  refine X.condT rfl ?_
  refine X.seq ?_
  refine X.region ?_
  refine XL.cons (XOp.assign (.bool (false)) rfl ?_)
  refine XL.nil ?_
  refine X.ret (thenQ_ret (retEnd (L' := L) [.bool (false)] (.bool (false)) (.tmp rfl .nil) rfl (FLe.refl _) (FLe.refl _) (Sub.drop (Sub.drop (Sub.refl _))) ?_))
  exact ⟨(congrArg Value.bool (by refine peakL_no (fun h => ?_); obtain ⟨h1, h2, h3, h4⟩ := h; have h5 := peakArgs_iff.1 h2; first | omega | simp_all | (simp_all; done) | (exfalso; simp_all; omega))), rfl, rfl⟩
 ·rw [Bool.not_eq_true] at h1
  refine XL.yes (t := 13) rfl (congrArg Value.bool h1) (XOp.loadN [arv, rsv] Tryz.isAgg39 Tryz.sizeOf39 rfl rfl (Rd.ownN [_] rfl rfl) ?_)
  refine XL.yes (t := 13) rfl (congrArg Value.bool h1) (XOp.fieldP (b := b2) (5) Tryz.runUnderlying74 rfl Tryz.sizeOf2 (by decide) rfl rfl ?_)
  refine XL.yes (t := 13) rfl (congrArg Value.bool h1) (XOp.load1 (v := .int .i64 (o)) Tryz.isAgg2 rfl (Rd.own [] rfl rfl) ?_)
  refine XL.yes (t := 13) rfl (congrArg Value.bool h1) (XOp.call (args := [.agg #[arv, rsv], .int .i64 (o)]) Tryz.call155 rfl (l11Rule_spec (n := o) har hrs (hlr := (by first | assumption | rfl | omega | (left; simp; done) | (right; simp; done)))) ?_)
  rintro _ _ _ _ ⟨rfl, rfl, rfl⟩
  refine XL.yes (t := 13) rfl (congrArg Value.bool h1) (XOp.notD (p := 0 ≤ o ∧ o < (rs.length : Int)) rfl ?_)
  refine XL.cons (XOp.pickF (.bool (decide (¬(0 ≤ o ∧ o < (rs.length : Int))))) (congrArg Value.bool h1) rfl ?_)
  refine XL.cons (XOp.move (.bool (decide (¬(0 ≤ o ∧ o < (rs.length : Int))))) rfl ?_)
  by_cases h2 : ¬(0 ≤ o ∧ o < (rs.length : Int))
  ·refine XL.no (t := 20) rfl (congrArg Value.bool (decide_eq_true h2)) ?_
   refine XL.no (t := 20) rfl (congrArg Value.bool (decide_eq_true h2)) ?_
   refine XL.no (t := 20) rfl (congrArg Value.bool (decide_eq_true h2)) ?_
   refine XL.no (t := 20) rfl (congrArg Value.bool (decide_eq_true h2)) ?_
   refine XL.no (t := 20) rfl (congrArg Value.bool (decide_eq_true h2)) ?_
   refine XL.cons (XOp.pickT (.bool (true)) (congrArg Value.bool (decide_eq_true h2)) rfl ?_)
   refine XL.nil ?_
   refine X.condT rfl ?_
   refine X.seq ?_
   refine X.region ?_
   refine XL.cons (XOp.assign (.bool (false)) rfl ?_)
   refine XL.nil ?_
   refine X.ret (thenQ_ret (retEnd (L' := L) [.bool (false)] (.bool (false)) (.tmp rfl .nil) rfl (FLe.refl _) (FLe.refl _) (Sub.drop (Sub.drop (Sub.refl _))) ?_))
   exact ⟨(congrArg Value.bool (by refine peakL_no (fun h => ?_); obtain ⟨h1, h2, h3, h4⟩ := h; have h5 := peakArgs_iff.1 h2; first | omega | simp_all | (simp_all; done) | (exfalso; simp_all; omega))), rfl, rfl⟩
  ·refine XL.yes (t := 20) rfl (congrArg Value.bool (decide_eq_false h2)) (XOp.loadN [arv, rsv] Tryz.isAgg39 Tryz.sizeOf39 rfl rfl (Rd.ownN [_] rfl rfl) ?_)
   refine XL.yes (t := 20) rfl (congrArg Value.bool (decide_eq_false h2)) (XOp.fieldP (b := b2) (4) Tryz.runUnderlying74 rfl Tryz.sizeOf2 (by decide) rfl rfl ?_)
   refine XL.yes (t := 20) rfl (congrArg Value.bool (decide_eq_false h2)) (XOp.load1 (v := .int .i64 (u)) Tryz.isAgg2 rfl (Rd.own [] rfl rfl) ?_)
   refine XL.yes (t := 20) rfl (congrArg Value.bool (decide_eq_false h2)) (XOp.call (args := [.agg #[arv, rsv], .int .i64 (u)]) Tryz.call155 rfl (l11Rule_spec (n := u) har hrs (hlr := (by first | assumption | rfl | omega | (left; simp; done) | (right; simp; done)))) ?_)
   rintro _ _ _ _ ⟨rfl, rfl, rfl⟩
   refine XL.yes (t := 20) rfl (congrArg Value.bool (decide_eq_false h2)) (XOp.notD (p := 0 ≤ u ∧ u < (rs.length : Int)) rfl ?_)
   refine XL.cons (XOp.pickF (.bool (decide (¬(0 ≤ u ∧ u < (rs.length : Int))))) (congrArg Value.bool (decide_eq_false h2)) rfl ?_)
   refine XL.nil ?_
   refine X.condD (p := ¬(0 ≤ u ∧ u < (rs.length : Int))) rfl (fun h3 => ?_) (fun h3 => ?_)
   ·refine X.seq ?_
    refine X.region ?_
    refine XL.cons (XOp.assign (.bool (false)) rfl ?_)
    refine XL.nil ?_
    refine X.ret (thenQ_ret (retEnd (L' := L) [.bool (false)] (.bool (false)) (.tmp rfl .nil) rfl (FLe.refl _) (FLe.refl _) (Sub.drop (Sub.drop (Sub.refl _))) ?_))
    exact ⟨(congrArg Value.bool (by refine peakL_no (fun h => ?_); obtain ⟨h1, h2, h3, h4⟩ := h; have h5 := peakArgs_iff.1 h2; first | omega | simp_all | (simp_all; done) | (exfalso; simp_all; omega))), rfl, rfl⟩
   ·refine X.skip ?_
    refine X.seq ?_
    refine X.region ?_
    have hsys : sysOk ar rs = true := by simp_all
    have hRL := fun (h : 0 ≤ o ∧ o < (rs.length : Int)) => (ruleOk_iff.1 ((sysOk_iff.1 hsys).2.2 o.toNat (by omega))).left
    have hRl := fun (h : 0 ≤ o ∧ o < (rs.length : Int)) => termOk_len (hRL h)
    refine XL.cons (XOp.fieldP (b := b1) (1) Tryz.runUnderlying39 rfl Tryz.sizeOf37 (by decide) rfl rfl ?_)
    refine XL.cons (XOp.load1 (v := rsv) Tryz.isAgg37 rfl (Rd.own [_] rfl rfl) ?_)
    refine XL.cons (XOp.fieldP (b := b2) (5) Tryz.runUnderlying74 rfl Tryz.sizeOf2 (by decide) rfl rfl ?_)
    refine XL.cons (XOp.load1 (v := .int .i64 (o)) Tryz.isAgg2 rfl (Rd.own [] rfl rfl) ?_)
    refine XL.cons (XOp.indexS (v := rsv) (i := o) (n := (rs).length) ((o).toNat) Tryz.runUnderlying37 Tryz.sizeOf161 rfl rfl (by omega) hrs.slv (by omega) rfl ?_)
    refine XL.cons (XOp.fieldE (v := rsv) (((o).toNat) * 2) Tryz.runUnderlying161 rfl Tryz.sizeOf22 (by decide) rfl rfl ?_)
    obtain ⟨a1, a2, ha1, ha2, hr1, hr2⟩ := hrs.rd (i := (o).toNat) (by omega)
    refine XL.cons (XOp.load1 (v := a1) Tryz.isAgg22 rfl (hr1 _) ?_)
    refine XL.cons (XOp.assign (a1) rfl ?_)
    refine XL.nil ?_
    refine X.seq ?_
    refine X.seq ?_
    refine X.region ?_
    refine XL.cons (XOp.fieldP (b := b2) (3) Tryz.runUnderlying74 rfl Tryz.sizeOf2 (by decide) rfl rfl ?_)
    refine XL.cons (XOp.load1 (v := .int .i64 (a)) Tryz.isAgg2 rfl (Rd.own [] rfl rfl) ?_)
    refine XL.cons (XOp.move (a1) rfl ?_)
    refine XL.cons (XOp.lenS (v := a1) (n := ((rs.getD ((o).toNat) ([], [])).1).length) Tryz.runUnderlying22 rfl ha1.slv ?_)
    refine XL.cons (XOp.subR (a := ((((rs.getD ((o).toNat) ([], [])).1).length : Nat) : Int)) (b := 1) ((((((rs.getD ((o).toNat) ([], [])).1).length : Nat) : Int)) - 1) rfl rfl (by omega) (by omega) ?_)
    refine XL.cons (XOp.call (args := [.int .i64 (a), .int .i64 (0), .int .i64 ((((((rs.getD ((o).toNat) ([], [])).1).length : Nat) : Int)) - 1)]) Tryz.call66 rfl (l1In_spec (n := a) (a := 0) (b := (((((rs.getD ((o).toNat) ([], [])).1).length : Nat) : Int)) - 1)) ?_)
    rintro _ _ _ _ ⟨rfl, rfl, rfl⟩
    refine XL.cons (XOp.notD (p := 0 ≤ a ∧ a ≤ ((((((rs.getD ((o).toNat) ([], [])).1).length : Nat) : Int)) - 1)) rfl ?_)
    refine XL.cons (XOp.move (.bool (decide (¬(0 ≤ a ∧ a ≤ ((((((rs.getD ((o).toNat) ([], [])).1).length : Nat) : Int)) - 1))))) rfl ?_)
    by_cases h4 : ¬(0 ≤ a ∧ a ≤ ((((((rs.getD ((o).toNat) ([], [])).1).length : Nat) : Int)) - 1))
    ·refine XL.no (t := 41) rfl (congrArg Value.bool (decide_eq_true h4)) ?_
     refine XL.no (t := 41) rfl (congrArg Value.bool (decide_eq_true h4)) ?_
     refine XL.no (t := 41) rfl (congrArg Value.bool (decide_eq_true h4)) ?_
     refine XL.no (t := 41) rfl (congrArg Value.bool (decide_eq_true h4)) ?_
     refine XL.no (t := 41) rfl (congrArg Value.bool (decide_eq_true h4)) ?_
     refine XL.no (t := 41) rfl (congrArg Value.bool (decide_eq_true h4)) ?_
     refine XL.cons (XOp.pickT (.bool (true)) (congrArg Value.bool (decide_eq_true h4)) rfl ?_)
     refine XL.cons (XOp.move (.bool (true)) rfl ?_)
     refine XL.no (t := 49) rfl rfl ?_
     refine XL.no (t := 49) rfl rfl ?_
     refine XL.no (t := 49) rfl rfl ?_
     refine XL.no (t := 49) rfl rfl ?_
     refine XL.noU (t := 53) rfl rfl ?_
     refine XL.noU (t := 53) rfl rfl ?_
     refine XL.noU (t := 53) rfl rfl ?_
     refine XL.noU (t := 53) rfl rfl ?_
     refine XL.noU (t := 53) rfl rfl ?_
     refine XL.no (t := 49) rfl rfl ?_
     refine XL.cons (XOp.pickT (.bool (true)) rfl rfl ?_)
     refine XL.nil ?_
     refine X.condT rfl ?_
     refine X.seq ?_
     refine X.region ?_
     refine XL.cons (XOp.assign (.bool (false)) rfl ?_)
     refine XL.nil ?_
     refine X.ret (thenQ_ret (retEnd (L' := L) [.bool (false)] (.bool (false)) (.tmp rfl .nil) rfl (FLe.refl _) (FLe.refl _) (Sub.drop (Sub.drop (Sub.refl _))) ?_))
     exact ⟨(congrArg Value.bool (by refine peakL_no (fun h => ?_); obtain ⟨h1, h2, h3, h4⟩ := h; have h5 := peakArgs_iff.1 h2; first | omega | simp_all | (simp_all; done) | (exfalso; simp_all; omega))), rfl, rfl⟩
    ·refine XL.yes (t := 41) rfl (congrArg Value.bool (decide_eq_false h4)) (XOp.move (a1) rfl ?_)
     refine XL.yes (t := 41) rfl (congrArg Value.bool (decide_eq_false h4)) (XOp.fieldP (b := b2) (3) Tryz.runUnderlying74 rfl Tryz.sizeOf2 (by decide) rfl rfl ?_)
     refine XL.yes (t := 41) rfl (congrArg Value.bool (decide_eq_false h4)) (XOp.load1 (v := .int .i64 (a)) Tryz.isAgg2 rfl (Rd.own [] rfl rfl) ?_)
     refine XL.yes (t := 41) rfl (congrArg Value.bool (decide_eq_false h4)) (XOp.indexS (v := a1) (i := a) (n := ((rs.getD ((o).toNat) ([], [])).1).length) ((a).toNat) Tryz.runUnderlying22 Tryz.sizeOf2 rfl rfl (by omega) ha1.slv (by omega) (Nat.mul_one _) ?_)
     refine XL.yes (t := 41) rfl (congrArg Value.bool (decide_eq_false h4)) (XOp.load1 (v := .int .i64 (((rs.getD ((o).toNat) ([], [])).1).getD ((a).toNat) 0)) Tryz.isAgg2 rfl (ha1.rd (by omega)) ?_)
     refine XL.yes (t := 41) rfl (congrArg Value.bool (decide_eq_false h4)) (XOp.lss (a := ((rs.getD ((o).toNat) ([], [])).1).getD ((a).toNat) 0) (b := 0) rfl rfl ?_)
     refine XL.cons (XOp.pickF (.bool (decide ((((rs.getD ((o).toNat) ([], [])).1).getD ((a).toNat) 0 : Int) < 0))) (congrArg Value.bool (decide_eq_false h4)) rfl ?_)
     refine XL.cons (XOp.move (.bool (decide ((((rs.getD ((o).toNat) ([], [])).1).getD ((a).toNat) 0 : Int) < 0))) rfl ?_)
     by_cases h5 : (((rs.getD ((o).toNat) ([], [])).1).getD ((a).toNat) 0 : Int) < 0
     ·refine XL.no (t := 49) rfl (congrArg Value.bool (decide_eq_true h5)) ?_
      refine XL.no (t := 49) rfl (congrArg Value.bool (decide_eq_true h5)) ?_
      refine XL.no (t := 49) rfl (congrArg Value.bool (decide_eq_true h5)) ?_
      refine XL.no (t := 49) rfl (congrArg Value.bool (decide_eq_true h5)) ?_
      refine XL.noU (t := 53) rfl rfl ?_
      refine XL.noU (t := 53) rfl rfl ?_
      refine XL.noU (t := 53) rfl rfl ?_
      refine XL.noU (t := 53) rfl rfl ?_
      refine XL.noU (t := 53) rfl rfl ?_
      refine XL.no (t := 49) rfl (congrArg Value.bool (decide_eq_true h5)) ?_
      refine XL.cons (XOp.pickT (.bool (true)) (congrArg Value.bool (decide_eq_true h5)) rfl ?_)
      refine XL.nil ?_
      refine X.condT rfl ?_
      refine X.seq ?_
      refine X.region ?_
      refine XL.cons (XOp.assign (.bool (false)) rfl ?_)
      refine XL.nil ?_
      refine X.ret (thenQ_ret (retEnd (L' := L) [.bool (false)] (.bool (false)) (.tmp rfl .nil) rfl (FLe.refl _) (FLe.refl _) (Sub.drop (Sub.drop (Sub.refl _))) ?_))
      exact ⟨(congrArg Value.bool (by refine peakL_no (fun h => ?_); obtain ⟨h1, h2, h3, h4⟩ := h; have h5 := peakArgs_iff.1 h2; first | omega | simp_all | (simp_all; done) | (exfalso; simp_all; omega))), rfl, rfl⟩
     ·refine XL.yes (t := 49) rfl (congrArg Value.bool (decide_eq_false h5)) (XOp.fieldP (b := b2) (3) Tryz.runUnderlying74 rfl Tryz.sizeOf2 (by decide) rfl rfl ?_)
      refine XL.yes (t := 49) rfl (congrArg Value.bool (decide_eq_false h5)) (XOp.load1 (v := .int .i64 (a)) Tryz.isAgg2 rfl (Rd.own [] rfl rfl) ?_)
      refine XL.yes (t := 49) rfl (congrArg Value.bool (decide_eq_false h5)) (XOp.eql (a := a) (b := 0) rfl rfl ?_)
      refine XL.yes (t := 49) rfl (congrArg Value.bool (decide_eq_false h5)) (XOp.move (.bool (decide ((a : Int) = 0))) rfl ?_)
      by_cases h6 : (a : Int) = 0
      ·refine XL.yes (t := 53) rfl (congrArg Value.bool (decide_eq_true h6)) (XOp.fieldP (b := b2) (5) Tryz.runUnderlying74 rfl Tryz.sizeOf2 (by decide) rfl rfl ?_)
       refine XL.yes (t := 53) rfl (congrArg Value.bool (decide_eq_true h6)) (XOp.load1 (v := .int .i64 (o)) Tryz.isAgg2 rfl (Rd.own [] rfl rfl) ?_)
       refine XL.yes (t := 53) rfl (congrArg Value.bool (decide_eq_true h6)) (XOp.fieldP (b := b2) (4) Tryz.runUnderlying74 rfl Tryz.sizeOf2 (by decide) rfl rfl ?_)
       refine XL.yes (t := 53) rfl (congrArg Value.bool (decide_eq_true h6)) (XOp.load1 (v := .int .i64 (u)) Tryz.isAgg2 rfl (Rd.own [] rfl rfl) ?_)
       refine XL.yes (t := 53) rfl (congrArg Value.bool (decide_eq_true h6)) (XOp.eql (a := o) (b := u) rfl rfl ?_)
       refine XL.yes (t := 49) rfl (congrArg Value.bool (decide_eq_false h5)) (XOp.pickT (.bool (decide ((o : Int) = u))) (congrArg Value.bool (decide_eq_true h6)) rfl ?_)
       refine XL.cons (XOp.pickF (.bool (decide ((o : Int) = u))) (congrArg Value.bool (decide_eq_false h5)) rfl ?_)
       refine XL.nil ?_
       refine X.condD (p := (o : Int) = u) rfl (fun h7 => ?_) (fun h7 => ?_)
       ·refine X.seq ?_
        refine X.region ?_
        refine XL.cons (XOp.assign (.bool (false)) rfl ?_)
        refine XL.nil ?_
        refine X.ret (thenQ_ret (retEnd (L' := L) [.bool (false)] (.bool (false)) (.tmp rfl .nil) rfl (FLe.refl _) (FLe.refl _) (Sub.drop (Sub.drop (Sub.refl _))) ?_))
        exact ⟨(congrArg Value.bool (by refine peakL_no (fun h => ?_); obtain ⟨h1, h2, h3, h4⟩ := h; have h5 := peakArgs_iff.1 h2; first | omega | simp_all | (simp_all; done) | (exfalso; simp_all; omega))), rfl, rfl⟩
       ·refine X.skip ?_
        refine X.seq ?_
        refine X.region ?_
        refine XL.cons (XOp.loadN [arv, rsv] Tryz.isAgg39 Tryz.sizeOf39 rfl rfl (Rd.ownN [_] rfl rfl) ?_)
        refine XL.cons (XOp.fieldP (b := b2) (0) Tryz.runUnderlying74 rfl Tryz.sizeOf22 (by decide) rfl rfl ?_)
        refine XL.cons (XOp.load1 (v := tpv) Tryz.isAgg22 rfl (Rd.own [] rfl rfl) ?_)
        refine XL.cons (XOp.fieldP (b := b2) (5) Tryz.runUnderlying74 rfl Tryz.sizeOf2 (by decide) rfl rfl ?_)
        refine XL.cons (XOp.load1 (v := .int .i64 (o)) Tryz.isAgg2 rfl (Rd.own [] rfl rfl) ?_)
        refine XL.cons (XOp.call (args := [.agg #[arv, rsv], tpv, .int .i64 (0), .int .i64 (o)]) Tryz.call113 rfl (sStepAt_spec (p := 0) (r := o) har hrs htp (hla := (by first | assumption | rfl | omega | (left; simp; done) | (right; simp; done))) (hlr := (by first | assumption | rfl | omega | (left; simp; done) | (right; simp; done))) (hrb := (by first | assumption | rfl | omega | (left; simp; done) | (right; simp; done))) (hlt := (by first | assumption | rfl | omega | (left; simp; done) | (right; simp; done)))) ?_)
        rintro _ F1 _ le1 ⟨x1, rfl, hr3, rfl⟩
        replace har := har.mono le1
        replace hrs := hrs.mono le1
        replace htp := htp.mono le1
        replace hlf := hlf.mono le1
        replace hrt := hrt.mono le1
        replace ha1 := ha1.mono le1
        replace ha2 := ha2.mono le1
        replace hr1 := Rd.monoA hr1 le1
        replace hr2 := Rd.monoA hr2 le1
        refine XL.cons (XOp.move (.tuple #[x1, .bool ((stepAtL ar rs tp 0 o).isSome)]) rfl ?_)
        refine XL.cons (XOp.extract (x1) rfl rfl ?_)
        refine XL.cons (XOp.extract (.bool ((stepAtL ar rs tp 0 o).isSome)) rfl rfl ?_)
        refine XL.cons (XOp.assign (x1) rfl ?_)
        refine XL.cons (XOp.assign (.bool ((stepAtL ar rs tp 0 o).isSome)) rfl ?_)
        refine XL.nil ?_
        refine X.seq ?_
        refine X.seq ?_
        refine X.region ?_
        refine XL.cons (XOp.move (.bool ((stepAtL ar rs tp 0 o).isSome)) rfl ?_)
        refine XL.cons (XOp.notB (b := (stepAtL ar rs tp 0 o).isSome) rfl ?_)
        refine XL.cons (XOp.move (.bool (!((stepAtL ar rs tp 0 o).isSome))) rfl ?_)
        by_cases h8 : (!((stepAtL ar rs tp 0 o).isSome)) = true
        ·have hst1 : (stepAtL ar rs tp 0 o).isSome = false := by simpa using h8
         refine XL.no (t := 72) rfl (congrArg Value.bool h8) ?_
         refine XL.no (t := 72) rfl (congrArg Value.bool h8) ?_
         refine XL.no (t := 72) rfl (congrArg Value.bool h8) ?_
         refine XL.no (t := 72) rfl (congrArg Value.bool h8) ?_
         refine XL.no (t := 72) rfl (congrArg Value.bool h8) ?_
         refine XL.cons (XOp.pickT (.bool (true)) (congrArg Value.bool h8) rfl ?_)
         refine XL.nil ?_
         refine X.condT rfl ?_
         refine X.seq ?_
         refine X.region ?_
         refine XL.cons (XOp.assign (.bool (false)) rfl ?_)
         refine XL.nil ?_
         refine X.ret (thenQ_ret (retEnd (L' := L) [.bool (false)] (.bool (false)) (.tmp rfl .nil) rfl (FLe.refl _) le1 (Sub.drop (Sub.drop (Sub.refl _))) ?_))
         exact ⟨(congrArg Value.bool (peakL_no (fun h => by first | exact opt_no1 hst1 h.2.2.1 | exact opt_no2 hst2 h.2.2.1))), rfl, rfl⟩
        ·rw [Bool.not_eq_true] at h8
         have hst1 : (stepAtL ar rs tp 0 o).isSome = true := by simpa using h8
         refine XL.yes (t := 72) rfl (congrArg Value.bool h8) (XOp.move (x1) rfl ?_)
         refine XL.yes (t := 72) rfl (congrArg Value.bool h8) (XOp.fieldP (b := b2) (2) Tryz.runUnderlying74 rfl Tryz.sizeOf22 (by decide) rfl rfl ?_)
         refine XL.yes (t := 72) rfl (congrArg Value.bool h8) (XOp.load1 (v := rtv) Tryz.isAgg22 rfl (Rd.own [] rfl rfl) ?_)
         refine XL.yes (t := 72) rfl (congrArg Value.bool h8) (XOp.call (args := [x1, rtv]) Tryz.call98 rfl (SameTerm_spec hr3 hrt (hbd := (by first | assumption | rfl | omega | (left; simp; done) | (right; simp; done)))) ?_)
         rintro _ _ _ _ ⟨rfl, rfl, rfl⟩
         refine XL.yes (t := 72) rfl (congrArg Value.bool h8) (XOp.notD (p := ((stepAtL ar rs tp 0 o).getD []) = rt) rfl ?_)
         refine XL.cons (XOp.pickF (.bool (decide (¬(((stepAtL ar rs tp 0 o).getD []) = rt)))) (congrArg Value.bool h8) rfl ?_)
         refine XL.nil ?_
         refine X.condD (p := ¬(((stepAtL ar rs tp 0 o).getD []) = rt)) rfl (fun h9 => ?_) (fun h9 => ?_)
         ·have hst2 : (stepAtL ar rs tp 0 o).getD [] ≠ rt := h9
          refine X.seq ?_
          refine X.region ?_
          refine XL.cons (XOp.assign (.bool (false)) rfl ?_)
          refine XL.nil ?_
          refine X.ret (thenQ_ret (retEnd (L' := L) [.bool (false)] (.bool (false)) (.tmp rfl .nil) rfl (FLe.refl _) le1 (Sub.drop (Sub.drop (Sub.refl _))) ?_))
          exact ⟨(congrArg Value.bool (peakL_no (fun h => by first | exact opt_no1 hst1 h.2.2.1 | exact opt_no2 hst2 h.2.2.1))), rfl, rfl⟩
         ·have hst2 : (stepAtL ar rs tp 0 o).getD [] = rt := Classical.not_not.1 h9
          refine X.skip ?_
          refine X.seq ?_
          refine X.drawG [cellsH b2 [tpv, lfv, rtv, .int .i64 (a), .int .i64 (u), .int .i64 (o)] 74, cellsH b1 [arv, rsv] 39] L 21 [[], [], [], [], [], [], [], [], [], [], [], [], [], [], [], [], [], [16], [16], [], [16]] [[], [], [1], [], [3], [], [5], [], [7], [], [], [10], [8, 9, 11], [4, 6, 12], [], [14], [0, 2, 13, 15], [16], [16, 17], [16, 17], [16, 18]] [[], [], [], [], [], [], [], [], [], [], [], [], [], [], [], [], [], [], [], [], []] (phiG [fun FF us v => v = (.agg #[arv, rsv] : Value), fun FF us v => v = ptr b2 0, fun FF us v => v = tpv, fun FF us v => v = ptr b1 0, fun FF us v => v = (.agg #[arv] : Value), fun FF us v => v = ptr b2 0, fun FF us v => v = tpv, fun FF us v => v = ptr b1 0, fun FF us v => v = (.agg #[arv] : Value), fun FF us v => v = a1, fun FF us v => v = ptr b2 3, fun FF us v => v = (.int .i64 (a) : Value), fun FF us v => ((v) : Value) = v ∧ (IntsF FF (v) (pathL ar ((rs.getD ((o).toNat) ([], [])).1) a.toNat)), fun FF us v => v = (.int .i64 (placeL ar tp ((pathL ar ((rs.getD ((o).toNat) ([], [])).1) a.toNat))) : Value), fun FF us v => v = ptr b2 4, fun FF us v => v = (.int .i64 (u) : Value), fun FF us v => (.tuple #[((tupAt v 0)), .bool ((stepAtL ar rs tp (placeL ar tp ((pathL ar ((rs.getD ((o).toNat) ([], [])).1) a.toNat))) u).isSome)] : Value) = v ∧ (IntsF FF ((tupAt v 0)) ((stepAtL ar rs tp (placeL ar tp ((pathL ar ((rs.getD ((o).toNat) ([], [])).1) a.toNat))) u).getD [])), fun FF us v => v = (.tuple #[((tupAt (us.getD 0 undef) 0)), .bool ((stepAtL ar rs tp (placeL ar tp ((pathL ar ((rs.getD ((o).toNat) ([], [])).1) a.toNat))) u).isSome)] : Value), fun FF us v => v = ((tupAt (us.getD 0 undef) 0)), fun FF us v => v = (.bool ((stepAtL ar rs tp (placeL ar tp ((pathL ar ((rs.getD ((o).toNat) ([], [])).1) a.toNat))) u).isSome) : Value), fun FF us v => v = ((tupAt (us.getD 0 undef) 0))]) (ownL [fun us v => [], fun us v => [], fun us v => [], fun us v => [], fun us v => [], fun us v => [], fun us v => [], fun us v => [], fun us v => [], fun us v => [], fun us v => [], fun us v => [], fun us v => [], fun us v => [], fun us v => [], fun us v => [], fun us v => [], fun us v => [], fun us v => [], fun us v => [], fun us v => []]) mixed rfl rfl (by kernel_rfl) (by kernel_rfl) (MonoG.get (MonoG.cons (fun le h => h) (MonoG.cons (fun le h => h) (MonoG.cons (fun le h => h) (MonoG.cons (fun le h => h) (MonoG.cons (fun le h => h) (MonoG.cons (fun le h => h) (MonoG.cons (fun le h => h) (MonoG.cons (fun le h => h) (MonoG.cons (fun le h => h) (MonoG.cons (fun le h => h) (MonoG.cons (fun le h => h) (MonoG.cons (fun le h => h) (MonoG.cons (fun le h => ⟨h.1, h.2.mono le⟩) (MonoG.cons (fun le h => h) (MonoG.cons (fun le h => h) (MonoG.cons (fun le h => h) (MonoG.cons (fun le h => ⟨h.1, h.2.mono le⟩) (MonoG.cons (fun le h => h) (MonoG.cons (fun le h => h) (MonoG.cons (fun le h => h) (MonoG.cons (fun le h => h) MonoG.nil)))))))))))))))))))))) ?_ ?_
          ·refine stepsG.cons (fun vals Fs R leFs hpZ => ?_) ?_
           ·replace har := har.mono leFs
            replace hrs := hrs.mono leFs
            replace htp := htp.mono leFs
            replace hlf := hlf.mono leFs
            replace hrt := hrt.mono leFs
            replace ha1 := ha1.mono leFs
            replace ha2 := ha2.mono leFs
            replace hr3 := hr3.mono leFs
            replace hr1 := Rd.monoA hr1 leFs
            replace hr2 := Rd.monoA hr2 leFs
            refine XG.op (XOp.loadN [arv, rsv] Tryz.isAgg39 Tryz.sizeOf39 rfl rfl (Rd.ownN [_] rfl rfl) ?_)
            exact ⟨rfl, rfl⟩
           refine stepsG.cons (fun vals Fs R leFs hpZ => ?_) ?_
           ·refine XG.op (XOp.fieldP (b := b2) (0) Tryz.runUnderlying74 rfl Tryz.sizeOf22 (by decide) rfl rfl ?_)
            exact ⟨rfl, rfl⟩
           refine stepsG.cons (fun vals Fs R leFs hpZ => ?_) ?_
           ·have e1 : vals 1 = ptr b2 0 := hpZ 1 (by decide)
            replace har := har.mono leFs
            replace hrs := hrs.mono leFs
            replace htp := htp.mono leFs
            replace hlf := hlf.mono leFs
            replace hrt := hrt.mono leFs
            replace ha1 := ha1.mono leFs
            replace ha2 := ha2.mono leFs
            replace hr3 := hr3.mono leFs
            replace hr1 := Rd.monoA hr1 leFs
            replace hr2 := Rd.monoA hr2 leFs
            rw [(envs_of_sat (l := [(1, ptr b2 0)]) ⟨e1, trivial⟩).symm]
            refine XG.op (XOp.load1 (v := tpv) Tryz.isAgg22 rfl (Rd.own [] rfl rfl) ?_)
            exact ⟨rfl, rfl⟩
           refine stepsG.cons (fun vals Fs R leFs hpZ => ?_) ?_
           ·refine XG.op (XOp.fieldP (b := b1) (0) Tryz.runUnderlying39 rfl Tryz.sizeOf36 (by decide) rfl rfl ?_)
            exact ⟨rfl, rfl⟩
           refine stepsG.cons (fun vals Fs R leFs hpZ => ?_) ?_
           ·have e3 : vals 3 = ptr b1 0 := hpZ 3 (by decide)
            replace har := har.mono leFs
            replace hrs := hrs.mono leFs
            replace htp := htp.mono leFs
            replace hlf := hlf.mono leFs
            replace hrt := hrt.mono leFs
            replace ha1 := ha1.mono leFs
            replace ha2 := ha2.mono leFs
            replace hr3 := hr3.mono leFs
            replace hr1 := Rd.monoA hr1 leFs
            replace hr2 := Rd.monoA hr2 leFs
            rw [(envs_of_sat (l := [(3, ptr b1 0)]) ⟨e3, trivial⟩).symm]
            refine XG.op (XOp.loadN [arv] Tryz.isAgg36 Tryz.sizeOf36 rfl rfl (Rd.ownN [_] rfl rfl) ?_)
            exact ⟨rfl, rfl⟩
           refine stepsG.cons (fun vals Fs R leFs hpZ => ?_) ?_
           ·refine XG.op (XOp.fieldP (b := b2) (0) Tryz.runUnderlying74 rfl Tryz.sizeOf22 (by decide) rfl rfl ?_)
            exact ⟨rfl, rfl⟩
           refine stepsG.cons (fun vals Fs R leFs hpZ => ?_) ?_
           ·have e5 : vals 5 = ptr b2 0 := hpZ 5 (by decide)
            replace har := har.mono leFs
            replace hrs := hrs.mono leFs
            replace htp := htp.mono leFs
            replace hlf := hlf.mono leFs
            replace hrt := hrt.mono leFs
            replace ha1 := ha1.mono leFs
            replace ha2 := ha2.mono leFs
            replace hr3 := hr3.mono leFs
            replace hr1 := Rd.monoA hr1 leFs
            replace hr2 := Rd.monoA hr2 leFs
            rw [(envs_of_sat (l := [(5, ptr b2 0)]) ⟨e5, trivial⟩).symm]
            refine XG.op (XOp.load1 (v := tpv) Tryz.isAgg22 rfl (Rd.own [] rfl rfl) ?_)
            exact ⟨rfl, rfl⟩
           refine stepsG.cons (fun vals Fs R leFs hpZ => ?_) ?_
           ·refine XG.op (XOp.fieldP (b := b1) (0) Tryz.runUnderlying39 rfl Tryz.sizeOf36 (by decide) rfl rfl ?_)
            exact ⟨rfl, rfl⟩
           refine stepsG.cons (fun vals Fs R leFs hpZ => ?_) ?_
           ·have e7 : vals 7 = ptr b1 0 := hpZ 7 (by decide)
            replace har := har.mono leFs
            replace hrs := hrs.mono leFs
            replace htp := htp.mono leFs
            replace hlf := hlf.mono leFs
            replace hrt := hrt.mono leFs
            replace ha1 := ha1.mono leFs
            replace ha2 := ha2.mono leFs
            replace hr3 := hr3.mono leFs
            replace hr1 := Rd.monoA hr1 leFs
            replace hr2 := Rd.monoA hr2 leFs
            rw [(envs_of_sat (l := [(7, ptr b1 0)]) ⟨e7, trivial⟩).symm]
            refine XG.op (XOp.loadN [arv] Tryz.isAgg36 Tryz.sizeOf36 rfl rfl (Rd.ownN [_] rfl rfl) ?_)
            exact ⟨rfl, rfl⟩
           refine stepsG.cons (fun vals Fs R leFs hpZ => ?_) ?_
           ·refine XG.op (XOp.move (a1) rfl ?_)
            exact ⟨rfl, rfl⟩
           refine stepsG.cons (fun vals Fs R leFs hpZ => ?_) ?_
           ·refine XG.op (XOp.fieldP (b := b2) (3) Tryz.runUnderlying74 rfl Tryz.sizeOf2 (by decide) rfl rfl ?_)
            exact ⟨rfl, rfl⟩
           refine stepsG.cons (fun vals Fs R leFs hpZ => ?_) ?_
           ·have e10 : vals 10 = ptr b2 3 := hpZ 10 (by decide)
            replace har := har.mono leFs
            replace hrs := hrs.mono leFs
            replace htp := htp.mono leFs
            replace hlf := hlf.mono leFs
            replace hrt := hrt.mono leFs
            replace ha1 := ha1.mono leFs
            replace ha2 := ha2.mono leFs
            replace hr3 := hr3.mono leFs
            replace hr1 := Rd.monoA hr1 leFs
            replace hr2 := Rd.monoA hr2 leFs
            rw [(envs_of_sat (l := [(10, ptr b2 3)]) ⟨e10, trivial⟩).symm]
            refine XG.op (XOp.load1 (v := .int .i64 (a)) Tryz.isAgg2 rfl (Rd.own [] rfl rfl) ?_)
            exact ⟨rfl, rfl⟩
           refine stepsG.cons (fun vals Fs R leFs hpZ => ?_) ?_
           ·have e8 : vals 8 = (.agg #[arv] : Value) := hpZ 8 (by decide)
            have e9 : vals 9 = a1 := hpZ 9 (by decide)
            have e11 : vals 11 = (.int .i64 (a) : Value) := hpZ 11 (by decide)
            replace har := har.mono leFs
            replace hrs := hrs.mono leFs
            replace htp := htp.mono leFs
            replace hlf := hlf.mono leFs
            replace hrt := hrt.mono leFs
            replace ha1 := ha1.mono leFs
            replace ha2 := ha2.mono leFs
            replace hr3 := hr3.mono leFs
            replace hr1 := Rd.monoA hr1 leFs
            replace hr2 := Rd.monoA hr2 leFs
            rw [(envs_of_sat (l := [(8, (.agg #[arv] : Value)), (9, a1), (11, (.int .i64 (a) : Value))]) ⟨e8, e9, e11, trivial⟩).symm]
            refine XG.op (XOp.frzF <| XOp.call (args := [.agg #[arv], a1, .int .i64 (a)]) Tryz.call157 rfl (sPathOf_spec (n := a) har ha1 (ho := (hRL (by omega))) (hn := (by omega))) ?_)
            rintro v2 _ _ _ ⟨rfl, hs2, rfl⟩
            refine ⟨_, _, rfl, fun F3 le3 hz1 => ?_⟩
            replace har := har.mono le3
            replace hrs := hrs.mono le3
            replace htp := htp.mono le3
            replace hlf := hlf.mono le3
            replace hrt := hrt.mono le3
            replace ha1 := ha1.mono le3
            replace ha2 := ha2.mono le3
            replace hr3 := hr3.mono le3
            replace hr1 := Rd.monoA hr1 le3
            replace hr2 := Rd.monoA hr2 le3
            have hf1 : IntsF F3 v2 ((pathL ar ((rs.getD ((o).toNat) ([], [])).1) a.toNat)) := intsH.fz (xs := (pathL ar ((rs.getD ((o).toNat) ([], [])).1) a.toNat)) hz1.fz
            exact ⟨⟨rfl, hf1⟩, rfl⟩
           refine stepsG.cons (fun vals Fs R leFs hpZ => ?_) ?_
           ·have e4 : vals 4 = (.agg #[arv] : Value) := hpZ 4 (by decide)
            have e6 : vals 6 = tpv := hpZ 6 (by decide)
            obtain ⟨e12, f12_1ha⟩ := hpZ 12 (by decide)
            replace har := har.mono leFs
            replace hrs := hrs.mono leFs
            replace htp := htp.mono leFs
            replace hlf := hlf.mono leFs
            replace hrt := hrt.mono leFs
            replace ha1 := ha1.mono leFs
            replace ha2 := ha2.mono leFs
            replace hr3 := hr3.mono leFs
            replace hr1 := Rd.monoA hr1 leFs
            replace hr2 := Rd.monoA hr2 leFs
            rw [(envs_of_sat (l := [(4, (.agg #[arv] : Value)), (6, tpv), (12, ((vals 12)))]) ⟨e4, e6, (e12).symm, trivial⟩).symm]
            refine XG.op (XOp.call (args := [.agg #[arv], tpv, ((vals 12))]) Tryz.call156 rfl (sPlaceOf_spec har htp f12_1ha (hlp := (by have := pathL_len ar (rs.getD o.toNat ([], [])).1 a.toNat; have := hRl (by omega); omega)) (hla := (by first | assumption | rfl | omega | (left; simp; done) | (right; simp; done))) (hlt := (by first | assumption | rfl | omega | (left; simp; done) | (right; simp; done)))) ?_)
            rintro _ _ _ _ ⟨rfl, rfl, rfl⟩
            exact ⟨rfl, rfl⟩
           refine stepsG.cons (fun vals Fs R leFs hpZ => ?_) ?_
           ·refine XG.op (XOp.fieldP (b := b2) (4) Tryz.runUnderlying74 rfl Tryz.sizeOf2 (by decide) rfl rfl ?_)
            exact ⟨rfl, rfl⟩
           refine stepsG.cons (fun vals Fs R leFs hpZ => ?_) ?_
           ·have e14 : vals 14 = ptr b2 4 := hpZ 14 (by decide)
            replace har := har.mono leFs
            replace hrs := hrs.mono leFs
            replace htp := htp.mono leFs
            replace hlf := hlf.mono leFs
            replace hrt := hrt.mono leFs
            replace ha1 := ha1.mono leFs
            replace ha2 := ha2.mono leFs
            replace hr3 := hr3.mono leFs
            replace hr1 := Rd.monoA hr1 leFs
            replace hr2 := Rd.monoA hr2 leFs
            rw [(envs_of_sat (l := [(14, ptr b2 4)]) ⟨e14, trivial⟩).symm]
            refine XG.op (XOp.load1 (v := .int .i64 (u)) Tryz.isAgg2 rfl (Rd.own [] rfl rfl) ?_)
            exact ⟨rfl, rfl⟩
           refine stepsG.cons (fun vals Fs R leFs hpZ => ?_) ?_
           ·have e0 : vals 0 = (.agg #[arv, rsv] : Value) := hpZ 0 (by decide)
            have e2 : vals 2 = tpv := hpZ 2 (by decide)
            have e13 : vals 13 = (.int .i64 (placeL ar tp ((pathL ar ((rs.getD ((o).toNat) ([], [])).1) a.toNat))) : Value) := hpZ 13 (by decide)
            have e15 : vals 15 = (.int .i64 (u) : Value) := hpZ 15 (by decide)
            replace har := har.mono leFs
            replace hrs := hrs.mono leFs
            replace htp := htp.mono leFs
            replace hlf := hlf.mono leFs
            replace hrt := hrt.mono leFs
            replace ha1 := ha1.mono leFs
            replace ha2 := ha2.mono leFs
            replace hr3 := hr3.mono leFs
            replace hr1 := Rd.monoA hr1 leFs
            replace hr2 := Rd.monoA hr2 leFs
            rw [(envs_of_sat (l := [(0, (.agg #[arv, rsv] : Value)), (2, tpv), (13, (.int .i64 (placeL ar tp ((pathL ar ((rs.getD ((o).toNat) ([], [])).1) a.toNat))) : Value)), (15, (.int .i64 (u) : Value))]) ⟨e0, e2, e13, e15, trivial⟩).symm]
            refine XG.op (XOp.call (args := [.agg #[arv, rsv], tpv, .int .i64 (placeL ar tp ((pathL ar ((rs.getD ((o).toNat) ([], [])).1) a.toNat))), .int .i64 (u)]) Tryz.call113 rfl (sStepAt_spec (p := placeL ar tp ((pathL ar ((rs.getD ((o).toNat) ([], [])).1) a.toNat))) (r := u) har hrs htp (hla := (by first | assumption | rfl | omega | (left; simp; done) | (right; simp; done))) (hlr := (by first | assumption | rfl | omega | (left; simp; done) | (right; simp; done))) (hrb := (by first | assumption | rfl | omega | (left; simp; done) | (right; simp; done))) (hlt := (by first | assumption | rfl | omega | (left; simp; done) | (right; simp; done)))) ?_)
            rintro _ F4 _ le4 ⟨x3, rfl, hr5, rfl⟩
            replace har := har.mono le4
            replace hrs := hrs.mono le4
            replace htp := htp.mono le4
            replace hlf := hlf.mono le4
            replace hrt := hrt.mono le4
            replace ha1 := ha1.mono le4
            replace ha2 := ha2.mono le4
            replace hr3 := hr3.mono le4
            replace hr1 := Rd.monoA hr1 le4
            replace hr2 := Rd.monoA hr2 le4
            exact ⟨⟨rfl, hr5⟩, rfl⟩
           refine stepsG.cons (fun vals Fs R leFs hpZ => ?_) ?_
           ·obtain ⟨e16, f16_1hr⟩ := hpZ 16 (by decide)
            rw [(envs_of_sat (l := [(16, (.tuple #[((tupAt (vals 16) 0)), .bool ((stepAtL ar rs tp (placeL ar tp ((pathL ar ((rs.getD ((o).toNat) ([], [])).1) a.toNat))) u).isSome)] : Value))]) ⟨(e16).symm, trivial⟩).symm]
            refine XG.op (XOp.move (.tuple #[((tupAt (vals 16) 0)), .bool ((stepAtL ar rs tp (placeL ar tp ((pathL ar ((rs.getD ((o).toNat) ([], [])).1) a.toNat))) u).isSome)]) rfl ?_)
            exact ⟨rfl, rfl⟩
           refine stepsG.cons (fun vals Fs R leFs hpZ => ?_) ?_
           ·obtain ⟨e16, f16_1hr⟩ := hpZ 16 (by decide)
            have e17 : vals 17 = (.tuple #[((tupAt (vals 16) 0)), .bool ((stepAtL ar rs tp (placeL ar tp ((pathL ar ((rs.getD ((o).toNat) ([], [])).1) a.toNat))) u).isSome)] : Value) := hpZ 17 (by decide)
            rw [(envs_of_sat (l := [(16, (.tuple #[((tupAt (vals 16) 0)), .bool ((stepAtL ar rs tp (placeL ar tp ((pathL ar ((rs.getD ((o).toNat) ([], [])).1) a.toNat))) u).isSome)] : Value)), (17, (.tuple #[((tupAt (vals 16) 0)), .bool ((stepAtL ar rs tp (placeL ar tp ((pathL ar ((rs.getD ((o).toNat) ([], [])).1) a.toNat))) u).isSome)] : Value))]) ⟨(e16).symm, e17, trivial⟩).symm]
            refine XG.op (XOp.extract (((tupAt (vals 16) 0))) rfl rfl ?_)
            exact ⟨rfl, rfl⟩
           refine stepsG.cons (fun vals Fs R leFs hpZ => ?_) ?_
           ·obtain ⟨e16, f16_1hr⟩ := hpZ 16 (by decide)
            have e17 : vals 17 = (.tuple #[((tupAt (vals 16) 0)), .bool ((stepAtL ar rs tp (placeL ar tp ((pathL ar ((rs.getD ((o).toNat) ([], [])).1) a.toNat))) u).isSome)] : Value) := hpZ 17 (by decide)
            rw [(envs_of_sat (l := [(16, (.tuple #[((tupAt (vals 16) 0)), .bool ((stepAtL ar rs tp (placeL ar tp ((pathL ar ((rs.getD ((o).toNat) ([], [])).1) a.toNat))) u).isSome)] : Value)), (17, (.tuple #[((tupAt (vals 16) 0)), .bool ((stepAtL ar rs tp (placeL ar tp ((pathL ar ((rs.getD ((o).toNat) ([], [])).1) a.toNat))) u).isSome)] : Value))]) ⟨(e16).symm, e17, trivial⟩).symm]
            refine XG.op (XOp.extract (.bool ((stepAtL ar rs tp (placeL ar tp ((pathL ar ((rs.getD ((o).toNat) ([], [])).1) a.toNat))) u).isSome)) rfl rfl ?_)
            exact ⟨rfl, rfl⟩
           refine stepsG.cons (fun vals Fs R leFs hpZ => ?_) ?_
           ·obtain ⟨e16, f16_1hr⟩ := hpZ 16 (by decide)
            have e18 : vals 18 = ((tupAt (vals 16) 0)) := hpZ 18 (by decide)
            rw [(envs_of_sat (l := [(16, (.tuple #[((tupAt (vals 16) 0)), .bool ((stepAtL ar rs tp (placeL ar tp ((pathL ar ((rs.getD ((o).toNat) ([], [])).1) a.toNat))) u).isSome)] : Value)), (18, ((tupAt (vals 16) 0)))]) ⟨(e16).symm, e18, trivial⟩).symm]
            refine XG.op (XOp.assign (((tupAt (vals 16) 0))) rfl ?_)
            exact ⟨rfl, rfl⟩
           exact stepsG.nil
          ·intro vals F5 le5 hphi
           have e0 : vals 0 = (.agg #[arv, rsv] : Value) := hphi 0 (by decide)
           have e1 : vals 1 = ptr b2 0 := hphi 1 (by decide)
           have e2 : vals 2 = tpv := hphi 2 (by decide)
           have e3 : vals 3 = ptr b1 0 := hphi 3 (by decide)
           have e4 : vals 4 = (.agg #[arv] : Value) := hphi 4 (by decide)
           have e5 : vals 5 = ptr b2 0 := hphi 5 (by decide)
           have e6 : vals 6 = tpv := hphi 6 (by decide)
           have e7 : vals 7 = ptr b1 0 := hphi 7 (by decide)
           have e8 : vals 8 = (.agg #[arv] : Value) := hphi 8 (by decide)
           have e9 : vals 9 = a1 := hphi 9 (by decide)
           have e10 : vals 10 = ptr b2 3 := hphi 10 (by decide)
           have e11 : vals 11 = (.int .i64 (a) : Value) := hphi 11 (by decide)
           obtain ⟨e12, f12_1ha⟩ := hphi 12 (by decide)
           have e13 : vals 13 = (.int .i64 (placeL ar tp ((pathL ar ((rs.getD ((o).toNat) ([], [])).1) a.toNat))) : Value) := hphi 13 (by decide)
           have e14 : vals 14 = ptr b2 4 := hphi 14 (by decide)
           have e15 : vals 15 = (.int .i64 (u) : Value) := hphi 15 (by decide)
           obtain ⟨e16, f16_1hr⟩ := hphi 16 (by decide)
           have e17 : vals 17 = (.tuple #[((tupAt (vals 16) 0)), .bool ((stepAtL ar rs tp (placeL ar tp ((pathL ar ((rs.getD ((o).toNat) ([], [])).1) a.toNat))) u).isSome)] : Value) := hphi 17 (by decide)
           have e18 : vals 18 = ((tupAt (vals 16) 0)) := hphi 18 (by decide)
           have e19 : vals 19 = (.bool ((stepAtL ar rs tp (placeL ar tp ((pathL ar ((rs.getD ((o).toNat) ([], [])).1) a.toNat))) u).isSome) : Value) := hphi 19 (by decide)
           have e20 : vals 20 = ((tupAt (vals 16) 0)) := hphi 20 (by decide)
           generalize hu1 : ((vals 12)) = u1 at e0 e1 e2 e3 e4 e5 e6 e7 e8 e9 e10 e11 e12 f12_1ha e13 e14 e15 e16 f16_1hr e17 e18 e19 e20
           generalize hu2 : ((tupAt (vals 16) 0)) = u2 at e0 e1 e2 e3 e4 e5 e6 e7 e8 e9 e10 e11 e12 f12_1ha e13 e14 e15 e16 f16_1hr e17 e18 e19 e20
           rw [(envs_of_sat (l := [(0, (.agg #[arv, rsv] : Value)), (1, ptr b2 0), (2, tpv), (3, ptr b1 0), (4, (.agg #[arv] : Value)), (5, ptr b2 0), (6, tpv), (7, ptr b1 0), (8, (.agg #[arv] : Value)), (9, a1), (10, ptr b2 3), (11, (.int .i64 (a) : Value)), (12, u1), (13, (.int .i64 (placeL ar tp ((pathL ar ((rs.getD ((o).toNat) ([], [])).1) a.toNat))) : Value)), (14, ptr b2 4), (15, (.int .i64 (u) : Value)), (16, (.tuple #[u2, .bool ((stepAtL ar rs tp (placeL ar tp ((pathL ar ((rs.getD ((o).toNat) ([], [])).1) a.toNat))) u).isSome)] : Value)), (17, (.tuple #[u2, .bool ((stepAtL ar rs tp (placeL ar tp ((pathL ar ((rs.getD ((o).toNat) ([], [])).1) a.toNat))) u).isSome)] : Value)), (18, u2), (19, (.bool ((stepAtL ar rs tp (placeL ar tp ((pathL ar ((rs.getD ((o).toNat) ([], [])).1) a.toNat))) u).isSome) : Value)), (20, u2)]) ⟨e0, e1, e2, e3, e4, e5, e6, e7, e8, e9, e10, e11, hu1, e13, e14, e15, (e16).symm, e17, e18, e19, e20, trivial⟩).symm]
           replace har := har.mono le5
           replace hrs := hrs.mono le5
           replace htp := htp.mono le5
           replace hlf := hlf.mono le5
           replace hrt := hrt.mono le5
           replace ha1 := ha1.mono le5
           replace ha2 := ha2.mono le5
           replace hr3 := hr3.mono le5
           replace hr1 := Rd.monoA hr1 le5
           replace hr2 := Rd.monoA hr2 le5
           show XL _ _ _ _ _ _ _ (cellsH b2 [tpv, lfv, rtv, .int .i64 (a), .int .i64 (u), .int .i64 (o)] 74 :: cellsH b1 [arv, rsv] 39 :: L)
           refine XL.cons (XOp.assign (.bool ((stepAtL ar rs tp (placeL ar tp ((pathL ar ((rs.getD ((o).toNat) ([], [])).1) a.toNat))) u).isSome)) rfl ?_)
           refine XL.nil ?_
           refine X.seq ?_
           refine X.region ?_
           refine XL.cons (XOp.move (.bool ((stepAtL ar rs tp (placeL ar tp ((pathL ar ((rs.getD ((o).toNat) ([], [])).1) a.toNat))) u).isSome)) rfl ?_)
           refine XL.cons (XOp.move (.bool ((stepAtL ar rs tp (placeL ar tp ((pathL ar ((rs.getD ((o).toNat) ([], [])).1) a.toNat))) u).isSome)) rfl ?_)
           by_cases h10 : ((stepAtL ar rs tp (placeL ar tp ((pathL ar ((rs.getD ((o).toNat) ([], [])).1) a.toNat))) u).isSome) = true
           ·refine XL.yes (t := 100) rfl (congrArg Value.bool h10) (XOp.move (u2) rfl ?_)
            refine XL.yes (t := 100) rfl (congrArg Value.bool h10) (XOp.fieldP (b := b2) (1) Tryz.runUnderlying74 rfl Tryz.sizeOf22 (by decide) rfl rfl ?_)
            refine XL.yes (t := 100) rfl (congrArg Value.bool h10) (XOp.load1 (v := lfv) Tryz.isAgg22 rfl (Rd.own [] rfl rfl) ?_)
            refine XL.yes (t := 100) rfl (congrArg Value.bool h10) (XOp.call (args := [u2, lfv]) Tryz.call98 rfl (SameTerm_spec f16_1hr hlf (hbd := (by first | assumption | rfl | omega | (left; simp; done) | (right; simp; done)))) ?_)
            rintro _ _ _ _ ⟨rfl, rfl, rfl⟩
            refine XL.cons (XOp.pickT (.bool (decide (((stepAtL ar rs tp (placeL ar tp ((pathL ar ((rs.getD ((o).toNat) ([], [])).1) a.toNat))) u).getD []) = lf))) (congrArg Value.bool h10) rfl ?_)
            refine XL.cons (XOp.assign (.bool (decide (((stepAtL ar rs tp (placeL ar tp ((pathL ar ((rs.getD ((o).toNat) ([], [])).1) a.toNat))) u).getD []) = lf))) rfl ?_)
            refine XL.nil ?_
            refine X.ret (retEnd (L' := L) [.bool (decide (((stepAtL ar rs tp (placeL ar tp ((pathL ar ((rs.getD ((o).toNat) ([], [])).1) a.toNat))) u).getD []) = lf))] (.bool (decide (((stepAtL ar rs tp (placeL ar tp ((pathL ar ((rs.getD ((o).toNat) ([], [])).1) a.toNat))) u).getD []) = lf))) (.tmp rfl .nil) rfl (FLe.refl _) (FLe.trans le1 le5) (Sub.drop (Sub.drop (Sub.refl _))) ?_)
            exact ⟨(congrArg Value.bool (by rw [Bool.eq_iff_iff, peakL_iff, decide_eq_true_eq]; exact ⟨fun h => (getD_some (by assumption)).1 h.2.2.2, fun h => ⟨hsys, peakArgs_iff.2 (by omega), (getD_some hst1).2 hst2, (getD_some (by assumption)).2 h⟩⟩)), rfl, rfl⟩
           ·rw [Bool.not_eq_true] at h10
            refine XL.no (t := 100) rfl (congrArg Value.bool h10) ?_
            refine XL.no (t := 100) rfl (congrArg Value.bool h10) ?_
            refine XL.no (t := 100) rfl (congrArg Value.bool h10) ?_
            refine XL.no (t := 100) rfl (congrArg Value.bool h10) ?_
            refine XL.cons (XOp.pickF (.bool (false)) (congrArg Value.bool h10) rfl ?_)
            refine XL.cons (XOp.assign (.bool (false)) rfl ?_)
            refine XL.nil ?_
            refine X.ret (retEnd (L' := L) [.bool (false)] (.bool (false)) (.tmp rfl .nil) rfl (FLe.refl _) (FLe.trans le1 le5) (Sub.drop (Sub.drop (Sub.refl _))) ?_)
            exact ⟨(congrArg Value.bool (peakL_no (fun h => opt_no1 (by assumption) h.2.2.2))), rfl, rfl⟩
      ·refine XL.no (t := 53) rfl (congrArg Value.bool (decide_eq_false h6)) ?_
       refine XL.no (t := 53) rfl (congrArg Value.bool (decide_eq_false h6)) ?_
       refine XL.no (t := 53) rfl (congrArg Value.bool (decide_eq_false h6)) ?_
       refine XL.no (t := 53) rfl (congrArg Value.bool (decide_eq_false h6)) ?_
       refine XL.no (t := 53) rfl (congrArg Value.bool (decide_eq_false h6)) ?_
       refine XL.yes (t := 49) rfl (congrArg Value.bool (decide_eq_false h5)) (XOp.pickF (.bool (false)) (congrArg Value.bool (decide_eq_false h6)) rfl ?_)
       refine XL.cons (XOp.pickF (.bool (false)) (congrArg Value.bool (decide_eq_false h5)) rfl ?_)
       refine XL.nil ?_
       refine X.condF rfl ?_
       refine X.skip ?_
       refine X.seq ?_
       refine X.region ?_
       refine XL.cons (XOp.loadN [arv, rsv] Tryz.isAgg39 Tryz.sizeOf39 rfl rfl (Rd.ownN [_] rfl rfl) ?_)
       refine XL.cons (XOp.fieldP (b := b2) (0) Tryz.runUnderlying74 rfl Tryz.sizeOf22 (by decide) rfl rfl ?_)
       refine XL.cons (XOp.load1 (v := tpv) Tryz.isAgg22 rfl (Rd.own [] rfl rfl) ?_)
       refine XL.cons (XOp.fieldP (b := b2) (5) Tryz.runUnderlying74 rfl Tryz.sizeOf2 (by decide) rfl rfl ?_)
       refine XL.cons (XOp.load1 (v := .int .i64 (o)) Tryz.isAgg2 rfl (Rd.own [] rfl rfl) ?_)
       refine XL.cons (XOp.call (args := [.agg #[arv, rsv], tpv, .int .i64 (0), .int .i64 (o)]) Tryz.call113 rfl (sStepAt_spec (p := 0) (r := o) har hrs htp (hla := (by first | assumption | rfl | omega | (left; simp; done) | (right; simp; done))) (hlr := (by first | assumption | rfl | omega | (left; simp; done) | (right; simp; done))) (hrb := (by first | assumption | rfl | omega | (left; simp; done) | (right; simp; done))) (hlt := (by first | assumption | rfl | omega | (left; simp; done) | (right; simp; done)))) ?_)
       rintro _ F6 _ le6 ⟨x4, rfl, hr6, rfl⟩
       replace har := har.mono le6
       replace hrs := hrs.mono le6
       replace htp := htp.mono le6
       replace hlf := hlf.mono le6
       replace hrt := hrt.mono le6
       replace ha1 := ha1.mono le6
       replace ha2 := ha2.mono le6
       replace hr1 := Rd.monoA hr1 le6
       replace hr2 := Rd.monoA hr2 le6
       refine XL.cons (XOp.move (.tuple #[x4, .bool ((stepAtL ar rs tp 0 o).isSome)]) rfl ?_)
       refine XL.cons (XOp.extract (x4) rfl rfl ?_)
       refine XL.cons (XOp.extract (.bool ((stepAtL ar rs tp 0 o).isSome)) rfl rfl ?_)
       refine XL.cons (XOp.assign (x4) rfl ?_)
       refine XL.cons (XOp.assign (.bool ((stepAtL ar rs tp 0 o).isSome)) rfl ?_)
       refine XL.nil ?_
       refine X.seq ?_
       refine X.seq ?_
       refine X.region ?_
       refine XL.cons (XOp.move (.bool ((stepAtL ar rs tp 0 o).isSome)) rfl ?_)
       refine XL.cons (XOp.notB (b := (stepAtL ar rs tp 0 o).isSome) rfl ?_)
       refine XL.cons (XOp.move (.bool (!((stepAtL ar rs tp 0 o).isSome))) rfl ?_)
       by_cases h11 : (!((stepAtL ar rs tp 0 o).isSome)) = true
       ·have hst1 : (stepAtL ar rs tp 0 o).isSome = false := by simpa using h11
        refine XL.no (t := 72) rfl (congrArg Value.bool h11) ?_
        refine XL.no (t := 72) rfl (congrArg Value.bool h11) ?_
        refine XL.no (t := 72) rfl (congrArg Value.bool h11) ?_
        refine XL.no (t := 72) rfl (congrArg Value.bool h11) ?_
        refine XL.no (t := 72) rfl (congrArg Value.bool h11) ?_
        refine XL.cons (XOp.pickT (.bool (true)) (congrArg Value.bool h11) rfl ?_)
        refine XL.nil ?_
        refine X.condT rfl ?_
        refine X.seq ?_
        refine X.region ?_
        refine XL.cons (XOp.assign (.bool (false)) rfl ?_)
        refine XL.nil ?_
        refine X.ret (thenQ_ret (retEnd (L' := L) [.bool (false)] (.bool (false)) (.tmp rfl .nil) rfl (FLe.refl _) le6 (Sub.drop (Sub.drop (Sub.refl _))) ?_))
        exact ⟨(congrArg Value.bool (peakL_no (fun h => by first | exact opt_no1 hst1 h.2.2.1 | exact opt_no2 hst2 h.2.2.1))), rfl, rfl⟩
       ·rw [Bool.not_eq_true] at h11
        have hst1 : (stepAtL ar rs tp 0 o).isSome = true := by simpa using h11
        refine XL.yes (t := 72) rfl (congrArg Value.bool h11) (XOp.move (x4) rfl ?_)
        refine XL.yes (t := 72) rfl (congrArg Value.bool h11) (XOp.fieldP (b := b2) (2) Tryz.runUnderlying74 rfl Tryz.sizeOf22 (by decide) rfl rfl ?_)
        refine XL.yes (t := 72) rfl (congrArg Value.bool h11) (XOp.load1 (v := rtv) Tryz.isAgg22 rfl (Rd.own [] rfl rfl) ?_)
        refine XL.yes (t := 72) rfl (congrArg Value.bool h11) (XOp.call (args := [x4, rtv]) Tryz.call98 rfl (SameTerm_spec hr6 hrt (hbd := (by first | assumption | rfl | omega | (left; simp; done) | (right; simp; done)))) ?_)
        rintro _ _ _ _ ⟨rfl, rfl, rfl⟩
        refine XL.yes (t := 72) rfl (congrArg Value.bool h11) (XOp.notD (p := ((stepAtL ar rs tp 0 o).getD []) = rt) rfl ?_)
        refine XL.cons (XOp.pickF (.bool (decide (¬(((stepAtL ar rs tp 0 o).getD []) = rt)))) (congrArg Value.bool h11) rfl ?_)
        refine XL.nil ?_
        refine X.condD (p := ¬(((stepAtL ar rs tp 0 o).getD []) = rt)) rfl (fun h12 => ?_) (fun h12 => ?_)
        ·have hst2 : (stepAtL ar rs tp 0 o).getD [] ≠ rt := h12
         refine X.seq ?_
         refine X.region ?_
         refine XL.cons (XOp.assign (.bool (false)) rfl ?_)
         refine XL.nil ?_
         refine X.ret (thenQ_ret (retEnd (L' := L) [.bool (false)] (.bool (false)) (.tmp rfl .nil) rfl (FLe.refl _) le6 (Sub.drop (Sub.drop (Sub.refl _))) ?_))
         exact ⟨(congrArg Value.bool (peakL_no (fun h => by first | exact opt_no1 hst1 h.2.2.1 | exact opt_no2 hst2 h.2.2.1))), rfl, rfl⟩
        ·have hst2 : (stepAtL ar rs tp 0 o).getD [] = rt := Classical.not_not.1 h12
         refine X.skip ?_
         refine X.seq ?_
         refine X.drawG [cellsH b2 [tpv, lfv, rtv, .int .i64 (a), .int .i64 (u), .int .i64 (o)] 74, cellsH b1 [arv, rsv] 39] L 21 [[], [], [], [], [], [], [], [], [], [], [], [], [], [], [], [], [], [16], [16], [], [16]] [[], [], [1], [], [3], [], [5], [], [7], [], [], [10], [8, 9, 11], [4, 6, 12], [], [14], [0, 2, 13, 15], [16], [16, 17], [16, 17], [16, 18]] [[], [], [], [], [], [], [], [], [], [], [], [], [], [], [], [], [], [], [], [], []] (phiG [fun FF us v => v = (.agg #[arv, rsv] : Value), fun FF us v => v = ptr b2 0, fun FF us v => v = tpv, fun FF us v => v = ptr b1 0, fun FF us v => v = (.agg #[arv] : Value), fun FF us v => v = ptr b2 0, fun FF us v => v = tpv, fun FF us v => v = ptr b1 0, fun FF us v => v = (.agg #[arv] : Value), fun FF us v => v = a1, fun FF us v => v = ptr b2 3, fun FF us v => v = (.int .i64 (a) : Value), fun FF us v => ((v) : Value) = v ∧ (IntsF FF (v) (pathL ar ((rs.getD ((o).toNat) ([], [])).1) a.toNat)), fun FF us v => v = (.int .i64 (placeL ar tp ((pathL ar ((rs.getD ((o).toNat) ([], [])).1) a.toNat))) : Value), fun FF us v => v = ptr b2 4, fun FF us v => v = (.int .i64 (u) : Value), fun FF us v => (.tuple #[((tupAt v 0)), .bool ((stepAtL ar rs tp (placeL ar tp ((pathL ar ((rs.getD ((o).toNat) ([], [])).1) a.toNat))) u).isSome)] : Value) = v ∧ (IntsF FF ((tupAt v 0)) ((stepAtL ar rs tp (placeL ar tp ((pathL ar ((rs.getD ((o).toNat) ([], [])).1) a.toNat))) u).getD [])), fun FF us v => v = (.tuple #[((tupAt (us.getD 0 undef) 0)), .bool ((stepAtL ar rs tp (placeL ar tp ((pathL ar ((rs.getD ((o).toNat) ([], [])).1) a.toNat))) u).isSome)] : Value), fun FF us v => v = ((tupAt (us.getD 0 undef) 0)), fun FF us v => v = (.bool ((stepAtL ar rs tp (placeL ar tp ((pathL ar ((rs.getD ((o).toNat) ([], [])).1) a.toNat))) u).isSome) : Value), fun FF us v => v = ((tupAt (us.getD 0 undef) 0))]) (ownL [fun us v => [], fun us v => [], fun us v => [], fun us v => [], fun us v => [], fun us v => [], fun us v => [], fun us v => [], fun us v => [], fun us v => [], fun us v => [], fun us v => [], fun us v => [], fun us v => [], fun us v => [], fun us v => [], fun us v => [], fun us v => [], fun us v => [], fun us v => [], fun us v => []]) mixed rfl rfl (by kernel_rfl) (by kernel_rfl) (MonoG.get (MonoG.cons (fun le h => h) (MonoG.cons (fun le h => h) (MonoG.cons (fun le h => h) (MonoG.cons (fun le h => h) (MonoG.cons (fun le h => h) (MonoG.cons (fun le h => h) (MonoG.cons (fun le h => h) (MonoG.cons (fun le h => h) (MonoG.cons (fun le h => h) (MonoG.cons (fun le h => h) (MonoG.cons (fun le h => h) (MonoG.cons (fun le h => h) (MonoG.cons (fun le h => ⟨h.1, h.2.mono le⟩) (MonoG.cons (fun le h => h) (MonoG.cons (fun le h => h) (MonoG.cons (fun le h => h) (MonoG.cons (fun le h => ⟨h.1, h.2.mono le⟩) (MonoG.cons (fun le h => h) (MonoG.cons (fun le h => h) (MonoG.cons (fun le h => h) (MonoG.cons (fun le h => h) MonoG.nil)))))))))))))))))))))) ?_ ?_
         ·refine stepsG.cons (fun vals Fs R leFs hpZ => ?_) ?_
          ·replace har := har.mono leFs
           replace hrs := hrs.mono leFs
           replace htp := htp.mono leFs
           replace hlf := hlf.mono leFs
           replace hrt := hrt.mono leFs
           replace ha1 := ha1.mono leFs
           replace ha2 := ha2.mono leFs
           replace hr6 := hr6.mono leFs
           replace hr1 := Rd.monoA hr1 leFs
           replace hr2 := Rd.monoA hr2 leFs
           refine XG.op (XOp.loadN [arv, rsv] Tryz.isAgg39 Tryz.sizeOf39 rfl rfl (Rd.ownN [_] rfl rfl) ?_)
           exact ⟨rfl, rfl⟩
          refine stepsG.cons (fun vals Fs R leFs hpZ => ?_) ?_
          ·refine XG.op (XOp.fieldP (b := b2) (0) Tryz.runUnderlying74 rfl Tryz.sizeOf22 (by decide) rfl rfl ?_)
           exact ⟨rfl, rfl⟩
          refine stepsG.cons (fun vals Fs R leFs hpZ => ?_) ?_
          ·have e1 : vals 1 = ptr b2 0 := hpZ 1 (by decide)
           replace har := har.mono leFs
           replace hrs := hrs.mono leFs
           replace htp := htp.mono leFs
           replace hlf := hlf.mono leFs
           replace hrt := hrt.mono leFs
           replace ha1 := ha1.mono leFs
           replace ha2 := ha2.mono leFs
           replace hr6 := hr6.mono leFs
           replace hr1 := Rd.monoA hr1 leFs
           replace hr2 := Rd.monoA hr2 leFs
           rw [(envs_of_sat (l := [(1, ptr b2 0)]) ⟨e1, trivial⟩).symm]
           refine XG.op (XOp.load1 (v := tpv) Tryz.isAgg22 rfl (Rd.own [] rfl rfl) ?_)
           exact ⟨rfl, rfl⟩
          refine stepsG.cons (fun vals Fs R leFs hpZ => ?_) ?_
          ·refine XG.op (XOp.fieldP (b := b1) (0) Tryz.runUnderlying39 rfl Tryz.sizeOf36 (by decide) rfl rfl ?_)
           exact ⟨rfl, rfl⟩
          refine stepsG.cons (fun vals Fs R leFs hpZ => ?_) ?_
          ·have e3 : vals 3 = ptr b1 0 := hpZ 3 (by decide)
           replace har := har.mono leFs
           replace hrs := hrs.mono leFs
           replace htp := htp.mono leFs
           replace hlf := hlf.mono leFs
           replace hrt := hrt.mono leFs
           replace ha1 := ha1.mono leFs
           replace ha2 := ha2.mono leFs
           replace hr6 := hr6.mono leFs
           replace hr1 := Rd.monoA hr1 leFs
           replace hr2 := Rd.monoA hr2 leFs
           rw [(envs_of_sat (l := [(3, ptr b1 0)]) ⟨e3, trivial⟩).symm]
           refine XG.op (XOp.loadN [arv] Tryz.isAgg36 Tryz.sizeOf36 rfl rfl (Rd.ownN [_] rfl rfl) ?_)
           exact ⟨rfl, rfl⟩
          refine stepsG.cons (fun vals Fs R leFs hpZ => ?_) ?_
          ·refine XG.op (XOp.fieldP (b := b2) (0) Tryz.runUnderlying74 rfl Tryz.sizeOf22 (by decide) rfl rfl ?_)
           exact ⟨rfl, rfl⟩
          refine stepsG.cons (fun vals Fs R leFs hpZ => ?_) ?_
          ·have e5 : vals 5 = ptr b2 0 := hpZ 5 (by decide)
           replace har := har.mono leFs
           replace hrs := hrs.mono leFs
           replace htp := htp.mono leFs
           replace hlf := hlf.mono leFs
           replace hrt := hrt.mono leFs
           replace ha1 := ha1.mono leFs
           replace ha2 := ha2.mono leFs
           replace hr6 := hr6.mono leFs
           replace hr1 := Rd.monoA hr1 leFs
           replace hr2 := Rd.monoA hr2 leFs
           rw [(envs_of_sat (l := [(5, ptr b2 0)]) ⟨e5, trivial⟩).symm]
           refine XG.op (XOp.load1 (v := tpv) Tryz.isAgg22 rfl (Rd.own [] rfl rfl) ?_)
           exact ⟨rfl, rfl⟩
          refine stepsG.cons (fun vals Fs R leFs hpZ => ?_) ?_
          ·refine XG.op (XOp.fieldP (b := b1) (0) Tryz.runUnderlying39 rfl Tryz.sizeOf36 (by decide) rfl rfl ?_)
           exact ⟨rfl, rfl⟩
          refine stepsG.cons (fun vals Fs R leFs hpZ => ?_) ?_
          ·have e7 : vals 7 = ptr b1 0 := hpZ 7 (by decide)
           replace har := har.mono leFs
           replace hrs := hrs.mono leFs
           replace htp := htp.mono leFs
           replace hlf := hlf.mono leFs
           replace hrt := hrt.mono leFs
           replace ha1 := ha1.mono leFs
           replace ha2 := ha2.mono leFs
           replace hr6 := hr6.mono leFs
           replace hr1 := Rd.monoA hr1 leFs
           replace hr2 := Rd.monoA hr2 leFs
           rw [(envs_of_sat (l := [(7, ptr b1 0)]) ⟨e7, trivial⟩).symm]
           refine XG.op (XOp.loadN [arv] Tryz.isAgg36 Tryz.sizeOf36 rfl rfl (Rd.ownN [_] rfl rfl) ?_)
           exact ⟨rfl, rfl⟩
          refine stepsG.cons (fun vals Fs R leFs hpZ => ?_) ?_
          ·refine XG.op (XOp.move (a1) rfl ?_)
           exact ⟨rfl, rfl⟩
          refine stepsG.cons (fun vals Fs R leFs hpZ => ?_) ?_
          ·refine XG.op (XOp.fieldP (b := b2) (3) Tryz.runUnderlying74 rfl Tryz.sizeOf2 (by decide) rfl rfl ?_)
           exact ⟨rfl, rfl⟩
          refine stepsG.cons (fun vals Fs R leFs hpZ => ?_) ?_
          ·have e10 : vals 10 = ptr b2 3 := hpZ 10 (by decide)
           replace har := har.mono leFs
           replace hrs := hrs.mono leFs
           replace htp := htp.mono leFs
           replace hlf := hlf.mono leFs
           replace hrt := hrt.mono leFs
           replace ha1 := ha1.mono leFs
           replace ha2 := ha2.mono leFs
           replace hr6 := hr6.mono leFs
           replace hr1 := Rd.monoA hr1 leFs
           replace hr2 := Rd.monoA hr2 leFs
           rw [(envs_of_sat (l := [(10, ptr b2 3)]) ⟨e10, trivial⟩).symm]
           refine XG.op (XOp.load1 (v := .int .i64 (a)) Tryz.isAgg2 rfl (Rd.own [] rfl rfl) ?_)
           exact ⟨rfl, rfl⟩
          refine stepsG.cons (fun vals Fs R leFs hpZ => ?_) ?_
          ·have e8 : vals 8 = (.agg #[arv] : Value) := hpZ 8 (by decide)
           have e9 : vals 9 = a1 := hpZ 9 (by decide)
           have e11 : vals 11 = (.int .i64 (a) : Value) := hpZ 11 (by decide)
           replace har := har.mono leFs
           replace hrs := hrs.mono leFs
           replace htp := htp.mono leFs
           replace hlf := hlf.mono leFs
           replace hrt := hrt.mono leFs
           replace ha1 := ha1.mono leFs
           replace ha2 := ha2.mono leFs
           replace hr6 := hr6.mono leFs
           replace hr1 := Rd.monoA hr1 leFs
           replace hr2 := Rd.monoA hr2 leFs
           rw [(envs_of_sat (l := [(8, (.agg #[arv] : Value)), (9, a1), (11, (.int .i64 (a) : Value))]) ⟨e8, e9, e11, trivial⟩).symm]
           refine XG.op (XOp.frzF <| XOp.call (args := [.agg #[arv], a1, .int .i64 (a)]) Tryz.call157 rfl (sPathOf_spec (n := a) har ha1 (ho := (hRL (by omega))) (hn := (by omega))) ?_)
           rintro v4 _ _ _ ⟨rfl, hs4, rfl⟩
           refine ⟨_, _, rfl, fun F8 le8 hz2 => ?_⟩
           replace har := har.mono le8
           replace hrs := hrs.mono le8
           replace htp := htp.mono le8
           replace hlf := hlf.mono le8
           replace hrt := hrt.mono le8
           replace ha1 := ha1.mono le8
           replace ha2 := ha2.mono le8
           replace hr6 := hr6.mono le8
           replace hr1 := Rd.monoA hr1 le8
           replace hr2 := Rd.monoA hr2 le8
           have hf2 : IntsF F8 v4 ((pathL ar ((rs.getD ((o).toNat) ([], [])).1) a.toNat)) := intsH.fz (xs := (pathL ar ((rs.getD ((o).toNat) ([], [])).1) a.toNat)) hz2.fz
           exact ⟨⟨rfl, hf2⟩, rfl⟩
          refine stepsG.cons (fun vals Fs R leFs hpZ => ?_) ?_
          ·have e4 : vals 4 = (.agg #[arv] : Value) := hpZ 4 (by decide)
           have e6 : vals 6 = tpv := hpZ 6 (by decide)
           obtain ⟨e12, f12_2ha⟩ := hpZ 12 (by decide)
           replace har := har.mono leFs
           replace hrs := hrs.mono leFs
           replace htp := htp.mono leFs
           replace hlf := hlf.mono leFs
           replace hrt := hrt.mono leFs
           replace ha1 := ha1.mono leFs
           replace ha2 := ha2.mono leFs
           replace hr6 := hr6.mono leFs
           replace hr1 := Rd.monoA hr1 leFs
           replace hr2 := Rd.monoA hr2 leFs
           rw [(envs_of_sat (l := [(4, (.agg #[arv] : Value)), (6, tpv), (12, ((vals 12)))]) ⟨e4, e6, (e12).symm, trivial⟩).symm]
           refine XG.op (XOp.call (args := [.agg #[arv], tpv, ((vals 12))]) Tryz.call156 rfl (sPlaceOf_spec har htp f12_2ha (hlp := (by have := pathL_len ar (rs.getD o.toNat ([], [])).1 a.toNat; have := hRl (by omega); omega)) (hla := (by first | assumption | rfl | omega | (left; simp; done) | (right; simp; done))) (hlt := (by first | assumption | rfl | omega | (left; simp; done) | (right; simp; done)))) ?_)
           rintro _ _ _ _ ⟨rfl, rfl, rfl⟩
           exact ⟨rfl, rfl⟩
          refine stepsG.cons (fun vals Fs R leFs hpZ => ?_) ?_
          ·refine XG.op (XOp.fieldP (b := b2) (4) Tryz.runUnderlying74 rfl Tryz.sizeOf2 (by decide) rfl rfl ?_)
           exact ⟨rfl, rfl⟩
          refine stepsG.cons (fun vals Fs R leFs hpZ => ?_) ?_
          ·have e14 : vals 14 = ptr b2 4 := hpZ 14 (by decide)
           replace har := har.mono leFs
           replace hrs := hrs.mono leFs
           replace htp := htp.mono leFs
           replace hlf := hlf.mono leFs
           replace hrt := hrt.mono leFs
           replace ha1 := ha1.mono leFs
           replace ha2 := ha2.mono leFs
           replace hr6 := hr6.mono leFs
           replace hr1 := Rd.monoA hr1 leFs
           replace hr2 := Rd.monoA hr2 leFs
           rw [(envs_of_sat (l := [(14, ptr b2 4)]) ⟨e14, trivial⟩).symm]
           refine XG.op (XOp.load1 (v := .int .i64 (u)) Tryz.isAgg2 rfl (Rd.own [] rfl rfl) ?_)
           exact ⟨rfl, rfl⟩
          refine stepsG.cons (fun vals Fs R leFs hpZ => ?_) ?_
          ·have e0 : vals 0 = (.agg #[arv, rsv] : Value) := hpZ 0 (by decide)
           have e2 : vals 2 = tpv := hpZ 2 (by decide)
           have e13 : vals 13 = (.int .i64 (placeL ar tp ((pathL ar ((rs.getD ((o).toNat) ([], [])).1) a.toNat))) : Value) := hpZ 13 (by decide)
           have e15 : vals 15 = (.int .i64 (u) : Value) := hpZ 15 (by decide)
           replace har := har.mono leFs
           replace hrs := hrs.mono leFs
           replace htp := htp.mono leFs
           replace hlf := hlf.mono leFs
           replace hrt := hrt.mono leFs
           replace ha1 := ha1.mono leFs
           replace ha2 := ha2.mono leFs
           replace hr6 := hr6.mono leFs
           replace hr1 := Rd.monoA hr1 leFs
           replace hr2 := Rd.monoA hr2 leFs
           rw [(envs_of_sat (l := [(0, (.agg #[arv, rsv] : Value)), (2, tpv), (13, (.int .i64 (placeL ar tp ((pathL ar ((rs.getD ((o).toNat) ([], [])).1) a.toNat))) : Value)), (15, (.int .i64 (u) : Value))]) ⟨e0, e2, e13, e15, trivial⟩).symm]
           refine XG.op (XOp.call (args := [.agg #[arv, rsv], tpv, .int .i64 (placeL ar tp ((pathL ar ((rs.getD ((o).toNat) ([], [])).1) a.toNat))), .int .i64 (u)]) Tryz.call113 rfl (sStepAt_spec (p := placeL ar tp ((pathL ar ((rs.getD ((o).toNat) ([], [])).1) a.toNat))) (r := u) har hrs htp (hla := (by first | assumption | rfl | omega | (left; simp; done) | (right; simp; done))) (hlr := (by first | assumption | rfl | omega | (left; simp; done) | (right; simp; done))) (hrb := (by first | assumption | rfl | omega | (left; simp; done) | (right; simp; done))) (hlt := (by first | assumption | rfl | omega | (left; simp; done) | (right; simp; done)))) ?_)
           rintro _ F9 _ le9 ⟨x6, rfl, hr8, rfl⟩
           replace har := har.mono le9
           replace hrs := hrs.mono le9
           replace htp := htp.mono le9
           replace hlf := hlf.mono le9
           replace hrt := hrt.mono le9
           replace ha1 := ha1.mono le9
           replace ha2 := ha2.mono le9
           replace hr6 := hr6.mono le9
           replace hr1 := Rd.monoA hr1 le9
           replace hr2 := Rd.monoA hr2 le9
           exact ⟨⟨rfl, hr8⟩, rfl⟩
          refine stepsG.cons (fun vals Fs R leFs hpZ => ?_) ?_
          ·obtain ⟨e16, f16_2hr⟩ := hpZ 16 (by decide)
           rw [(envs_of_sat (l := [(16, (.tuple #[((tupAt (vals 16) 0)), .bool ((stepAtL ar rs tp (placeL ar tp ((pathL ar ((rs.getD ((o).toNat) ([], [])).1) a.toNat))) u).isSome)] : Value))]) ⟨(e16).symm, trivial⟩).symm]
           refine XG.op (XOp.move (.tuple #[((tupAt (vals 16) 0)), .bool ((stepAtL ar rs tp (placeL ar tp ((pathL ar ((rs.getD ((o).toNat) ([], [])).1) a.toNat))) u).isSome)]) rfl ?_)
           exact ⟨rfl, rfl⟩
          refine stepsG.cons (fun vals Fs R leFs hpZ => ?_) ?_
          ·obtain ⟨e16, f16_2hr⟩ := hpZ 16 (by decide)
           have e17 : vals 17 = (.tuple #[((tupAt (vals 16) 0)), .bool ((stepAtL ar rs tp (placeL ar tp ((pathL ar ((rs.getD ((o).toNat) ([], [])).1) a.toNat))) u).isSome)] : Value) := hpZ 17 (by decide)
           rw [(envs_of_sat (l := [(16, (.tuple #[((tupAt (vals 16) 0)), .bool ((stepAtL ar rs tp (placeL ar tp ((pathL ar ((rs.getD ((o).toNat) ([], [])).1) a.toNat))) u).isSome)] : Value)), (17, (.tuple #[((tupAt (vals 16) 0)), .bool ((stepAtL ar rs tp (placeL ar tp ((pathL ar ((rs.getD ((o).toNat) ([], [])).1) a.toNat))) u).isSome)] : Value))]) ⟨(e16).symm, e17, trivial⟩).symm]
           refine XG.op (XOp.extract (((tupAt (vals 16) 0))) rfl rfl ?_)
           exact ⟨rfl, rfl⟩
          refine stepsG.cons (fun vals Fs R leFs hpZ => ?_) ?_
          ·obtain ⟨e16, f16_2hr⟩ := hpZ 16 (by decide)
           have e17 : vals 17 = (.tuple #[((tupAt (vals 16) 0)), .bool ((stepAtL ar rs tp (placeL ar tp ((pathL ar ((rs.getD ((o).toNat) ([], [])).1) a.toNat))) u).isSome)] : Value) := hpZ 17 (by decide)
           rw [(envs_of_sat (l := [(16, (.tuple #[((tupAt (vals 16) 0)), .bool ((stepAtL ar rs tp (placeL ar tp ((pathL ar ((rs.getD ((o).toNat) ([], [])).1) a.toNat))) u).isSome)] : Value)), (17, (.tuple #[((tupAt (vals 16) 0)), .bool ((stepAtL ar rs tp (placeL ar tp ((pathL ar ((rs.getD ((o).toNat) ([], [])).1) a.toNat))) u).isSome)] : Value))]) ⟨(e16).symm, e17, trivial⟩).symm]
           refine XG.op (XOp.extract (.bool ((stepAtL ar rs tp (placeL ar tp ((pathL ar ((rs.getD ((o).toNat) ([], [])).1) a.toNat))) u).isSome)) rfl rfl ?_)
           exact ⟨rfl, rfl⟩
          refine stepsG.cons (fun vals Fs R leFs hpZ => ?_) ?_
          ·obtain ⟨e16, f16_2hr⟩ := hpZ 16 (by decide)
           have e18 : vals 18 = ((tupAt (vals 16) 0)) := hpZ 18 (by decide)
           rw [(envs_of_sat (l := [(16, (.tuple #[((tupAt (vals 16) 0)), .bool ((stepAtL ar rs tp (placeL ar tp ((pathL ar ((rs.getD ((o).toNat) ([], [])).1) a.toNat))) u).isSome)] : Value)), (18, ((tupAt (vals 16) 0)))]) ⟨(e16).symm, e18, trivial⟩).symm]
           refine XG.op (XOp.assign (((tupAt (vals 16) 0))) rfl ?_)
           exact ⟨rfl, rfl⟩
          exact stepsG.nil
         ·intro vals F10 le10 hphi
          have e0 : vals 0 = (.agg #[arv, rsv] : Value) := hphi 0 (by decide)
          have e1 : vals 1 = ptr b2 0 := hphi 1 (by decide)
          have e2 : vals 2 = tpv := hphi 2 (by decide)
          have e3 : vals 3 = ptr b1 0 := hphi 3 (by decide)
          have e4 : vals 4 = (.agg #[arv] : Value) := hphi 4 (by decide)
          have e5 : vals 5 = ptr b2 0 := hphi 5 (by decide)
          have e6 : vals 6 = tpv := hphi 6 (by decide)
          have e7 : vals 7 = ptr b1 0 := hphi 7 (by decide)
          have e8 : vals 8 = (.agg #[arv] : Value) := hphi 8 (by decide)
          have e9 : vals 9 = a1 := hphi 9 (by decide)
          have e10 : vals 10 = ptr b2 3 := hphi 10 (by decide)
          have e11 : vals 11 = (.int .i64 (a) : Value) := hphi 11 (by decide)
          obtain ⟨e12, f12_2ha⟩ := hphi 12 (by decide)
          have e13 : vals 13 = (.int .i64 (placeL ar tp ((pathL ar ((rs.getD ((o).toNat) ([], [])).1) a.toNat))) : Value) := hphi 13 (by decide)
          have e14 : vals 14 = ptr b2 4 := hphi 14 (by decide)
          have e15 : vals 15 = (.int .i64 (u) : Value) := hphi 15 (by decide)
          obtain ⟨e16, f16_2hr⟩ := hphi 16 (by decide)
          have e17 : vals 17 = (.tuple #[((tupAt (vals 16) 0)), .bool ((stepAtL ar rs tp (placeL ar tp ((pathL ar ((rs.getD ((o).toNat) ([], [])).1) a.toNat))) u).isSome)] : Value) := hphi 17 (by decide)
          have e18 : vals 18 = ((tupAt (vals 16) 0)) := hphi 18 (by decide)
          have e19 : vals 19 = (.bool ((stepAtL ar rs tp (placeL ar tp ((pathL ar ((rs.getD ((o).toNat) ([], [])).1) a.toNat))) u).isSome) : Value) := hphi 19 (by decide)
          have e20 : vals 20 = ((tupAt (vals 16) 0)) := hphi 20 (by decide)
          generalize hu3 : ((vals 12)) = u3 at e0 e1 e2 e3 e4 e5 e6 e7 e8 e9 e10 e11 e12 f12_2ha e13 e14 e15 e16 f16_2hr e17 e18 e19 e20
          generalize hu4 : ((tupAt (vals 16) 0)) = u4 at e0 e1 e2 e3 e4 e5 e6 e7 e8 e9 e10 e11 e12 f12_2ha e13 e14 e15 e16 f16_2hr e17 e18 e19 e20
          rw [(envs_of_sat (l := [(0, (.agg #[arv, rsv] : Value)), (1, ptr b2 0), (2, tpv), (3, ptr b1 0), (4, (.agg #[arv] : Value)), (5, ptr b2 0), (6, tpv), (7, ptr b1 0), (8, (.agg #[arv] : Value)), (9, a1), (10, ptr b2 3), (11, (.int .i64 (a) : Value)), (12, u3), (13, (.int .i64 (placeL ar tp ((pathL ar ((rs.getD ((o).toNat) ([], [])).1) a.toNat))) : Value)), (14, ptr b2 4), (15, (.int .i64 (u) : Value)), (16, (.tuple #[u4, .bool ((stepAtL ar rs tp (placeL ar tp ((pathL ar ((rs.getD ((o).toNat) ([], [])).1) a.toNat))) u).isSome)] : Value)), (17, (.tuple #[u4, .bool ((stepAtL ar rs tp (placeL ar tp ((pathL ar ((rs.getD ((o).toNat) ([], [])).1) a.toNat))) u).isSome)] : Value)), (18, u4), (19, (.bool ((stepAtL ar rs tp (placeL ar tp ((pathL ar ((rs.getD ((o).toNat) ([], [])).1) a.toNat))) u).isSome) : Value)), (20, u4)]) ⟨e0, e1, e2, e3, e4, e5, e6, e7, e8, e9, e10, e11, hu3, e13, e14, e15, (e16).symm, e17, e18, e19, e20, trivial⟩).symm]
          replace har := har.mono le10
          replace hrs := hrs.mono le10
          replace htp := htp.mono le10
          replace hlf := hlf.mono le10
          replace hrt := hrt.mono le10
          replace ha1 := ha1.mono le10
          replace ha2 := ha2.mono le10
          replace hr6 := hr6.mono le10
          replace hr1 := Rd.monoA hr1 le10
          replace hr2 := Rd.monoA hr2 le10
          show XL _ _ _ _ _ _ _ (cellsH b2 [tpv, lfv, rtv, .int .i64 (a), .int .i64 (u), .int .i64 (o)] 74 :: cellsH b1 [arv, rsv] 39 :: L)
          refine XL.cons (XOp.assign (.bool ((stepAtL ar rs tp (placeL ar tp ((pathL ar ((rs.getD ((o).toNat) ([], [])).1) a.toNat))) u).isSome)) rfl ?_)
          refine XL.nil ?_
          refine X.seq ?_
          refine X.region ?_
          refine XL.cons (XOp.move (.bool ((stepAtL ar rs tp (placeL ar tp ((pathL ar ((rs.getD ((o).toNat) ([], [])).1) a.toNat))) u).isSome)) rfl ?_)
          refine XL.cons (XOp.move (.bool ((stepAtL ar rs tp (placeL ar tp ((pathL ar ((rs.getD ((o).toNat) ([], [])).1) a.toNat))) u).isSome)) rfl ?_)
          by_cases h13 : ((stepAtL ar rs tp (placeL ar tp ((pathL ar ((rs.getD ((o).toNat) ([], [])).1) a.toNat))) u).isSome) = true
          ·refine XL.yes (t := 100) rfl (congrArg Value.bool h13) (XOp.move (u4) rfl ?_)
           refine XL.yes (t := 100) rfl (congrArg Value.bool h13) (XOp.fieldP (b := b2) (1) Tryz.runUnderlying74 rfl Tryz.sizeOf22 (by decide) rfl rfl ?_)
           refine XL.yes (t := 100) rfl (congrArg Value.bool h13) (XOp.load1 (v := lfv) Tryz.isAgg22 rfl (Rd.own [] rfl rfl) ?_)
           refine XL.yes (t := 100) rfl (congrArg Value.bool h13) (XOp.call (args := [u4, lfv]) Tryz.call98 rfl (SameTerm_spec f16_2hr hlf (hbd := (by first | assumption | rfl | omega | (left; simp; done) | (right; simp; done)))) ?_)
           rintro _ _ _ _ ⟨rfl, rfl, rfl⟩
           refine XL.cons (XOp.pickT (.bool (decide (((stepAtL ar rs tp (placeL ar tp ((pathL ar ((rs.getD ((o).toNat) ([], [])).1) a.toNat))) u).getD []) = lf))) (congrArg Value.bool h13) rfl ?_)
           refine XL.cons (XOp.assign (.bool (decide (((stepAtL ar rs tp (placeL ar tp ((pathL ar ((rs.getD ((o).toNat) ([], [])).1) a.toNat))) u).getD []) = lf))) rfl ?_)
           refine XL.nil ?_
           refine X.ret (retEnd (L' := L) [.bool (decide (((stepAtL ar rs tp (placeL ar tp ((pathL ar ((rs.getD ((o).toNat) ([], [])).1) a.toNat))) u).getD []) = lf))] (.bool (decide (((stepAtL ar rs tp (placeL ar tp ((pathL ar ((rs.getD ((o).toNat) ([], [])).1) a.toNat))) u).getD []) = lf))) (.tmp rfl .nil) rfl (FLe.refl _) (FLe.trans le6 le10) (Sub.drop (Sub.drop (Sub.refl _))) ?_)
           exact ⟨(congrArg Value.bool (by rw [Bool.eq_iff_iff, peakL_iff, decide_eq_true_eq]; exact ⟨fun h => (getD_some (by assumption)).1 h.2.2.2, fun h => ⟨hsys, peakArgs_iff.2 (by omega), (getD_some hst1).2 hst2, (getD_some (by assumption)).2 h⟩⟩)), rfl, rfl⟩
          ·rw [Bool.not_eq_true] at h13
           refine XL.no (t := 100) rfl (congrArg Value.bool h13) ?_
           refine XL.no (t := 100) rfl (congrArg Value.bool h13) ?_
           refine XL.no (t := 100) rfl (congrArg Value.bool h13) ?_
           refine XL.no (t := 100) rfl (congrArg Value.bool h13) ?_
           refine XL.cons (XOp.pickF (.bool (false)) (congrArg Value.bool h13) rfl ?_)
           refine XL.cons (XOp.assign (.bool (false)) rfl ?_)
           refine XL.nil ?_
           refine X.ret (retEnd (L' := L) [.bool (false)] (.bool (false)) (.tmp rfl .nil) rfl (FLe.refl _) (FLe.trans le6 le10) (Sub.drop (Sub.drop (Sub.refl _))) ?_)
           exact ⟨(congrArg Value.bool (peakL_no (fun h => opt_no1 (by assumption) h.2.2.2))), rfl, rfl⟩

/- laws.toPeak -/
theorem toPeak_spec {F : FH} {L : List HP} {tpv : Value} {tp : List Int} (htp : IntsF F tpv tp) {lfv : Value} {lf : List Int} (hlf : IntsF F lfv lf) {rtv : Value} {rt : List Int} (hrt : IntsF F rtv rt) {a : Int} {u : Int} {o : Int} (htl : tp.length ≤ 4000000) (hll : lf.length ≤ 4000000) (hrl : rt.length ≤ 4000000) :
    Does Tryz.prog 31 [.agg #[tpv, lfv, rtv, .int .i64 (a), .int .i64 (u), .int .i64 (o)]] F (L) (fun v F' L' => ∃ (x : Value), ∃ (y : Value), ∃ (w : Value), (.agg #[x, y, w, .int .i64 (a), .int .i64 (u), .int .i64 (o)] : Value) = v ∧ (IntsF F' x tp) ∧ (IntsF F' y lf) ∧ (IntsF F' w rt) ∧ (Fresh F F' (star [intsH 2 x tp, intsH 2 y lf, intsH 2 w rt])) ∧ L = L') := by
 refine Does.of_X Tryz.func31 rfl rfl rfl ?_
 refine X.seq ?_
 refine X.region ?_
 refine XL.cons (XOp.box [tpv, lfv, rtv, .int .i64 (a), .int .i64 (u), .int .i64 (o)] rfl rfl ?_)
 intro b1
 refine XL.cons (XOp.alloc [(.slice none 0 0), (.slice none 0 0), (.slice none 0 0), .int .i64 (0), .int .i64 (0), .int .i64 (0)] Tryz.zeroValue74 rfl ?_)
 intro b2
 refine XL.nil ?_
 refine X.seq ?_
 refine X.region ?_
 refine XL.cons (XOp.alloc [(.slice none 0 0), (.slice none 0 0), (.slice none 0 0), .int .i64 (0), .int .i64 (0), .int .i64 (0)] Tryz.zeroValue74 rfl ?_)
 intro b3
 refine XL.nil ?_
 refine X.seq ?_
 refine X.region ?_
 refine XL.cons (XOp.fieldP (b := b1) (0) Tryz.runUnderlying68 rfl Tryz.sizeOf22 (by decide) rfl rfl ?_)
 refine XL.cons (XOp.load1 (v := tpv) Tryz.isAgg22 rfl (Rd.own [_, _] rfl rfl) ?_)
 refine XL.cons (XOp.frzF <| XOp.call (args := [tpv]) Tryz.call21 rfl (toInt64S_spec htp (hlx := (by first | assumption | rfl | omega | (left; simp; done) | (right; simp; done)))) ?_)
 rintro v1 _ _ _ ⟨rfl, hs1, rfl⟩
 refine ⟨_, _, rfl, fun F1 le1 hz1 => ?_⟩
 replace htp := htp.mono le1
 replace hlf := hlf.mono le1
 replace hrt := hrt.mono le1
 have hf1 : IntsF F1 v1 ((tp)) := intsH.fz (xs := (tp)) hz1.fz
 refine XL.cons (XOp.fieldP (b := b3) (0) Tryz.runUnderlying74 rfl Tryz.sizeOf22 (by decide) rfl rfl ?_)
 refine XL.cons (XOp.store1 (v := v1) [] _ [v1, (.slice none 0 0), (.slice none 0 0), .int .i64 (0), .int .i64 (0), .int .i64 (0)] Tryz.sizeOf22 rfl rfl (one_sl (IntsF.isSl hf1)) rfl rfl rfl ?_)
 refine XL.nil ?_
 refine X.seq ?_
 refine X.region ?_
 refine XL.cons (XOp.fieldP (b := b1) (1) Tryz.runUnderlying68 rfl Tryz.sizeOf22 (by decide) rfl rfl ?_)
 refine XL.cons (XOp.load1 (v := lfv) Tryz.isAgg22 rfl (Rd.own [_, _] rfl rfl) ?_)
 refine XL.cons (XOp.frzF <| XOp.call (args := [lfv]) Tryz.call21 rfl (toInt64S_spec hlf (hlx := (by first | assumption | rfl | omega | (left; simp; done) | (right; simp; done)))) ?_)
 rintro v2 _ _ _ ⟨rfl, hs2, rfl⟩
 refine ⟨_, _, rfl, fun F2 le2 hz2 => ?_⟩
 replace htp := htp.mono le2
 replace hlf := hlf.mono le2
 replace hrt := hrt.mono le2
 replace hf1 := hf1.mono le2
 have hf2 : IntsF F2 v2 ((lf)) := intsH.fz (xs := (lf)) hz2.fz
 refine XL.cons (XOp.fieldP (b := b3) (1) Tryz.runUnderlying74 rfl Tryz.sizeOf22 (by decide) rfl rfl ?_)
 refine XL.cons (XOp.store1 (v := v2) [] _ [v1, v2, (.slice none 0 0), .int .i64 (0), .int .i64 (0), .int .i64 (0)] Tryz.sizeOf22 rfl rfl (one_sl (IntsF.isSl hf2)) rfl rfl rfl ?_)
 refine XL.nil ?_
 refine X.seq ?_
 refine X.region ?_
 refine XL.cons (XOp.fieldP (b := b1) (2) Tryz.runUnderlying68 rfl Tryz.sizeOf22 (by decide) rfl rfl ?_)
 refine XL.cons (XOp.load1 (v := rtv) Tryz.isAgg22 rfl (Rd.own [_, _] rfl rfl) ?_)
 refine XL.cons (XOp.frzF <| XOp.call (args := [rtv]) Tryz.call21 rfl (toInt64S_spec hrt (hlx := (by first | assumption | rfl | omega | (left; simp; done) | (right; simp; done)))) ?_)
 rintro v3 _ _ _ ⟨rfl, hs3, rfl⟩
 refine ⟨_, _, rfl, fun F3 le3 hz3 => ?_⟩
 replace htp := htp.mono le3
 replace hlf := hlf.mono le3
 replace hrt := hrt.mono le3
 replace hf1 := hf1.mono le3
 replace hf2 := hf2.mono le3
 have hf3 : IntsF F3 v3 ((rt)) := intsH.fz (xs := (rt)) hz3.fz
 refine XL.cons (XOp.fieldP (b := b3) (2) Tryz.runUnderlying74 rfl Tryz.sizeOf22 (by decide) rfl rfl ?_)
 refine XL.cons (XOp.store1 (v := v3) [] _ [v1, v2, v3, .int .i64 (0), .int .i64 (0), .int .i64 (0)] Tryz.sizeOf22 rfl rfl (one_sl (IntsF.isSl hf3)) rfl rfl rfl ?_)
 refine XL.nil ?_
 refine X.seq ?_
 refine X.region ?_
 refine XL.cons (XOp.fieldP (b := b1) (3) Tryz.runUnderlying68 rfl Tryz.sizeOf2 (by decide) rfl rfl ?_)
 refine XL.cons (XOp.load1 (v := .int .i64 (a)) Tryz.isAgg2 rfl (Rd.own [_, _] rfl rfl) ?_)
 refine XL.cons (XOp.fieldP (b := b3) (3) Tryz.runUnderlying74 rfl Tryz.sizeOf2 (by decide) rfl rfl ?_)
 refine XL.cons (XOp.store1 (v := .int .i64 (a)) [] _ [v1, v2, v3, .int .i64 (a), .int .i64 (0), .int .i64 (0)] Tryz.sizeOf2 rfl rfl rfl rfl rfl rfl ?_)
 refine XL.nil ?_
 refine X.seq ?_
 refine X.region ?_
 refine XL.cons (XOp.fieldP (b := b1) (4) Tryz.runUnderlying68 rfl Tryz.sizeOf2 (by decide) rfl rfl ?_)
 refine XL.cons (XOp.load1 (v := .int .i64 (u)) Tryz.isAgg2 rfl (Rd.own [_, _] rfl rfl) ?_)
 refine XL.cons (XOp.fieldP (b := b3) (4) Tryz.runUnderlying74 rfl Tryz.sizeOf2 (by decide) rfl rfl ?_)
 refine XL.cons (XOp.store1 (v := .int .i64 (u)) [] _ [v1, v2, v3, .int .i64 (a), .int .i64 (u), .int .i64 (0)] Tryz.sizeOf2 rfl rfl rfl rfl rfl rfl ?_)
 refine XL.nil ?_
 refine X.seq ?_
 refine X.region ?_
 refine XL.cons (XOp.fieldP (b := b1) (5) Tryz.runUnderlying68 rfl Tryz.sizeOf2 (by decide) rfl rfl ?_)
 refine XL.cons (XOp.load1 (v := .int .i64 (o)) Tryz.isAgg2 rfl (Rd.own [_, _] rfl rfl) ?_)
 refine XL.cons (XOp.fieldP (b := b3) (5) Tryz.runUnderlying74 rfl Tryz.sizeOf2 (by decide) rfl rfl ?_)
 refine XL.cons (XOp.store1 (v := .int .i64 (o)) [] _ [v1, v2, v3, .int .i64 (a), .int .i64 (u), .int .i64 (o)] Tryz.sizeOf2 rfl rfl rfl rfl rfl rfl ?_)
 refine XL.nil ?_
 refine X.seq ?_
 refine X.region ?_
 refine XL.cons (XOp.loadN [v1, v2, v3, .int .i64 (a), .int .i64 (u), .int .i64 (o)] Tryz.isAgg74 Tryz.sizeOf74 rfl rfl (Rd.ownN [] rfl rfl) ?_)
 refine XL.cons (XOp.storeN (vs := [v1, v2, v3, .int .i64 (a), .int .i64 (u), .int .i64 (o)]) [_] _ [v1, v2, v3, .int .i64 (a), .int .i64 (u), .int .i64 (o)] Tryz.sizeOf74 rfl rfl rfl (ones_cons (one_sl (IntsF.isSl hf1)) (ones_cons (one_sl (IntsF.isSl hf2)) (ones_cons (one_sl (IntsF.isSl hf3)) (ones_cons rfl (ones_cons rfl (ones_cons rfl ones_nil)))))) rfl rfl rfl ?_)
 refine XL.nil ?_
 refine X.ret (retEnd (L' := L) [.agg #[v1, v2, v3, .int .i64 (a), .int .i64 (u), .int .i64 (o)]] (.agg #[v1, v2, v3, .int .i64 (a), .int .i64 (u), .int .i64 (o)]) (.cell rfl (loadNV [v1, v2, v3, .int .i64 (a), .int .i64 (u), .int .i64 (o)] Tryz.isAgg74 Tryz.sizeOf74 rfl (Rd.ownN [_] rfl rfl)) .nil) rfl (FLe.trans (FLe.trans le1 le2) le3) (FLe.refl _) (Sub.drop (Sub.drop (Sub.drop (Sub.refl _)))) ?_)
 exact ⟨_, _, _, rfl, hf1, hf2, hf3, (Fresh.app (Fresh.app (Fresh.one hz1) le1 (Fresh.one hz2) le2) (FLe.trans le1 le2) (Fresh.one hz3) le3), rfl⟩

/- laws.szPeak -/
theorem szPeak_spec {F : FH} {L : List HP} {tpv : Value} {tp : List Int} (htp : IntsF F tpv tp) {lfv : Value} {lf : List Int} (hlf : IntsF F lfv lf) {rtv : Value} {rt : List Int} (hrt : IntsF F rtv rt) {a : Int} {u : Int} {o : Int} {z : Int} (hz : 0 ≤ z ∧ z ≤ 4000000) (htl : tp.length ≤ 9223372036854775807) (hll : lf.length ≤ 9223372036854775807) (hrl : rt.length ≤ 9223372036854775807) :
    Does Tryz.prog 28 [.agg #[tpv, lfv, rtv, .int .i64 (a), .int .i64 (u), .int .i64 (o)], .int .i64 (z)] F (L) (fun v F' L' => (.int .i64 (dec z ((tp.length + lf.length) + rt.length)) : Value) = v ∧ F = F' ∧ L = L') := by
 refine Does.of_X Tryz.func28 rfl rfl rfl ?_
 have hdr := dec_range z tp.length
 have hdr2 := dec_range (dec z tp.length) lf.length
 refine X.seq ?_
 refine X.region ?_
 refine XL.cons (XOp.box [tpv, lfv, rtv, .int .i64 (a), .int .i64 (u), .int .i64 (o)] rfl rfl ?_)
 intro b1
 refine XL.cons (XOp.assign (.int .i64 (0)) rfl ?_)
 refine XL.nil ?_
 refine X.seq ?_
 refine X.region ?_
 refine XL.cons (XOp.fieldP (b := b1) (0) Tryz.runUnderlying68 rfl Tryz.sizeOf22 (by decide) rfl rfl ?_)
 refine XL.cons (XOp.load1 (v := tpv) Tryz.isAgg22 rfl (Rd.own [] rfl rfl) ?_)
 refine XL.cons (XOp.move (.int .i64 (z)) rfl ?_)
 refine XL.cons (XOp.call (args := [tpv, .int .i64 (z)]) Tryz.call49 rfl (szInt64S_spec (z := z) htp (hz := (by first | assumption | rfl | omega | (left; simp; done) | (right; simp; done))) (hlx := (by first | assumption | rfl | omega | (left; simp; done) | (right; simp; done)))) ?_)
 rintro _ _ _ _ ⟨rfl, rfl, rfl⟩
 refine XL.cons (XOp.assign (.int .i64 (dec z tp.length)) rfl ?_)
 refine XL.nil ?_
 refine X.seq ?_
 refine X.seq ?_
 refine X.region ?_
 refine XL.cons (XOp.move (.int .i64 (dec z tp.length)) rfl ?_)
 refine XL.cons (XOp.lss (a := dec z tp.length) (b := 0) rfl rfl ?_)
 refine XL.nil ?_
 refine X.condD (p := (dec z tp.length : Int) < 0) rfl (fun h1 => ?_) (fun h1 => ?_)
 ·refine X.seq ?_
  refine X.region ?_
  refine XL.cons (XOp.assign (.int .i64 (-1)) rfl ?_)
  refine XL.nil ?_
  refine X.ret (thenQ_ret (retEnd (L' := L) [.int .i64 (-1)] (.int .i64 (-1)) (.tmp rfl .nil) rfl (FLe.refl _) (FLe.refl _) (Sub.drop (Sub.refl _)) ?_))
  exact ⟨(congrArg (Value.int .i64) (by unfold dec at *; (repeat' split) <;> omega)), rfl, rfl⟩
 ·refine X.skip ?_
  refine X.seq ?_
  refine X.region ?_
  refine XL.cons (XOp.fieldP (b := b1) (1) Tryz.runUnderlying68 rfl Tryz.sizeOf22 (by decide) rfl rfl ?_)
  refine XL.cons (XOp.load1 (v := lfv) Tryz.isAgg22 rfl (Rd.own [] rfl rfl) ?_)
  refine XL.cons (XOp.move (.int .i64 (dec z tp.length)) rfl ?_)
  refine XL.cons (XOp.call (args := [lfv, .int .i64 (dec z tp.length)]) Tryz.call49 rfl (szInt64S_spec (z := dec z tp.length) hlf (hz := (by first | assumption | rfl | omega | (left; simp; done) | (right; simp; done))) (hlx := (by first | assumption | rfl | omega | (left; simp; done) | (right; simp; done)))) ?_)
  rintro _ _ _ _ ⟨rfl, rfl, rfl⟩
  refine XL.cons (XOp.assign (.int .i64 (dec (dec z tp.length) lf.length)) rfl ?_)
  refine XL.nil ?_
  refine X.seq ?_
  refine X.seq ?_
  refine X.region ?_
  refine XL.cons (XOp.move (.int .i64 (dec (dec z tp.length) lf.length)) rfl ?_)
  refine XL.cons (XOp.lss (a := dec (dec z tp.length) lf.length) (b := 0) rfl rfl ?_)
  refine XL.nil ?_
  refine X.condD (p := (dec (dec z tp.length) lf.length : Int) < 0) rfl (fun h2 => ?_) (fun h2 => ?_)
  ·refine X.seq ?_
   refine X.region ?_
   refine XL.cons (XOp.assign (.int .i64 (-1)) rfl ?_)
   refine XL.nil ?_
   refine X.ret (thenQ_ret (retEnd (L' := L) [.int .i64 (-1)] (.int .i64 (-1)) (.tmp rfl .nil) rfl (FLe.refl _) (FLe.refl _) (Sub.drop (Sub.refl _)) ?_))
   exact ⟨(congrArg (Value.int .i64) (by unfold dec at *; (repeat' split) <;> omega)), rfl, rfl⟩
  ·refine X.skip ?_
   refine X.seq ?_
   refine X.region ?_
   refine XL.cons (XOp.fieldP (b := b1) (2) Tryz.runUnderlying68 rfl Tryz.sizeOf22 (by decide) rfl rfl ?_)
   refine XL.cons (XOp.load1 (v := rtv) Tryz.isAgg22 rfl (Rd.own [] rfl rfl) ?_)
   refine XL.cons (XOp.move (.int .i64 (dec (dec z tp.length) lf.length)) rfl ?_)
   refine XL.cons (XOp.call (args := [rtv, .int .i64 (dec (dec z tp.length) lf.length)]) Tryz.call49 rfl (szInt64S_spec (z := dec (dec z tp.length) lf.length) hrt (hz := (by first | assumption | rfl | omega | (left; simp; done) | (right; simp; done))) (hlx := (by first | assumption | rfl | omega | (left; simp; done) | (right; simp; done)))) ?_)
   rintro _ _ _ _ ⟨rfl, rfl, rfl⟩
   refine XL.cons (XOp.assign (.int .i64 (dec (dec (dec z tp.length) lf.length) rt.length)) rfl ?_)
   refine XL.nil ?_
   refine X.seq ?_
   refine X.seq ?_
   refine X.region ?_
   refine XL.cons (XOp.move (.int .i64 (dec (dec (dec z tp.length) lf.length) rt.length)) rfl ?_)
   refine XL.cons (XOp.lss (a := dec (dec (dec z tp.length) lf.length) rt.length) (b := 0) rfl rfl ?_)
   refine XL.nil ?_
   refine X.condD (p := (dec (dec (dec z tp.length) lf.length) rt.length : Int) < 0) rfl (fun h3 => ?_) (fun h3 => ?_)
   ·refine X.seq ?_
    refine X.region ?_
    refine XL.cons (XOp.assign (.int .i64 (-1)) rfl ?_)
    refine XL.nil ?_
    refine X.ret (thenQ_ret (retEnd (L' := L) [.int .i64 (-1)] (.int .i64 (-1)) (.tmp rfl .nil) rfl (FLe.refl _) (FLe.refl _) (Sub.drop (Sub.refl _)) ?_))
    exact ⟨(congrArg (Value.int .i64) (by unfold dec at *; (repeat' split) <;> omega)), rfl, rfl⟩
   ·refine X.skip ?_
    refine X.seq ?_
    refine X.region ?_
    refine XL.cons (XOp.move (.int .i64 (dec (dec (dec z tp.length) lf.length) rt.length)) rfl ?_)
    refine XL.cons (XOp.assign (.int .i64 (dec (dec (dec z tp.length) lf.length) rt.length)) rfl ?_)
    refine XL.nil ?_
    refine X.ret (retEnd (L' := L) [.int .i64 (dec (dec (dec z tp.length) lf.length) rt.length)] (.int .i64 (dec (dec (dec z tp.length) lf.length) rt.length)) (.tmp rfl .nil) rfl (FLe.refl _) (FLe.refl _) (Sub.drop (Sub.refl _)) ?_)
    exact ⟨(congrArg (Value.int .i64) (by unfold dec at *; (repeat' split) <;> omega)), rfl, rfl⟩

/- laws.eqPeak -/
theorem eqPeak_spec {F : FH} {L : List HP} {tpv : Value} {tp : List Int} (htp : IntsF F tpv tp) {lfv : Value} {lf : List Int} (hlf : IntsF F lfv lf) {rtv : Value} {rt : List Int} (hrt : IntsF F rtv rt) {a : Int} {u : Int} {o : Int} {tqv : Value} {tq : List Int} (htq : IntsF F tqv tq) {lgv : Value} {lg : List Int} (hlg : IntsF F lgv lg) {ruv : Value} {ru : List Int} (hru : IntsF F ruv ru) {a9 : Int} {u9 : Int} {o9 : Int} (htl : tp.length ≤ 9223372036854775807) (hll : lf.length ≤ 9223372036854775807) (hrl : rt.length ≤ 9223372036854775807) :
    Does Tryz.prog 34 [.agg #[tpv, lfv, rtv, .int .i64 (a), .int .i64 (u), .int .i64 (o)], .agg #[tqv, lgv, ruv, .int .i64 (a9), .int .i64 (u9), .int .i64 (o9)]] F (L) (fun v F' L' => (.bool (decide (((tp = tq ∧ lf = lg) ∧ rt = ru) ∧ (a = a9 ∧ u = u9 ∧ o = o9))) : Value) = v ∧ F = F' ∧ L = L') := by
 refine Does.of_X Tryz.func34 rfl rfl rfl ?_
 refine X.seq ?_
 refine X.region ?_
 refine XL.cons (XOp.box [tpv, lfv, rtv, .int .i64 (a), .int .i64 (u), .int .i64 (o)] rfl rfl ?_)
 intro b1
 refine XL.cons (XOp.box [tqv, lgv, ruv, .int .i64 (a9), .int .i64 (u9), .int .i64 (o9)] rfl rfl ?_)
 intro b2
 refine XL.cons (XOp.assign (.bool (false)) rfl ?_)
 refine XL.nil ?_
 refine X.seq ?_
 refine X.seq ?_
 refine X.region ?_
 refine XL.cons (XOp.fieldP (b := b1) (0) Tryz.runUnderlying74 rfl Tryz.sizeOf22 (by decide) rfl rfl ?_)
 refine XL.cons (XOp.load1 (v := tpv) Tryz.isAgg22 rfl (Rd.own [_] rfl rfl) ?_)
 refine XL.cons (XOp.fieldP (b := b2) (0) Tryz.runUnderlying74 rfl Tryz.sizeOf22 (by decide) rfl rfl ?_)
 refine XL.cons (XOp.load1 (v := tqv) Tryz.isAgg22 rfl (Rd.own [] rfl rfl) ?_)
 refine XL.cons (XOp.call (args := [tpv, tqv]) Tryz.call23 rfl (eqInt64S_spec htp htq (hbd := (by first | assumption | rfl | omega | (left; simp; done) | (right; simp; done)))) ?_)
 rintro _ _ _ _ ⟨rfl, rfl, rfl⟩
 refine XL.cons (XOp.notD (p := tp = tq) rfl ?_)
 refine XL.nil ?_
 refine X.condD (p := ¬(tp = tq)) rfl (fun h1 => ?_) (fun h1 => ?_)
 ·refine X.seq ?_
  refine X.region ?_
  refine XL.cons (XOp.assign (.bool (false)) rfl ?_)
  refine XL.nil ?_
  refine X.ret (thenQ_ret (retEnd (L' := L) [.bool (false)] (.bool (false)) (.tmp rfl .nil) rfl (FLe.refl _) (FLe.refl _) (Sub.drop (Sub.drop (Sub.refl _))) ?_))
  exact ⟨(congrArg Value.bool (decide_eq_false (by intro e; simp_all))), rfl, rfl⟩
 ·refine X.skip ?_
  refine X.seq ?_
  refine X.seq ?_
  refine X.region ?_
  refine XL.cons (XOp.fieldP (b := b1) (1) Tryz.runUnderlying74 rfl Tryz.sizeOf22 (by decide) rfl rfl ?_)
  refine XL.cons (XOp.load1 (v := lfv) Tryz.isAgg22 rfl (Rd.own [_] rfl rfl) ?_)
  refine XL.cons (XOp.fieldP (b := b2) (1) Tryz.runUnderlying74 rfl Tryz.sizeOf22 (by decide) rfl rfl ?_)
  refine XL.cons (XOp.load1 (v := lgv) Tryz.isAgg22 rfl (Rd.own [] rfl rfl) ?_)
  refine XL.cons (XOp.call (args := [lfv, lgv]) Tryz.call23 rfl (eqInt64S_spec hlf hlg (hbd := (by first | assumption | rfl | omega | (left; simp; done) | (right; simp; done)))) ?_)
  rintro _ _ _ _ ⟨rfl, rfl, rfl⟩
  refine XL.cons (XOp.notD (p := lf = lg) rfl ?_)
  refine XL.nil ?_
  refine X.condD (p := ¬(lf = lg)) rfl (fun h2 => ?_) (fun h2 => ?_)
  ·refine X.seq ?_
   refine X.region ?_
   refine XL.cons (XOp.assign (.bool (false)) rfl ?_)
   refine XL.nil ?_
   refine X.ret (thenQ_ret (retEnd (L' := L) [.bool (false)] (.bool (false)) (.tmp rfl .nil) rfl (FLe.refl _) (FLe.refl _) (Sub.drop (Sub.drop (Sub.refl _))) ?_))
   exact ⟨(congrArg Value.bool (decide_eq_false (by intro e; simp_all))), rfl, rfl⟩
  ·refine X.skip ?_
   refine X.seq ?_
   refine X.seq ?_
   refine X.region ?_
   refine XL.cons (XOp.fieldP (b := b1) (2) Tryz.runUnderlying74 rfl Tryz.sizeOf22 (by decide) rfl rfl ?_)
   refine XL.cons (XOp.load1 (v := rtv) Tryz.isAgg22 rfl (Rd.own [_] rfl rfl) ?_)
   refine XL.cons (XOp.fieldP (b := b2) (2) Tryz.runUnderlying74 rfl Tryz.sizeOf22 (by decide) rfl rfl ?_)
   refine XL.cons (XOp.load1 (v := ruv) Tryz.isAgg22 rfl (Rd.own [] rfl rfl) ?_)
   refine XL.cons (XOp.call (args := [rtv, ruv]) Tryz.call23 rfl (eqInt64S_spec hrt hru (hbd := (by first | assumption | rfl | omega | (left; simp; done) | (right; simp; done)))) ?_)
   rintro _ _ _ _ ⟨rfl, rfl, rfl⟩
   refine XL.cons (XOp.notD (p := rt = ru) rfl ?_)
   refine XL.nil ?_
   refine X.condD (p := ¬(rt = ru)) rfl (fun h3 => ?_) (fun h3 => ?_)
   ·refine X.seq ?_
    refine X.region ?_
    refine XL.cons (XOp.assign (.bool (false)) rfl ?_)
    refine XL.nil ?_
    refine X.ret (thenQ_ret (retEnd (L' := L) [.bool (false)] (.bool (false)) (.tmp rfl .nil) rfl (FLe.refl _) (FLe.refl _) (Sub.drop (Sub.drop (Sub.refl _))) ?_))
    exact ⟨(congrArg Value.bool (decide_eq_false (by intro e; simp_all))), rfl, rfl⟩
   ·refine X.skip ?_
    refine X.seq ?_
    refine X.seq ?_
    refine X.region ?_
    refine XL.cons (XOp.fieldP (b := b1) (3) Tryz.runUnderlying74 rfl Tryz.sizeOf2 (by decide) rfl rfl ?_)
    refine XL.cons (XOp.load1 (v := .int .i64 (a)) Tryz.isAgg2 rfl (Rd.own [_] rfl rfl) ?_)
    refine XL.cons (XOp.fieldP (b := b2) (3) Tryz.runUnderlying74 rfl Tryz.sizeOf2 (by decide) rfl rfl ?_)
    refine XL.cons (XOp.load1 (v := .int .i64 (a9)) Tryz.isAgg2 rfl (Rd.own [] rfl rfl) ?_)
    refine XL.cons (XOp.neq (a := a) (b := a9) rfl rfl ?_)
    refine XL.nil ?_
    refine X.condD (p := (a : Int) ≠ a9) rfl (fun h4 => ?_) (fun h4 => ?_)
    ·refine X.seq ?_
     refine X.region ?_
     refine XL.cons (XOp.assign (.bool (false)) rfl ?_)
     refine XL.nil ?_
     refine X.ret (thenQ_ret (retEnd (L' := L) [.bool (false)] (.bool (false)) (.tmp rfl .nil) rfl (FLe.refl _) (FLe.refl _) (Sub.drop (Sub.drop (Sub.refl _))) ?_))
     exact ⟨(congrArg Value.bool (decide_eq_false (by intro e; simp_all))), rfl, rfl⟩
    ·refine X.skip ?_
     refine X.seq ?_
     refine X.seq ?_
     refine X.region ?_
     refine XL.cons (XOp.fieldP (b := b1) (4) Tryz.runUnderlying74 rfl Tryz.sizeOf2 (by decide) rfl rfl ?_)
     refine XL.cons (XOp.load1 (v := .int .i64 (u)) Tryz.isAgg2 rfl (Rd.own [_] rfl rfl) ?_)
     refine XL.cons (XOp.fieldP (b := b2) (4) Tryz.runUnderlying74 rfl Tryz.sizeOf2 (by decide) rfl rfl ?_)
     refine XL.cons (XOp.load1 (v := .int .i64 (u9)) Tryz.isAgg2 rfl (Rd.own [] rfl rfl) ?_)
     refine XL.cons (XOp.neq (a := u) (b := u9) rfl rfl ?_)
     refine XL.nil ?_
     refine X.condD (p := (u : Int) ≠ u9) rfl (fun h5 => ?_) (fun h5 => ?_)
     ·refine X.seq ?_
      refine X.region ?_
      refine XL.cons (XOp.assign (.bool (false)) rfl ?_)
      refine XL.nil ?_
      refine X.ret (thenQ_ret (retEnd (L' := L) [.bool (false)] (.bool (false)) (.tmp rfl .nil) rfl (FLe.refl _) (FLe.refl _) (Sub.drop (Sub.drop (Sub.refl _))) ?_))
      exact ⟨(congrArg Value.bool (decide_eq_false (by intro e; simp_all))), rfl, rfl⟩
     ·refine X.skip ?_
      refine X.seq ?_
      refine X.seq ?_
      refine X.region ?_
      refine XL.cons (XOp.fieldP (b := b1) (5) Tryz.runUnderlying74 rfl Tryz.sizeOf2 (by decide) rfl rfl ?_)
      refine XL.cons (XOp.load1 (v := .int .i64 (o)) Tryz.isAgg2 rfl (Rd.own [_] rfl rfl) ?_)
      refine XL.cons (XOp.fieldP (b := b2) (5) Tryz.runUnderlying74 rfl Tryz.sizeOf2 (by decide) rfl rfl ?_)
      refine XL.cons (XOp.load1 (v := .int .i64 (o9)) Tryz.isAgg2 rfl (Rd.own [] rfl rfl) ?_)
      refine XL.cons (XOp.neq (a := o) (b := o9) rfl rfl ?_)
      refine XL.nil ?_
      refine X.condD (p := (o : Int) ≠ o9) rfl (fun h6 => ?_) (fun h6 => ?_)
      ·refine X.seq ?_
       refine X.region ?_
       refine XL.cons (XOp.assign (.bool (false)) rfl ?_)
       refine XL.nil ?_
       refine X.ret (thenQ_ret (retEnd (L' := L) [.bool (false)] (.bool (false)) (.tmp rfl .nil) rfl (FLe.refl _) (FLe.refl _) (Sub.drop (Sub.drop (Sub.refl _))) ?_))
       exact ⟨(congrArg Value.bool (decide_eq_false (by intro e; simp_all))), rfl, rfl⟩
      ·refine X.skip ?_
       refine X.seq ?_
       refine X.region ?_
       refine XL.cons (XOp.assign (.bool (true)) rfl ?_)
       refine XL.nil ?_
       refine X.ret (retEnd (L' := L) [.bool (true)] (.bool (true)) (.tmp rfl .nil) rfl (FLe.refl _) (FLe.refl _) (Sub.drop (Sub.drop (Sub.refl _))) ?_)
       exact ⟨(congrArg Value.bool (decide_eq_true (by simp_all))), rfl, rfl⟩
end Go.Proofs.YtnloeeaidknblaaGreat
