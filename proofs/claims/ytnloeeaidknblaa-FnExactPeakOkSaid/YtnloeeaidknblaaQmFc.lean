/-
  Walks: terms, rules, systems.
-/
import Derived.Test.YtnloeeaidknblaaQmFb
import Derived.Test.YtnloeeaidknblaaP2
set_option linter.unusedSimpArgs false
set_option linter.unusedVariables false
namespace Go.Proofs.Ytnloeeaidknblaa
open Go X M

/- spec.l1Arity -/
theorem l1Arity_spec {F : FH} {L : List HP} {arv : Value} {ar : List Int} (har : IntsF F arv ar) {n : Int} (hla : ar.length ≤ 4000000) :
    Does Try.prog 163 [.agg #[arv], .int .i64 (n)] F (L) (fun v F' L' => (.int .i64 (sArity ar n) : Value) = v ∧ F = F' ∧ L = L') := by
  refine Does.of_X Try.func163 rfl rfl rfl ?_
  refine X.seq ?_
  refine X.region ?_
  refine XL.cons (XOp.box [arv] rfl rfl ?_)
  intro b1
  refine XL.cons (XOp.assign (.int .i64 (0)) rfl ?_)
  refine XL.nil ?_
  refine X.seq ?_
  refine X.block ?_
  refine X.seq ?_
  refine X.region ?_
  refine XL.cons (XOp.move (.int .i64 (n)) rfl ?_)
  refine XL.cons (XOp.call (args := [.int .i64 (n), .int .i64 (-24), .int .i64 (-1)]) Try.call58 rfl (l1In_spec (n := n) (a := -24) (b := -1)) ?_)
  rintro _ _ _ _ ⟨rfl, rfl, rfl⟩
  refine XL.cons (XOp.assign (.bool (decide ((-24) ≤ n ∧ n ≤ (-1)))) rfl ?_)
  refine XL.nil ?_
  refine X.condD (p := (-24) ≤ n ∧ n ≤ (-1)) rfl (fun h1 => ?_) (fun h1 => ?_)
  · refine X.seq ?_
    refine X.region ?_
    refine XL.cons (XOp.assign (.int .i64 (0)) rfl ?_)
    refine XL.nil ?_
    refine X.ret (blockQ_ret (thenQ_ret (retEnd (L' := L) [.int .i64 (0)] (.int .i64 (0)) (.tmp rfl .nil) rfl (FLe.refl _) (FLe.refl _) (Sub.drop (Sub.refl _)) ?_)))
    exact ⟨(congrArg (Value.int .i64) (by unfold sArity; split <;> (try split) <;> first | rfl | omega)), rfl, rfl⟩
  · refine X.seq ?_
    refine X.region ?_
    refine XL.cons (XOp.move (.int .i64 (n)) rfl ?_)
    refine XL.cons (XOp.fieldP (b := b1) (0) Try.runUnderlying33 rfl Try.sizeOf22 (by decide) rfl rfl ?_)
    refine XL.cons (XOp.load1 (v := arv) Try.isAgg22 rfl (Rd.own [] rfl rfl) ?_)
    refine XL.cons (XOp.lenS (v := arv) (n := (ar).length) Try.runUnderlying22 rfl har.slv ?_)
    refine XL.cons (XOp.subR (a := (((ar).length : Nat) : Int)) (b := 1) (((((ar).length : Nat) : Int)) - 1) rfl rfl (by omega) (by omega) ?_)
    refine XL.cons (XOp.call (args := [.int .i64 (n), .int .i64 (0), .int .i64 (((((ar).length : Nat) : Int)) - 1)]) Try.call58 rfl (l1In_spec (n := n) (a := 0) (b := ((((ar).length : Nat) : Int)) - 1)) ?_)
    rintro _ _ _ _ ⟨rfl, rfl, rfl⟩
    refine XL.cons (XOp.assign (.bool (decide (0 ≤ n ∧ n ≤ (((((ar).length : Nat) : Int)) - 1)))) rfl ?_)
    refine XL.nil ?_
    refine X.condD (p := 0 ≤ n ∧ n ≤ (((((ar).length : Nat) : Int)) - 1)) rfl (fun h2 => ?_) (fun h2 => ?_)
    · refine X.seq ?_
      refine X.region ?_
      refine XL.cons (XOp.fieldP (b := b1) (0) Try.runUnderlying33 rfl Try.sizeOf22 (by decide) rfl rfl ?_)
      refine XL.cons (XOp.load1 (v := arv) Try.isAgg22 rfl (Rd.own [] rfl rfl) ?_)
      refine XL.cons (XOp.move (.int .i64 (n)) rfl ?_)
      refine XL.cons (XOp.indexS (v := arv) (i := n) (n := (ar).length) ((n).toNat) Try.runUnderlying22 Try.sizeOf2 rfl rfl (by omega) har.slv (by omega) (Nat.mul_one _) ?_)
      refine XL.cons (XOp.load1 (v := .int .i64 (ar.getD ((n).toNat) 0)) Try.isAgg2 rfl (har.rd (by omega)) ?_)
      refine XL.cons (XOp.assign (.int .i64 (ar.getD ((n).toNat) 0)) rfl ?_)
      refine XL.nil ?_
      refine X.ret (blockQ_ret (thenQ_ret (retEnd (L' := L) [.int .i64 (ar.getD ((n).toNat) 0)] (.int .i64 (ar.getD ((n).toNat) 0)) (.tmp rfl .nil) rfl (FLe.refl _) (FLe.refl _) (Sub.drop (Sub.refl _)) ?_)))
      exact ⟨(congrArg (Value.int .i64) (by unfold sArity; split <;> (try split) <;> first | rfl | omega)), rfl, rfl⟩
    · refine X.skip ?_
      refine X.seq ?_
      refine X.region ?_
      refine XL.cons (XOp.assign (.int .i64 (-1)) rfl ?_)
      refine XL.nil ?_
      refine X.ret (retEnd (L' := L) [.int .i64 (-1)] (.int .i64 (-1)) (.tmp rfl .nil) rfl (FLe.refl _) (FLe.refl _) (Sub.drop (Sub.refl _)) ?_)
      exact ⟨(congrArg (Value.int .i64) (by unfold sArity; split <;> (try split) <;> first | rfl | omega)), rfl, rfl⟩

/- spec.SigOk -/
theorem sSigOk_spec {F : FH} {L : List HP} {arv : Value} {ar : List Int} (har : IntsF F arv ar) (hla : ar.length ≤ 4000000) :
    Does Try.prog 109 [.agg #[arv]] F (L) (fun v F' L' => (.bool (sigOk ar) : Value) = v ∧ F = F' ∧ L = L') := by
  refine Does.of_X Try.func109 rfl rfl rfl ?_
  refine X.seq ?_
  refine X.region ?_
  refine XL.cons (XOp.box [arv] rfl rfl ?_)
  intro b1
  refine XL.cons (XOp.assign (.bool (false)) rfl ?_)
  refine XL.nil ?_
  refine X.seq ?_
  refine X.seq ?_
  refine X.region ?_
  refine XL.cons (XOp.fieldP (b := b1) (0) Try.runUnderlying33 rfl Try.sizeOf22 (by decide) rfl rfl ?_)
  refine XL.cons (XOp.load1 (v := arv) Try.isAgg22 rfl (Rd.own [] rfl rfl) ?_)
  refine XL.cons (XOp.lenS (v := arv) (n := (ar).length) Try.runUnderlying22 rfl har.slv ?_)
  refine XL.cons (XOp.call (args := [.int .i64 ((((ar).length : Nat) : Int)), .int .i64 (1), .int .i64 (8)]) Try.call58 rfl (l1In_spec (n := (((ar).length : Nat) : Int)) (a := 1) (b := 8)) ?_)
  rintro _ _ _ _ ⟨rfl, rfl, rfl⟩
  refine XL.cons (XOp.notD (p := 1 ≤ ((((ar).length : Nat) : Int)) ∧ ((((ar).length : Nat) : Int)) ≤ 8) rfl ?_)
  refine XL.nil ?_
  refine X.condD (p := ¬(1 ≤ ((((ar).length : Nat) : Int)) ∧ ((((ar).length : Nat) : Int)) ≤ 8)) rfl (fun h1 => ?_) (fun h1 => ?_)
  · refine X.seq ?_
    refine X.region ?_
    refine XL.cons (XOp.assign (.bool (false)) rfl ?_)
    refine XL.nil ?_
    refine X.ret (thenQ_ret (retEnd (L' := L) [.bool (false)] (.bool (false)) (.tmp rfl .nil) rfl (FLe.refl _) (FLe.refl _) (Sub.drop (Sub.refl _)) ?_))
    exact ⟨(congrArg Value.bool (sigOk_short (by omega))), rfl, rfl⟩
  · refine X.skip ?_
    refine X.seq ?_
    refine X.seq ?_
    refine X.region ?_
    refine XL.cons (XOp.assign (.int .i64 (0)) rfl ?_)
    refine XL.nil ?_
    refine X.block ?_
    refine X.loop (α := Nat) (fun k => [(1, ptr b1 0), (3, .int .i64 (((k : Nat) : Int)))]) (fun k => cellsH b1 [arv] 33 :: L) (fun k F' => F = F' ∧ (k ≤ ar.length) ∧ (∀ i, i < k → 0 ≤ ar.getD i 0 ∧ ar.getD i 0 ≤ 3)) (fun k => ar.length - k) 0 ⟨rfl, rfl, trivial⟩ (Sub.cons (Sub.refl _)) ⟨rfl, (by omega), (fun i hi => absurd hi (by omega))⟩ ?_
    rintro k rE _ _ ⟨rfl, hk, hall⟩
    show X _ _ _ _ (envs [(1, ptr b1 0), (3, .int .i64 (((k : Nat) : Int)))] rE) _ (cellsH b1 [arv] 33 :: L)
    refine X.seq ?_
    refine X.seq ?_
    refine X.region ?_
    refine XL.cons (XOp.move (.int .i64 (((k : Nat) : Int))) rfl ?_)
    refine XL.cons (XOp.fieldP (b := b1) (0) Try.runUnderlying33 rfl Try.sizeOf22 (by decide) rfl rfl ?_)
    refine XL.cons (XOp.load1 (v := arv) Try.isAgg22 rfl (Rd.own [] rfl rfl) ?_)
    refine XL.cons (XOp.lenS (v := arv) (n := (ar).length) Try.runUnderlying22 rfl har.slv ?_)
    refine XL.cons (XOp.lss (a := ((k : Nat) : Int)) (b := (((ar).length : Nat) : Int)) rfl rfl ?_)
    refine XL.nil ?_
    refine X.condD (p := (((k : Nat) : Int) : Int) < (((ar).length : Nat) : Int)) rfl (fun h2 => ?_) (fun h2 => ?_)
    · refine X.skip ?_
      refine X.seq ?_
      refine X.block ?_
      refine X.seq ?_
      refine X.region ?_
      refine XL.cons (XOp.fieldP (b := b1) (0) Try.runUnderlying33 rfl Try.sizeOf22 (by decide) rfl rfl ?_)
      refine XL.cons (XOp.load1 (v := arv) Try.isAgg22 rfl (Rd.own [] rfl rfl) ?_)
      refine XL.cons (XOp.move (.int .i64 (((k : Nat) : Int))) rfl ?_)
      refine XL.cons (XOp.indexS (v := arv) (i := ((k : Nat) : Int)) (n := (ar).length) k Try.runUnderlying22 Try.sizeOf2 rfl rfl rfl har.slv (by omega) (Nat.mul_one _) ?_)
      refine XL.cons (XOp.load1 (v := .int .i64 (ar.getD k 0)) Try.isAgg2 rfl (har.rd (by omega)) ?_)
      refine XL.cons (XOp.call (args := [.int .i64 (ar.getD k 0), .int .i64 (0), .int .i64 (3)]) Try.call58 rfl (l1In_spec (n := ar.getD k 0) (a := 0) (b := 3)) ?_)
      rintro _ _ _ _ ⟨rfl, rfl, rfl⟩
      refine XL.cons (XOp.notD (p := 0 ≤ (ar.getD k 0) ∧ (ar.getD k 0) ≤ 3) rfl ?_)
      refine XL.nil ?_
      refine X.condD (p := ¬(0 ≤ (ar.getD k 0) ∧ (ar.getD k 0) ≤ 3)) rfl (fun h3 => ?_) (fun h3 => ?_)
      · refine X.seq ?_
        refine X.region ?_
        refine XL.cons (XOp.assign (.bool (false)) rfl ?_)
        refine XL.nil ?_
        refine X.ret (blockQ_ret (thenQ_ret (thenQ_ret (blockQ_ret (thenQ_ret (retEnd (L' := L) [.bool (false)] (.bool (false)) (.tmp rfl .nil) rfl (FLe.refl _) (FLe.refl _) (Sub.drop (Sub.refl _)) ?_))))))
        exact ⟨(congrArg Value.bool (sigOk_bad (i := k) (by omega) (by omega))), rfl, rfl⟩
      · refine X.skip ?_
        refine X.region ?_
        refine XL.cons (XOp.move (.int .i64 (((k : Nat) : Int))) rfl ?_)
        refine XL.cons (XOp.addR (a := ((k : Nat) : Int)) (b := 1) (((k + 1 : Nat) : Int)) rfl rfl (by omega) (by omega) ?_)
        refine XL.cons (XOp.assign (.int .i64 (((k + 1 : Nat) : Int))) rfl ?_)
        refine XL.nil ?_
        exact ⟨k + 1, _, FLe.refl _, (FLe.refl _), ⟨rfl, rfl, trivial⟩, (Sub.cons (Sub.refl _)), ⟨rfl, (by omega), (fun i hi => (Nat.lt_or_ge i k).elim (fun h => hall i h) (fun h => by obtain rfl : i = k := (by omega); omega))⟩, (by omega)⟩
    · refine X.exit (thenQ_exit (thenQ_exit (blockQ_exit ?_)))
      refine X.seq ?_
      refine X.region ?_
      refine XL.cons (XOp.assign (.bool (true)) rfl ?_)
      refine XL.nil ?_
      refine X.ret (retEnd (L' := L) [.bool (true)] (.bool (true)) (.tmp rfl .nil) rfl (FLe.refl _) (FLe.refl _) (Sub.drop (Sub.refl _)) ?_)
      exact ⟨(congrArg Value.bool (sigOk_of (by omega) (by omega) (fun i hi => hall i (by omega)))), rfl, rfl⟩

/- spec.l1End -/
theorem l1End_spec {F : FH} {L : List HP} {arv : Value} {ar : List Int} (har : IntsF F arv ar) {tv : Value} {t : List Int} (ht : IntsF F tv t) {p0 : Nat} (hs : sigOk ar = true) (hlt : t.length ≤ 4000000) (hp : p0 ≤ t.length) :
    Does Try.prog 136 [.agg #[arv], tv, .int .i64 (((p0 : Nat) : Int))] F (L) (fun v F' L' => (.int .i64 (sEndZ ar t p0) : Value) = v ∧ F = F' ∧ L = L') := by
  refine Does.of_X Try.func136 rfl rfl rfl ?_
  have hsl := sigOk_spec hs
  refine X.seq ?_
  refine X.region ?_
  refine XL.cons (XOp.box [arv] rfl rfl ?_)
  intro b1
  refine XL.cons (XOp.assign (.int .i64 (0)) rfl ?_)
  refine XL.nil ?_
  refine X.seq ?_
  refine X.region ?_
  refine XL.cons (XOp.assign (.int .i64 (1)) rfl ?_)
  refine XL.nil ?_
  refine X.seq ?_
  refine X.seq ?_
  refine X.region ?_
  refine XL.cons (XOp.move (.int .i64 (((p0 : Nat) : Int))) rfl ?_)
  refine XL.cons (XOp.assign (.int .i64 (((p0 : Nat) : Int))) rfl ?_)
  refine XL.nil ?_
  refine X.block ?_
  refine X.loop (α := Nat × Nat) (fun xQ => [(1, tv), (3, ptr b1 0), (7, .int .i64 (((xQ.1 : Nat) : Int))), (8, .int .i64 (((xQ.2 : Nat) : Int)))]) (fun xQ => cellsH b1 [arv] 33 :: L) (fun xQ F' => F = F' ∧ (sEndGo ar (t.drop p0) 1 = (sEndGo ar (t.drop xQ.2) xQ.1).map (· + (xQ.2 - p0))) ∧ (p0 ≤ xQ.2 ∧ xQ.2 ≤ t.length) ∧ (1 ≤ xQ.1 ∧ xQ.1 ≤ 1 + 3 * xQ.2)) (fun xQ => t.length - xQ.2) (1, p0) ⟨rfl, rfl, rfl, rfl, trivial⟩ (Sub.cons (Sub.refl _)) ⟨rfl, (by simp), (by omega), (by omega)⟩ ?_
  rintro ⟨k, p⟩ rE _ _ ⟨rfl, hi, h1, h2⟩
  show X _ _ _ _ (envs [(1, tv), (3, ptr b1 0), (7, .int .i64 (((k : Nat) : Int))), (8, .int .i64 (((p : Nat) : Int)))] rE) _ (cellsH b1 [arv] 33 :: L)
  dsimp only at hi h1 h2
  refine X.seq ?_
  refine X.seq ?_
  refine X.region ?_
  refine XL.cons (XOp.move (.int .i64 (((p : Nat) : Int))) rfl ?_)
  refine XL.cons (XOp.move (tv) rfl ?_)
  refine XL.cons (XOp.lenS (v := tv) (n := (t).length) Try.runUnderlying22 rfl ht.slv ?_)
  refine XL.cons (XOp.lss (a := ((p : Nat) : Int)) (b := (((t).length : Nat) : Int)) rfl rfl ?_)
  refine XL.nil ?_
  refine X.condD (p := (((p : Nat) : Int) : Int) < (((t).length : Nat) : Int)) rfl (fun h1 => ?_) (fun h1 => ?_)
  · refine X.skip ?_
    refine X.seq ?_
    refine X.block ?_
    refine X.seq ?_
    refine X.draw [cellsH b1 [arv] 33] L 5 [[], [], [], [], []] [[], [], [], [1, 2], [3]] (phiL [fun us v => v = (.agg #[arv] : Value), fun us v => v = tv, fun us v => v = (.int .i64 (((p : Nat) : Int)) : Value), fun us v => v = (.pointer (some (elemA tv (p))) : Value), fun us v => v = (.int .i64 (t.getD p 0) : Value)]) (ownL [fun us v => [], fun us v => [], fun us v => [], fun us v => [], fun us v => []]) mixed rfl rfl (by kernel_rfl) ?_ ?_
    · refine stepsP.cons (fun vals R hpZ => ?_) ?_
      · refine XG.op (XOp.loadN [arv] Try.isAgg33 Try.sizeOf33 rfl rfl (Rd.ownN [] rfl rfl) ?_)
        exact ⟨rfl, rfl, rfl⟩
      refine stepsP.cons (fun vals R hpZ => ?_) ?_
      · refine XG.op (XOp.move (tv) rfl ?_)
        exact ⟨rfl, rfl, rfl⟩
      refine stepsP.cons (fun vals R hpZ => ?_) ?_
      · refine XG.op (XOp.move (.int .i64 (((p : Nat) : Int))) rfl ?_)
        exact ⟨rfl, rfl, rfl⟩
      refine stepsP.cons (fun vals R hpZ => ?_) ?_
      · rw [(envs_of_sat (l := [(1, tv), (2, (.int .i64 (((p : Nat) : Int)) : Value))]) ⟨hpZ 1 (by decide), hpZ 2 (by decide), trivial⟩).symm]
        refine XG.op (XOp.indexS (v := tv) (i := ((p : Nat) : Int)) (n := (t).length) p Try.runUnderlying22 Try.sizeOf2 rfl rfl rfl ht.slv (by omega) (Nat.mul_one _) ?_)
        exact ⟨rfl, rfl, rfl⟩
      refine stepsP.cons (fun vals R hpZ => ?_) ?_
      · rw [(envs_of_sat (l := [(3, (.pointer (some (elemA tv (p))) : Value))]) ⟨hpZ 3 (by decide), trivial⟩).symm]
        refine XG.op (XOp.load1 (v := .int .i64 (t.getD p 0)) Try.isAgg2 rfl (ht.rd (by omega)) ?_)
        exact ⟨rfl, rfl, rfl⟩
      exact stepsP.nil
    · intro vals hphi
      have e0 : vals 0 = (.agg #[arv] : Value) := hphi 0 (by decide)
      have e1 : vals 1 = tv := hphi 1 (by decide)
      have e2 : vals 2 = (.int .i64 (((p : Nat) : Int)) : Value) := hphi 2 (by decide)
      have e3 : vals 3 = (.pointer (some (elemA tv (p))) : Value) := hphi 3 (by decide)
      have e4 : vals 4 = (.int .i64 (t.getD p 0) : Value) := hphi 4 (by decide)
      rw [(envs_of_sat (l := [(0, (.agg #[arv] : Value)), (1, tv), (2, (.int .i64 (((p : Nat) : Int)) : Value)), (3, (.pointer (some (elemA tv (p))) : Value)), (4, (.int .i64 (t.getD p 0) : Value))]) ⟨e0, e1, e2, e3, e4, trivial⟩).symm]
      show XL _ _ _ _ _ _ _ (cellsH b1 [arv] 33 :: L)
      refine XL.cons (XOp.call (args := [.agg #[arv], .int .i64 (t.getD p 0)]) Try.call163 rfl (l1Arity_spec (n := t.getD p 0) har (hla := (by first | assumption | rfl | omega | (left; simp; done) | (right; simp; done)))) ?_)
      rintro _ _ _ _ ⟨rfl, rfl, rfl⟩
      refine XL.cons (XOp.assign (.int .i64 (sArity ar (t.getD p 0))) rfl ?_)
      refine XL.nil ?_
      refine X.seq ?_
      refine X.seq ?_
      refine X.region ?_
      refine XL.cons (XOp.move (.int .i64 (sArity ar (t.getD p 0))) rfl ?_)
      refine XL.cons (XOp.lss (a := sArity ar (t.getD p 0)) (b := 0) rfl rfl ?_)
      refine XL.nil ?_
      refine X.condD (p := (sArity ar (t.getD p 0) : Int) < 0) rfl (fun h2 => ?_) (fun h2 => ?_)
      · rw [sArity_neg hs] at h2
        refine X.seq ?_
        refine X.region ?_
        refine XL.cons (XOp.assign (.int .i64 (-1)) rfl ?_)
        refine XL.nil ?_
        refine X.ret (thenQ_ret (blockQ_ret (thenQ_ret (thenQ_ret (blockQ_ret (thenQ_ret (retEnd (L' := L) [.int .i64 (-1)] (.int .i64 (-1)) (.tmp rfl .nil) rfl (FLe.refl _) (FLe.refl _) (Sub.drop (Sub.refl _)) ?_)))))))
        exact ⟨(congrArg (Value.int .i64) (by unfold sEndZ; rw [hi, sEndGo_none (by omega) (by omega)]; rfl)), rfl, rfl⟩
      · have hA : -24 ≤ t.getD p 0 ∧ t.getD p 0 < ar.length := by rw [sArity_neg hs] at h2; omega
        have hB := arity_le hs hA.2
        have hC := sArity_eq hA
        refine X.skip ?_
        refine X.seq ?_
        refine X.region ?_
        refine XL.cons (XOp.move (.int .i64 (((k : Nat) : Int))) rfl ?_)
        refine XL.cons (XOp.move (.int .i64 (sArity ar (t.getD p 0))) rfl ?_)
        refine XL.cons (XOp.addR (a := ((k : Nat) : Int)) (b := sArity ar (t.getD p 0)) (((k + (arity ar (t.getD p 0)).toNat : Nat) : Int)) rfl rfl (by omega) (by omega) ?_)
        refine XL.cons (XOp.subR (a := ((k + (arity ar (t.getD p 0)).toNat : Nat) : Int)) (b := 1) (((k - 1 + (arity ar (t.getD p 0)).toNat : Nat) : Int)) rfl rfl (by omega) (by omega) ?_)
        refine XL.cons (XOp.assign (.int .i64 (((k - 1 + (arity ar (t.getD p 0)).toNat : Nat) : Int))) rfl ?_)
        refine XL.nil ?_
        refine X.seq ?_
        refine X.region ?_
        refine XL.cons (XOp.move (.int .i64 (((k - 1 + (arity ar (t.getD p 0)).toNat : Nat) : Int))) rfl ?_)
        refine XL.cons (XOp.eql (a := ((k - 1 + (arity ar (t.getD p 0)).toNat : Nat) : Int)) (b := 0) rfl rfl ?_)
        refine XL.nil ?_
        refine X.condD (p := (((k - 1 + (arity ar (t.getD p 0)).toNat : Nat) : Int) : Int) = 0) rfl (fun h3 => ?_) (fun h3 => ?_)
        · refine X.seq ?_
          refine X.region ?_
          refine XL.cons (XOp.move (.int .i64 (((p : Nat) : Int))) rfl ?_)
          refine XL.cons (XOp.addR (a := ((p : Nat) : Int)) (b := 1) (((p + 1 : Nat) : Int)) rfl rfl (by omega) (by omega) ?_)
          refine XL.cons (XOp.assign (.int .i64 (((p + 1 : Nat) : Int))) rfl ?_)
          refine XL.nil ?_
          refine X.ret (blockQ_ret (thenQ_ret (thenQ_ret (blockQ_ret (thenQ_ret (retEnd (L' := L) [.int .i64 (((p + 1 : Nat) : Int))] (.int .i64 (((p + 1 : Nat) : Int))) (.tmp rfl .nil) rfl (FLe.refl _) (FLe.refl _) (Sub.drop (Sub.refl _)) ?_))))))
          exact ⟨(congrArg (Value.int .i64) (by have hz := sEndGo_step (ar := ar) (t := t) (p := p) (k := k) (by omega) (by omega) hA; rw [show k - 1 + (arity ar (t.getD p 0)).toNat = 0 from by omega] at hz; unfold sEndZ; rw [hi, hz]; simp [sEndGo]; omega)), rfl, rfl⟩
        · refine X.skip ?_
          refine X.region ?_
          refine XL.cons (XOp.move (.int .i64 (((p : Nat) : Int))) rfl ?_)
          refine XL.cons (XOp.addR (a := ((p : Nat) : Int)) (b := 1) (((p + 1 : Nat) : Int)) rfl rfl (by omega) (by omega) ?_)
          refine XL.cons (XOp.assign (.int .i64 (((p + 1 : Nat) : Int))) rfl ?_)
          refine XL.nil ?_
          exact ⟨(k - 1 + (arity ar (t.getD p 0)).toNat, p + 1), _, FLe.refl _, (FLe.refl _), ⟨rfl, rfl, rfl, rfl, trivial⟩, (Sub.cons (Sub.refl _)), ⟨rfl, (by rw [hi, sEndGo_step (by omega) (by omega) (by omega), Option.map_map]; congr 1; funext e; simp; omega), (by omega), (by omega)⟩, (by omega)⟩
  · refine X.exit (thenQ_exit (thenQ_exit (blockQ_exit ?_)))
    refine X.seq ?_
    refine X.region ?_
    refine XL.cons (XOp.assign (.int .i64 (-1)) rfl ?_)
    refine XL.nil ?_
    refine X.ret (retEnd (L' := L) [.int .i64 (-1)] (.int .i64 (-1)) (.tmp rfl .nil) rfl (FLe.refl _) (FLe.refl _) (Sub.drop (Sub.refl _)) ?_)
    exact ⟨(congrArg (Value.int .i64) (by unfold sEndZ; rw [hi, sEndGo_none (by omega) (by omega)]; rfl)), rfl, rfl⟩

/- impl.TermOk -/
theorem TermOk_spec {F : FH} {L : List HP} {arv : Value} {ar : List Int} (har : IntsF F arv ar) {tv : Value} {t : List Int} (ht : IntsF F tv t) :
    Does Try.prog 130 [.agg #[arv], tv] F (L) (fun v F' L' => (.bool (termOk ar t) : Value) = v ∧ F = F' ∧ L = L') := by
  refine Does.of_X Try.func130 rfl rfl rfl ?_
  refine X.seq ?_
  refine X.region ?_
  refine XL.cons (XOp.box [arv] rfl rfl ?_)
  intro b1
  refine XL.cons (XOp.assign (.bool (false)) rfl ?_)
  refine XL.nil ?_
  refine X.seq ?_
  refine X.region ?_
  refine XL.cons (XOp.loadN [arv] Try.isAgg33 Try.sizeOf33 rfl rfl (Rd.ownN [] rfl rfl) ?_)
  refine XL.cons (XOp.call (args := [.agg #[arv]]) Try.call118 rfl (SigOk_spec har) ?_)
  rintro _ _ _ _ ⟨rfl, rfl, rfl⟩
  refine XL.cons (XOp.move (.bool (sigOk ar)) rfl ?_)
  by_cases h1 : (sigOk ar) = true
  · refine XL.yes (t := 7) rfl (congrArg Value.bool h1) (XOp.move (tv) rfl ?_)
    refine XL.yes (t := 7) rfl (congrArg Value.bool h1) (XOp.lenS (v := tv) (n := (t).length) Try.runUnderlying22 rfl ht.slv ?_)
    refine XL.yes (t := 7) rfl (congrArg Value.bool h1) (XOp.gtr (a := (((t).length : Nat) : Int)) (b := 0) rfl rfl ?_)
    refine XL.cons (XOp.pickT (.bool (decide (((((t).length : Nat) : Int) : Int) > 0))) (congrArg Value.bool h1) rfl ?_)
    refine XL.cons (XOp.move (.bool (decide (((((t).length : Nat) : Int) : Int) > 0))) rfl ?_)
    by_cases h2 : ((((t).length : Nat) : Int) : Int) > 0
    · refine XL.yes (t := 12) rfl (congrArg Value.bool (decide_eq_true h2)) (XOp.move (tv) rfl ?_)
      refine XL.yes (t := 12) rfl (congrArg Value.bool (decide_eq_true h2)) (XOp.lenS (v := tv) (n := (t).length) Try.runUnderlying22 rfl ht.slv ?_)
      refine XL.yes (t := 12) rfl (congrArg Value.bool (decide_eq_true h2)) (XOp.leq (a := (((t).length : Nat) : Int)) (b := 60) rfl rfl ?_)
      refine XL.cons (XOp.pickT (.bool (decide (((((t).length : Nat) : Int) : Int) ≤ 60))) (congrArg Value.bool (decide_eq_true h2)) rfl ?_)
      refine XL.cons (XOp.move (.bool (decide (((((t).length : Nat) : Int) : Int) ≤ 60))) rfl ?_)
      by_cases h3 : ((((t).length : Nat) : Int) : Int) ≤ 60
      · refine XL.yes (t := 17) rfl (congrArg Value.bool (decide_eq_true h3)) (XOp.move (tv) rfl ?_)
        refine XL.yes (t := 17) rfl (congrArg Value.bool (decide_eq_true h3)) (XOp.call (args := [tv]) Try.call171 rfl (Min_spec ht (h1 := (by first | assumption | rfl | omega | (left; simp; done) | (right; simp; done))) (hbd := (by first | assumption | rfl | omega | (left; simp; done) | (right; simp; done)))) ?_)
        rintro _ _ _ _ ⟨rfl, rfl, rfl⟩
        refine XL.yes (t := 17) rfl (congrArg Value.bool (decide_eq_true h3)) (XOp.geq (a := minL t) (b := -24) rfl rfl ?_)
        refine XL.cons (XOp.pickT (.bool (decide ((minL t : Int) ≥ -24))) (congrArg Value.bool (decide_eq_true h3)) rfl ?_)
        refine XL.cons (XOp.move (.bool (decide ((minL t : Int) ≥ -24))) rfl ?_)
        by_cases h4 : (minL t : Int) ≥ -24
        · refine XL.yes (t := 22) rfl (congrArg Value.bool (decide_eq_true h4)) (XOp.loadN [arv] Try.isAgg33 Try.sizeOf33 rfl rfl (Rd.ownN [] rfl rfl) ?_)
          refine XL.yes (t := 22) rfl (congrArg Value.bool (decide_eq_true h4)) (XOp.move (tv) rfl ?_)
          refine XL.yes (t := 22) rfl (congrArg Value.bool (decide_eq_true h4)) (XOp.call (args := [.agg #[arv], tv, .int .i64 ((0 : Nat) : Int)]) Try.call139 rfl (endAt_spec (p := 0) har ht (hs := (by first | assumption | rfl | omega | (left; simp; done) | (right; simp; done))) (hb := (by first | assumption | rfl | omega | (left; simp; done) | (right; simp; done))) (hp := (by first | assumption | rfl | omega | (left; simp; done) | (right; simp; done)))) ?_)
          rintro _ _ _ _ ⟨rfl, rfl, rfl⟩
          refine XL.yes (t := 22) rfl (congrArg Value.bool (decide_eq_true h4)) (XOp.move (tv) rfl ?_)
          refine XL.yes (t := 22) rfl (congrArg Value.bool (decide_eq_true h4)) (XOp.lenS (v := tv) (n := (t).length) Try.runUnderlying22 rfl ht.slv ?_)
          refine XL.yes (t := 22) rfl (congrArg Value.bool (decide_eq_true h4)) (XOp.eql (a := endZ ar t 0) (b := (((t).length : Nat) : Int)) rfl rfl ?_)
          refine XL.cons (XOp.pickT (.bool (decide ((endZ ar t 0 : Int) = (((t).length : Nat) : Int)))) (congrArg Value.bool (decide_eq_true h4)) rfl ?_)
          refine XL.cons (XOp.assign (.bool (decide ((endZ ar t 0 : Int) = (((t).length : Nat) : Int)))) rfl ?_)
          refine XL.nil ?_
          refine X.ret (retEnd (L' := L) [.bool (decide ((endZ ar t 0 : Int) = (((t).length : Nat) : Int)))] (.bool (decide ((endZ ar t 0 : Int) = (((t).length : Nat) : Int)))) (.tmp rfl .nil) rfl (FLe.refl _) (FLe.refl _) (Sub.drop (Sub.refl _)) ?_)
          exact ⟨(congrArg Value.bool (termOk_of (by assumption) (by omega) (by omega) (by omega))), rfl, rfl⟩
        · refine XL.no (t := 22) rfl (congrArg Value.bool (decide_eq_false h4)) ?_
          refine XL.no (t := 22) rfl (congrArg Value.bool (decide_eq_false h4)) ?_
          refine XL.no (t := 22) rfl (congrArg Value.bool (decide_eq_false h4)) ?_
          refine XL.no (t := 22) rfl (congrArg Value.bool (decide_eq_false h4)) ?_
          refine XL.no (t := 22) rfl (congrArg Value.bool (decide_eq_false h4)) ?_
          refine XL.no (t := 22) rfl (congrArg Value.bool (decide_eq_false h4)) ?_
          refine XL.cons (XOp.pickF (.bool (false)) (congrArg Value.bool (decide_eq_false h4)) rfl ?_)
          refine XL.cons (XOp.assign (.bool (false)) rfl ?_)
          refine XL.nil ?_
          refine X.ret (retEnd (L' := L) [.bool (false)] (.bool (false)) (.tmp rfl .nil) rfl (FLe.refl _) (FLe.refl _) (Sub.drop (Sub.refl _)) ?_)
          exact ⟨(congrArg Value.bool (by first | (refine termOk_nosig ?_; assumption) | (refine termOk_short ?_; omega) | (refine termOk_min ?_ ?_ <;> omega))), rfl, rfl⟩
      · refine XL.no (t := 17) rfl (congrArg Value.bool (decide_eq_false h3)) ?_
        refine XL.no (t := 17) rfl (congrArg Value.bool (decide_eq_false h3)) ?_
        refine XL.no (t := 17) rfl (congrArg Value.bool (decide_eq_false h3)) ?_
        refine XL.cons (XOp.pickF (.bool (false)) (congrArg Value.bool (decide_eq_false h3)) rfl ?_)
        refine XL.cons (XOp.move (.bool (false)) rfl ?_)
        refine XL.no (t := 22) rfl rfl ?_
        refine XL.no (t := 22) rfl rfl ?_
        refine XL.no (t := 22) rfl rfl ?_
        refine XL.no (t := 22) rfl rfl ?_
        refine XL.no (t := 22) rfl rfl ?_
        refine XL.no (t := 22) rfl rfl ?_
        refine XL.cons (XOp.pickF (.bool (false)) rfl rfl ?_)
        refine XL.cons (XOp.assign (.bool (false)) rfl ?_)
        refine XL.nil ?_
        refine X.ret (retEnd (L' := L) [.bool (false)] (.bool (false)) (.tmp rfl .nil) rfl (FLe.refl _) (FLe.refl _) (Sub.drop (Sub.refl _)) ?_)
        exact ⟨(congrArg Value.bool (by first | (refine termOk_nosig ?_; assumption) | (refine termOk_short ?_; omega) | (refine termOk_min ?_ ?_ <;> omega))), rfl, rfl⟩
    · refine XL.no (t := 12) rfl (congrArg Value.bool (decide_eq_false h2)) ?_
      refine XL.no (t := 12) rfl (congrArg Value.bool (decide_eq_false h2)) ?_
      refine XL.no (t := 12) rfl (congrArg Value.bool (decide_eq_false h2)) ?_
      refine XL.cons (XOp.pickF (.bool (false)) (congrArg Value.bool (decide_eq_false h2)) rfl ?_)
      refine XL.cons (XOp.move (.bool (false)) rfl ?_)
      refine XL.no (t := 17) rfl rfl ?_
      refine XL.no (t := 17) rfl rfl ?_
      refine XL.no (t := 17) rfl rfl ?_
      refine XL.cons (XOp.pickF (.bool (false)) rfl rfl ?_)
      refine XL.cons (XOp.move (.bool (false)) rfl ?_)
      refine XL.no (t := 22) rfl rfl ?_
      refine XL.no (t := 22) rfl rfl ?_
      refine XL.no (t := 22) rfl rfl ?_
      refine XL.no (t := 22) rfl rfl ?_
      refine XL.no (t := 22) rfl rfl ?_
      refine XL.no (t := 22) rfl rfl ?_
      refine XL.cons (XOp.pickF (.bool (false)) rfl rfl ?_)
      refine XL.cons (XOp.assign (.bool (false)) rfl ?_)
      refine XL.nil ?_
      refine X.ret (retEnd (L' := L) [.bool (false)] (.bool (false)) (.tmp rfl .nil) rfl (FLe.refl _) (FLe.refl _) (Sub.drop (Sub.refl _)) ?_)
      exact ⟨(congrArg Value.bool (by first | (refine termOk_nosig ?_; assumption) | (refine termOk_short ?_; omega) | (refine termOk_min ?_ ?_ <;> omega))), rfl, rfl⟩
  · rw [Bool.not_eq_true] at h1
    refine XL.no (t := 7) rfl (congrArg Value.bool h1) ?_
    refine XL.no (t := 7) rfl (congrArg Value.bool h1) ?_
    refine XL.no (t := 7) rfl (congrArg Value.bool h1) ?_
    refine XL.cons (XOp.pickF (.bool (false)) (congrArg Value.bool h1) rfl ?_)
    refine XL.cons (XOp.move (.bool (false)) rfl ?_)
    refine XL.no (t := 12) rfl rfl ?_
    refine XL.no (t := 12) rfl rfl ?_
    refine XL.no (t := 12) rfl rfl ?_
    refine XL.cons (XOp.pickF (.bool (false)) rfl rfl ?_)
    refine XL.cons (XOp.move (.bool (false)) rfl ?_)
    refine XL.no (t := 17) rfl rfl ?_
    refine XL.no (t := 17) rfl rfl ?_
    refine XL.no (t := 17) rfl rfl ?_
    refine XL.cons (XOp.pickF (.bool (false)) rfl rfl ?_)
    refine XL.cons (XOp.move (.bool (false)) rfl ?_)
    refine XL.no (t := 22) rfl rfl ?_
    refine XL.no (t := 22) rfl rfl ?_
    refine XL.no (t := 22) rfl rfl ?_
    refine XL.no (t := 22) rfl rfl ?_
    refine XL.no (t := 22) rfl rfl ?_
    refine XL.no (t := 22) rfl rfl ?_
    refine XL.cons (XOp.pickF (.bool (false)) rfl rfl ?_)
    refine XL.cons (XOp.assign (.bool (false)) rfl ?_)
    refine XL.nil ?_
    refine X.ret (retEnd (L' := L) [.bool (false)] (.bool (false)) (.tmp rfl .nil) rfl (FLe.refl _) (FLe.refl _) (Sub.drop (Sub.refl _)) ?_)
    exact ⟨(congrArg Value.bool (by first | (refine termOk_nosig ?_; assumption) | (refine termOk_short ?_; omega) | (refine termOk_min ?_ ?_ <;> omega))), rfl, rfl⟩

/- impl.posOk -/
theorem posOk_spec {F : FH} {L : List HP} {arv : Value} {ar : List Int} (har : IntsF F arv ar) {tv : Value} {t : List Int} (ht : IntsF F tv t) {n : Int} :
    Does Try.prog 189 [.agg #[arv], tv, .int .i64 (n)] F (L) (fun v F' L' => (.bool (posOk ar t n) : Value) = v ∧ F = F' ∧ L = L') := by
  refine Does.of_X Try.func189 rfl rfl rfl ?_
  refine X.seq ?_
  refine X.region ?_
  refine XL.cons (XOp.box [arv] rfl rfl ?_)
  intro b1
  refine XL.cons (XOp.assign (.bool (false)) rfl ?_)
  refine XL.nil ?_
  refine X.seq ?_
  refine X.region ?_
  refine XL.cons (XOp.loadN [arv] Try.isAgg33 Try.sizeOf33 rfl rfl (Rd.ownN [] rfl rfl) ?_)
  refine XL.cons (XOp.move (tv) rfl ?_)
  refine XL.cons (XOp.call (args := [.agg #[arv], tv]) Try.call130 rfl (TermOk_spec har ht) ?_)
  rintro _ _ _ _ ⟨rfl, rfl, rfl⟩
  refine XL.cons (XOp.move (.bool (termOk ar t)) rfl ?_)
  by_cases h1 : (termOk ar t) = true
  · refine XL.yes (t := 10) rfl (congrArg Value.bool h1) (XOp.move (.int .i64 (n)) rfl ?_)
    refine XL.yes (t := 10) rfl (congrArg Value.bool h1) (XOp.geq (a := n) (b := 0) rfl rfl ?_)
    refine XL.cons (XOp.pickT (.bool (decide ((n : Int) ≥ 0))) (congrArg Value.bool h1) rfl ?_)
    refine XL.cons (XOp.move (.bool (decide ((n : Int) ≥ 0))) rfl ?_)
    by_cases h2 : (n : Int) ≥ 0
    · refine XL.yes (t := 14) rfl (congrArg Value.bool (decide_eq_true h2)) (XOp.move (.int .i64 (n)) rfl ?_)
      refine XL.yes (t := 14) rfl (congrArg Value.bool (decide_eq_true h2)) (XOp.move (tv) rfl ?_)
      refine XL.yes (t := 14) rfl (congrArg Value.bool (decide_eq_true h2)) (XOp.lenS (v := tv) (n := (t).length) Try.runUnderlying22 rfl ht.slv ?_)
      refine XL.yes (t := 14) rfl (congrArg Value.bool (decide_eq_true h2)) (XOp.lss (a := n) (b := (((t).length : Nat) : Int)) rfl rfl ?_)
      refine XL.cons (XOp.pickT (.bool (decide ((n : Int) < (((t).length : Nat) : Int)))) (congrArg Value.bool (decide_eq_true h2)) rfl ?_)
      refine XL.cons (XOp.assign (.bool (decide ((n : Int) < (((t).length : Nat) : Int)))) rfl ?_)
      refine XL.nil ?_
      refine X.ret (retEnd (L' := L) [.bool (decide ((n : Int) < (((t).length : Nat) : Int)))] (.bool (decide ((n : Int) < (((t).length : Nat) : Int)))) (.tmp rfl .nil) rfl (FLe.refl _) (FLe.refl _) (Sub.drop (Sub.refl _)) ?_)
      exact ⟨((by unfold posOk; congr 1; rw [h1, Bool.true_and]; exact decide_eq_decide.2 (by omega))), rfl, rfl⟩
    · refine XL.no (t := 14) rfl (congrArg Value.bool (decide_eq_false h2)) ?_
      refine XL.no (t := 14) rfl (congrArg Value.bool (decide_eq_false h2)) ?_
      refine XL.no (t := 14) rfl (congrArg Value.bool (decide_eq_false h2)) ?_
      refine XL.no (t := 14) rfl (congrArg Value.bool (decide_eq_false h2)) ?_
      refine XL.cons (XOp.pickF (.bool (false)) (congrArg Value.bool (decide_eq_false h2)) rfl ?_)
      refine XL.cons (XOp.assign (.bool (false)) rfl ?_)
      refine XL.nil ?_
      refine X.ret (retEnd (L' := L) [.bool (false)] (.bool (false)) (.tmp rfl .nil) rfl (FLe.refl _) (FLe.refl _) (Sub.drop (Sub.refl _)) ?_)
      exact ⟨((by unfold posOk; simp_all <;> omega)), rfl, rfl⟩
  · rw [Bool.not_eq_true] at h1
    refine XL.no (t := 10) rfl (congrArg Value.bool h1) ?_
    refine XL.no (t := 10) rfl (congrArg Value.bool h1) ?_
    refine XL.cons (XOp.pickF (.bool (false)) (congrArg Value.bool h1) rfl ?_)
    refine XL.cons (XOp.move (.bool (false)) rfl ?_)
    refine XL.no (t := 14) rfl rfl ?_
    refine XL.no (t := 14) rfl rfl ?_
    refine XL.no (t := 14) rfl rfl ?_
    refine XL.no (t := 14) rfl rfl ?_
    refine XL.cons (XOp.pickF (.bool (false)) rfl rfl ?_)
    refine XL.cons (XOp.assign (.bool (false)) rfl ?_)
    refine XL.nil ?_
    refine X.ret (retEnd (L' := L) [.bool (false)] (.bool (false)) (.tmp rfl .nil) rfl (FLe.refl _) (FLe.refl _) (Sub.drop (Sub.refl _)) ?_)
    exact ⟨((by unfold posOk; simp_all <;> omega)), rfl, rfl⟩

/- spec.TermOk -/
theorem sTermOk_spec {F : FH} {L : List HP} {arv : Value} {ar : List Int} (har : IntsF F arv ar) {tv : Value} {t : List Int} (ht : IntsF F tv t) (hla : ar.length ≤ 4000000) (hlt : t.length ≤ 4000000) :
    Does Try.prog 113 [.agg #[arv], tv] F (L) (fun v F' L' => (.bool (termOk ar t) : Value) = v ∧ F = F' ∧ L = L') := by
  refine Does.of_X Try.func113 rfl rfl rfl ?_
  refine X.seq ?_
  refine X.region ?_
  refine XL.cons (XOp.box [arv] rfl rfl ?_)
  intro b1
  refine XL.cons (XOp.assign (.bool (false)) rfl ?_)
  refine XL.nil ?_
  refine X.seq ?_
  refine X.region ?_
  refine XL.cons (XOp.loadN [arv] Try.isAgg33 Try.sizeOf33 rfl rfl (Rd.ownN [] rfl rfl) ?_)
  refine XL.cons (XOp.call (args := [.agg #[arv]]) Try.call109 rfl (sSigOk_spec har (hla := (by first | assumption | rfl | omega | (left; simp; done) | (right; simp; done)))) ?_)
  rintro _ _ _ _ ⟨rfl, rfl, rfl⟩
  refine XL.cons (XOp.move (.bool (sigOk ar)) rfl ?_)
  by_cases h1 : (sigOk ar) = true
  · refine XL.yes (t := 7) rfl (congrArg Value.bool h1) (XOp.move (tv) rfl ?_)
    refine XL.yes (t := 7) rfl (congrArg Value.bool h1) (XOp.lenS (v := tv) (n := (t).length) Try.runUnderlying22 rfl ht.slv ?_)
    refine XL.yes (t := 7) rfl (congrArg Value.bool h1) (XOp.call (args := [.int .i64 ((((t).length : Nat) : Int)), .int .i64 (1), .int .i64 (60)]) Try.call58 rfl (l1In_spec (n := (((t).length : Nat) : Int)) (a := 1) (b := 60)) ?_)
    rintro _ _ _ _ ⟨rfl, rfl, rfl⟩
    refine XL.cons (XOp.pickT (.bool (decide (1 ≤ ((((t).length : Nat) : Int)) ∧ ((((t).length : Nat) : Int)) ≤ 60))) (congrArg Value.bool h1) rfl ?_)
    refine XL.cons (XOp.move (.bool (decide (1 ≤ ((((t).length : Nat) : Int)) ∧ ((((t).length : Nat) : Int)) ≤ 60))) rfl ?_)
    by_cases h2 : 1 ≤ ((((t).length : Nat) : Int)) ∧ ((((t).length : Nat) : Int)) ≤ 60
    · refine XL.yes (t := 12) rfl (congrArg Value.bool (decide_eq_true h2)) (XOp.loadN [arv] Try.isAgg33 Try.sizeOf33 rfl rfl (Rd.ownN [] rfl rfl) ?_)
      refine XL.yes (t := 12) rfl (congrArg Value.bool (decide_eq_true h2)) (XOp.move (tv) rfl ?_)
      refine XL.yes (t := 12) rfl (congrArg Value.bool (decide_eq_true h2)) (XOp.call (args := [.agg #[arv], tv, .int .i64 ((0 : Nat) : Int)]) Try.call136 rfl (l1End_spec (p0 := 0) har ht (hs := (by first | assumption | rfl | omega | (left; simp; done) | (right; simp; done))) (hlt := (by first | assumption | rfl | omega | (left; simp; done) | (right; simp; done))) (hp := (by first | assumption | rfl | omega | (left; simp; done) | (right; simp; done)))) ?_)
      rintro _ _ _ _ ⟨rfl, rfl, rfl⟩
      refine XL.yes (t := 12) rfl (congrArg Value.bool (decide_eq_true h2)) (XOp.move (tv) rfl ?_)
      refine XL.yes (t := 12) rfl (congrArg Value.bool (decide_eq_true h2)) (XOp.lenS (v := tv) (n := (t).length) Try.runUnderlying22 rfl ht.slv ?_)
      refine XL.yes (t := 12) rfl (congrArg Value.bool (decide_eq_true h2)) (XOp.eql (a := sEndZ ar t 0) (b := (((t).length : Nat) : Int)) rfl rfl ?_)
      refine XL.cons (XOp.pickT (.bool (decide ((sEndZ ar t 0 : Int) = (((t).length : Nat) : Int)))) (congrArg Value.bool (decide_eq_true h2)) rfl ?_)
      refine XL.cons (XOp.assign (.bool (decide ((sEndZ ar t 0 : Int) = (((t).length : Nat) : Int)))) rfl ?_)
      refine XL.nil ?_
      refine X.ret (retEnd (L' := L) [.bool (decide ((sEndZ ar t 0 : Int) = (((t).length : Nat) : Int)))] (.bool (decide ((sEndZ ar t 0 : Int) = (((t).length : Nat) : Int)))) (.tmp rfl .nil) rfl (FLe.refl _) (FLe.refl _) (Sub.drop (Sub.refl _)) ?_)
      exact ⟨(congrArg Value.bool (termOk_s (by assumption) (by omega))), rfl, rfl⟩
    · refine XL.no (t := 12) rfl (congrArg Value.bool (decide_eq_false h2)) ?_
      refine XL.no (t := 12) rfl (congrArg Value.bool (decide_eq_false h2)) ?_
      refine XL.no (t := 12) rfl (congrArg Value.bool (decide_eq_false h2)) ?_
      refine XL.no (t := 12) rfl (congrArg Value.bool (decide_eq_false h2)) ?_
      refine XL.no (t := 12) rfl (congrArg Value.bool (decide_eq_false h2)) ?_
      refine XL.no (t := 12) rfl (congrArg Value.bool (decide_eq_false h2)) ?_
      refine XL.cons (XOp.pickF (.bool (false)) (congrArg Value.bool (decide_eq_false h2)) rfl ?_)
      refine XL.cons (XOp.assign (.bool (false)) rfl ?_)
      refine XL.nil ?_
      refine X.ret (retEnd (L' := L) [.bool (false)] (.bool (false)) (.tmp rfl .nil) rfl (FLe.refl _) (FLe.refl _) (Sub.drop (Sub.refl _)) ?_)
      exact ⟨(congrArg Value.bool (by first | (refine termOk_nosig ?_; assumption) | (refine termOk_short ?_; omega))), rfl, rfl⟩
  · rw [Bool.not_eq_true] at h1
    refine XL.no (t := 7) rfl (congrArg Value.bool h1) ?_
    refine XL.no (t := 7) rfl (congrArg Value.bool h1) ?_
    refine XL.no (t := 7) rfl (congrArg Value.bool h1) ?_
    refine XL.cons (XOp.pickF (.bool (false)) (congrArg Value.bool h1) rfl ?_)
    refine XL.cons (XOp.move (.bool (false)) rfl ?_)
    refine XL.no (t := 12) rfl rfl ?_
    refine XL.no (t := 12) rfl rfl ?_
    refine XL.no (t := 12) rfl rfl ?_
    refine XL.no (t := 12) rfl rfl ?_
    refine XL.no (t := 12) rfl rfl ?_
    refine XL.no (t := 12) rfl rfl ?_
    refine XL.cons (XOp.pickF (.bool (false)) rfl rfl ?_)
    refine XL.cons (XOp.assign (.bool (false)) rfl ?_)
    refine XL.nil ?_
    refine X.ret (retEnd (L' := L) [.bool (false)] (.bool (false)) (.tmp rfl .nil) rfl (FLe.refl _) (FLe.refl _) (Sub.drop (Sub.refl _)) ?_)
    exact ⟨(congrArg Value.bool (by first | (refine termOk_nosig ?_; assumption) | (refine termOk_short ?_; omega))), rfl, rfl⟩

theorem endAt_ok {F : FH} {L : List HP} {p : Nat} {arv : Value} {ar : List Int} (har : IntsF F arv ar) {tv : Value} {t : List Int} (ht : IntsF F tv t) (ho : termOk ar t = true) (hp : p < t.length) :
    Does Try.prog 139 [.agg #[arv], tv, .int .i64 ((p : Nat) : Int)] F L (fun v F' L' => (.int .i64 ((endN ar t p : Nat) : Int) : Value) = v ∧ F = F' ∧ L = L') := by
  have hl := termOk_len ho
  have h := endAt_spec (F := F) (L := L) (p := p) har ht (termOk_sig ho) (by omega) (by omega)
  rw [endZ_endN ho hp] at h
  exact h

theorem l1End_ok {F : FH} {L : List HP} {p : Nat} {arv : Value} {ar : List Int} (har : IntsF F arv ar) {tv : Value} {t : List Int} (ht : IntsF F tv t) (ho : termOk ar t = true) (hp : p < t.length) :
    Does Try.prog 136 [.agg #[arv], tv, .int .i64 ((p : Nat) : Int)] F L (fun v F' L' => (.int .i64 ((endN ar t p : Nat) : Int) : Value) = v ∧ F = F' ∧ L = L') := by
  have hl := termOk_len ho
  have h := l1End_spec (F := F) (L := L) (p0 := p) har ht (termOk_sig ho) (by omega) (by omega)
  rw [sEndZ_endN ho hp] at h
  exact h

end Go.Proofs.Ytnloeeaidknblaa
