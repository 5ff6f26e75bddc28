/-
  Walks: the statements' own helpers: marks.
-/
import Derived.Test.YtbooflphoaaoeaaGreatQlFp
import Derived.Test.YtbooflphoaaoeaaGreatP8
set_option linter.unusedSimpArgs false
set_option linter.unusedVariables false
namespace Go.Proofs.YtbooflphoaaoeaaGreat
open Go X M

/- laws.markInt64S -/
theorem markInt64S_spec {F : FH} {L : List HP} {xv : Value} {x : List Int} {z : Int} (hz : 0 ≤ z ∧ z + (((x)).length : Int) ≤ 9000000000) :
    Does Tryz.prog 19 [xv, .int .i64 (z)] F (intsH 2 xv x :: L) (fun v F' L' => ∃ x' : List Int, ((x')) = iota z ((x)).length ∧ (.int .i64 (z + (((x)).length : Int)) : Value) = v ∧ F = F' ∧ intsH 2 xv x' :: L = L') := by
  refine Does.of_X Tryz.func19 rfl rfl rfl ?_
  refine X.seq ?_
  refine X.region ?_
  refine XL.cons (XOp.assign (.int .i64 (0)) rfl ?_)
  refine XL.nil ?_
  refine X.seq ?_
  refine X.seq ?_
  refine X.region ?_
  refine XL.cons (XOp.assign (.int .i64 (0)) rfl ?_)
  refine XL.nil ?_
  refine X.block ?_
  refine X.loop (α := Nat × List Int) (fun xQ => [(0, xv), (1, .int .i64 (z + ((xQ.1 : Nat) : Int))), (5, .int .i64 (((xQ.1 : Nat) : Int)))]) (fun xQ => intsH 2 xv xQ.2 :: L) (fun xQ F' => F = F' ∧ (xQ.1 ≤ x.length) ∧ (xQ.2 = iota z xQ.1 ++ x.drop xQ.1) ∧ (xQ.2.length = x.length)) (fun xQ => x.length - xQ.1) (0, x) ⟨rfl, (show Value.int .i64 z = .int .i64 (z + ((0 : Nat) : Int)) from congrArg (Value.int .i64) (by omega)), rfl, trivial⟩ (Sub.cons (Sub.refl _)) ⟨rfl, (by (try dsimp only) <;> omega), (by rw [iota_zero]; rfl), (rfl)⟩ ?_
  rintro ⟨k, os⟩ rE _ _ ⟨rfl, hk, hos, hol⟩
  show X _ _ _ _ (envs [(0, xv), (1, .int .i64 (z + ((k : Nat) : Int))), (5, .int .i64 (((k : Nat) : Int)))] rE) _ (intsH 2 xv os :: L)
  dsimp only at hk hos hol
  refine X.seq ?_
  refine X.seq ?_
  refine X.region ?_
  refine XL.cons (XOp.move (.int .i64 (((k : Nat) : Int))) rfl ?_)
  refine XL.cons (XOp.move (xv) rfl ?_)
  refine XL.cons (XOp.lenS (v := xv) (n := os.length) Tryz.runUnderlying22 rfl (intsH.slv [] rfl) ?_)
  refine XL.cons (XOp.lss (a := ((k : Nat) : Int)) (b := ((os.length : Nat) : Int)) rfl rfl ?_)
  refine XL.nil ?_
  refine X.condD (p := (((k : Nat) : Int) : Int) < ((os.length : Nat) : Int)) rfl (fun h1 => ?_) (fun h1 => ?_)
  · refine X.skip ?_
    refine X.seq ?_
    refine X.block ?_
    refine X.seq ?_
    refine X.region ?_
    refine XL.cons (XOp.move (xv) rfl ?_)
    refine XL.cons (XOp.move (.int .i64 (((k : Nat) : Int))) rfl ?_)
    refine XL.cons (XOp.move (.int .i64 (z + ((k : Nat) : Int))) rfl ?_)
    refine XL.cons (XOp.indexS (v := xv) (i := ((k : Nat) : Int)) (n := os.length) k Tryz.runUnderlying22 Tryz.sizeOf2 rfl rfl rfl (intsH.slv [] rfl) (by omega) (Nat.mul_one _) ?_)
    refine XL.cons (intsH.storeX (i := k) (v := xv) [] _ (os.set k (z + ((k : Nat) : Int))) Tryz.sizeOf2 rfl rfl rfl (by omega) rfl ?_)
    refine XL.nil ?_
    refine X.region ?_
    refine XL.cons (XOp.move (.int .i64 (z + ((k : Nat) : Int))) rfl ?_)
    refine XL.cons (XOp.addR (a := z + ((k : Nat) : Int)) (b := 1) ((z + ((k : Nat) : Int)) + 1) rfl rfl (by omega) (by omega) ?_)
    refine XL.cons (XOp.assign (.int .i64 ((z + ((k : Nat) : Int)) + 1)) rfl ?_)
    refine XL.nil ?_
    refine X.region ?_
    refine XL.cons (XOp.move (.int .i64 (((k : Nat) : Int))) rfl ?_)
    refine XL.cons (XOp.addR (a := ((k : Nat) : Int)) (b := 1) (((k + 1 : Nat) : Int)) rfl rfl (by omega) (by omega) ?_)
    refine XL.cons (XOp.assign (.int .i64 (((k + 1 : Nat) : Int))) rfl ?_)
    refine XL.nil ?_
    exact ⟨(k + 1, (os.set k (z + ((k : Nat) : Int)))), _, FLe.refl _, (FLe.refl _), ⟨rfl, (congrArg (Value.int .i64) (by omega)), rfl, trivial⟩, (Sub.cons (Sub.refl _)), ⟨rfl, (by (try dsimp only) <;> omega), (by dsimp only; rw [hos]; exact iota_set (by omega)), (by dsimp only; rw [List.length_set]; exact hol)⟩, (by omega)⟩
  · refine X.exit (thenQ_exit (thenQ_exit (blockQ_exit ?_)))
    refine X.seq ?_
    refine X.region ?_
    refine XL.cons (XOp.move (.int .i64 (z + ((k : Nat) : Int))) rfl ?_)
    refine XL.cons (XOp.assign (.int .i64 (z + ((k : Nat) : Int))) rfl ?_)
    refine XL.nil ?_
    refine X.ret (retEnd (L' := intsH 2 xv os :: L) [.int .i64 (z + ((k : Nat) : Int))] (.int .i64 (z + ((k : Nat) : Int))) (.tmp rfl .nil) rfl (FLe.refl _) (FLe.refl _) (Sub.cons (Sub.refl _)) ?_)
    have hkl : k = x.length := by omega
    subst hkl
    exact ⟨os, by rw [hos, List.drop_eq_nil_of_le (Nat.le_refl _), List.append_nil], rfl, rfl, rfl⟩

/- laws.heldInt64S -/
theorem heldInt64S_spec {F : FH} {L : List HP} {xv : Value} {x : List Int} (hx : IntsF F xv x) {z : Int} (hzb : 0 ≤ z ∧ z + (x.length : Int) ≤ 9000000000) :
    Does Tryz.prog 33 [xv, .int .i64 (z)] F (L) (fun v F' L' => (.int .i64 (heldF x z) : Value) = v ∧ F = F' ∧ L = L') := by
  refine Does.of_X Tryz.func33 rfl rfl rfl ?_
  refine X.seq ?_
  refine X.region ?_
  refine XL.cons (XOp.assign (.int .i64 (0)) rfl ?_)
  refine XL.nil ?_
  refine X.seq ?_
  refine X.seq ?_
  refine X.region ?_
  refine XL.cons (XOp.assign (.int .i64 (0)) rfl ?_)
  refine XL.nil ?_
  refine X.block ?_
  refine X.loop (α := Nat) (fun k => [(0, xv), (1, .int .i64 (z + ((k : Nat) : Int))), (5, .int .i64 (((k : Nat) : Int)))]) (fun k => L) (fun k F' => F = F' ∧ (k ≤ x.length) ∧ (x.take k = iota z k)) (fun k => x.length - k) 0 ⟨rfl, (show Value.int .i64 z = .int .i64 (z + ((0 : Nat) : Int)) from congrArg (Value.int .i64) (by omega)), rfl, trivial⟩ (Sub.refl _) ⟨rfl, (by (try dsimp only) <;> omega), (rfl)⟩ ?_
  rintro k rE _ _ ⟨rfl, hk, hos⟩
  show X _ _ _ _ (envs [(0, xv), (1, .int .i64 (z + ((k : Nat) : Int))), (5, .int .i64 (((k : Nat) : Int)))] rE) _ (L)
  refine X.seq ?_
  refine X.seq ?_
  refine X.region ?_
  refine XL.cons (XOp.move (.int .i64 (((k : Nat) : Int))) rfl ?_)
  refine XL.cons (XOp.move (xv) rfl ?_)
  refine XL.cons (XOp.lenS (v := xv) (n := (x).length) Tryz.runUnderlying22 rfl hx.slv ?_)
  refine XL.cons (XOp.lss (a := ((k : Nat) : Int)) (b := (((x).length : Nat) : Int)) rfl rfl ?_)
  refine XL.nil ?_
  refine X.condD (p := (((k : Nat) : Int) : Int) < (((x).length : Nat) : Int)) rfl (fun h1 => ?_) (fun h1 => ?_)
  · refine X.skip ?_
    refine X.seq ?_
    refine X.block ?_
    refine X.seq ?_
    refine X.seq ?_
    refine X.region ?_
    refine XL.cons (XOp.move (xv) rfl ?_)
    refine XL.cons (XOp.move (.int .i64 (((k : Nat) : Int))) rfl ?_)
    refine XL.cons (XOp.indexS (v := xv) (i := ((k : Nat) : Int)) (n := (x).length) k Tryz.runUnderlying22 Tryz.sizeOf2 rfl rfl rfl hx.slv (by omega) (Nat.mul_one _) ?_)
    refine XL.cons (XOp.load1 (v := .int .i64 (x.getD k 0)) Tryz.isAgg2 rfl (hx.rd (by omega)) ?_)
    refine XL.cons (XOp.move (.int .i64 (z + ((k : Nat) : Int))) rfl ?_)
    refine XL.cons (XOp.neq (a := x.getD k 0) (b := z + ((k : Nat) : Int)) rfl rfl ?_)
    refine XL.nil ?_
    refine X.condD (p := (x.getD k 0 : Int) ≠ z + ((k : Nat) : Int)) rfl (fun h2 => ?_) (fun h2 => ?_)
    · refine X.seq ?_
      refine X.region ?_
      refine XL.cons (XOp.assign (.int .i64 (-1)) rfl ?_)
      refine XL.nil ?_
      refine X.ret (thenQ_ret (blockQ_ret (thenQ_ret (thenQ_ret (blockQ_ret (thenQ_ret (retEnd (L' := L) [.int .i64 (-1)] (.int .i64 (-1)) (.tmp rfl .nil) rfl (FLe.refl _) (FLe.refl _) (Sub.refl _) ?_)))))))
      exact ⟨(congrArg (Value.int .i64) (heldF_snoc_no (i := k) (by omega) (by assumption))), rfl, rfl⟩
    · refine X.skip ?_
      refine X.region ?_
      refine XL.cons (XOp.move (.int .i64 (z + ((k : Nat) : Int))) rfl ?_)
      refine XL.cons (XOp.addR (a := z + ((k : Nat) : Int)) (b := 1) ((z + ((k : Nat) : Int)) + 1) rfl rfl (by omega) (by omega) ?_)
      refine XL.cons (XOp.assign (.int .i64 ((z + ((k : Nat) : Int)) + 1)) rfl ?_)
      refine XL.nil ?_
      refine X.region ?_
      refine XL.cons (XOp.move (.int .i64 (((k : Nat) : Int))) rfl ?_)
      refine XL.cons (XOp.addR (a := ((k : Nat) : Int)) (b := 1) (((k + 1 : Nat) : Int)) rfl rfl (by omega) (by omega) ?_)
      refine XL.cons (XOp.assign (.int .i64 (((k + 1 : Nat) : Int))) rfl ?_)
      refine XL.nil ?_
      exact ⟨k + 1, _, FLe.refl _, (FLe.refl _), ⟨rfl, (congrArg (Value.int .i64) (by omega)), rfl, trivial⟩, (Sub.refl _), ⟨rfl, (by (try dsimp only) <;> omega), (by (try dsimp only); rw [take_succ_getD 0 (by omega), hos, iota_succ]; congr 2; first | assumption | exact Classical.not_not.1 (by assumption) | omega)⟩, (by omega)⟩
  · refine X.exit (thenQ_exit (thenQ_exit (blockQ_exit ?_)))
    refine X.seq ?_
    refine X.region ?_
    refine XL.cons (XOp.move (.int .i64 (z + ((k : Nat) : Int))) rfl ?_)
    refine XL.cons (XOp.assign (.int .i64 (z + ((k : Nat) : Int))) rfl ?_)
    refine XL.nil ?_
    refine X.ret (retEnd (L' := L) [.int .i64 (z + ((k : Nat) : Int))] (.int .i64 (z + ((k : Nat) : Int))) (.tmp rfl .nil) rfl (FLe.refl _) (FLe.refl _) (Sub.refl _) ?_)
    exact ⟨(congrArg (Value.int .i64) (held_all (by omega) hos)), rfl, rfl⟩

/- laws.markSig -/
theorem markSig_spec {F : FH} {L : List HP} {xv : Value} {x : List Int} {z : Int} (hz : 0 ≤ z ∧ z + (((x)).length : Int) ≤ 9000000000) :
    Does Tryz.prog 63 [.agg #[xv], .int .i64 (z)] F (intsH 2 xv x :: L) (fun v F' L' => ∃ x' : List Int, ((x')) = iota z ((x)).length ∧ (.int .i64 (z + (((x)).length : Int)) : Value) = v ∧ F = F' ∧ intsH 2 xv x' :: L = L') := by
  refine Does.of_X Tryz.func63 rfl rfl rfl ?_
  refine X.seq ?_
  refine X.region ?_
  refine XL.cons (XOp.box [xv] rfl rfl ?_)
  intro b1
  refine XL.cons (XOp.assign (.int .i64 (0)) rfl ?_)
  refine XL.nil ?_
  refine X.seq ?_
  refine X.region ?_
  refine XL.cons (XOp.fieldP (b := b1) (0) Tryz.runUnderlying34 rfl Tryz.sizeOf22 (by decide) rfl rfl ?_)
  refine XL.cons (XOp.load1 (v := xv) Tryz.isAgg22 rfl (Rd.own [] rfl rfl) ?_)
  refine XL.cons (XOp.move (.int .i64 (z)) rfl ?_)
  refine XL.weaken (Sub.front (A := [_])) ?_
  show XL _ _ _ _ _ _ _ (intsH 2 xv x :: cellsH b1 [xv] 34 :: L)
  refine XL.cons (XOp.call (args := [xv, .int .i64 (z)]) Tryz.call19 rfl (markInt64S_spec (by omega)) ?_)
  rintro _ _ _ _ ⟨m1, hm1, rfl, rfl, rfl⟩
  have hml1 := congrArg List.length hm1
  rw [iota_len] at hml1
  try simp only [List.length_append] at hml1
  refine XL.cons (XOp.assign (.int .i64 (z + (((x)).length : Int))) rfl ?_)
  refine XL.nil ?_
  refine X.seq ?_
  refine X.region ?_
  refine XL.cons (XOp.move (.int .i64 (z + (((x)).length : Int))) rfl ?_)
  refine XL.cons (XOp.assign (.int .i64 (z + (((x)).length : Int))) rfl ?_)
  refine XL.nil ?_
  refine X.ret (retEnd (L' := intsH 2 xv m1 :: L) [.int .i64 (z + (((x)).length : Int))] (.int .i64 (z + (((x)).length : Int))) (.tmp rfl .nil) rfl (FLe.refl _) (FLe.refl _) (Sub.cons (Sub.drop (Sub.refl _))) ?_)
  exact ⟨m1, hm1, congrArg (Value.int .i64) (by first | rfl | (simp only [List.length_append]; omega)), rfl, rfl⟩

/- laws.markRuleS -/
theorem markRuleS_spec {F : FH} {L : List HP} {xv : Value} {x : List (List Int × List Int)} {z : Int} (hz : 0 ≤ z ∧ z + (((x.flatMap flatPair)).length : Int) ≤ 9000000000) (hnx : x.length ≤ 4000000) :
    Does Tryz.prog 64 [xv, .int .i64 (z)] F (pairsD 2 135 xv x :: L) (fun v F' L' => ∃ x' : List (List Int × List Int), ((x'.flatMap flatPair)) = iota z ((x.flatMap flatPair)).length ∧ x'.length = x.length ∧ (.int .i64 (z + (((x.flatMap flatPair)).length : Int)) : Value) = v ∧ F = F' ∧ pairsD 2 135 xv x' :: L = L') := by
  refine Does.of_X Tryz.func64 rfl rfl rfl ?_
  refine X.openDeep (fun cs Ls hd => ?_)
  refine X.weaken (Sub.front (A := [_])) ?_
  show X _ _ _ _ _ _ (star Ls :: slH 135 2 xv x.length cs :: L)
  refine X.seq ?_
  refine X.region ?_
  refine XL.cons (XOp.assign (.int .i64 (0)) rfl ?_)
  refine XL.nil ?_
  refine X.seq ?_
  refine X.seq ?_
  refine X.region ?_
  refine XL.cons (XOp.assign (.int .i64 (0)) rfl ?_)
  refine XL.nil ?_
  refine X.block ?_
  refine X.loop (α := Nat × List (List Int × List Int) × List HP) (fun xQ => [(0, xv), (1, .int .i64 (z + ((((x.take xQ.1).flatMap flatPair).length : Nat) : Int))), (5, .int .i64 (((xQ.1 : Nat) : Int)))]) (fun xQ => star xQ.2.2 :: slH 135 2 xv x.length cs :: L) (fun xQ F' => F = F' ∧ (DeepL 2 (PairO 2) cs (xQ.2.1 ++ x.drop xQ.1) xQ.2.2) ∧ (xQ.1 ≤ x.length) ∧ (xQ.2.1.length = xQ.1) ∧ (xQ.2.1.flatMap flatPair = iota z ((x.take xQ.1).flatMap flatPair).length)) (fun xQ => x.length - xQ.1) (0, [], Ls) ⟨rfl, (show Value.int .i64 z = .int .i64 (z + ((((x.take 0).flatMap flatPair).length : Nat) : Int)) from congrArg (Value.int .i64) (by simp)), rfl, trivial⟩ (Sub.cons (Sub.cons (Sub.refl _))) ⟨rfl, (hd), (by (try dsimp only) <;> omega), (rfl), (rfl)⟩ ?_
  rintro ⟨k, os, Ls⟩ rE _ _ ⟨rfl, hd, hk, hol, hfl⟩
  show X _ _ _ _ (envs [(0, xv), (1, .int .i64 (z + ((((x.take k).flatMap flatPair).length : Nat) : Int))), (5, .int .i64 (((k : Nat) : Int)))] rE) _ (star Ls :: slH 135 2 xv x.length cs :: L)
  dsimp only at hd hk hol hfl
  have htl := fun (h : k < x.length) => flat_take_le (f := flatPair) (l := x) ([], []) h
  have hlen : (os ++ x.drop k).length = x.length := by rw [List.length_append, List.length_drop]; omega
  refine X.seq ?_
  refine X.seq ?_
  refine X.region ?_
  refine XL.cons (XOp.move (.int .i64 (((k : Nat) : Int))) rfl ?_)
  refine XL.cons (XOp.move (xv) rfl ?_)
  refine XL.cons (XOp.lenS (v := xv) (n := x.length) Tryz.runUnderlying35 rfl (SlV.own [_] rfl) ?_)
  refine XL.cons (XOp.lss (a := ((k : Nat) : Int)) (b := ((x.length : Nat) : Int)) rfl rfl ?_)
  refine XL.nil ?_
  refine X.condD (p := (((k : Nat) : Int) : Int) < ((x.length : Nat) : Int)) rfl (fun h1 => ?_) (fun h1 => ?_)
  · refine X.skip ?_
    refine X.seq ?_
    refine X.block ?_
    refine X.seq ?_
    refine X.region ?_
    have hkx : k < x.length := by omega
    have htl2 := htl hkx
    obtain ⟨A, K, B, es, hLs, hel, hR, hg, hput⟩ := hd.at (d := ([], [])) (k := k) (by omega)
    rw [app_getD hol] at hR
    have hself := splice_self hel hg (hd.bound (k := k) (by omega))
    obtain ⟨a, b, he, hK⟩ := hR
    subst he hK
    have hfp : (flatPair (x.getD k ([], []))).length = (x.getD k ([], [])).1.length + (x.getD k ([], [])).2.length := by unfold flatPair; rw [List.length_append]
    subst hLs
    refine XL.weaken (Sub.pull (A := A)) ?_
    show XL _ _ _ _ _ _ _ (intsH 2 a ((x.getD k ([], [])).1) :: intsH 2 b ((x.getD k ([], [])).2) :: star (A ++ B) :: slH 135 2 xv x.length cs :: L)
    skip
    refine XL.cons (XOp.move (xv) rfl ?_)
    refine XL.cons (XOp.move (.int .i64 (((k : Nat) : Int))) rfl ?_)
    refine XL.cons (XOp.indexS (v := xv) (i := ((k : Nat) : Int)) (n := x.length) k Tryz.runUnderlying35 Tryz.sizeOf135 rfl rfl rfl (SlV.own [_, _, _] rfl) (by omega) rfl ?_)
    refine XL.cons (XOp.fieldE (v := xv) (k * 2) Tryz.runUnderlying135 rfl Tryz.sizeOf22 (by decide) rfl rfl ?_)
    refine XL.cons (XOp.load1 (v := a) Tryz.isAgg22 rfl (Rd.sl [_, _, _] rfl (hg 0 _ rfl)) ?_)
    refine XL.cons (XOp.move (.int .i64 (z + ((((x.take k).flatMap flatPair).length : Nat) : Int))) rfl ?_)
    refine XL.cons (XOp.call (args := [a, .int .i64 (z + ((((x.take k).flatMap flatPair).length : Nat) : Int))]) Tryz.call19 rfl (markInt64S_spec (by omega)) ?_)
    rintro _ _ _ _ ⟨m1, hm1, rfl, rfl, rfl⟩
    have hml1 := congrArg List.length hm1
    rw [iota_len] at hml1
    try simp only [List.length_append] at hml1
    refine XL.cons (XOp.assign (.int .i64 ((z + ((((x.take k).flatMap flatPair).length : Nat) : Int)) + (((((x.getD k ([], [])).1))).length : Int))) rfl ?_)
    refine XL.nil ?_
    refine X.region ?_
    refine XL.cons (XOp.move (xv) rfl ?_)
    refine XL.cons (XOp.move (.int .i64 (((k : Nat) : Int))) rfl ?_)
    refine XL.cons (XOp.indexS (v := xv) (i := ((k : Nat) : Int)) (n := x.length) k Tryz.runUnderlying35 Tryz.sizeOf135 rfl rfl rfl (SlV.own [_, _, _] rfl) (by omega) rfl ?_)
    refine XL.cons (XOp.fieldE (v := xv) (k * 2 + 1) Tryz.runUnderlying135 rfl Tryz.sizeOf22 (by decide) rfl rfl ?_)
    refine XL.cons (XOp.load1 (v := b) Tryz.isAgg22 rfl (Rd.sl [_, _, _] rfl (hg 1 _ rfl)) ?_)
    refine XL.cons (XOp.move (.int .i64 ((z + ((((x.take k).flatMap flatPair).length : Nat) : Int)) + (((((x.getD k ([], [])).1))).length : Int))) rfl ?_)
    refine XL.weaken (Sub.front (A := [_])) ?_
    show XL _ _ _ _ _ _ _ (intsH 2 b ((x.getD k ([], [])).2) :: intsH 2 a m1 :: star (A ++ B) :: slH 135 2 xv x.length cs :: L)
    refine XL.cons (XOp.call (args := [b, .int .i64 ((z + ((((x.take k).flatMap flatPair).length : Nat) : Int)) + (((((x.getD k ([], [])).1))).length : Int))]) Tryz.call19 rfl (markInt64S_spec (by omega)) ?_)
    rintro _ _ _ _ ⟨m2, hm2, rfl, rfl, rfl⟩
    have hml2 := congrArg List.length hm2
    rw [iota_len] at hml2
    try simp only [List.length_append] at hml2
    refine XL.cons (XOp.assign (.int .i64 (((z + ((((x.take k).flatMap flatPair).length : Nat) : Int)) + (((((x.getD k ([], [])).1))).length : Int)) + (((((x.getD k ([], [])).2))).length : Int))) rfl ?_)
    refine XL.nil ?_
    refine X.region ?_
    refine XL.weaken (Sub.trans (Sub.front (A := [_, _, _])) (Sub.trans (Sub.front (A := [_, _, _])) (Sub.trans (Sub.front (A := [_, _])) (Sub.trans (Sub.front (A := [_, _, _])) (Sub.cons (Sub.cons (Sub.cons (Sub.cons (Sub.refl _))))))))) ?_
    refine XL.weaken (Sub.push (A := A) (K := [intsH 2 a m1, intsH 2 b m2]) (B := B)) ?_
    show XL _ _ _ _ _ _ _ (star (A ++ ([intsH 2 a m1, intsH 2 b m2] ++ B)) :: slH 135 2 xv x.length cs :: L)
    have hdn := hput [a, b] (m1, m2) _ rfl ⟨a, b, rfl, rfl⟩
    rw [hself, app_set hol hkx] at hdn
    have hfx : flatPair (m1, m2) = iota (z + ((((x.take k).flatMap flatPair).length : Nat) : Int)) (flatPair (x.getD k ([], []))).length := by rw [hfp, iota_add]; show m1 ++ m2 = _; rw [hm1, hm2]
    have hnext : (z + ((((x.take k).flatMap flatPair).length : Nat) : Int)) + ((x.getD k ([], [])).1.length : Int) + ((x.getD k ([], [])).2.length : Int) = z + ((((x.take (k + 1)).flatMap flatPair).length : Nat) : Int) := by rw [flatMap_take_succ flatPair ([], []) hkx, List.length_append, hfp]; omega
    skip
    refine XL.cons (XOp.move (.int .i64 (((k : Nat) : Int))) rfl ?_)
    refine XL.cons (XOp.addR (a := ((k : Nat) : Int)) (b := 1) (((k + 1 : Nat) : Int)) rfl rfl (by omega) (by omega) ?_)
    refine XL.cons (XOp.assign (.int .i64 (((k + 1 : Nat) : Int))) rfl ?_)
    refine XL.nil ?_
    exact ⟨(k + 1, os ++ [(m1, m2)], A ++ ([intsH 2 a m1, intsH 2 b m2] ++ B)), _, FLe.refl _, (FLe.refl _), ⟨rfl, (congrArg (Value.int .i64) hnext), rfl, trivial⟩, (Sub.cons (Sub.cons (Sub.refl _))), ⟨rfl, (hdn), (by (try dsimp only) <;> omega), (by simp [hol]), (marked (d := ([], [])) (by omega) hfl hfx)⟩, (by omega)⟩
  · refine X.exit (thenQ_exit (thenQ_exit (blockQ_exit ?_)))
    refine X.seq ?_
    refine X.region ?_
    refine XL.cons (XOp.move (.int .i64 (z + ((((x.take k).flatMap flatPair).length : Nat) : Int))) rfl ?_)
    refine XL.cons (XOp.assign (.int .i64 (z + ((((x.take k).flatMap flatPair).length : Nat) : Int))) rfl ?_)
    refine XL.nil ?_
    refine X.ret (retEnd (L' := pairsD 2 135 xv os :: L) [.int .i64 (z + ((((x.take k).flatMap flatPair).length : Nat) : Int))] (.int .i64 (z + ((((x.take k).flatMap flatPair).length : Nat) : Int))) (.tmp rfl .nil) rfl (FLe.refl _) (FLe.refl _) (Sub.trans (Sub.front (A := [_])) (Sub.closeDeep (by rw [app_all (by omega)] at hd; exact hd) (by omega))) ?_)
    rw [app_all (by omega)] at hd
    have hkl : k = x.length := by omega
    exact ⟨os, by rw [hfl, hkl, List.take_length], by omega, by rw [hkl, List.take_length], rfl, rfl⟩

/- laws.markInt64SS -/
theorem markInt64SS_spec {F : FH} {L : List HP} {xv : Value} {x : List (List Int)} {z : Int} (hz : 0 ≤ z ∧ z + (((x.flatMap flatRow)).length : Int) ≤ 9000000000) (hnx : x.length ≤ 4000000) :
    Does Tryz.prog 32 [xv, .int .i64 (z)] F (rowsD 2 22 xv x :: L) (fun v F' L' => ∃ x' : List (List Int), ((x'.flatMap flatRow)) = iota z ((x.flatMap flatRow)).length ∧ x'.length = x.length ∧ (.int .i64 (z + (((x.flatMap flatRow)).length : Int)) : Value) = v ∧ F = F' ∧ rowsD 2 22 xv x' :: L = L') := by
  refine Does.of_X Tryz.func32 rfl rfl rfl ?_
  refine X.openDeep (fun cs Ls hd => ?_)
  refine X.weaken (Sub.front (A := [_])) ?_
  show X _ _ _ _ _ _ (star Ls :: slH 22 1 xv x.length cs :: L)
  refine X.seq ?_
  refine X.region ?_
  refine XL.cons (XOp.assign (.int .i64 (0)) rfl ?_)
  refine XL.nil ?_
  refine X.seq ?_
  refine X.seq ?_
  refine X.region ?_
  refine XL.cons (XOp.assign (.int .i64 (0)) rfl ?_)
  refine XL.nil ?_
  refine X.block ?_
  refine X.loop (α := Nat × List (List Int) × List HP) (fun xQ => [(0, xv), (1, .int .i64 (z + ((((x.take xQ.1).flatMap flatRow).length : Nat) : Int))), (5, .int .i64 (((xQ.1 : Nat) : Int)))]) (fun xQ => star xQ.2.2 :: slH 22 1 xv x.length cs :: L) (fun xQ F' => F = F' ∧ (DeepL 1 (RowO 2) cs (xQ.2.1 ++ x.drop xQ.1) xQ.2.2) ∧ (xQ.1 ≤ x.length) ∧ (xQ.2.1.length = xQ.1) ∧ (xQ.2.1.flatMap flatRow = iota z ((x.take xQ.1).flatMap flatRow).length)) (fun xQ => x.length - xQ.1) (0, [], Ls) ⟨rfl, (show Value.int .i64 z = .int .i64 (z + ((((x.take 0).flatMap flatRow).length : Nat) : Int)) from congrArg (Value.int .i64) (by simp)), rfl, trivial⟩ (Sub.cons (Sub.cons (Sub.refl _))) ⟨rfl, (hd), (by (try dsimp only) <;> omega), (rfl), (rfl)⟩ ?_
  rintro ⟨k, os, Ls⟩ rE _ _ ⟨rfl, hd, hk, hol, hfl⟩
  show X _ _ _ _ (envs [(0, xv), (1, .int .i64 (z + ((((x.take k).flatMap flatRow).length : Nat) : Int))), (5, .int .i64 (((k : Nat) : Int)))] rE) _ (star Ls :: slH 22 1 xv x.length cs :: L)
  dsimp only at hd hk hol hfl
  have htl := fun (h : k < x.length) => flat_take_le (f := flatRow) (l := x) [] h
  have hlen : (os ++ x.drop k).length = x.length := by rw [List.length_append, List.length_drop]; omega
  refine X.seq ?_
  refine X.seq ?_
  refine X.region ?_
  refine XL.cons (XOp.move (.int .i64 (((k : Nat) : Int))) rfl ?_)
  refine XL.cons (XOp.move (xv) rfl ?_)
  refine XL.cons (XOp.lenS (v := xv) (n := x.length) Tryz.runUnderlying54 rfl (SlV.own [_] rfl) ?_)
  refine XL.cons (XOp.lss (a := ((k : Nat) : Int)) (b := ((x.length : Nat) : Int)) rfl rfl ?_)
  refine XL.nil ?_
  refine X.condD (p := (((k : Nat) : Int) : Int) < ((x.length : Nat) : Int)) rfl (fun h1 => ?_) (fun h1 => ?_)
  · refine X.skip ?_
    refine X.seq ?_
    refine X.block ?_
    refine X.region ?_
    have hkx : k < x.length := by omega
    have htl2 := htl hkx
    obtain ⟨A, K, B, es, hLs, hel, hR, hg, hput⟩ := hd.at (d := []) (k := k) (by omega)
    rw [app_getD hol] at hR
    have hself := splice_self hel hg (hd.bound (k := k) (by omega))
    obtain ⟨a, he, hK⟩ := hR
    subst he hK
    have hfp : (flatRow (x.getD k [])).length = (x.getD k []).length := rfl
    subst hLs
    refine XL.weaken (Sub.pull (A := A)) ?_
    show XL _ _ _ _ _ _ _ (intsH 2 a ((x.getD k [])) :: star (A ++ B) :: slH 22 1 xv x.length cs :: L)
    skip
    refine XL.cons (XOp.move (xv) rfl ?_)
    refine XL.cons (XOp.move (.int .i64 (((k : Nat) : Int))) rfl ?_)
    refine XL.cons (XOp.indexS (v := xv) (i := ((k : Nat) : Int)) (n := x.length) k Tryz.runUnderlying54 Tryz.sizeOf22 rfl rfl rfl (SlV.own [_, _] rfl) (by omega) (Nat.mul_one _) ?_)
    refine XL.cons (XOp.load1 (v := a) Tryz.isAgg22 rfl (Rd.sl [_, _] rfl (by simpa using hg 0 _ rfl)) ?_)
    refine XL.cons (XOp.move (.int .i64 (z + ((((x.take k).flatMap flatRow).length : Nat) : Int))) rfl ?_)
    refine XL.cons (XOp.call (args := [a, .int .i64 (z + ((((x.take k).flatMap flatRow).length : Nat) : Int))]) Tryz.call19 rfl (markInt64S_spec (by omega)) ?_)
    rintro _ _ _ _ ⟨m1, hm1, rfl, rfl, rfl⟩
    have hml1 := congrArg List.length hm1
    rw [iota_len] at hml1
    try simp only [List.length_append] at hml1
    refine XL.cons (XOp.assign (.int .i64 ((z + ((((x.take k).flatMap flatRow).length : Nat) : Int)) + (((((x.getD k [])))).length : Int))) rfl ?_)
    refine XL.nil ?_
    refine X.region ?_
    refine XL.weaken (Sub.cons (Sub.cons (Sub.cons (Sub.refl _)))) ?_
    refine XL.weaken (Sub.push (A := A) (K := [intsH 2 a m1]) (B := B)) ?_
    show XL _ _ _ _ _ _ _ (star (A ++ ([intsH 2 a m1] ++ B)) :: slH 22 1 xv x.length cs :: L)
    have hdn := hput [a] m1 _ rfl ⟨a, rfl, rfl⟩
    rw [hself, app_set hol hkx] at hdn
    have hfx : flatRow m1 = iota (z + ((((x.take k).flatMap flatRow).length : Nat) : Int)) (flatRow (x.getD k [])).length := by rw [hfp]; exact hm1
    have hnext : (z + ((((x.take k).flatMap flatRow).length : Nat) : Int)) + ((x.getD k []).length : Int) = z + ((((x.take (k + 1)).flatMap flatRow).length : Nat) : Int) := by rw [flatMap_take_succ flatRow [] hkx, List.length_append, hfp]; omega
    skip
    refine XL.cons (XOp.move (.int .i64 (((k : Nat) : Int))) rfl ?_)
    refine XL.cons (XOp.addR (a := ((k : Nat) : Int)) (b := 1) (((k + 1 : Nat) : Int)) rfl rfl (by omega) (by omega) ?_)
    refine XL.cons (XOp.assign (.int .i64 (((k + 1 : Nat) : Int))) rfl ?_)
    refine XL.nil ?_
    exact ⟨(k + 1, os ++ [m1], A ++ ([intsH 2 a m1] ++ B)), _, FLe.refl _, (FLe.refl _), ⟨rfl, (congrArg (Value.int .i64) hnext), rfl, trivial⟩, (Sub.cons (Sub.cons (Sub.refl _))), ⟨rfl, (hdn), (by (try dsimp only) <;> omega), (by simp [hol]), (marked (d := []) (by omega) hfl hfx)⟩, (by omega)⟩
  · refine X.exit (thenQ_exit (thenQ_exit (blockQ_exit ?_)))
    refine X.seq ?_
    refine X.region ?_
    refine XL.cons (XOp.move (.int .i64 (z + ((((x.take k).flatMap flatRow).length : Nat) : Int))) rfl ?_)
    refine XL.cons (XOp.assign (.int .i64 (z + ((((x.take k).flatMap flatRow).length : Nat) : Int))) rfl ?_)
    refine XL.nil ?_
    refine X.ret (retEnd (L' := rowsD 2 22 xv os :: L) [.int .i64 (z + ((((x.take k).flatMap flatRow).length : Nat) : Int))] (.int .i64 (z + ((((x.take k).flatMap flatRow).length : Nat) : Int))) (.tmp rfl .nil) rfl (FLe.refl _) (FLe.refl _) (Sub.trans (Sub.front (A := [_])) (Sub.closeDeep (by rw [app_all (by omega)] at hd; exact hd) (by omega))) ?_)
    rw [app_all (by omega)] at hd
    have hkl : k = x.length := by omega
    exact ⟨os, by rw [hfl, hkl, List.take_length], by omega, by rw [hkl, List.take_length], rfl, rfl⟩

/- laws.markSystem -/
theorem markSystem_spec {F : FH} {L : List HP} {xv : Value} {x : List Int} {yv : Value} {y : List (List Int × List Int)} {z : Int} (hz : 0 ≤ z ∧ z + (((x) ++ (y.flatMap flatPair)).length : Int) ≤ 9000000000) (hny : y.length ≤ 4000000) :
    Does Tryz.prog 18 [.agg #[xv, yv], .int .i64 (z)] F (intsH 2 xv x :: pairsD 2 135 yv y :: L) (fun v F' L' => ∃ x' : List Int, ∃ y' : List (List Int × List Int), ((x') ++ (y'.flatMap flatPair)) = iota z ((x) ++ (y.flatMap flatPair)).length ∧ y'.length = y.length ∧ (.int .i64 (z + (((x) ++ (y.flatMap flatPair)).length : Int)) : Value) = v ∧ F = F' ∧ intsH 2 xv x' :: pairsD 2 135 yv y' :: L = L') := by
  refine Does.of_X Tryz.func18 rfl rfl rfl ?_
  have hlx : ((x) ++ (y.flatMap flatPair)).length = x.length + (y.flatMap flatPair).length := List.length_append
  refine X.seq ?_
  refine X.region ?_
  refine XL.cons (XOp.box [xv, yv] rfl rfl ?_)
  intro b1
  refine XL.cons (XOp.assign (.int .i64 (0)) rfl ?_)
  refine XL.nil ?_
  refine X.seq ?_
  refine X.region ?_
  refine XL.cons (XOp.fieldP (b := b1) (0) Tryz.runUnderlying37 rfl Tryz.sizeOf34 (by decide) rfl rfl ?_)
  refine XL.cons (XOp.loadN [xv] Tryz.isAgg34 Tryz.sizeOf34 rfl rfl (Rd.ownN [] rfl rfl) ?_)
  refine XL.cons (XOp.move (.int .i64 (z)) rfl ?_)
  refine XL.weaken (Sub.front (A := [_])) ?_
  show XL _ _ _ _ _ _ _ (intsH 2 xv x :: cellsH b1 [xv, yv] 37 :: pairsD 2 135 yv y :: L)
  refine XL.cons (XOp.call (args := [.agg #[xv], .int .i64 (z)]) Tryz.call63 rfl (markSig_spec (by omega)) ?_)
  rintro _ _ _ _ ⟨m1, hm1, rfl, rfl, rfl⟩
  have hml1 := congrArg List.length hm1
  rw [iota_len] at hml1
  try simp only [List.length_append] at hml1
  refine XL.cons (XOp.assign (.int .i64 (z + (((x)).length : Int))) rfl ?_)
  refine XL.nil ?_
  refine X.seq ?_
  refine X.region ?_
  refine XL.cons (XOp.fieldP (b := b1) (1) Tryz.runUnderlying37 rfl Tryz.sizeOf35 (by decide) rfl rfl ?_)
  refine XL.cons (XOp.load1 (v := yv) Tryz.isAgg35 rfl (Rd.own [_] rfl rfl) ?_)
  refine XL.cons (XOp.move (.int .i64 (z + (((x)).length : Int))) rfl ?_)
  refine XL.weaken (Sub.front (A := [_, _])) ?_
  show XL _ _ _ _ _ _ _ (pairsD 2 135 yv y :: intsH 2 xv m1 :: cellsH b1 [xv, yv] 37 :: L)
  refine XL.cons (XOp.call (args := [yv, .int .i64 (z + (((x)).length : Int))]) Tryz.call64 rfl (markRuleS_spec (by omega) (by omega)) ?_)
  rintro _ _ _ _ ⟨m2, hm2, hk1, rfl, rfl, rfl⟩
  have hml2 := congrArg List.length hm2
  rw [iota_len] at hml2
  try simp only [List.length_append] at hml2
  refine XL.cons (XOp.assign (.int .i64 ((z + (((x)).length : Int)) + (((y.flatMap flatPair)).length : Int))) rfl ?_)
  refine XL.nil ?_
  refine X.seq ?_
  refine X.region ?_
  refine XL.cons (XOp.move (.int .i64 ((z + (((x)).length : Int)) + (((y.flatMap flatPair)).length : Int))) rfl ?_)
  refine XL.cons (XOp.assign (.int .i64 ((z + (((x)).length : Int)) + (((y.flatMap flatPair)).length : Int))) rfl ?_)
  refine XL.nil ?_
  refine X.ret (retEnd (L' := intsH 2 xv m1 :: pairsD 2 135 yv m2 :: L) [.int .i64 ((z + (((x)).length : Int)) + (((y.flatMap flatPair)).length : Int))] (.int .i64 ((z + (((x)).length : Int)) + (((y.flatMap flatPair)).length : Int))) (.tmp rfl .nil) rfl (FLe.refl _) (FLe.refl _) (Sub.trans (Sub.front (A := [_])) (Sub.cons (Sub.cons (Sub.drop (Sub.refl _))))) ?_)
  exact ⟨m1, m2, by rw [List.length_append, iota_add, hm1, hm2], (by assumption), congrArg (Value.int .i64) (by first | rfl | (simp only [List.length_append]; omega)), rfl, rfl⟩
end Go.Proofs.YtbooflphoaaoeaaGreat
