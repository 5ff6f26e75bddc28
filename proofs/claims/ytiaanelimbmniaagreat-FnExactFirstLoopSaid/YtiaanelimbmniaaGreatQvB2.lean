/-
  Walks, one after the other (part 3).
-/
import Derived.Test.YtiaanelimbmniaaGreatQvL1
import Derived.Test.YtiaanelimbmniaaGreatQvB1
set_option linter.unusedSimpArgs false
set_option linter.unusedVariables false
namespace Go.Proofs.YtiaanelimbmniaaGreat
open Go X M

/- laws.markInt64S -/
theorem markInt64S_spec {F : FH} {L : List HP} {xv : Value} {x : List Int} {z : Int} (hz : 0 ≤ z ∧ z + (((x)).length : Int) ≤ 9000000000) :
    Does Tryz.prog 17 [xv, .int .i64 (z)] F (intsH 2 xv x :: L) (fun v F' L' => ∃ x' : List Int, ((x')) = iota z ((x)).length ∧ (.int .i64 (z + (((x)).length : Int)) : Value) = v ∧ F = F' ∧ intsH 2 xv x' :: L = L') := by
 refine Does.of_X Tryz.func17 rfl rfl rfl ?_
 refine X.seq (X.region ?_)
 refine XL.as (.int .i64 (0)) rfl ?_
 refine XL.nil (X.seq (X.seq (X.region ?_)))
 refine XL.as (.int .i64 (0)) rfl ?_
 refine XL.nil (X.block ?_)
 refine X.loop (α := Nat × List Int) (fun xQ => [(0, xv), (1, .int .i64 (z + ((xQ.1 : Nat) : Int))), (5, .int .i64 (((xQ.1 : Nat) : Int)))]) (fun xQ => intsH 2 xv xQ.2 :: L) (fun xQ F' => F = F' ∧ (xQ.1 ≤ x.length) ∧ (xQ.2 = iota z xQ.1 ++ x.drop xQ.1) ∧ (xQ.2.length = x.length)) (fun xQ => x.length - xQ.1) (0, x) ⟨rfl, (show Value.int .i64 z = .int .i64 (z + ((0 : Nat) : Int)) from congrArg (Value.int .i64) (by omega)), rfl, trivial⟩ (Sub.cons sR) ⟨rfl, (by (try dsimp only) <;> omega), (by rw [iota_zero]; rfl), (rfl)⟩ ?_
 rintro ⟨k, os⟩ rE _ _ ⟨rfl, hk, hos, hol⟩
 show X _ _ _ _ (envs [(0, xv), (1, .int .i64 (z + (k : Int))), (5, .int .i64 ((k : Int)))] rE) _ (intsH 2 xv os :: L)
 dsimp only at hk hos hol
 refine X.seq (X.seq (X.region ?_))
 refine XL.mv (.int .i64 ((k : Int))) rfl ?_
 refine XL.mv (xv) rfl ?_
 refine XL.cons (XOp.lenS (v := xv) (n := os.length) Tryz.runUnderlying22 rfl (intsH.slv [] rfl) ?_)
 refine XL.cons (XOp.lss (a := (k : Int)) (b := (os.length : Int)) rfl rfl ?_)
 refine XL.nil ?_
 refine X.condD (p := (k : Int) < (os.length : Int)) rfl (fun h1 => ?_) (fun h1 => ?_)
 ·refine X.skip (X.seq (X.block (X.seq (X.region ?_))))
  refine XL.mv (xv) rfl ?_
  refine XL.mv (.int .i64 ((k : Int))) rfl ?_
  refine XL.mv (.int .i64 (z + (k : Int))) rfl ?_
  refine XL.cons (XOp.indexS (v := xv) (i := (k : Int)) (n := os.length) k Tryz.runUnderlying22 Tryz.sizeOf2 rfl rfl rfl (intsH.slv [] rfl) (by omega) (Nat.mul_one _) ?_)
  refine XL.cons (intsH.storeX (i := k) (v := xv) [] _ (os.set k (z + (k : Int))) Tryz.sizeOf2 rfl rfl rfl (by omega) rfl ?_)
  refine XL.nil (X.region ?_)
  refine XL.mv (.int .i64 (z + (k : Int))) rfl ?_
  refine XL.cons (XOp.addR (a := z + (k : Int)) (b := 1) ((z + (k : Int)) + 1) rfl rfl (by omega) (by omega) ?_)
  refine XL.as (.int .i64 ((z + (k : Int)) + 1)) rfl ?_
  refine XL.nil (X.region ?_)
  refine XL.mv (.int .i64 ((k : Int))) rfl ?_
  refine XL.cons (XOp.addR (a := (k : Int)) (b := 1) (((k + 1 : Nat) : Int)) rfl rfl (by omega) (by omega) ?_)
  refine XL.as (.int .i64 (((k + 1 : Nat) : Int))) rfl ?_
  refine XL.nil ?_
  exact ⟨(k + 1, (os.set k (z + (k : Int)))), _, FLe.refl _, rF, ⟨rfl, (vI (by omega)), rfl, trivial⟩, (Sub.cons sR), ⟨rfl, (by (try dsimp only) <;> omega), (by dsimp only; rw [hos]; exact iota_set (by omega)), (by dsimp only; rw [List.length_set]; exact hol)⟩, (by omega)⟩
 ·refine X.exit (thenQ_exit (thenQ_exit (blockQ_exit ?_)))
  refine X.seq (X.region ?_)
  refine XL.mv (.int .i64 (z + (k : Int))) rfl ?_
  refine XL.as (.int .i64 (z + (k : Int))) rfl ?_
  refine XL.nil ?_
  refine X.ret (retEnd (L' := intsH 2 xv os :: L) [.int .i64 (z + (k : Int))] (.int .i64 (z + (k : Int))) (.tmp rfl .nil) rfl rF rF (Sub.cons sR) ?_)
  have hkl : k = x.length := by omega
  subst hkl
  exact ⟨os, by rw [hos, List.drop_eq_nil_of_le (Nat.le_refl _), List.append_nil], rfl, rfl, rfl⟩

/- laws.heldInt64S -/
theorem heldInt64S_spec {F : FH} {L : List HP} {xv : Value} {x : List Int} (hx : IntsF F xv x) {z : Int} (hzb : 0 ≤ z ∧ z + (x.length : Int) ≤ 9000000000) :
    Does Tryz.prog 61 [xv, .int .i64 (z)] F (L) (fun v F' L' => (.int .i64 (heldF x z) : Value) = v ∧ F = F' ∧ L = L') := by
 refine Does.of_X Tryz.func61 rfl rfl rfl ?_
 refine X.seq (X.region ?_)
 refine XL.as (.int .i64 (0)) rfl ?_
 refine XL.nil (X.seq (X.seq (X.region ?_)))
 refine XL.as (.int .i64 (0)) rfl ?_
 refine XL.nil (X.block ?_)
 refine X.loop (α := Nat) (fun k => [(0, xv), (1, .int .i64 (z + (k : Int))), (5, .int .i64 ((k : Int)))]) (fun k => L) (fun k F' => F = F' ∧ (k ≤ x.length) ∧ (x.take k = iota z k)) (fun k => x.length - k) 0 ⟨rfl, (show Value.int .i64 z = .int .i64 (z + ((0 : Nat) : Int)) from congrArg (Value.int .i64) (by omega)), rfl, trivial⟩ sR ⟨rfl, (by (try dsimp only) <;> omega), (rfl)⟩ ?_
 rintro k rE _ _ ⟨rfl, hk, hos⟩
 show X _ _ _ _ (envs [(0, xv), (1, .int .i64 (z + (k : Int))), (5, .int .i64 ((k : Int)))] rE) _ (L)
 refine X.seq (X.seq (X.region ?_))
 refine XL.mv (.int .i64 ((k : Int))) rfl ?_
 refine XL.mv (xv) rfl ?_
 refine XL.cons (XOp.lenS (v := xv) (n := (x).length) Tryz.runUnderlying22 rfl hx.slv ?_)
 refine XL.cons (XOp.lss (a := (k : Int)) (b := (x.length : Int)) rfl rfl ?_)
 refine XL.nil ?_
 refine X.condD (p := (k : Int) < (x.length : Int)) rfl (fun h1 => ?_) (fun h1 => ?_)
 ·refine X.skip (X.seq (X.block (X.seq (X.seq (X.region ?_)))))
  refine XL.mv (xv) rfl ?_
  refine XL.mv (.int .i64 ((k : Int))) rfl ?_
  refine XL.cons (XOp.indexS (v := xv) (i := (k : Int)) (n := (x).length) k Tryz.runUnderlying22 Tryz.sizeOf2 rfl rfl rfl hx.slv (by omega) (Nat.mul_one _) ?_)
  refine XL.cons (XOp.load1 (v := .int .i64 (x.getD k 0)) Tryz.isAgg2 rfl (hx.rd (by omega)) ?_)
  refine XL.mv (.int .i64 (z + (k : Int))) rfl ?_
  refine XL.cons (XOp.neq (a := x.getD k 0) (b := z + (k : Int)) rfl rfl ?_)
  refine XL.nil ?_
  refine X.condD (p := (x.getD k 0 : Int) ≠ z + (k : Int)) rfl (fun h2 => ?_) (fun h2 => ?_)
  ·refine X.seq (X.region ?_)
   refine XL.as (.int .i64 (-1)) rfl ?_
   refine XL.nil ?_
   refine X.ret (thenQ_ret (blockQ_ret (thenQ_ret (thenQ_ret (blockQ_ret (thenQ_ret (retEnd (L' := L) [.int .i64 (-1)] (.int .i64 (-1)) (.tmp rfl .nil) rfl rF rF sR ?_)))))))
   exact ⟨(vI (heldF_snoc_no (i := k) (by omega) (by assumption))), rfl, rfl⟩
  ·refine X.skip (X.region ?_)
   refine XL.mv (.int .i64 (z + (k : Int))) rfl ?_
   refine XL.cons (XOp.addR (a := z + (k : Int)) (b := 1) ((z + (k : Int)) + 1) rfl rfl (by omega) (by omega) ?_)
   refine XL.as (.int .i64 ((z + (k : Int)) + 1)) rfl ?_
   refine XL.nil (X.region ?_)
   refine XL.mv (.int .i64 ((k : Int))) rfl ?_
   refine XL.cons (XOp.addR (a := (k : Int)) (b := 1) (((k + 1 : Nat) : Int)) rfl rfl (by omega) (by omega) ?_)
   refine XL.as (.int .i64 (((k + 1 : Nat) : Int))) rfl ?_
   refine XL.nil ?_
   exact ⟨k + 1, _, FLe.refl _, rF, ⟨rfl, (vI (by omega)), rfl, trivial⟩, sR, ⟨rfl, (by (try dsimp only) <;> omega), (by (try dsimp only); rw [take_succ_getD 0 (by omega), hos, iota_succ]; congr 2; first | assumption | exact Classical.not_not.1 (by assumption) | omega)⟩, (by omega)⟩
 ·refine X.exit (thenQ_exit (thenQ_exit (blockQ_exit ?_)))
  refine X.seq (X.region ?_)
  refine XL.mv (.int .i64 (z + (k : Int))) rfl ?_
  refine XL.as (.int .i64 (z + (k : Int))) rfl ?_
  refine XL.nil ?_
  refine X.ret (retEnd (L' := L) [.int .i64 (z + (k : Int))] (.int .i64 (z + (k : Int))) (.tmp rfl .nil) rfl rF rF sR ?_)
  exact ⟨(vI (held_all (by omega) hos)), rfl, rfl⟩

/- laws.markSig -/
theorem markSig_spec {F : FH} {L : List HP} {xv : Value} {x : List Int} {z : Int} (hz : 0 ≤ z ∧ z + (((x)).length : Int) ≤ 9000000000) :
    Does Tryz.prog 58 [.agg #[xv], .int .i64 (z)] F (intsH 2 xv x :: L) (fun v F' L' => ∃ x' : List Int, ((x')) = iota z ((x)).length ∧ (.int .i64 (z + (((x)).length : Int)) : Value) = v ∧ F = F' ∧ intsH 2 xv x' :: L = L') := by
 refine Does.of_X Tryz.func58 rfl rfl rfl ?_
 refine X.seq (X.region ?_)
 refine XL.cons (XOp.box [xv] rfl rfl ?_)
 intro b1
 refine XL.as (.int .i64 (0)) rfl ?_
 refine XL.nil (X.seq (X.region ?_))
 refine XL.cons (XOp.fieldP (b := b1) (0) Tryz.runUnderlying34 rfl Tryz.sizeOf22 (by decide) rfl rfl ?_)
 refine XL.cons (XOp.load1 (v := xv) Tryz.isAgg22 rfl (Rd.own [] rfl rfl) ?_)
 refine XL.mv (.int .i64 (z)) rfl ?_
 refine XL.weaken (Sub.front (A := [_])) ?_
 show XL _ _ _ _ _ _ _ (intsH 2 xv x :: cellsH b1 [xv] 34 :: L)
 refine XL.cons (XOp.call (args := [xv, .int .i64 (z)]) Tryz.call17 rfl (markInt64S_spec (by omega)) ?_)
 rintro _ _ _ _ ⟨m1, hm1, rfl, rfl, rfl⟩
 have hml1 := congrArg List.length hm1
 rw [iota_len] at hml1
 try simp only [List.length_append] at hml1
 refine XL.as (.int .i64 (z + (((x)).length : Int))) rfl ?_
 refine XL.nil (X.seq (X.region ?_))
 refine XL.mv (.int .i64 (z + (((x)).length : Int))) rfl ?_
 refine XL.as (.int .i64 (z + (((x)).length : Int))) rfl ?_
 refine XL.nil ?_
 refine X.ret (retEnd (L' := intsH 2 xv m1 :: L) [.int .i64 (z + (((x)).length : Int))] (.int .i64 (z + (((x)).length : Int))) (.tmp rfl .nil) rfl rF rF (Sub.cons (Sub.drop sR)) ?_)
 exact ⟨m1, hm1, congrArg (Value.int .i64) (by first | rfl | (simp only [List.length_append]; omega)), rfl, rfl⟩

/- laws.markRuleS -/
theorem markRuleS_spec {F : FH} {L : List HP} {xv : Value} {x : List (List Int × List Int)} {z : Int} (hz : 0 ≤ z ∧ z + (((x.flatMap flatPair)).length : Int) ≤ 9000000000) (hnx : x.length ≤ 4000000) :
    Does Tryz.prog 59 [xv, .int .i64 (z)] F (pairsD 2 121 xv x :: L) (fun v F' L' => ∃ x' : List (List Int × List Int), ((x'.flatMap flatPair)) = iota z ((x.flatMap flatPair)).length ∧ x'.length = x.length ∧ (.int .i64 (z + (((x.flatMap flatPair)).length : Int)) : Value) = v ∧ F = F' ∧ pairsD 2 121 xv x' :: L = L') := by
 refine Does.of_X Tryz.func59 rfl rfl rfl ?_
 refine X.openDeep (fun cs Ls hd => ?_)
 refine X.weaken (Sub.front (A := [_])) ?_
 show X _ _ _ _ _ _ (star Ls :: slH 121 2 xv x.length cs :: L)
 refine X.seq (X.region ?_)
 refine XL.as (.int .i64 (0)) rfl ?_
 refine XL.nil (X.seq (X.seq (X.region ?_)))
 refine XL.as (.int .i64 (0)) rfl ?_
 refine XL.nil (X.block ?_)
 refine X.loop (α := Nat × List (List Int × List Int) × List HP) (fun xQ => [(0, xv), (1, .int .i64 (z + ((((x.take xQ.1).flatMap flatPair).length : Nat) : Int))), (5, .int .i64 (((xQ.1 : Nat) : Int)))]) (fun xQ => star xQ.2.2 :: slH 121 2 xv x.length cs :: L) (fun xQ F' => F = F' ∧ (DeepL 2 (PairO 2) cs (xQ.2.1 ++ x.drop xQ.1) xQ.2.2) ∧ (xQ.1 ≤ x.length) ∧ (xQ.2.1.length = xQ.1) ∧ (xQ.2.1.flatMap flatPair = iota z ((x.take xQ.1).flatMap flatPair).length)) (fun xQ => x.length - xQ.1) (0, [], Ls) ⟨rfl, (show Value.int .i64 z = .int .i64 (z + ((((x.take 0).flatMap flatPair).length : Nat) : Int)) from congrArg (Value.int .i64) (by simp)), rfl, trivial⟩ (Sub.cons (Sub.cons sR)) ⟨rfl, (hd), (by (try dsimp only) <;> omega), (rfl), (rfl)⟩ ?_
 rintro ⟨k, os, Ls⟩ rE _ _ ⟨rfl, hd, hk, hol, hfl⟩
 show X _ _ _ _ (envs [(0, xv), (1, .int .i64 (z + ((((x.take k).flatMap flatPair).length : Nat) : Int))), (5, .int .i64 ((k : Int)))] rE) _ (star Ls :: slH 121 2 xv x.length cs :: L)
 dsimp only at hd hk hol hfl
 have htl := fun (h : k < x.length) => flat_take_le (f := flatPair) (l := x) ([], []) h
 have hlen : (os ++ x.drop k).length = x.length := by rw [List.length_append, List.length_drop]; omega
 refine X.seq (X.seq (X.region ?_))
 refine XL.mv (.int .i64 ((k : Int))) rfl ?_
 refine XL.mv (xv) rfl ?_
 refine XL.cons (XOp.lenS (v := xv) (n := x.length) Tryz.runUnderlying35 rfl (SlV.own [_] rfl) ?_)
 refine XL.cons (XOp.lss (a := (k : Int)) (b := (x.length : Int)) rfl rfl ?_)
 refine XL.nil ?_
 refine X.condD (p := (k : Int) < (x.length : Int)) rfl (fun h1 => ?_) (fun h1 => ?_)
 ·refine X.skip (X.seq (X.block (X.seq (X.region ?_))))
  have hkx : k < x.length := by omega
  have htl2 := htl hkx
  obtain ⟨A, K, B, es, hLs, hel, hR, hg, hput⟩ := hd.at (d := ([], [])) (k := k) (by omega)
  rw [app_getD hol] at hR
  have hself := splice_self hel hg (hd.bound (k := k) (by omega))
  obtain ⟨a, b, he, hK⟩ := hR
  subst he hK
  have hfp : (flatPair (x.getD k ([], []))).length = (x.getD k ([], [])).1.length + (x.getD k ([], [])).2.length := by unfold flatPair; rw [List.length_append]
  subst hLs
  refine XL.weaken (Sub.pull (A := A)) ?_
  show XL _ _ _ _ _ _ _ (intsH 2 a ((x.getD k ([], [])).1) :: intsH 2 b ((x.getD k ([], [])).2) :: star (A ++ B) :: slH 121 2 xv x.length cs :: L)
  skip
  refine XL.mv (xv) rfl ?_
  refine XL.mv (.int .i64 ((k : Int))) rfl ?_
  refine XL.cons (XOp.indexS (v := xv) (i := (k : Int)) (n := x.length) k Tryz.runUnderlying35 Tryz.sizeOf121 rfl rfl rfl (SlV.own [_, _, _] rfl) (by omega) rfl ?_)
  refine XL.cons (XOp.fieldE (v := xv) (k * 2) Tryz.runUnderlying121 rfl Tryz.sizeOf22 (by decide) rfl rfl ?_)
  refine XL.cons (XOp.load1 (v := a) Tryz.isAgg22 rfl (Rd.sl [_, _, _] rfl (hg 0 _ rfl)) ?_)
  refine XL.mv (.int .i64 (z + ((((x.take k).flatMap flatPair).length : Nat) : Int))) rfl ?_
  refine XL.cons (XOp.call (args := [a, .int .i64 (z + ((((x.take k).flatMap flatPair).length : Nat) : Int))]) Tryz.call17 rfl (markInt64S_spec (by omega)) ?_)
  rintro _ _ _ _ ⟨m1, hm1, rfl, rfl, rfl⟩
  have hml1 := congrArg List.length hm1
  rw [iota_len] at hml1
  try simp only [List.length_append] at hml1
  refine XL.as (.int .i64 ((z + ((((x.take k).flatMap flatPair).length : Nat) : Int)) + (((((x.getD k ([], [])).1))).length : Int))) rfl ?_
  refine XL.nil (X.region ?_)
  refine XL.mv (xv) rfl ?_
  refine XL.mv (.int .i64 ((k : Int))) rfl ?_
  refine XL.cons (XOp.indexS (v := xv) (i := (k : Int)) (n := x.length) k Tryz.runUnderlying35 Tryz.sizeOf121 rfl rfl rfl (SlV.own [_, _, _] rfl) (by omega) rfl ?_)
  refine XL.cons (XOp.fieldE (v := xv) (k * 2 + 1) Tryz.runUnderlying121 rfl Tryz.sizeOf22 (by decide) rfl rfl ?_)
  refine XL.cons (XOp.load1 (v := b) Tryz.isAgg22 rfl (Rd.sl [_, _, _] rfl (hg 1 _ rfl)) ?_)
  refine XL.mv (.int .i64 ((z + ((((x.take k).flatMap flatPair).length : Nat) : Int)) + (((((x.getD k ([], [])).1))).length : Int))) rfl ?_
  refine XL.weaken (Sub.front (A := [_])) ?_
  show XL _ _ _ _ _ _ _ (intsH 2 b ((x.getD k ([], [])).2) :: intsH 2 a m1 :: star (A ++ B) :: slH 121 2 xv x.length cs :: L)
  refine XL.cons (XOp.call (args := [b, .int .i64 ((z + ((((x.take k).flatMap flatPair).length : Nat) : Int)) + (((((x.getD k ([], [])).1))).length : Int))]) Tryz.call17 rfl (markInt64S_spec (by omega)) ?_)
  rintro _ _ _ _ ⟨m2, hm2, rfl, rfl, rfl⟩
  have hml2 := congrArg List.length hm2
  rw [iota_len] at hml2
  try simp only [List.length_append] at hml2
  refine XL.as (.int .i64 (((z + ((((x.take k).flatMap flatPair).length : Nat) : Int)) + (((((x.getD k ([], [])).1))).length : Int)) + (((((x.getD k ([], [])).2))).length : Int))) rfl ?_
  refine XL.nil (X.region ?_)
  refine XL.weaken (Sub.trans (Sub.front (A := [_, _, _])) (Sub.trans (Sub.front (A := [_, _, _])) (Sub.trans (Sub.front (A := [_, _])) (Sub.trans (Sub.front (A := [_, _, _])) (Sub.cons (Sub.cons (Sub.cons (Sub.cons sR)))))))) ?_
  refine XL.weaken (Sub.push (A := A) (K := [intsH 2 a m1, intsH 2 b m2]) (B := B)) ?_
  show XL _ _ _ _ _ _ _ (star (A ++ ([intsH 2 a m1, intsH 2 b m2] ++ B)) :: slH 121 2 xv x.length cs :: L)
  have hdn := hput [a, b] (m1, m2) _ rfl ⟨a, b, rfl, rfl⟩
  rw [hself, app_set hol hkx] at hdn
  have hfx : flatPair (m1, m2) = iota (z + ((((x.take k).flatMap flatPair).length : Nat) : Int)) (flatPair (x.getD k ([], []))).length := by rw [hfp, iota_add]; show m1 ++ m2 = _; rw [hm1, hm2]
  have hnext : (z + ((((x.take k).flatMap flatPair).length : Nat) : Int)) + ((x.getD k ([], [])).1.length : Int) + ((x.getD k ([], [])).2.length : Int) = z + ((((x.take (k + 1)).flatMap flatPair).length : Nat) : Int) := by rw [flatMap_take_succ flatPair ([], []) hkx, List.length_append, hfp]; omega
  skip
  refine XL.mv (.int .i64 ((k : Int))) rfl ?_
  refine XL.cons (XOp.addR (a := (k : Int)) (b := 1) (((k + 1 : Nat) : Int)) rfl rfl (by omega) (by omega) ?_)
  refine XL.as (.int .i64 (((k + 1 : Nat) : Int))) rfl ?_
  refine XL.nil ?_
  exact ⟨(k + 1, os ++ [(m1, m2)], A ++ ([intsH 2 a m1, intsH 2 b m2] ++ B)), _, FLe.refl _, rF, ⟨rfl, (vI hnext), rfl, trivial⟩, (Sub.cons (Sub.cons sR)), ⟨rfl, (hdn), (by (try dsimp only) <;> omega), (by simp [hol]), (marked (d := ([], [])) (by omega) hfl hfx)⟩, (by omega)⟩
 ·refine X.exit (thenQ_exit (thenQ_exit (blockQ_exit ?_)))
  refine X.seq (X.region ?_)
  refine XL.mv (.int .i64 (z + ((((x.take k).flatMap flatPair).length : Nat) : Int))) rfl ?_
  refine XL.as (.int .i64 (z + ((((x.take k).flatMap flatPair).length : Nat) : Int))) rfl ?_
  refine XL.nil ?_
  refine X.ret (retEnd (L' := pairsD 2 121 xv os :: L) [.int .i64 (z + ((((x.take k).flatMap flatPair).length : Nat) : Int))] (.int .i64 (z + ((((x.take k).flatMap flatPair).length : Nat) : Int))) (.tmp rfl .nil) rfl rF rF (Sub.trans (Sub.front (A := [_])) (Sub.closeDeep (by rw [app_all (by omega)] at hd; exact hd) (by omega))) ?_)
  rw [app_all (by omega)] at hd
  have hkl : k = x.length := by omega
  exact ⟨os, by rw [hfl, hkl, List.take_length], by omega, by rw [hkl, List.take_length], rfl, rfl⟩

/- laws.markInt64SS -/
theorem markInt64SS_spec {F : FH} {L : List HP} {xv : Value} {x : List (List Int)} {z : Int} (hz : 0 ≤ z ∧ z + (((x.flatMap flatRow)).length : Int) ≤ 9000000000) (hnx : x.length ≤ 4000000) :
    Does Tryz.prog 137 [xv, .int .i64 (z)] F (rowsD 2 22 xv x :: L) (fun v F' L' => ∃ x' : List (List Int), ((x'.flatMap flatRow)) = iota z ((x.flatMap flatRow)).length ∧ x'.length = x.length ∧ (.int .i64 (z + (((x.flatMap flatRow)).length : Int)) : Value) = v ∧ F = F' ∧ rowsD 2 22 xv x' :: L = L') := by
 refine Does.of_X Tryz.func137 rfl rfl rfl ?_
 refine X.openDeep (fun cs Ls hd => ?_)
 refine X.weaken (Sub.front (A := [_])) ?_
 show X _ _ _ _ _ _ (star Ls :: slH 22 1 xv x.length cs :: L)
 refine X.seq (X.region ?_)
 refine XL.as (.int .i64 (0)) rfl ?_
 refine XL.nil (X.seq (X.seq (X.region ?_)))
 refine XL.as (.int .i64 (0)) rfl ?_
 refine XL.nil (X.block ?_)
 refine X.loop (α := Nat × List (List Int) × List HP) (fun xQ => [(0, xv), (1, .int .i64 (z + ((((x.take xQ.1).flatMap flatRow).length : Nat) : Int))), (5, .int .i64 (((xQ.1 : Nat) : Int)))]) (fun xQ => star xQ.2.2 :: slH 22 1 xv x.length cs :: L) (fun xQ F' => F = F' ∧ (DeepL 1 (RowO 2) cs (xQ.2.1 ++ x.drop xQ.1) xQ.2.2) ∧ (xQ.1 ≤ x.length) ∧ (xQ.2.1.length = xQ.1) ∧ (xQ.2.1.flatMap flatRow = iota z ((x.take xQ.1).flatMap flatRow).length)) (fun xQ => x.length - xQ.1) (0, [], Ls) ⟨rfl, (show Value.int .i64 z = .int .i64 (z + ((((x.take 0).flatMap flatRow).length : Nat) : Int)) from congrArg (Value.int .i64) (by simp)), rfl, trivial⟩ (Sub.cons (Sub.cons sR)) ⟨rfl, (hd), (by (try dsimp only) <;> omega), (rfl), (rfl)⟩ ?_
 rintro ⟨k, os, Ls⟩ rE _ _ ⟨rfl, hd, hk, hol, hfl⟩
 show X _ _ _ _ (envs [(0, xv), (1, .int .i64 (z + ((((x.take k).flatMap flatRow).length : Nat) : Int))), (5, .int .i64 ((k : Int)))] rE) _ (star Ls :: slH 22 1 xv x.length cs :: L)
 dsimp only at hd hk hol hfl
 have htl := fun (h : k < x.length) => flat_take_le (f := flatRow) (l := x) [] h
 have hlen : (os ++ x.drop k).length = x.length := by rw [List.length_append, List.length_drop]; omega
 refine X.seq (X.seq (X.region ?_))
 refine XL.mv (.int .i64 ((k : Int))) rfl ?_
 refine XL.mv (xv) rfl ?_
 refine XL.cons (XOp.lenS (v := xv) (n := x.length) Tryz.runUnderlying58 rfl (SlV.own [_] rfl) ?_)
 refine XL.cons (XOp.lss (a := (k : Int)) (b := (x.length : Int)) rfl rfl ?_)
 refine XL.nil ?_
 refine X.condD (p := (k : Int) < (x.length : Int)) rfl (fun h1 => ?_) (fun h1 => ?_)
 ·refine X.skip (X.seq (X.block (X.region ?_)))
  have hkx : k < x.length := by omega
  have htl2 := htl hkx
  obtain ⟨A, K, B, es, hLs, hel, hR, hg, hput⟩ := hd.at (d := []) (k := k) (by omega)
  rw [app_getD hol] at hR
  have hself := splice_self hel hg (hd.bound (k := k) (by omega))
  obtain ⟨a, he, hK⟩ := hR
  subst he hK
  have hfp : (flatRow (x.getD k [])).length = (x.getD k []).length := rfl
  subst hLs
  refine XL.weaken (Sub.pull (A := A)) ?_
  show XL _ _ _ _ _ _ _ (intsH 2 a ((x.getD k [])) :: star (A ++ B) :: slH 22 1 xv x.length cs :: L)
  skip
  refine XL.mv (xv) rfl ?_
  refine XL.mv (.int .i64 ((k : Int))) rfl ?_
  refine XL.cons (XOp.indexS (v := xv) (i := (k : Int)) (n := x.length) k Tryz.runUnderlying58 Tryz.sizeOf22 rfl rfl rfl (SlV.own [_, _] rfl) (by omega) (Nat.mul_one _) ?_)
  refine XL.cons (XOp.load1 (v := a) Tryz.isAgg22 rfl (Rd.sl [_, _] rfl (by simpa using hg 0 _ rfl)) ?_)
  refine XL.mv (.int .i64 (z + ((((x.take k).flatMap flatRow).length : Nat) : Int))) rfl ?_
  refine XL.cons (XOp.call (args := [a, .int .i64 (z + ((((x.take k).flatMap flatRow).length : Nat) : Int))]) Tryz.call17 rfl (markInt64S_spec (by omega)) ?_)
  rintro _ _ _ _ ⟨m1, hm1, rfl, rfl, rfl⟩
  have hml1 := congrArg List.length hm1
  rw [iota_len] at hml1
  try simp only [List.length_append] at hml1
  refine XL.as (.int .i64 ((z + ((((x.take k).flatMap flatRow).length : Nat) : Int)) + (((((x.getD k [])))).length : Int))) rfl ?_
  refine XL.nil (X.region ?_)
  refine XL.weaken (Sub.cons (Sub.cons (Sub.cons sR))) ?_
  refine XL.weaken (Sub.push (A := A) (K := [intsH 2 a m1]) (B := B)) ?_
  show XL _ _ _ _ _ _ _ (star (A ++ ([intsH 2 a m1] ++ B)) :: slH 22 1 xv x.length cs :: L)
  have hdn := hput [a] m1 _ rfl ⟨a, rfl, rfl⟩
  rw [hself, app_set hol hkx] at hdn
  have hfx : flatRow m1 = iota (z + ((((x.take k).flatMap flatRow).length : Nat) : Int)) (flatRow (x.getD k [])).length := by rw [hfp]; exact hm1
  have hnext : (z + ((((x.take k).flatMap flatRow).length : Nat) : Int)) + ((x.getD k []).length : Int) = z + ((((x.take (k + 1)).flatMap flatRow).length : Nat) : Int) := by rw [flatMap_take_succ flatRow [] hkx, List.length_append, hfp]; omega
  skip
  refine XL.mv (.int .i64 ((k : Int))) rfl ?_
  refine XL.cons (XOp.addR (a := (k : Int)) (b := 1) (((k + 1 : Nat) : Int)) rfl rfl (by omega) (by omega) ?_)
  refine XL.as (.int .i64 (((k + 1 : Nat) : Int))) rfl ?_
  refine XL.nil ?_
  exact ⟨(k + 1, os ++ [m1], A ++ ([intsH 2 a m1] ++ B)), _, FLe.refl _, rF, ⟨rfl, (vI hnext), rfl, trivial⟩, (Sub.cons (Sub.cons sR)), ⟨rfl, (hdn), (by (try dsimp only) <;> omega), (by simp [hol]), (marked (d := []) (by omega) hfl hfx)⟩, (by omega)⟩
 ·refine X.exit (thenQ_exit (thenQ_exit (blockQ_exit ?_)))
  refine X.seq (X.region ?_)
  refine XL.mv (.int .i64 (z + ((((x.take k).flatMap flatRow).length : Nat) : Int))) rfl ?_
  refine XL.as (.int .i64 (z + ((((x.take k).flatMap flatRow).length : Nat) : Int))) rfl ?_
  refine XL.nil ?_
  refine X.ret (retEnd (L' := rowsD 2 22 xv os :: L) [.int .i64 (z + ((((x.take k).flatMap flatRow).length : Nat) : Int))] (.int .i64 (z + ((((x.take k).flatMap flatRow).length : Nat) : Int))) (.tmp rfl .nil) rfl rF rF (Sub.trans (Sub.front (A := [_])) (Sub.closeDeep (by rw [app_all (by omega)] at hd; exact hd) (by omega))) ?_)
  rw [app_all (by omega)] at hd
  have hkl : k = x.length := by omega
  exact ⟨os, by rw [hfl, hkl, List.take_length], by omega, by rw [hkl, List.take_length], rfl, rfl⟩

/- laws.markStepS -/
theorem markStepS_spec {F : FH} {L : List HP} {xv : Value} {x : List StepT} {z : Int} (hz : 0 ≤ z ∧ z + (((x.flatMap flatStep)).length : Int) ≤ 9000000000) (hnx : x.length ≤ 4000000) :
    Does Tryz.prog 90 [xv, .int .i64 (z)] F (stepsD 2 116 xv x :: L) (fun v F' L' => ∃ x' : List StepT, ((x'.flatMap flatStep)) = iota z ((x.flatMap flatStep)).length ∧ x'.length = x.length ∧ (.int .i64 (z + (((x.flatMap flatStep)).length : Int)) : Value) = v ∧ F = F' ∧ stepsD 2 116 xv x' :: L = L') := by
 refine Does.of_X Tryz.func90 rfl rfl rfl ?_
 refine X.openDeep (fun cs Ls hd => ?_)
 refine X.weaken (Sub.front (A := [_])) ?_
 show X _ _ _ _ _ _ (star Ls :: slH 116 3 xv x.length cs :: L)
 refine X.seq (X.region ?_)
 refine XL.as (.int .i64 (0)) rfl ?_
 refine XL.nil (X.seq (X.seq (X.region ?_)))
 refine XL.as (.int .i64 (0)) rfl ?_
 refine XL.nil (X.block ?_)
 refine X.loop (α := Nat × List StepT × List HP × List Value) (fun xQ => [(0, xv), (1, .int .i64 (z + ((((x.take xQ.1).flatMap flatStep).length : Nat) : Int))), (5, .int .i64 (((xQ.1 : Nat) : Int)))]) (fun xQ => star xQ.2.2.1 :: slH 116 3 xv x.length xQ.2.2.2 :: L) (fun xQ F' => F = F' ∧ (DeepL 3 (StepO 2) xQ.2.2.2 (xQ.2.1 ++ x.drop xQ.1) xQ.2.2.1) ∧ (xQ.1 ≤ x.length) ∧ (xQ.2.1.length = xQ.1) ∧ (xQ.2.1.flatMap flatStep = iota z ((x.take xQ.1).flatMap flatStep).length)) (fun xQ => x.length - xQ.1) (0, [], Ls, cs) ⟨rfl, (show Value.int .i64 z = .int .i64 (z + ((((x.take 0).flatMap flatStep).length : Nat) : Int)) from congrArg (Value.int .i64) (by simp)), rfl, trivial⟩ (Sub.cons (Sub.cons sR)) ⟨rfl, (hd), (by (try dsimp only) <;> omega), (rfl), (rfl)⟩ ?_
 rintro ⟨k, os, Ls, cs⟩ rE _ _ ⟨rfl, hd, hk, hol, hfl⟩
 show X _ _ _ _ (envs [(0, xv), (1, .int .i64 (z + ((((x.take k).flatMap flatStep).length : Nat) : Int))), (5, .int .i64 ((k : Int)))] rE) _ (star Ls :: slH 116 3 xv x.length cs :: L)
 dsimp only at hd hk hol hfl
 have htl := fun (h : k < x.length) => flat_take_le (f := flatStep) (l := x) ((0 : Int), (0 : Int), ([] : List Int)) h
 have hlen : (os ++ x.drop k).length = x.length := by rw [List.length_append, List.length_drop]; omega
 refine X.seq (X.seq (X.region ?_))
 refine XL.mv (.int .i64 ((k : Int))) rfl ?_
 refine XL.mv (xv) rfl ?_
 refine XL.cons (XOp.lenS (v := xv) (n := x.length) Tryz.runUnderlying55 rfl (SlV.own [_] rfl) ?_)
 refine XL.cons (XOp.lss (a := (k : Int)) (b := (x.length : Int)) rfl rfl ?_)
 refine XL.nil ?_
 refine X.condD (p := (k : Int) < (x.length : Int)) rfl (fun h1 => ?_) (fun h1 => ?_)
 ·refine X.skip (X.seq (X.block (X.seq (X.region ?_))))
  have hkx : k < x.length := by omega
  have htl2 := htl hkx
  obtain ⟨A, K, B, es, hLs, hel, hR, hg, hput⟩ := hd.at (d := ((0 : Int), (0 : Int), ([] : List Int))) (k := k) (by omega)
  rw [app_getD hol] at hR
  have hself := splice_self hel hg (hd.bound (k := k) (by omega))
  obtain ⟨c, he, hK⟩ := hR
  subst he hK
  have hfp : (flatStep (x.getD k (0, 0, []))).length = (x.getD k (0, 0, [])).2.2.length + 1 + 1 := rfl
  have hbd := hd.bound (k := k) (by omega)
  subst hLs
  refine XL.weaken (Sub.pull (A := A)) ?_
  show XL _ _ _ _ _ _ _ (intsH 2 c ((x.getD k (0, 0, [])).2.2) :: star (A ++ B) :: slH 116 3 xv x.length cs :: L)
  skip
  refine XL.mv (xv) rfl ?_
  refine XL.mv (.int .i64 ((k : Int))) rfl ?_
  refine XL.mv (.int .i64 (z + ((((x.take k).flatMap flatStep).length : Nat) : Int))) rfl ?_
  refine XL.cons (XOp.indexS (v := xv) (i := (k : Int)) (n := x.length) k Tryz.runUnderlying55 Tryz.sizeOf116 rfl rfl rfl (SlV.own [_, _] rfl) (by omega) rfl ?_)
  refine XL.cons (XOp.fieldE (v := xv) (k * 3) Tryz.runUnderlying116 rfl Tryz.sizeOf2 (by decide) rfl rfl ?_)
  refine XL.cons (XOp.storeS (i := k * 3) (cs := cs) [_, _] _ Tryz.sizeOf2 rfl rfl rfl rfl (by (try simp only [List.length_set]); omega) ?_)
  refine XL.nil (X.seq (X.region ?_))
  refine XL.mv (.int .i64 (z + ((((x.take k).flatMap flatStep).length : Nat) : Int))) rfl ?_
  refine XL.cons (XOp.addR (a := z + ((((x.take k).flatMap flatStep).length : Nat) : Int)) (b := 1) ((z + ((((x.take k).flatMap flatStep).length : Nat) : Int)) + 1) rfl rfl (by omega) (by omega) ?_)
  refine XL.as (.int .i64 ((z + ((((x.take k).flatMap flatStep).length : Nat) : Int)) + 1)) rfl ?_
  refine XL.nil (X.seq (X.region ?_))
  refine XL.mv (xv) rfl ?_
  refine XL.mv (.int .i64 ((k : Int))) rfl ?_
  refine XL.mv (.int .i64 ((z + ((((x.take k).flatMap flatStep).length : Nat) : Int)) + 1)) rfl ?_
  refine XL.cons (XOp.indexS (v := xv) (i := (k : Int)) (n := x.length) k Tryz.runUnderlying55 Tryz.sizeOf116 rfl rfl rfl (SlV.own [_, _] rfl) (by omega) rfl ?_)
  refine XL.cons (XOp.fieldE (v := xv) (k * 3 + 1) Tryz.runUnderlying116 rfl Tryz.sizeOf2 (by decide) rfl rfl ?_)
  refine XL.cons (XOp.storeS (i := k * 3 + 1) (cs := (cs.set (k * 3) (.int .i64 (z + ((((x.take k).flatMap flatStep).length : Nat) : Int))))) [_, _] _ Tryz.sizeOf2 rfl rfl rfl rfl (by (try simp only [List.length_set]); omega) ?_)
  refine XL.nil (X.seq (X.region ?_))
  refine XL.mv (.int .i64 ((z + ((((x.take k).flatMap flatStep).length : Nat) : Int)) + 1)) rfl ?_
  refine XL.cons (XOp.addR (a := (z + ((((x.take k).flatMap flatStep).length : Nat) : Int)) + 1) (b := 1) (((z + ((((x.take k).flatMap flatStep).length : Nat) : Int)) + 1) + 1) rfl rfl (by omega) (by omega) ?_)
  refine XL.as (.int .i64 (((z + ((((x.take k).flatMap flatStep).length : Nat) : Int)) + 1) + 1)) rfl ?_
  refine XL.nil (X.region ?_)
  refine XL.mv (xv) rfl ?_
  refine XL.mv (.int .i64 ((k : Int))) rfl ?_
  refine XL.cons (XOp.indexS (v := xv) (i := (k : Int)) (n := x.length) k Tryz.runUnderlying55 Tryz.sizeOf116 rfl rfl rfl (SlV.own [_, _] rfl) (by omega) rfl ?_)
  refine XL.cons (XOp.fieldE (v := xv) (k * 3 + 2) Tryz.runUnderlying116 rfl Tryz.sizeOf22 (by decide) rfl rfl ?_)
  refine XL.cons (XOp.load1 (v := c) Tryz.isAgg22 rfl (Rd.sl [_, _] rfl (by rw [List.getElem?_set_ne (by omega), List.getElem?_set_ne (by omega)]; exact hg 2 _ rfl)) ?_)
  refine XL.mv (.int .i64 (((z + ((((x.take k).flatMap flatStep).length : Nat) : Int)) + 1) + 1)) rfl ?_
  refine XL.cons (XOp.call (args := [c, .int .i64 (((z + ((((x.take k).flatMap flatStep).length : Nat) : Int)) + 1) + 1)]) Tryz.call17 rfl (markInt64S_spec (by omega)) ?_)
  rintro _ _ _ _ ⟨m1, hm1, rfl, rfl, rfl⟩
  have hml1 := congrArg List.length hm1
  rw [iota_len] at hml1
  try simp only [List.length_append] at hml1
  refine XL.as (.int .i64 ((((z + ((((x.take k).flatMap flatStep).length : Nat) : Int)) + 1) + 1) + (((((x.getD k (0, 0, [])).2.2))).length : Int))) rfl ?_
  refine XL.nil (X.region ?_)
  refine XL.weaken (Sub.cons (Sub.cons (Sub.cons sR))) ?_
  refine XL.weaken (Sub.push (A := A) (K := [intsH 2 c m1]) (B := B)) ?_
  show XL _ _ _ _ _ _ _ (star (A ++ ([intsH 2 c m1] ++ B)) :: slH 116 3 xv x.length ((((cs.set (k * 3) (.int .i64 (z + ((((x.take k).flatMap flatStep).length : Nat) : Int))))).set (k * 3 + 1) (.int .i64 ((z + ((((x.take k).flatMap flatStep).length : Nat) : Int)) + 1)))) :: L)
  have hdn := hput [.int .i64 (z + ((((x.take k).flatMap flatStep).length : Nat) : Int)), .int .i64 ((z + ((((x.take k).flatMap flatStep).length : Nat) : Int)) + 1), c] ((z + ((((x.take k).flatMap flatStep).length : Nat) : Int)), (z + ((((x.take k).flatMap flatStep).length : Nat) : Int)) + 1, m1) _ rfl ⟨c, rfl, rfl⟩
  rw [← set_three (hg 0 _ rfl) (hg 1 _ rfl) (hg 2 _ rfl), app_set hol hkx] at hdn
  have hfx : flatStep ((z + ((((x.take k).flatMap flatStep).length : Nat) : Int)), (z + ((((x.take k).flatMap flatStep).length : Nat) : Int)) + 1, m1) = iota (z + ((((x.take k).flatMap flatStep).length : Nat) : Int)) (flatStep (x.getD k (0, 0, []))).length := by rw [hfp, iota_cons, iota_cons]; show _ :: _ :: m1 = _; rw [hm1]
  have hnext : (z + ((((x.take k).flatMap flatStep).length : Nat) : Int)) + 1 + 1 + ((x.getD k (0, 0, [])).2.2.length : Int) = z + ((((x.take (k + 1)).flatMap flatStep).length : Nat) : Int) := by rw [flatMap_take_succ flatStep (0, 0, []) hkx, List.length_append, hfp]; omega
  skip
  refine XL.mv (.int .i64 ((k : Int))) rfl ?_
  refine XL.cons (XOp.addR (a := (k : Int)) (b := 1) (((k + 1 : Nat) : Int)) rfl rfl (by omega) (by omega) ?_)
  refine XL.as (.int .i64 (((k + 1 : Nat) : Int))) rfl ?_
  refine XL.nil ?_
  exact ⟨(k + 1, os ++ [((z + ((((x.take k).flatMap flatStep).length : Nat) : Int)), (z + ((((x.take k).flatMap flatStep).length : Nat) : Int)) + 1, m1)], A ++ ([intsH 2 c m1] ++ B), (((cs.set (k * 3) (.int .i64 (z + ((((x.take k).flatMap flatStep).length : Nat) : Int))))).set (k * 3 + 1) (.int .i64 ((z + ((((x.take k).flatMap flatStep).length : Nat) : Int)) + 1)))), _, FLe.refl _, rF, ⟨rfl, (vI hnext), rfl, trivial⟩, (Sub.cons (Sub.cons sR)), ⟨rfl, (hdn), (by (try dsimp only) <;> omega), (by simp [hol]), (marked (d := ((0 : Int), (0 : Int), ([] : List Int))) (by omega) hfl hfx)⟩, (by omega)⟩
 ·refine X.exit (thenQ_exit (thenQ_exit (blockQ_exit ?_)))
  refine X.seq (X.region ?_)
  refine XL.mv (.int .i64 (z + ((((x.take k).flatMap flatStep).length : Nat) : Int))) rfl ?_
  refine XL.as (.int .i64 (z + ((((x.take k).flatMap flatStep).length : Nat) : Int))) rfl ?_
  refine XL.nil ?_
  refine X.ret (retEnd (L' := stepsD 2 116 xv os :: L) [.int .i64 (z + ((((x.take k).flatMap flatStep).length : Nat) : Int))] (.int .i64 (z + ((((x.take k).flatMap flatStep).length : Nat) : Int))) (.tmp rfl .nil) rfl rF rF (Sub.trans (Sub.front (A := [_])) (Sub.closeDeep (by rw [app_all (by omega)] at hd; exact hd) (by omega))) ?_)
  rw [app_all (by omega)] at hd
  have hkl : k = x.length := by omega
  exact ⟨os, by rw [hfl, hkl, List.take_length], by omega, by rw [hkl, List.take_length], rfl, rfl⟩

/- laws.markSystem -/
theorem markSystem_spec {F : FH} {L : List HP} {xv : Value} {x : List Int} {yv : Value} {y : List (List Int × List Int)} {z : Int} (hz : 0 ≤ z ∧ z + (((x) ++ (y.flatMap flatPair)).length : Int) ≤ 9000000000) (hny : y.length ≤ 4000000) :
    Does Tryz.prog 16 [.agg #[xv, yv], .int .i64 (z)] F (intsH 2 xv x :: pairsD 2 121 yv y :: L) (fun v F' L' => ∃ x' : List Int, ∃ y' : List (List Int × List Int), ((x') ++ (y'.flatMap flatPair)) = iota z ((x) ++ (y.flatMap flatPair)).length ∧ y'.length = y.length ∧ (.int .i64 (z + (((x) ++ (y.flatMap flatPair)).length : Int)) : Value) = v ∧ F = F' ∧ intsH 2 xv x' :: pairsD 2 121 yv y' :: L = L') := by
 refine Does.of_X Tryz.func16 rfl rfl rfl ?_
 have hlx : ((x) ++ (y.flatMap flatPair)).length = x.length + (y.flatMap flatPair).length := List.length_append
 refine X.seq (X.region ?_)
 refine XL.cons (XOp.box [xv, yv] rfl rfl ?_)
 intro b1
 refine XL.as (.int .i64 (0)) rfl ?_
 refine XL.nil (X.seq (X.region ?_))
 refine XL.cons (XOp.fieldP (b := b1) (0) Tryz.runUnderlying37 rfl Tryz.sizeOf34 (by decide) rfl rfl ?_)
 refine XL.cons (XOp.loadN [xv] Tryz.isAgg34 Tryz.sizeOf34 rfl rfl (Rd.ownN [] rfl rfl) ?_)
 refine XL.mv (.int .i64 (z)) rfl ?_
 refine XL.weaken (Sub.front (A := [_])) ?_
 show XL _ _ _ _ _ _ _ (intsH 2 xv x :: cellsH b1 [xv, yv] 37 :: pairsD 2 121 yv y :: L)
 refine XL.cons (XOp.call (args := [.agg #[xv], .int .i64 (z)]) Tryz.call58 rfl (markSig_spec (by omega)) ?_)
 rintro _ _ _ _ ⟨m1, hm1, rfl, rfl, rfl⟩
 have hml1 := congrArg List.length hm1
 rw [iota_len] at hml1
 try simp only [List.length_append] at hml1
 refine XL.as (.int .i64 (z + (((x)).length : Int))) rfl ?_
 refine XL.nil (X.seq (X.region ?_))
 refine XL.cons (XOp.fieldP (b := b1) (1) Tryz.runUnderlying37 rfl Tryz.sizeOf35 (by decide) rfl rfl ?_)
 refine XL.cons (XOp.load1 (v := yv) Tryz.isAgg35 rfl (Rd.own [_] rfl rfl) ?_)
 refine XL.mv (.int .i64 (z + (((x)).length : Int))) rfl ?_
 refine XL.weaken (Sub.front (A := [_, _])) ?_
 show XL _ _ _ _ _ _ _ (pairsD 2 121 yv y :: intsH 2 xv m1 :: cellsH b1 [xv, yv] 37 :: L)
 refine XL.cons (XOp.call (args := [yv, .int .i64 (z + (((x)).length : Int))]) Tryz.call59 rfl (markRuleS_spec (by omega) (by omega)) ?_)
 rintro _ _ _ _ ⟨m2, hm2, hk1, rfl, rfl, rfl⟩
 have hml2 := congrArg List.length hm2
 rw [iota_len] at hml2
 try simp only [List.length_append] at hml2
 refine XL.as (.int .i64 ((z + (((x)).length : Int)) + (((y.flatMap flatPair)).length : Int))) rfl ?_
 refine XL.nil (X.seq (X.region ?_))
 refine XL.mv (.int .i64 ((z + (((x)).length : Int)) + (((y.flatMap flatPair)).length : Int))) rfl ?_
 refine XL.as (.int .i64 ((z + (((x)).length : Int)) + (((y.flatMap flatPair)).length : Int))) rfl ?_
 refine XL.nil ?_
 refine X.ret (retEnd (L' := intsH 2 xv m1 :: pairsD 2 121 yv m2 :: L) [.int .i64 ((z + (((x)).length : Int)) + (((y.flatMap flatPair)).length : Int))] (.int .i64 ((z + (((x)).length : Int)) + (((y.flatMap flatPair)).length : Int))) (.tmp rfl .nil) rfl rF rF (Sub.trans (Sub.front (A := [_])) (Sub.cons (Sub.cons (Sub.drop sR)))) ?_)
 exact ⟨m1, m2, by rw [List.length_append, iota_add, hm1, hm2], (by assumption), congrArg (Value.int .i64) (by first | rfl | (simp only [List.length_append]; omega)), rfl, rfl⟩

/- laws.markWalk -/
theorem markWalk_spec {F : FH} {L : List HP} {xv : Value} {x : List Int} {yv : Value} {y : List StepT} {z : Int} (hz : 0 ≤ z ∧ z + (((x) ++ (y.flatMap flatStep)).length : Int) ≤ 9000000000) (hny : y.length ≤ 4000000) :
    Does Tryz.prog 39 [.agg #[xv, yv], .int .i64 (z)] F (intsH 2 xv x :: stepsD 2 116 yv y :: L) (fun v F' L' => ∃ x' : List Int, ∃ y' : List StepT, ((x') ++ (y'.flatMap flatStep)) = iota z ((x) ++ (y.flatMap flatStep)).length ∧ y'.length = y.length ∧ (.int .i64 (z + (((x) ++ (y.flatMap flatStep)).length : Int)) : Value) = v ∧ F = F' ∧ intsH 2 xv x' :: stepsD 2 116 yv y' :: L = L') := by
 refine Does.of_X Tryz.func39 rfl rfl rfl ?_
 have hlx : ((x) ++ (y.flatMap flatStep)).length = x.length + (y.flatMap flatStep).length := List.length_append
 refine X.seq (X.region ?_)
 refine XL.cons (XOp.box [xv, yv] rfl rfl ?_)
 intro b1
 refine XL.as (.int .i64 (0)) rfl ?_
 refine XL.nil (X.seq (X.region ?_))
 refine XL.cons (XOp.fieldP (b := b1) (0) Tryz.runUnderlying57 rfl Tryz.sizeOf22 (by decide) rfl rfl ?_)
 refine XL.cons (XOp.load1 (v := xv) Tryz.isAgg22 rfl (Rd.own [] rfl rfl) ?_)
 refine XL.mv (.int .i64 (z)) rfl ?_
 refine XL.weaken (Sub.front (A := [_])) ?_
 show XL _ _ _ _ _ _ _ (intsH 2 xv x :: cellsH b1 [xv, yv] 57 :: stepsD 2 116 yv y :: L)
 refine XL.cons (XOp.call (args := [xv, .int .i64 (z)]) Tryz.call17 rfl (markInt64S_spec (by omega)) ?_)
 rintro _ _ _ _ ⟨m1, hm1, rfl, rfl, rfl⟩
 have hml1 := congrArg List.length hm1
 rw [iota_len] at hml1
 try simp only [List.length_append] at hml1
 refine XL.as (.int .i64 (z + (((x)).length : Int))) rfl ?_
 refine XL.nil (X.seq (X.region ?_))
 refine XL.cons (XOp.fieldP (b := b1) (1) Tryz.runUnderlying57 rfl Tryz.sizeOf55 (by decide) rfl rfl ?_)
 refine XL.cons (XOp.load1 (v := yv) Tryz.isAgg55 rfl (Rd.own [_] rfl rfl) ?_)
 refine XL.mv (.int .i64 (z + (((x)).length : Int))) rfl ?_
 refine XL.weaken (Sub.front (A := [_, _])) ?_
 show XL _ _ _ _ _ _ _ (stepsD 2 116 yv y :: intsH 2 xv m1 :: cellsH b1 [xv, yv] 57 :: L)
 refine XL.cons (XOp.call (args := [yv, .int .i64 (z + (((x)).length : Int))]) Tryz.call90 rfl (markStepS_spec (by omega) (by omega)) ?_)
 rintro _ _ _ _ ⟨m2, hm2, hk1, rfl, rfl, rfl⟩
 have hml2 := congrArg List.length hm2
 rw [iota_len] at hml2
 try simp only [List.length_append] at hml2
 refine XL.as (.int .i64 ((z + (((x)).length : Int)) + (((y.flatMap flatStep)).length : Int))) rfl ?_
 refine XL.nil (X.seq (X.region ?_))
 refine XL.mv (.int .i64 ((z + (((x)).length : Int)) + (((y.flatMap flatStep)).length : Int))) rfl ?_
 refine XL.as (.int .i64 ((z + (((x)).length : Int)) + (((y.flatMap flatStep)).length : Int))) rfl ?_
 refine XL.nil ?_
 refine X.ret (retEnd (L' := intsH 2 xv m1 :: stepsD 2 116 yv m2 :: L) [.int .i64 ((z + (((x)).length : Int)) + (((y.flatMap flatStep)).length : Int))] (.int .i64 ((z + (((x)).length : Int)) + (((y.flatMap flatStep)).length : Int))) (.tmp rfl .nil) rfl rF rF (Sub.trans (Sub.front (A := [_])) (Sub.cons (Sub.cons (Sub.drop sR)))) ?_)
 exact ⟨m1, m2, by rw [List.length_append, iota_add, hm1, hm2], (by assumption), congrArg (Value.int .i64) (by first | rfl | (simp only [List.length_append]; omega)), rfl, rfl⟩

/- laws.markSubst -/
theorem markSubst_spec {F : FH} {L : List HP} {xv : Value} {x : List (List Int)} {z : Int} (hz : 0 ≤ z ∧ z + (((x.flatMap flatRow)).length : Int) ≤ 9000000000) (hnx : x.length ≤ 4000000) :
    Does Tryz.prog 81 [.agg #[xv], .int .i64 (z)] F (rowsD 2 22 xv x :: L) (fun v F' L' => ∃ x' : List (List Int), ((x'.flatMap flatRow)) = iota z ((x.flatMap flatRow)).length ∧ x'.length = x.length ∧ (.int .i64 (z + (((x.flatMap flatRow)).length : Int)) : Value) = v ∧ F = F' ∧ rowsD 2 22 xv x' :: L = L') := by
 refine Does.of_X Tryz.func81 rfl rfl rfl ?_
 refine X.seq (X.region ?_)
 refine XL.cons (XOp.box [xv] rfl rfl ?_)
 intro b1
 refine XL.as (.int .i64 (0)) rfl ?_
 refine XL.nil (X.seq (X.region ?_))
 refine XL.cons (XOp.fieldP (b := b1) (0) Tryz.runUnderlying60 rfl Tryz.sizeOf58 (by decide) rfl rfl ?_)
 refine XL.cons (XOp.load1 (v := xv) Tryz.isAgg58 rfl (Rd.own [] rfl rfl) ?_)
 refine XL.mv (.int .i64 (z)) rfl ?_
 refine XL.weaken (Sub.front (A := [_])) ?_
 show XL _ _ _ _ _ _ _ (rowsD 2 22 xv x :: cellsH b1 [xv] 60 :: L)
 refine XL.cons (XOp.call (args := [xv, .int .i64 (z)]) Tryz.call137 rfl (markInt64SS_spec (by omega) (by omega)) ?_)
 rintro _ _ _ _ ⟨m1, hm1, hk1, rfl, rfl, rfl⟩
 have hml1 := congrArg List.length hm1
 rw [iota_len] at hml1
 try simp only [List.length_append] at hml1
 refine XL.as (.int .i64 (z + (((x.flatMap flatRow)).length : Int))) rfl ?_
 refine XL.nil (X.seq (X.region ?_))
 refine XL.mv (.int .i64 (z + (((x.flatMap flatRow)).length : Int))) rfl ?_
 refine XL.as (.int .i64 (z + (((x.flatMap flatRow)).length : Int))) rfl ?_
 refine XL.nil ?_
 refine X.ret (retEnd (L' := rowsD 2 22 xv m1 :: L) [.int .i64 (z + (((x.flatMap flatRow)).length : Int))] (.int .i64 (z + (((x.flatMap flatRow)).length : Int))) (.tmp rfl .nil) rfl rF rF (Sub.cons (Sub.drop sR)) ?_)
 exact ⟨m1, hm1, (by assumption), congrArg (Value.int .i64) (by first | rfl | (simp only [List.length_append]; omega)), rfl, rfl⟩
end Go.Proofs.YtiaanelimbmniaaGreat
set_option linter.unusedSimpArgs false
set_option linter.unusedVariables false
namespace Go.Proofs.YtiaanelimbmniaaGreat
open Go X M

/- laws.eqStep -/
theorem eqStep_spec {F : FH} {L : List HP} {i : Int} {j : Int} {av : Value} {a : List Int} (ha : IntsF F av a) {p : Int} {q : Int} {bv : Value} {b : List Int} (hb : IntsF F bv b) (hbd : a.length ≤ 9223372036854775807 ∨ b.length ≤ 9223372036854775807) :
    Does Tryz.prog 168 [.agg #[.int .i64 (i), .int .i64 (j), av], .agg #[.int .i64 (p), .int .i64 (q), bv]] F (L) (fun v F' L' => (.bool (decide ((i, j, a) = (p, q, b))) : Value) = v ∧ F = F' ∧ L = L') := by
 refine Does.of_X Tryz.func168 rfl rfl rfl ?_
 refine X.seq (X.region ?_)
 refine XL.cons (XOp.box [.int .i64 (i), .int .i64 (j), av] rfl rfl ?_)
 intro b1
 refine XL.cons (XOp.box [.int .i64 (p), .int .i64 (q), bv] rfl rfl ?_)
 intro b2
 refine XL.as (.bool (false)) rfl ?_
 refine XL.nil (X.seq (X.seq (X.region ?_)))
 refine XL.cons (XOp.fieldP (b := b1) (0) Tryz.runUnderlying116 rfl Tryz.sizeOf2 (by decide) rfl rfl ?_)
 refine XL.cons (XOp.load1 (v := .int .i64 (i)) Tryz.isAgg2 rfl (Rd.own [_] rfl rfl) ?_)
 refine XL.cons (XOp.fieldP (b := b2) (0) Tryz.runUnderlying116 rfl Tryz.sizeOf2 (by decide) rfl rfl ?_)
 refine XL.cons (XOp.load1 (v := .int .i64 (p)) Tryz.isAgg2 rfl (Rd.own [] rfl rfl) ?_)
 refine XL.cons (XOp.neq (a := i) (b := p) rfl rfl ?_)
 refine XL.nil ?_
 refine X.condD (p := (i : Int) ≠ p) rfl (fun h1 => ?_) (fun h1 => ?_)
 ·refine X.seq (X.region ?_)
  refine XL.as (.bool (false)) rfl ?_
  refine XL.nil ?_
  refine X.ret (thenQ_ret (retEnd (L' := L) [.bool (false)] (.bool (false)) (.tmp rfl .nil) rfl rF rF (Sub.drop (Sub.drop sR)) ?_))
  exact ⟨(vB (decide_eq_false (by intro e; simp_all))), rfl, rfl⟩
 ·refine X.skip (X.seq (X.seq (X.region ?_)))
  refine XL.cons (XOp.fieldP (b := b1) (1) Tryz.runUnderlying116 rfl Tryz.sizeOf2 (by decide) rfl rfl ?_)
  refine XL.cons (XOp.load1 (v := .int .i64 (j)) Tryz.isAgg2 rfl (Rd.own [_] rfl rfl) ?_)
  refine XL.cons (XOp.fieldP (b := b2) (1) Tryz.runUnderlying116 rfl Tryz.sizeOf2 (by decide) rfl rfl ?_)
  refine XL.cons (XOp.load1 (v := .int .i64 (q)) Tryz.isAgg2 rfl (Rd.own [] rfl rfl) ?_)
  refine XL.cons (XOp.neq (a := j) (b := q) rfl rfl ?_)
  refine XL.nil ?_
  refine X.condD (p := (j : Int) ≠ q) rfl (fun h2 => ?_) (fun h2 => ?_)
  ·refine X.seq (X.region ?_)
   refine XL.as (.bool (false)) rfl ?_
   refine XL.nil ?_
   refine X.ret (thenQ_ret (retEnd (L' := L) [.bool (false)] (.bool (false)) (.tmp rfl .nil) rfl rF rF (Sub.drop (Sub.drop sR)) ?_))
   exact ⟨(vB (decide_eq_false (by intro e; simp_all))), rfl, rfl⟩
  ·refine X.skip (X.seq (X.seq (X.region ?_)))
   refine XL.cons (XOp.fieldP (b := b1) (2) Tryz.runUnderlying116 rfl Tryz.sizeOf22 (by decide) rfl rfl ?_)
   refine XL.cons (XOp.load1 (v := av) Tryz.isAgg22 rfl (Rd.own [_] rfl rfl) ?_)
   refine XL.cons (XOp.fieldP (b := b2) (2) Tryz.runUnderlying116 rfl Tryz.sizeOf22 (by decide) rfl rfl ?_)
   refine XL.cons (XOp.load1 (v := bv) Tryz.isAgg22 rfl (Rd.own [] rfl rfl) ?_)
   refine XL.cons (XOp.call (args := [av, bv]) Tryz.call15 rfl (eqInt64S_spec ha hb (hbd := (by first | assumption | rfl | omega | (left; simp; done) | (right; simp; done)))) ?_)
   rintro _ _ _ _ ⟨rfl, rfl, rfl⟩
   refine XL.cons (XOp.notD (p := a = b) rfl ?_)
   refine XL.nil ?_
   refine X.condD (p := ¬(a = b)) rfl (fun h3 => ?_) (fun h3 => ?_)
   ·refine X.seq (X.region ?_)
    refine XL.as (.bool (false)) rfl ?_
    refine XL.nil ?_
    refine X.ret (thenQ_ret (retEnd (L' := L) [.bool (false)] (.bool (false)) (.tmp rfl .nil) rfl rF rF (Sub.drop (Sub.drop sR)) ?_))
    exact ⟨(vB (decide_eq_false (by intro e; simp_all))), rfl, rfl⟩
   ·refine X.skip (X.seq (X.region ?_))
    refine XL.as (.bool (true)) rfl ?_
    refine XL.nil ?_
    refine X.ret (retEnd (L' := L) [.bool (true)] (.bool (true)) (.tmp rfl .nil) rfl rF rF (Sub.drop (Sub.drop sR)) ?_)
    exact ⟨(vB (decide_eq_true (by simp_all))), rfl, rfl⟩

/- laws.eqStepS -/
theorem eqStepS_spec {F : FH} {L : List HP} {av : Value} {a : List StepT} (ha : StepsF F av a) {bv : Value} {b : List StepT} (hb : StepsF F bv b) (hal : a.length ≤ 9223372036854775807) (hbd : ∀ i, i < a.length → (a.getD i (0, 0, [])).2.2.length ≤ 9223372036854775807) :
    Does Tryz.prog 89 [av, bv] F (L) (fun v F' L' => (.bool (decide (a = b)) : Value) = v ∧ F = F' ∧ L = L') := by
 refine Does.of_X Tryz.func89 rfl rfl rfl ?_
 refine X.seq (X.region ?_)
 refine XL.as (.bool (false)) rfl ?_
 refine XL.nil (X.seq (X.seq (X.region ?_)))
 refine XL.mv (av) rfl ?_
 refine XL.cons (XOp.lenS (v := av) (n := (a).length) Tryz.runUnderlying55 rfl ha.slv ?_)
 refine XL.mv (bv) rfl ?_
 refine XL.cons (XOp.lenS (v := bv) (n := (b).length) Tryz.runUnderlying55 rfl hb.slv ?_)
 refine XL.cons (XOp.neq (a := (a.length : Int)) (b := (b.length : Int)) rfl rfl ?_)
 refine XL.nil ?_
 refine X.condD (p := ((a.length : Int) : Int) ≠ (b.length : Int)) rfl (fun h1 => ?_) (fun h1 => ?_)
 ·refine X.seq (X.region ?_)
  refine XL.as (.bool (false)) rfl ?_
  refine XL.nil ?_
  refine X.ret (thenQ_ret (retEnd (L' := L) [.bool (false)] (.bool (false)) (.tmp rfl .nil) rfl rF rF sR ?_))
  exact ⟨(vB (decide_eq_false (fun e => by rw [e] at h1; omega))), rfl, rfl⟩
 ·refine X.skip (X.seq (X.seq (X.region ?_)))
  refine XL.as (.int .i64 (0)) rfl ?_
  refine XL.nil (X.block ?_)
  refine X.loop (α := Nat) (fun k => [(0, av), (1, bv), (5, .int .i64 ((k : Int)))]) (fun k => L) (fun k F' => F = F' ∧ (k ≤ a.length) ∧ (∀ i, i < k → a.getD i ((0 : Int), (0 : Int), ([] : List Int)) = b.getD i ((0 : Int), (0 : Int), ([] : List Int)))) (fun k => a.length - k) 0 ⟨rfl, rfl, rfl, trivial⟩ sR ⟨rfl, (by (try dsimp only) <;> omega), (fun i hi => absurd hi (by omega))⟩ ?_
  rintro k rE _ _ ⟨rfl, hk, hall⟩
  show X _ _ _ _ (envs [(0, av), (1, bv), (5, .int .i64 ((k : Int)))] rE) _ (L)
  have hbk := hbd k
  refine X.seq (X.seq (X.region ?_))
  refine XL.mv (.int .i64 ((k : Int))) rfl ?_
  refine XL.mv (av) rfl ?_
  refine XL.cons (XOp.lenS (v := av) (n := (a).length) Tryz.runUnderlying55 rfl ha.slv ?_)
  refine XL.cons (XOp.lss (a := (k : Int)) (b := (a.length : Int)) rfl rfl ?_)
  refine XL.nil ?_
  refine X.condD (p := (k : Int) < (a.length : Int)) rfl (fun h2 => ?_) (fun h2 => ?_)
  ·refine X.skip (X.seq (X.block (X.seq ?_)))
   obtain ⟨a1, ha1, hr1, hr2, hr3⟩ := ha.rd (i := k) (by omega)
   obtain ⟨a2, ha2, hr4, hr5, hr6⟩ := hb.rd (i := k) (by omega)
   refine X.draw [] L 8 [[], [], [], [], [], [], [], []] [[], [], [0, 1], [2], [], [], [4, 5], [6]] (phiL [fun us v => v = av, fun us v => v = (.int .i64 ((k : Int)) : Value), fun us v => v = (.pointer (some (elemA av (k * 3))) : Value), fun us v => v = (.agg #[.int .i64 ((a.getD k (0, 0, [])).1), .int .i64 ((a.getD k (0, 0, [])).2.1), a1] : Value), fun us v => v = bv, fun us v => v = (.int .i64 ((k : Int)) : Value), fun us v => v = (.pointer (some (elemA bv (k * 3))) : Value), fun us v => v = (.agg #[.int .i64 ((b.getD k (0, 0, [])).1), .int .i64 ((b.getD k (0, 0, [])).2.1), a2] : Value)]) (ownL [fun us v => [], fun us v => [], fun us v => [], fun us v => [], fun us v => [], fun us v => [], fun us v => [], fun us v => []]) mixed rfl rfl (by kernel_rfl) ?_ ?_
   ·refine stepsP.cons (fun vals R hpZ => ?_) ?_
    ·refine XG.op (XOp.move (av) rfl ?_)
     exact ⟨rfl, rfl, rfl⟩
    refine stepsP.cons (fun vals R hpZ => ?_) ?_
    ·refine XG.op (XOp.move (.int .i64 ((k : Int))) rfl ?_)
     exact ⟨rfl, rfl, rfl⟩
    refine stepsP.cons (fun vals R hpZ => ?_) ?_
    ·rw [eS (l := [(0, av), (1, (.int .i64 ((k : Int)) : Value))]) ⟨hpZ 0 (by decide), hpZ 1 (by decide), trivial⟩]
     refine XG.op (XOp.indexS (v := av) (i := (k : Int)) (n := (a).length) k Tryz.runUnderlying55 Tryz.sizeOf116 rfl rfl rfl ha.slv (by omega) rfl ?_)
     exact ⟨rfl, rfl, rfl⟩
    refine stepsP.cons (fun vals R hpZ => ?_) ?_
    ·rw [eS (l := [(2, (.pointer (some (elemA av (k * 3))) : Value))]) ⟨hpZ 2 (by decide), trivial⟩]
     refine XG.op (XOp.loadN [.int .i64 ((a.getD k (0, 0, [])).1), .int .i64 ((a.getD k (0, 0, [])).2.1), a1] Tryz.isAgg116 Tryz.sizeOf116 rfl rfl (Rd.three (hr1 _) (hr2 _) (hr3 _)) ?_)
     exact ⟨rfl, rfl, rfl⟩
    refine stepsP.cons (fun vals R hpZ => ?_) ?_
    ·refine XG.op (XOp.move (bv) rfl ?_)
     exact ⟨rfl, rfl, rfl⟩
    refine stepsP.cons (fun vals R hpZ => ?_) ?_
    ·refine XG.op (XOp.move (.int .i64 ((k : Int))) rfl ?_)
     exact ⟨rfl, rfl, rfl⟩
    refine stepsP.cons (fun vals R hpZ => ?_) ?_
    ·rw [eS (l := [(4, bv), (5, (.int .i64 ((k : Int)) : Value))]) ⟨hpZ 4 (by decide), hpZ 5 (by decide), trivial⟩]
     refine XG.op (XOp.indexS (v := bv) (i := (k : Int)) (n := (b).length) k Tryz.runUnderlying55 Tryz.sizeOf116 rfl rfl rfl hb.slv (by omega) rfl ?_)
     exact ⟨rfl, rfl, rfl⟩
    refine stepsP.cons (fun vals R hpZ => ?_) ?_
    ·rw [eS (l := [(6, (.pointer (some (elemA bv (k * 3))) : Value))]) ⟨hpZ 6 (by decide), trivial⟩]
     refine XG.op (XOp.loadN [.int .i64 ((b.getD k (0, 0, [])).1), .int .i64 ((b.getD k (0, 0, [])).2.1), a2] Tryz.isAgg116 Tryz.sizeOf116 rfl rfl (Rd.three (hr4 _) (hr5 _) (hr6 _)) ?_)
     exact ⟨rfl, rfl, rfl⟩
    exact stepsP.nil
   ·intro vals hphi
    rw [eS (l := [(0, av), (1, (.int .i64 ((k : Int)) : Value)), (2, (.pointer (some (elemA av (k * 3))) : Value)), (3, (.agg #[.int .i64 ((a.getD k (0, 0, [])).1), .int .i64 ((a.getD k (0, 0, [])).2.1), a1] : Value)), (4, bv), (5, (.int .i64 ((k : Int)) : Value)), (6, (.pointer (some (elemA bv (k * 3))) : Value)), (7, (.agg #[.int .i64 ((b.getD k (0, 0, [])).1), .int .i64 ((b.getD k (0, 0, [])).2.1), a2] : Value))]) ⟨(hphi 0 (by decide)), (hphi 1 (by decide)), (hphi 2 (by decide)), (hphi 3 (by decide)), (hphi 4 (by decide)), (hphi 5 (by decide)), (hphi 6 (by decide)), (hphi 7 (by decide)), trivial⟩]
    show XL _ _ _ _ _ _ _ (L)
    refine XL.cons (XOp.call (args := [.agg #[.int .i64 ((a.getD k (0, 0, [])).1), .int .i64 ((a.getD k (0, 0, [])).2.1), a1], .agg #[.int .i64 ((b.getD k (0, 0, [])).1), .int .i64 ((b.getD k (0, 0, [])).2.1), a2]]) Tryz.call168 rfl (eqStep_spec ha1 ha2 (hbd := (.inl (hbk (by omega))))) ?_)
    rintro _ _ _ _ ⟨rfl, rfl, rfl⟩
    refine XL.cons (XOp.notD (p := (((a.getD k (0, 0, [])).1), ((a.getD k (0, 0, [])).2.1), ((a.getD k (0, 0, [])).2.2)) = (((b.getD k (0, 0, [])).1), ((b.getD k (0, 0, [])).2.1), ((b.getD k (0, 0, [])).2.2))) rfl ?_)
    refine XL.nil ?_
    refine X.condD (p := ¬((((a.getD k (0, 0, [])).1), ((a.getD k (0, 0, [])).2.1), ((a.getD k (0, 0, [])).2.2)) = (((b.getD k (0, 0, [])).1), ((b.getD k (0, 0, [])).2.1), ((b.getD k (0, 0, [])).2.2)))) rfl (fun h3 => ?_) (fun h3 => ?_)
    ·refine X.seq (X.region ?_)
     refine XL.as (.bool (false)) rfl ?_
     refine XL.nil ?_
     refine X.ret (blockQ_ret (thenQ_ret (thenQ_ret (blockQ_ret (thenQ_ret (retEnd (L' := L) [.bool (false)] (.bool (false)) (.tmp rfl .nil) rfl rF rF sR ?_))))))
     exact ⟨(vB (decide_eq_false (fun e => by subst e; simp at *))), rfl, rfl⟩
    ·refine X.skip (X.region ?_)
     refine XL.mv (.int .i64 ((k : Int))) rfl ?_
     refine XL.cons (XOp.addR (a := (k : Int)) (b := 1) (((k + 1 : Nat) : Int)) rfl rfl (by omega) (by omega) ?_)
     refine XL.as (.int .i64 (((k + 1 : Nat) : Int))) rfl ?_
     refine XL.nil ?_
     exact ⟨k + 1, _, FLe.refl _, rF, ⟨rfl, rfl, rfl, trivial⟩, sR, ⟨rfl, (by (try dsimp only) <;> omega), (fun i hi => (Nat.lt_or_ge i k).elim (fun h => hall i h) (fun h => by obtain rfl : i = k := (by omega); first | assumption | exact Classical.not_not.1 (by assumption)))⟩, (by omega)⟩
  ·refine X.exit (thenQ_exit (thenQ_exit (blockQ_exit ?_)))
   refine X.seq (X.region ?_)
   refine XL.as (.bool (true)) rfl ?_
   refine XL.nil ?_
   refine X.ret (retEnd (L' := L) [.bool (true)] (.bool (true)) (.tmp rfl .nil) rfl rF rF sR ?_)
   exact ⟨(vB (decide_eq_true (ext_any ((0 : Int), (0 : Int), ([] : List Int)) (by omega) (fun i hi => hall i (by omega))))), rfl, rfl⟩

/- laws.eqInt64SS -/
theorem eqInt64SS_spec {F : FH} {L : List HP} {av : Value} {a : List (List Int)} (ha : RowsF F av a) {bv : Value} {b : List (List Int)} (hb : RowsF F bv b) (hal : a.length ≤ 9223372036854775807) (hbd : ∀ i, i < a.length → (a.getD i []).length ≤ 9223372036854775807) :
    Does Tryz.prog 161 [av, bv] F (L) (fun v F' L' => (.bool (decide (a = b)) : Value) = v ∧ F = F' ∧ L = L') := by
 refine Does.of_X Tryz.func161 rfl rfl rfl ?_
 refine X.seq (X.region ?_)
 refine XL.as (.bool (false)) rfl ?_
 refine XL.nil (X.seq (X.seq (X.region ?_)))
 refine XL.mv (av) rfl ?_
 refine XL.cons (XOp.lenS (v := av) (n := (a).length) Tryz.runUnderlying58 rfl ha.slv ?_)
 refine XL.mv (bv) rfl ?_
 refine XL.cons (XOp.lenS (v := bv) (n := (b).length) Tryz.runUnderlying58 rfl hb.slv ?_)
 refine XL.cons (XOp.neq (a := (a.length : Int)) (b := (b.length : Int)) rfl rfl ?_)
 refine XL.nil ?_
 refine X.condD (p := ((a.length : Int) : Int) ≠ (b.length : Int)) rfl (fun h1 => ?_) (fun h1 => ?_)
 ·refine X.seq (X.region ?_)
  refine XL.as (.bool (false)) rfl ?_
  refine XL.nil ?_
  refine X.ret (thenQ_ret (retEnd (L' := L) [.bool (false)] (.bool (false)) (.tmp rfl .nil) rfl rF rF sR ?_))
  exact ⟨(vB (decide_eq_false (fun e => by rw [e] at h1; omega))), rfl, rfl⟩
 ·refine X.skip (X.seq (X.seq (X.region ?_)))
  refine XL.as (.int .i64 (0)) rfl ?_
  refine XL.nil (X.block ?_)
  refine X.loop (α := Nat) (fun k => [(0, av), (1, bv), (5, .int .i64 ((k : Int)))]) (fun k => L) (fun k F' => F = F' ∧ (k ≤ a.length) ∧ (∀ i, i < k → a.getD i ([] : List Int) = b.getD i ([] : List Int))) (fun k => a.length - k) 0 ⟨rfl, rfl, rfl, trivial⟩ sR ⟨rfl, (by (try dsimp only) <;> omega), (fun i hi => absurd hi (by omega))⟩ ?_
  rintro k rE _ _ ⟨rfl, hk, hall⟩
  show X _ _ _ _ (envs [(0, av), (1, bv), (5, .int .i64 ((k : Int)))] rE) _ (L)
  have hbk := hbd k
  refine X.seq (X.seq (X.region ?_))
  refine XL.mv (.int .i64 ((k : Int))) rfl ?_
  refine XL.mv (av) rfl ?_
  refine XL.cons (XOp.lenS (v := av) (n := (a).length) Tryz.runUnderlying58 rfl ha.slv ?_)
  refine XL.cons (XOp.lss (a := (k : Int)) (b := (a.length : Int)) rfl rfl ?_)
  refine XL.nil ?_
  refine X.condD (p := (k : Int) < (a.length : Int)) rfl (fun h2 => ?_) (fun h2 => ?_)
  ·refine X.skip (X.seq (X.block (X.seq ?_)))
   obtain ⟨a1, ha1, hr1⟩ := ha.rd (i := k) (by omega)
   obtain ⟨a2, ha2, hr2⟩ := hb.rd (i := k) (by omega)
   refine X.draw [] L 8 [[], [], [], [], [], [], [], []] [[], [], [0, 1], [2], [], [], [4, 5], [6]] (phiL [fun us v => v = av, fun us v => v = (.int .i64 ((k : Int)) : Value), fun us v => v = (.pointer (some (elemA av (k))) : Value), fun us v => v = a1, fun us v => v = bv, fun us v => v = (.int .i64 ((k : Int)) : Value), fun us v => v = (.pointer (some (elemA bv (k))) : Value), fun us v => v = a2]) (ownL [fun us v => [], fun us v => [], fun us v => [], fun us v => [], fun us v => [], fun us v => [], fun us v => [], fun us v => []]) mixed rfl rfl (by kernel_rfl) ?_ ?_
   ·refine stepsP.cons (fun vals R hpZ => ?_) ?_
    ·refine XG.op (XOp.move (av) rfl ?_)
     exact ⟨rfl, rfl, rfl⟩
    refine stepsP.cons (fun vals R hpZ => ?_) ?_
    ·refine XG.op (XOp.move (.int .i64 ((k : Int))) rfl ?_)
     exact ⟨rfl, rfl, rfl⟩
    refine stepsP.cons (fun vals R hpZ => ?_) ?_
    ·rw [eS (l := [(0, av), (1, (.int .i64 ((k : Int)) : Value))]) ⟨hpZ 0 (by decide), hpZ 1 (by decide), trivial⟩]
     refine XG.op (XOp.indexS (v := av) (i := (k : Int)) (n := (a).length) k Tryz.runUnderlying58 Tryz.sizeOf22 rfl rfl rfl ha.slv (by omega) (Nat.mul_one _) ?_)
     exact ⟨rfl, rfl, rfl⟩
    refine stepsP.cons (fun vals R hpZ => ?_) ?_
    ·rw [eS (l := [(2, (.pointer (some (elemA av (k))) : Value))]) ⟨hpZ 2 (by decide), trivial⟩]
     refine XG.op (XOp.load1 (v := a1) Tryz.isAgg22 rfl (hr1 _) ?_)
     exact ⟨rfl, rfl, rfl⟩
    refine stepsP.cons (fun vals R hpZ => ?_) ?_
    ·refine XG.op (XOp.move (bv) rfl ?_)
     exact ⟨rfl, rfl, rfl⟩
    refine stepsP.cons (fun vals R hpZ => ?_) ?_
    ·refine XG.op (XOp.move (.int .i64 ((k : Int))) rfl ?_)
     exact ⟨rfl, rfl, rfl⟩
    refine stepsP.cons (fun vals R hpZ => ?_) ?_
    ·rw [eS (l := [(4, bv), (5, (.int .i64 ((k : Int)) : Value))]) ⟨hpZ 4 (by decide), hpZ 5 (by decide), trivial⟩]
     refine XG.op (XOp.indexS (v := bv) (i := (k : Int)) (n := (b).length) k Tryz.runUnderlying58 Tryz.sizeOf22 rfl rfl rfl hb.slv (by omega) (Nat.mul_one _) ?_)
     exact ⟨rfl, rfl, rfl⟩
    refine stepsP.cons (fun vals R hpZ => ?_) ?_
    ·rw [eS (l := [(6, (.pointer (some (elemA bv (k))) : Value))]) ⟨hpZ 6 (by decide), trivial⟩]
     refine XG.op (XOp.load1 (v := a2) Tryz.isAgg22 rfl (hr2 _) ?_)
     exact ⟨rfl, rfl, rfl⟩
    exact stepsP.nil
   ·intro vals hphi
    rw [eS (l := [(0, av), (1, (.int .i64 ((k : Int)) : Value)), (2, (.pointer (some (elemA av (k))) : Value)), (3, a1), (4, bv), (5, (.int .i64 ((k : Int)) : Value)), (6, (.pointer (some (elemA bv (k))) : Value)), (7, a2)]) ⟨(hphi 0 (by decide)), (hphi 1 (by decide)), (hphi 2 (by decide)), (hphi 3 (by decide)), (hphi 4 (by decide)), (hphi 5 (by decide)), (hphi 6 (by decide)), (hphi 7 (by decide)), trivial⟩]
    show XL _ _ _ _ _ _ _ (L)
    refine XL.cons (XOp.call (args := [a1, a2]) Tryz.call15 rfl (eqInt64S_spec ha1 ha2 (hbd := (.inl (hbk (by omega))))) ?_)
    rintro _ _ _ _ ⟨rfl, rfl, rfl⟩
    refine XL.cons (XOp.notD (p := ((a.getD k [])) = ((b.getD k []))) rfl ?_)
    refine XL.nil ?_
    refine X.condD (p := ¬(((a.getD k [])) = ((b.getD k [])))) rfl (fun h3 => ?_) (fun h3 => ?_)
    ·refine X.seq (X.region ?_)
     refine XL.as (.bool (false)) rfl ?_
     refine XL.nil ?_
     refine X.ret (blockQ_ret (thenQ_ret (thenQ_ret (blockQ_ret (thenQ_ret (retEnd (L' := L) [.bool (false)] (.bool (false)) (.tmp rfl .nil) rfl rF rF sR ?_))))))
     exact ⟨(vB (decide_eq_false (fun e => by subst e; simp at *))), rfl, rfl⟩
    ·refine X.skip (X.region ?_)
     refine XL.mv (.int .i64 ((k : Int))) rfl ?_
     refine XL.cons (XOp.addR (a := (k : Int)) (b := 1) (((k + 1 : Nat) : Int)) rfl rfl (by omega) (by omega) ?_)
     refine XL.as (.int .i64 (((k + 1 : Nat) : Int))) rfl ?_
     refine XL.nil ?_
     exact ⟨k + 1, _, FLe.refl _, rF, ⟨rfl, rfl, rfl, trivial⟩, sR, ⟨rfl, (by (try dsimp only) <;> omega), (fun i hi => (Nat.lt_or_ge i k).elim (fun h => hall i h) (fun h => by obtain rfl : i = k := (by omega); first | assumption | exact Classical.not_not.1 (by assumption)))⟩, (by omega)⟩
  ·refine X.exit (thenQ_exit (thenQ_exit (blockQ_exit ?_)))
   refine X.seq (X.region ?_)
   refine XL.as (.bool (true)) rfl ?_
   refine XL.nil ?_
   refine X.ret (retEnd (L' := L) [.bool (true)] (.bool (true)) (.tmp rfl .nil) rfl rF rF sR ?_)
   exact ⟨(vB (decide_eq_true (ext_any ([] : List Int) (by omega) (fun i hi => hall i (by omega))))), rfl, rfl⟩

/- laws.eqWalk -/
theorem eqWalk_spec {F : FH} {L : List HP} {fv : Value} {f : List Int} (hf : IntsF F fv f) {av : Value} {a : List StepT} (ha : StepsF F av a) {gv : Value} {g : List Int} (hg : IntsF F gv g) {bv : Value} {b : List StepT} (hb : StepsF F bv b) (hfl : f.length ≤ 9223372036854775807) (hal : a.length ≤ 9223372036854775807) (hbd : ∀ i, i < a.length → (a.getD i (0, 0, [])).2.2.length ≤ 9223372036854775807) :
    Does Tryz.prog 36 [.agg #[fv, av], .agg #[gv, bv]] F (L) (fun v F' L' => (.bool (decide (f = g ∧ a = b)) : Value) = v ∧ F = F' ∧ L = L') := by
 refine Does.of_X Tryz.func36 rfl rfl rfl ?_
 refine X.seq (X.region ?_)
 refine XL.cons (XOp.box [fv, av] rfl rfl ?_)
 intro b1
 refine XL.cons (XOp.box [gv, bv] rfl rfl ?_)
 intro b2
 refine XL.as (.bool (false)) rfl ?_
 refine XL.nil (X.seq (X.seq (X.region ?_)))
 refine XL.cons (XOp.fieldP (b := b1) (0) Tryz.runUnderlying57 rfl Tryz.sizeOf22 (by decide) rfl rfl ?_)
 refine XL.cons (XOp.load1 (v := fv) Tryz.isAgg22 rfl (Rd.own [_] rfl rfl) ?_)
 refine XL.cons (XOp.fieldP (b := b2) (0) Tryz.runUnderlying57 rfl Tryz.sizeOf22 (by decide) rfl rfl ?_)
 refine XL.cons (XOp.load1 (v := gv) Tryz.isAgg22 rfl (Rd.own [] rfl rfl) ?_)
 refine XL.cons (XOp.call (args := [fv, gv]) Tryz.call15 rfl (eqInt64S_spec hf hg (hbd := (.inl hfl))) ?_)
 rintro _ _ _ _ ⟨rfl, rfl, rfl⟩
 refine XL.cons (XOp.notD (p := f = g) rfl ?_)
 refine XL.nil ?_
 refine X.condD (p := ¬(f = g)) rfl (fun h1 => ?_) (fun h1 => ?_)
 ·refine X.seq (X.region ?_)
  refine XL.as (.bool (false)) rfl ?_
  refine XL.nil ?_
  refine X.ret (thenQ_ret (retEnd (L' := L) [.bool (false)] (.bool (false)) (.tmp rfl .nil) rfl rF rF (Sub.drop (Sub.drop sR)) ?_))
  exact ⟨(vB (decide_eq_false (by intro e; simp_all))), rfl, rfl⟩
 ·refine X.skip (X.seq (X.seq (X.region ?_)))
  refine XL.cons (XOp.fieldP (b := b1) (1) Tryz.runUnderlying57 rfl Tryz.sizeOf55 (by decide) rfl rfl ?_)
  refine XL.cons (XOp.load1 (v := av) Tryz.isAgg55 rfl (Rd.own [_] rfl rfl) ?_)
  refine XL.cons (XOp.fieldP (b := b2) (1) Tryz.runUnderlying57 rfl Tryz.sizeOf55 (by decide) rfl rfl ?_)
  refine XL.cons (XOp.load1 (v := bv) Tryz.isAgg55 rfl (Rd.own [] rfl rfl) ?_)
  refine XL.cons (XOp.call (args := [av, bv]) Tryz.call89 rfl (eqStepS_spec ha hb (hal := (by first | assumption | rfl | omega | simp)) (hbd := (by first | assumption | rfl | omega | simp))) ?_)
  rintro _ _ _ _ ⟨rfl, rfl, rfl⟩
  refine XL.cons (XOp.notD (p := a = b) rfl ?_)
  refine XL.nil ?_
  refine X.condD (p := ¬(a = b)) rfl (fun h2 => ?_) (fun h2 => ?_)
  ·refine X.seq (X.region ?_)
   refine XL.as (.bool (false)) rfl ?_
   refine XL.nil ?_
   refine X.ret (thenQ_ret (retEnd (L' := L) [.bool (false)] (.bool (false)) (.tmp rfl .nil) rfl rF rF (Sub.drop (Sub.drop sR)) ?_))
   exact ⟨(vB (decide_eq_false (by intro e; simp_all))), rfl, rfl⟩
  ·refine X.skip (X.seq (X.region ?_))
   refine XL.as (.bool (true)) rfl ?_
   refine XL.nil ?_
   refine X.ret (retEnd (L' := L) [.bool (true)] (.bool (true)) (.tmp rfl .nil) rfl rF rF (Sub.drop (Sub.drop sR)) ?_)
   exact ⟨(vB (decide_eq_true (by simp_all))), rfl, rfl⟩

/- laws.eqSubst -/
theorem eqSubst_spec {F : FH} {L : List HP} {av : Value} {a : List (List Int)} (ha : RowsF F av a) {bv : Value} {b : List (List Int)} (hb : RowsF F bv b) (hal : a.length ≤ 9223372036854775807) (hbd : ∀ i, i < a.length → (a.getD i []).length ≤ 9223372036854775807) :
    Does Tryz.prog 80 [.agg #[av], .agg #[bv]] F (L) (fun v F' L' => (.bool (decide (a = b)) : Value) = v ∧ F = F' ∧ L = L') := by
 refine Does.of_X Tryz.func80 rfl rfl rfl ?_
 refine X.seq (X.region ?_)
 refine XL.cons (XOp.box [av] rfl rfl ?_)
 intro b1
 refine XL.cons (XOp.box [bv] rfl rfl ?_)
 intro b2
 refine XL.as (.bool (false)) rfl ?_
 refine XL.nil (X.seq (X.seq (X.region ?_)))
 refine XL.cons (XOp.fieldP (b := b1) (0) Tryz.runUnderlying60 rfl Tryz.sizeOf58 (by decide) rfl rfl ?_)
 refine XL.cons (XOp.load1 (v := av) Tryz.isAgg58 rfl (Rd.own [_] rfl rfl) ?_)
 refine XL.cons (XOp.fieldP (b := b2) (0) Tryz.runUnderlying60 rfl Tryz.sizeOf58 (by decide) rfl rfl ?_)
 refine XL.cons (XOp.load1 (v := bv) Tryz.isAgg58 rfl (Rd.own [] rfl rfl) ?_)
 refine XL.cons (XOp.call (args := [av, bv]) Tryz.call161 rfl (eqInt64SS_spec ha hb (hal := (by first | assumption | rfl | omega | simp)) (hbd := (by first | assumption | rfl | omega | simp))) ?_)
 rintro _ _ _ _ ⟨rfl, rfl, rfl⟩
 refine XL.cons (XOp.notD (p := a = b) rfl ?_)
 refine XL.nil ?_
 refine X.condD (p := ¬(a = b)) rfl (fun h1 => ?_) (fun h1 => ?_)
 ·refine X.seq (X.region ?_)
  refine XL.as (.bool (false)) rfl ?_
  refine XL.nil ?_
  refine X.ret (thenQ_ret (retEnd (L' := L) [.bool (false)] (.bool (false)) (.tmp rfl .nil) rfl rF rF (Sub.drop (Sub.drop sR)) ?_))
  exact ⟨(vB (decide_eq_false (by assumption))), rfl, rfl⟩
 ·refine X.skip (X.seq (X.region ?_))
  refine XL.as (.bool (true)) rfl ?_
  refine XL.nil ?_
  refine X.ret (retEnd (L' := L) [.bool (true)] (.bool (true)) (.tmp rfl .nil) rfl rF rF (Sub.drop (Sub.drop sR)) ?_)
  exact ⟨(vB (decide_eq_true (by first | assumption | exact Classical.not_not.1 (by assumption)))), rfl, rfl⟩

/- laws.heldStepS -/
theorem heldStepS_spec {F : FH} {L : List HP} {xv : Value} {x : List StepT} (hx : StepsF F xv x) {z : Int} (hzb : 0 ≤ z ∧ z + ((x.flatMap flatStep).length : Int) ≤ 9000000000) (hxl : x.length ≤ 4000000) :
    Does Tryz.prog 91 [xv, .int .i64 (z)] F (L) (fun v F' L' => (.int .i64 (heldF (x.flatMap flatStep) z) : Value) = v ∧ F = F' ∧ L = L') := by
 refine Does.of_X Tryz.func91 rfl rfl rfl ?_
 refine X.seq (X.region ?_)
 refine XL.as (.int .i64 (0)) rfl ?_
 refine XL.nil (X.seq (X.seq (X.region ?_)))
 refine XL.as (.int .i64 (0)) rfl ?_
 refine XL.nil (X.block ?_)
 refine X.loop (α := Nat) (fun k => [(0, xv), (1, .int .i64 (heldF ((x.take k).flatMap flatStep) z)), (5, .int .i64 ((k : Int)))]) (fun k => L) (fun k F' => F = F' ∧ (k ≤ x.length) ∧ (0 ≤ heldF ((x.take k).flatMap flatStep) z)) (fun k => x.length - k) 0 ⟨rfl, (show Value.int .i64 z = .int .i64 (heldF ((x.take 0).flatMap flatStep) z) from congrArg (Value.int .i64) (by simp [heldF_nil])), rfl, trivial⟩ sR ⟨rfl, (by (try dsimp only) <;> omega), (by simp [heldF_nil]; omega)⟩ ?_
 rintro k rE _ _ ⟨rfl, hk, hnn⟩
 show X _ _ _ _ (envs [(0, xv), (1, .int .i64 (heldF ((x.take k).flatMap flatStep) z)), (5, .int .i64 ((k : Int)))] rE) _ (L)
 have hhp := heldF_pos (a := (x.take k).flatMap flatStep) (k := z) (by omega)
 have htl := fun (h : k < x.length) => flat_take_le (f := flatStep) (l := x) ((0 : Int), (0 : Int), ([] : List Int)) h
 have hnx := fun (h : k < x.length) => held_next (f := flatStep) (l := x) (k := k) ((0 : Int), (0 : Int), ([] : List Int)) hzb.1 h (by omega)
 have hsx : k < x.length → (flatStep (x.getD k (0, 0, []))).length = (x.getD k (0, 0, [])).2.2.length + 1 + 1 := fun _ => rfl
 have hun : k < x.length → heldF (flatStep (x.getD k (0, 0, []))) (heldF ((x.take k).flatMap flatStep) z) = (if (x.getD k (0, 0, [])).1 = heldF ((x.take k).flatMap flatStep) z then (if (x.getD k (0, 0, [])).2.1 = heldF ((x.take k).flatMap flatStep) z + 1 then heldF (x.getD k (0, 0, [])).2.2 (heldF ((x.take k).flatMap flatStep) z + 1 + 1) else -1) else -1) := fun _ => by rw [show flatStep (x.getD k (0, 0, [])) = (x.getD k (0, 0, [])).1 :: (x.getD k (0, 0, [])).2.1 :: (x.getD k (0, 0, [])).2.2 from rfl, heldF_cons hnn, heldF_cons (by omega)]
 refine X.seq (X.seq (X.region ?_))
 refine XL.mv (.int .i64 ((k : Int))) rfl ?_
 refine XL.mv (xv) rfl ?_
 refine XL.cons (XOp.lenS (v := xv) (n := (x).length) Tryz.runUnderlying55 rfl hx.slv ?_)
 refine XL.cons (XOp.lss (a := (k : Int)) (b := (x.length : Int)) rfl rfl ?_)
 refine XL.nil ?_
 refine X.condD (p := (k : Int) < (x.length : Int)) rfl (fun h1 => ?_) (fun h1 => ?_)
 ·refine X.skip (X.seq (X.block (X.seq (X.seq (X.region ?_)))))
  refine XL.mv (xv) rfl ?_
  refine XL.mv (.int .i64 ((k : Int))) rfl ?_
  refine XL.cons (XOp.indexS (v := xv) (i := (k : Int)) (n := (x).length) k Tryz.runUnderlying55 Tryz.sizeOf116 rfl rfl rfl hx.slv (by omega) rfl ?_)
  refine XL.cons (XOp.fieldE (v := xv) (k * 3) Tryz.runUnderlying116 rfl Tryz.sizeOf2 (by decide) rfl rfl ?_)
  obtain ⟨a1, ha1, hr1, hr2, hr3⟩ := hx.rd (i := k) (by omega)
  refine XL.cons (XOp.load1 (v := .int .i64 ((x.getD k (0, 0, [])).1)) Tryz.isAgg2 rfl (hr1 _) ?_)
  refine XL.mv (.int .i64 (heldF ((x.take k).flatMap flatStep) z)) rfl ?_
  refine XL.cons (XOp.neq (a := (x.getD k (0, 0, [])).1) (b := heldF ((x.take k).flatMap flatStep) z) rfl rfl ?_)
  refine XL.nil ?_
  refine X.condD (p := ((x.getD k (0, 0, [])).1 : Int) ≠ heldF ((x.take k).flatMap flatStep) z) rfl (fun h2 => ?_) (fun h2 => ?_)
  ·refine X.seq (X.region ?_)
   refine XL.as (.int .i64 (-1)) rfl ?_
   refine XL.nil ?_
   refine X.ret (thenQ_ret (blockQ_ret (thenQ_ret (thenQ_ret (blockQ_ret (thenQ_ret (retEnd (L' := L) [.int .i64 (-1)] (.int .i64 (-1)) (.tmp rfl .nil) rfl rF rF sR ?_)))))))
   exact ⟨(vI (by exact held_fail (k := k) ((0 : Int), (0 : Int), ([] : List Int)) hzb.1 (by omega) (by rw [hnx (by omega), hun (by omega), if_neg (by assumption)]; omega))), rfl, rfl⟩
  ·refine X.skip (X.seq (X.region ?_))
   refine XL.mv (.int .i64 (heldF ((x.take k).flatMap flatStep) z)) rfl ?_
   refine XL.cons (XOp.addR (a := heldF ((x.take k).flatMap flatStep) z) (b := 1) ((heldF ((x.take k).flatMap flatStep) z) + 1) rfl rfl (by omega) (by omega) ?_)
   refine XL.as (.int .i64 ((heldF ((x.take k).flatMap flatStep) z) + 1)) rfl ?_
   refine XL.nil (X.seq (X.seq (X.region ?_)))
   refine XL.mv (xv) rfl ?_
   refine XL.mv (.int .i64 ((k : Int))) rfl ?_
   refine XL.cons (XOp.indexS (v := xv) (i := (k : Int)) (n := (x).length) k Tryz.runUnderlying55 Tryz.sizeOf116 rfl rfl rfl hx.slv (by omega) rfl ?_)
   refine XL.cons (XOp.fieldE (v := xv) (k * 3 + 1) Tryz.runUnderlying116 rfl Tryz.sizeOf2 (by decide) rfl rfl ?_)
   refine XL.cons (XOp.load1 (v := .int .i64 ((x.getD k (0, 0, [])).2.1)) Tryz.isAgg2 rfl (hr2 _) ?_)
   refine XL.mv (.int .i64 ((heldF ((x.take k).flatMap flatStep) z) + 1)) rfl ?_
   refine XL.cons (XOp.neq (a := (x.getD k (0, 0, [])).2.1) (b := (heldF ((x.take k).flatMap flatStep) z) + 1) rfl rfl ?_)
   refine XL.nil ?_
   refine X.condD (p := ((x.getD k (0, 0, [])).2.1 : Int) ≠ (heldF ((x.take k).flatMap flatStep) z) + 1) rfl (fun h3 => ?_) (fun h3 => ?_)
   ·refine X.seq (X.region ?_)
    refine XL.as (.int .i64 (-1)) rfl ?_
    refine XL.nil ?_
    refine X.ret (thenQ_ret (blockQ_ret (thenQ_ret (thenQ_ret (blockQ_ret (thenQ_ret (retEnd (L' := L) [.int .i64 (-1)] (.int .i64 (-1)) (.tmp rfl .nil) rfl rF rF sR ?_)))))))
    exact ⟨(vI (by exact held_fail (k := k) ((0 : Int), (0 : Int), ([] : List Int)) hzb.1 (by omega) (by rw [hnx (by omega), hun (by omega), if_pos (by first | assumption | exact Classical.not_not.1 (by assumption)), if_neg (by assumption)]; omega))), rfl, rfl⟩
   ·refine X.skip (X.seq (X.region ?_))
    refine XL.mv (.int .i64 ((heldF ((x.take k).flatMap flatStep) z) + 1)) rfl ?_
    refine XL.cons (XOp.addR (a := (heldF ((x.take k).flatMap flatStep) z) + 1) (b := 1) (((heldF ((x.take k).flatMap flatStep) z) + 1) + 1) rfl rfl (by omega) (by omega) ?_)
    refine XL.as (.int .i64 (((heldF ((x.take k).flatMap flatStep) z) + 1) + 1)) rfl ?_
    refine XL.nil (X.seq (X.region ?_))
    refine XL.mv (xv) rfl ?_
    refine XL.mv (.int .i64 ((k : Int))) rfl ?_
    refine XL.cons (XOp.indexS (v := xv) (i := (k : Int)) (n := (x).length) k Tryz.runUnderlying55 Tryz.sizeOf116 rfl rfl rfl hx.slv (by omega) rfl ?_)
    refine XL.cons (XOp.fieldE (v := xv) (k * 3 + 2) Tryz.runUnderlying116 rfl Tryz.sizeOf22 (by decide) rfl rfl ?_)
    refine XL.cons (XOp.load1 (v := a1) Tryz.isAgg22 rfl (hr3 _) ?_)
    refine XL.mv (.int .i64 (((heldF ((x.take k).flatMap flatStep) z) + 1) + 1)) rfl ?_
    refine XL.cons (XOp.call (args := [a1, .int .i64 (((heldF ((x.take k).flatMap flatStep) z) + 1) + 1)]) Tryz.call61 rfl (heldInt64S_spec (z := ((heldF ((x.take k).flatMap flatStep) z) + 1) + 1) ha1 (hzb := (by first | assumption | rfl | omega | simp))) ?_)
    rintro _ _ _ _ ⟨rfl, rfl, rfl⟩
    refine XL.as (.int .i64 (heldF ((x.getD k (0, 0, [])).2.2) (((heldF ((x.take k).flatMap flatStep) z) + 1) + 1))) rfl ?_
    refine XL.nil (X.seq (X.region ?_))
    refine XL.mv (.int .i64 (heldF ((x.getD k (0, 0, [])).2.2) (((heldF ((x.take k).flatMap flatStep) z) + 1) + 1))) rfl ?_
    refine XL.cons (XOp.lss (a := heldF ((x.getD k (0, 0, [])).2.2) (((heldF ((x.take k).flatMap flatStep) z) + 1) + 1)) (b := 0) rfl rfl ?_)
    refine XL.nil ?_
    refine X.condD (p := (heldF ((x.getD k (0, 0, [])).2.2) (((heldF ((x.take k).flatMap flatStep) z) + 1) + 1) : Int) < 0) rfl (fun h4 => ?_) (fun h4 => ?_)
    ·refine X.seq (X.region ?_)
     refine XL.as (.int .i64 (-1)) rfl ?_
     refine XL.nil ?_
     refine X.ret (blockQ_ret (thenQ_ret (thenQ_ret (blockQ_ret (thenQ_ret (retEnd (L' := L) [.int .i64 (-1)] (.int .i64 (-1)) (.tmp rfl .nil) rfl rF rF sR ?_))))))
     exact ⟨(vI (by exact held_fail (k := k) ((0 : Int), (0 : Int), ([] : List Int)) hzb.1 (by omega) (by rw [hnx (by omega), hun (by omega), if_pos (by first | assumption | exact Classical.not_not.1 (by assumption)), if_pos (by first | assumption | exact Classical.not_not.1 (by assumption))]; omega))), rfl, rfl⟩
    ·refine X.skip (X.region ?_)
     refine XL.mv (.int .i64 ((k : Int))) rfl ?_
     refine XL.cons (XOp.addR (a := (k : Int)) (b := 1) (((k + 1 : Nat) : Int)) rfl rfl (by omega) (by omega) ?_)
     refine XL.as (.int .i64 (((k + 1 : Nat) : Int))) rfl ?_
     refine XL.nil ?_
     exact ⟨k + 1, _, FLe.refl _, rF, ⟨rfl, (vI (by rw [hnx (by omega), hun (by omega), if_pos (by first | assumption | exact Classical.not_not.1 (by assumption)), if_pos (by first | assumption | exact Classical.not_not.1 (by assumption))])), rfl, trivial⟩, sR, ⟨rfl, (by (try dsimp only) <;> omega), (by (try dsimp only); rw [hnx (by omega), hun (by omega), if_pos (by first | assumption | exact Classical.not_not.1 (by assumption)), if_pos (by first | assumption | exact Classical.not_not.1 (by assumption))]; omega)⟩, (by omega)⟩
 ·refine X.exit (thenQ_exit (thenQ_exit (blockQ_exit ?_)))
  refine X.seq (X.region ?_)
  refine XL.mv (.int .i64 (heldF ((x.take k).flatMap flatStep) z)) rfl ?_
  refine XL.as (.int .i64 (heldF ((x.take k).flatMap flatStep) z)) rfl ?_
  refine XL.nil ?_
  refine X.ret (retEnd (L' := L) [.int .i64 (heldF ((x.take k).flatMap flatStep) z)] (.int .i64 (heldF ((x.take k).flatMap flatStep) z)) (.tmp rfl .nil) rfl rF rF sR ?_)
  exact ⟨(vI (by rw [List.take_of_length_le (by omega)])), rfl, rfl⟩

/- laws.heldInt64SS -/
theorem heldInt64SS_spec {F : FH} {L : List HP} {xv : Value} {x : List (List Int)} (hx : RowsF F xv x) {z : Int} (hzb : 0 ≤ z ∧ z + ((x.flatMap flatRow).length : Int) ≤ 9000000000) (hxl : x.length ≤ 4000000) :
    Does Tryz.prog 138 [xv, .int .i64 (z)] F (L) (fun v F' L' => (.int .i64 (heldF (x.flatMap flatRow) z) : Value) = v ∧ F = F' ∧ L = L') := by
 refine Does.of_X Tryz.func138 rfl rfl rfl ?_
 refine X.seq (X.region ?_)
 refine XL.as (.int .i64 (0)) rfl ?_
 refine XL.nil (X.seq (X.seq (X.region ?_)))
 refine XL.as (.int .i64 (0)) rfl ?_
 refine XL.nil (X.block ?_)
 refine X.loop (α := Nat) (fun k => [(0, xv), (1, .int .i64 (heldF ((x.take k).flatMap flatRow) z)), (5, .int .i64 ((k : Int)))]) (fun k => L) (fun k F' => F = F' ∧ (k ≤ x.length) ∧ (0 ≤ heldF ((x.take k).flatMap flatRow) z)) (fun k => x.length - k) 0 ⟨rfl, (show Value.int .i64 z = .int .i64 (heldF ((x.take 0).flatMap flatRow) z) from congrArg (Value.int .i64) (by simp [heldF_nil])), rfl, trivial⟩ sR ⟨rfl, (by (try dsimp only) <;> omega), (by simp [heldF_nil]; omega)⟩ ?_
 rintro k rE _ _ ⟨rfl, hk, hnn⟩
 show X _ _ _ _ (envs [(0, xv), (1, .int .i64 (heldF ((x.take k).flatMap flatRow) z)), (5, .int .i64 ((k : Int)))] rE) _ (L)
 have hhp := heldF_pos (a := (x.take k).flatMap flatRow) (k := z) (by omega)
 have htl := fun (h : k < x.length) => flat_take_le (f := flatRow) (l := x) ([] : List Int) h
 have hnx := fun (h : k < x.length) => held_next (f := flatRow) (l := x) (k := k) ([] : List Int) hzb.1 h (by omega)
 have hsx : k < x.length → (flatRow (x.getD k [])).length = (x.getD k []).length := fun _ => rfl
 have hun : k < x.length → heldF (flatRow (x.getD k [])) (heldF ((x.take k).flatMap flatRow) z) = heldF (x.getD k []) (heldF ((x.take k).flatMap flatRow) z) := fun _ => rfl
 refine X.seq (X.seq (X.region ?_))
 refine XL.mv (.int .i64 ((k : Int))) rfl ?_
 refine XL.mv (xv) rfl ?_
 refine XL.cons (XOp.lenS (v := xv) (n := (x).length) Tryz.runUnderlying58 rfl hx.slv ?_)
 refine XL.cons (XOp.lss (a := (k : Int)) (b := (x.length : Int)) rfl rfl ?_)
 refine XL.nil ?_
 refine X.condD (p := (k : Int) < (x.length : Int)) rfl (fun h1 => ?_) (fun h1 => ?_)
 ·refine X.skip (X.seq (X.block (X.seq (X.region ?_))))
  refine XL.mv (xv) rfl ?_
  refine XL.mv (.int .i64 ((k : Int))) rfl ?_
  refine XL.cons (XOp.indexS (v := xv) (i := (k : Int)) (n := (x).length) k Tryz.runUnderlying58 Tryz.sizeOf22 rfl rfl rfl hx.slv (by omega) (Nat.mul_one _) ?_)
  obtain ⟨a1, ha1, hr1⟩ := hx.rd (i := k) (by omega)
  refine XL.cons (XOp.load1 (v := a1) Tryz.isAgg22 rfl (hr1 _) ?_)
  refine XL.mv (.int .i64 (heldF ((x.take k).flatMap flatRow) z)) rfl ?_
  refine XL.cons (XOp.call (args := [a1, .int .i64 (heldF ((x.take k).flatMap flatRow) z)]) Tryz.call61 rfl (heldInt64S_spec (z := heldF ((x.take k).flatMap flatRow) z) ha1 (hzb := (by first | assumption | rfl | omega | simp))) ?_)
  rintro _ _ _ _ ⟨rfl, rfl, rfl⟩
  refine XL.as (.int .i64 (heldF ((x.getD k [])) (heldF ((x.take k).flatMap flatRow) z))) rfl ?_
  refine XL.nil (X.seq (X.region ?_))
  refine XL.mv (.int .i64 (heldF ((x.getD k [])) (heldF ((x.take k).flatMap flatRow) z))) rfl ?_
  refine XL.cons (XOp.lss (a := heldF ((x.getD k [])) (heldF ((x.take k).flatMap flatRow) z)) (b := 0) rfl rfl ?_)
  refine XL.nil ?_
  refine X.condD (p := (heldF ((x.getD k [])) (heldF ((x.take k).flatMap flatRow) z) : Int) < 0) rfl (fun h2 => ?_) (fun h2 => ?_)
  ·refine X.seq (X.region ?_)
   refine XL.as (.int .i64 (-1)) rfl ?_
   refine XL.nil ?_
   refine X.ret (blockQ_ret (thenQ_ret (thenQ_ret (blockQ_ret (thenQ_ret (retEnd (L' := L) [.int .i64 (-1)] (.int .i64 (-1)) (.tmp rfl .nil) rfl rF rF sR ?_))))))
   exact ⟨(vI (by exact held_fail (k := k) ([] : List Int) hzb.1 (by omega) (by rw [hnx (by omega), hun (by omega)]; omega))), rfl, rfl⟩
  ·refine X.skip (X.region ?_)
   refine XL.mv (.int .i64 ((k : Int))) rfl ?_
   refine XL.cons (XOp.addR (a := (k : Int)) (b := 1) (((k + 1 : Nat) : Int)) rfl rfl (by omega) (by omega) ?_)
   refine XL.as (.int .i64 (((k + 1 : Nat) : Int))) rfl ?_
   refine XL.nil ?_
   exact ⟨k + 1, _, FLe.refl _, rF, ⟨rfl, (vI (by rw [hnx (by omega), hun (by omega)])), rfl, trivial⟩, sR, ⟨rfl, (by (try dsimp only) <;> omega), (by (try dsimp only); rw [hnx (by omega), hun (by omega)]; omega)⟩, (by omega)⟩
 ·refine X.exit (thenQ_exit (thenQ_exit (blockQ_exit ?_)))
  refine X.seq (X.region ?_)
  refine XL.mv (.int .i64 (heldF ((x.take k).flatMap flatRow) z)) rfl ?_
  refine XL.as (.int .i64 (heldF ((x.take k).flatMap flatRow) z)) rfl ?_
  refine XL.nil ?_
  refine X.ret (retEnd (L' := L) [.int .i64 (heldF ((x.take k).flatMap flatRow) z)] (.int .i64 (heldF ((x.take k).flatMap flatRow) z)) (.tmp rfl .nil) rfl rF rF sR ?_)
  exact ⟨(vI (by rw [List.take_of_length_le (by omega)])), rfl, rfl⟩

/- laws.heldWalk -/
theorem heldWalk_spec {F : FH} {L : List HP} {fv : Value} {f : List Int} (hf : IntsF F fv f) {xv : Value} {x : List StepT} (hx : StepsF F xv x) {z : Int} (hzb : 0 ≤ z ∧ z + ((f.length + (x.flatMap flatStep).length : Nat) : Int) ≤ 9000000000) (hxl : x.length ≤ 4000000) :
    Does Tryz.prog 40 [.agg #[fv, xv], .int .i64 (z)] F (L) (fun v F' L' => (.int .i64 (heldF (f ++ x.flatMap flatStep) z) : Value) = v ∧ F = F' ∧ L = L') := by
 refine Does.of_X Tryz.func40 rfl rfl rfl ?_
 have hh1 := heldF_range (xs := f) hzb.1
 refine X.seq (X.region ?_)
 refine XL.cons (XOp.box [fv, xv] rfl rfl ?_)
 intro b1
 refine XL.as (.int .i64 (0)) rfl ?_
 refine XL.nil (X.seq (X.region ?_))
 refine XL.cons (XOp.fieldP (b := b1) (0) Tryz.runUnderlying57 rfl Tryz.sizeOf22 (by decide) rfl rfl ?_)
 refine XL.cons (XOp.load1 (v := fv) Tryz.isAgg22 rfl (Rd.own [] rfl rfl) ?_)
 refine XL.mv (.int .i64 (z)) rfl ?_
 refine XL.cons (XOp.call (args := [fv, .int .i64 (z)]) Tryz.call61 rfl (heldInt64S_spec (z := z) hf (hzb := (by first | assumption | rfl | omega | simp))) ?_)
 rintro _ _ _ _ ⟨rfl, rfl, rfl⟩
 refine XL.as (.int .i64 (heldF f z)) rfl ?_
 refine XL.nil (X.seq (X.seq (X.region ?_)))
 refine XL.mv (.int .i64 (heldF f z)) rfl ?_
 refine XL.cons (XOp.lss (a := heldF f z) (b := 0) rfl rfl ?_)
 refine XL.nil ?_
 refine X.condD (p := (heldF f z : Int) < 0) rfl (fun h1 => ?_) (fun h1 => ?_)
 ·refine X.seq (X.region ?_)
  refine XL.as (.int .i64 (-1)) rfl ?_
  refine XL.nil ?_
  refine X.ret (thenQ_ret (retEnd (L' := L) [.int .i64 (-1)] (.int .i64 (-1)) (.tmp rfl .nil) rfl rF rF (Sub.drop sR) ?_))
  exact ⟨(vI (by rw [heldF_append hzb.1, if_pos (by omega)])), rfl, rfl⟩
 ·refine X.skip (X.seq (X.region ?_))
  refine XL.cons (XOp.fieldP (b := b1) (1) Tryz.runUnderlying57 rfl Tryz.sizeOf55 (by decide) rfl rfl ?_)
  refine XL.cons (XOp.load1 (v := xv) Tryz.isAgg55 rfl (Rd.own [] rfl rfl) ?_)
  refine XL.mv (.int .i64 (heldF f z)) rfl ?_
  refine XL.cons (XOp.call (args := [xv, .int .i64 (heldF f z)]) Tryz.call91 rfl (heldStepS_spec (z := heldF f z) hx (hzb := (by first | assumption | rfl | omega | simp)) (hxl := (by first | assumption | rfl | omega | simp))) ?_)
  rintro _ _ _ _ ⟨rfl, rfl, rfl⟩
  refine XL.as (.int .i64 (heldF (x.flatMap flatStep) (heldF f z))) rfl ?_
  refine XL.nil (X.seq (X.seq (X.region ?_)))
  refine XL.mv (.int .i64 (heldF (x.flatMap flatStep) (heldF f z))) rfl ?_
  refine XL.cons (XOp.lss (a := heldF (x.flatMap flatStep) (heldF f z)) (b := 0) rfl rfl ?_)
  refine XL.nil ?_
  refine X.condD (p := (heldF (x.flatMap flatStep) (heldF f z) : Int) < 0) rfl (fun h2 => ?_) (fun h2 => ?_)
  ·refine X.seq (X.region ?_)
   refine XL.as (.int .i64 (-1)) rfl ?_
   refine XL.nil ?_
   refine X.ret (thenQ_ret (retEnd (L' := L) [.int .i64 (-1)] (.int .i64 (-1)) (.tmp rfl .nil) rfl rF rF (Sub.drop sR) ?_))
   exact ⟨(vI (by rw [heldF_append hzb.1, if_neg (by omega)]; have := (heldF_range (xs := x.flatMap flatStep) (k := heldF f z) (by omega)).1; omega)), rfl, rfl⟩
  ·refine X.skip (X.seq (X.region ?_))
   refine XL.mv (.int .i64 (heldF (x.flatMap flatStep) (heldF f z))) rfl ?_
   refine XL.as (.int .i64 (heldF (x.flatMap flatStep) (heldF f z))) rfl ?_
   refine XL.nil ?_
   refine X.ret (retEnd (L' := L) [.int .i64 (heldF (x.flatMap flatStep) (heldF f z))] (.int .i64 (heldF (x.flatMap flatStep) (heldF f z))) (.tmp rfl .nil) rfl rF rF (Sub.drop sR) ?_)
   exact ⟨(vI (by rw [heldF_append hzb.1, if_neg (by omega)])), rfl, rfl⟩
end Go.Proofs.YtiaanelimbmniaaGreat
set_option linter.unusedSimpArgs false
set_option linter.unusedVariables false
namespace Go.Proofs.YtiaanelimbmniaaGreat
open Go X M
end Go.Proofs.YtiaanelimbmniaaGreat
set_option linter.unusedSimpArgs false
set_option linter.unusedVariables false
namespace Go.Proofs.YtiaanelimbmniaaGreat
open Go X M

/- spec.SubAt -/
theorem sSubAt_spec {F : FH} {L : List HP} {arv : Value} {ar : List Int} (har : IntsF F arv ar) {tv : Value} {t : List Int} (ht : IntsF F tv t) {p : Int} (hla : ar.length ≤ 4000000) (hlt : t.length ≤ 4000000) :
    Does Tryz.prog 146 [.agg #[arv], tv, .int .i64 (p)] F (L) (fun v F' L' => ∃ (a : Value), (a : Value) = v ∧ (IntsF F' a (if posOk ar t p = true then sub ar t p.toNat else [])) ∧ L = L') := by
 refine Does.of_X Tryz.func146 rfl rfl rfl ?_
 refine X.seq (X.region ?_)
 refine XL.cons (XOp.box [arv] rfl rfl ?_)
 intro b1
 refine XL.as ((.slice none 0 0)) rfl ?_
 refine XL.nil (X.seq (X.seq (X.region ?_)))
 refine XL.cons (XOp.loadN [arv] Tryz.isAgg34 Tryz.sizeOf34 rfl rfl (Rd.ownN [] rfl rfl) ?_)
 refine XL.mv (tv) rfl ?_
 refine XL.cons (XOp.call (args := [.agg #[arv], tv]) Tryz.call70 rfl (sTermOk_spec har ht (hla := (by first | assumption | rfl | omega | simp)) (hlt := (by first | assumption | rfl | omega | simp))) ?_)
 rintro _ _ _ _ ⟨rfl, rfl, rfl⟩
 refine XL.cons (XOp.notB (b := termOk ar t) rfl ?_)
 refine XL.mv (.bool (!(termOk ar t))) rfl ?_
 by_cases h1 : (!(termOk ar t)) = true
 ·refine XL.no (t := 11) rfl (vB h1) ?_
  refine XL.no (t := 11) rfl (vB h1) ?_
  refine XL.no (t := 11) rfl (vB h1) ?_
  refine XL.no (t := 11) rfl (vB h1) ?_
  refine XL.cons (XOp.pickT (.bool (true)) (vB h1) rfl ?_)
  refine XL.nil ?_
  refine X.condT rfl ?_
  refine X.seq (X.region ?_)
  refine XL.cons (XOp.buildSlice (s := 1) [] [.int .i64 (0)] [] Tryz.runUnderlying22 Tryz.sizeOf2 Tryz.zeroValue2 rfl (by decide) rfl CellsAre.nil rfl ?_)
  intro v1 hv1
  refine XL.as (v1) rfl ?_
  refine XL.nil ?_
  show X _ _ _ _ _ _ (intsH 2 v1 ([] : List Int) :: cellsH b1 [arv] 34 :: L)
  refine X.freezeF [] _ _ rfl (fun F1 le1 hz1 => ?_)
  replace har := har.mono le1
  replace ht := ht.mono le1
  have hf1 : IntsF F1 v1 ([]) := intsH.fz (xs := []) hz1.fz
  refine X.ret (thenQ_ret (retEnd (L' := L) [v1] (v1) (.tmp rfl .nil) rfl le1 rF (Sub.drop sR) ?_))
  exact ⟨_, rfl, by rw [if_neg (by rw [posOk_iff]; simp_all <;> omega)]; exact hf1, rfl⟩
 ·rw [Bool.not_eq_true] at h1
  refine XL.yes (t := 11) rfl (vB h1) (XOp.move (tv) rfl ?_)
  refine XL.yes (t := 11) rfl (vB h1) (XOp.move (.int .i64 (p)) rfl ?_)
  refine XL.yes (t := 11) rfl (vB h1) (XOp.call (args := [tv, .int .i64 (p)]) Tryz.call200 rfl (l1There_spec (n := p) ht (hbd := (by first | assumption | rfl | omega | simp))) ?_)
  rintro _ _ _ _ ⟨rfl, rfl, rfl⟩
  refine XL.yes (t := 11) rfl (vB h1) (XOp.notD (p := 0 ≤ p ∧ p < (t.length : Int)) rfl ?_)
  refine XL.cons (XOp.pickF (.bool (decide (¬(0 ≤ p ∧ p < (t.length : Int))))) (vB h1) rfl ?_)
  refine XL.nil ?_
  refine X.condD (p := ¬(0 ≤ p ∧ p < (t.length : Int))) rfl (fun h2 => ?_) (fun h2 => ?_)
  ·refine X.seq (X.region ?_)
   refine XL.cons (XOp.buildSlice (s := 1) [] [.int .i64 (0)] [] Tryz.runUnderlying22 Tryz.sizeOf2 Tryz.zeroValue2 rfl (by decide) rfl CellsAre.nil rfl ?_)
   intro v2 hv2
   refine XL.as (v2) rfl ?_
   refine XL.nil ?_
   show X _ _ _ _ _ _ (intsH 2 v2 ([] : List Int) :: cellsH b1 [arv] 34 :: L)
   refine X.freezeF [] _ _ rfl (fun F2 le2 hz2 => ?_)
   replace har := har.mono le2
   replace ht := ht.mono le2
   have hf2 : IntsF F2 v2 ([]) := intsH.fz (xs := []) hz2.fz
   refine X.ret (thenQ_ret (retEnd (L' := L) [v2] (v2) (.tmp rfl .nil) rfl le2 rF (Sub.drop sR) ?_))
   exact ⟨_, rfl, by rw [if_neg (by rw [posOk_iff]; simp_all <;> omega)]; exact hf2, rfl⟩
  ·refine X.skip (X.seq (X.region ?_))
   have ho : termOk ar t = true := by simp_all
   have hpz : 0 ≤ p ∧ p < (t.length : Int) := by simp_all
   refine XL.cons (XOp.loadN [arv] Tryz.isAgg34 Tryz.sizeOf34 rfl rfl (Rd.ownN [] rfl rfl) ?_)
   refine XL.mv (tv) rfl ?_
   refine XL.mv (.int .i64 (p)) rfl ?_
   refine XL.cons (XOp.frzF <| XOp.call (args := [.agg #[arv], tv, .int .i64 (((p).toNat : Nat) : Int)]) Tryz.call173 (by rw [show (((p).toNat : Nat) : Int) = p from by omega]; rfl) (l1Sub_spec (p := (p).toNat) har ht (ho := (by first | assumption | rfl | omega | simp)) (hp := (by first | assumption | rfl | omega | simp))) ?_)
   rintro v3 _ _ _ ⟨rfl, hs1, rfl⟩
   refine ⟨_, _, rfl, fun F3 le3 hz3 => ?_⟩
   replace har := har.mono le3
   replace ht := ht.mono le3
   have hf3 : IntsF F3 v3 ((sub ar t ((p).toNat))) := intsH.fz (xs := (sub ar t ((p).toNat))) hz3.fz
   refine XL.as (v3) rfl ?_
   refine XL.nil ?_
   refine X.ret (retEnd (L' := L) [v3] (v3) (.tmp rfl .nil) rfl le3 rF (Sub.drop sR) ?_)
   exact ⟨_, rfl, by rw [if_pos (posOk_iff.2 ⟨ho, hpz⟩)]; exact hf3, rfl⟩

/- laws.eqLoop -/
theorem eqLoop_spec {F : FH} {L : List HP} {fv : Value} {f : List Int} (hf : IntsF F fv f) {ssv : Value} {ss : List StepT} (hss : StepsF F ssv ss) {p : Int} {sv : Value} {s : List (List Int)} (hs : RowsF F sv s) {gv : Value} {g : List Int} (hg : IntsF F gv g) {bv : Value} {b : List StepT} (hb : StepsF F bv b) {q : Int} {uv : Value} {u : List (List Int)} (hu : RowsF F uv u) (hfl : f.length ≤ 9223372036854775807) (hal : ss.length ≤ 9223372036854775807) (hbd : ∀ i, i < ss.length → (ss.getD i (0, 0, [])).2.2.length ≤ 9223372036854775807) (hsl : s.length ≤ 9223372036854775807) (hsb : ∀ i, i < s.length → (s.getD i []).length ≤ 9223372036854775807) :
    Does Tryz.prog 27 [.agg #[fv, ssv, .int .i64 (p), sv], .agg #[gv, bv, .int .i64 (q), uv]] F (L) (fun v F' L' => (.bool (decide ((f = g ∧ ss = b) ∧ p = q ∧ s = u)) : Value) = v ∧ F = F' ∧ L = L') := by
 refine Does.of_X Tryz.func27 rfl rfl rfl ?_
 refine X.seq (X.region ?_)
 refine XL.cons (XOp.box [fv, ssv, .int .i64 (p), sv] rfl rfl ?_)
 intro b1
 refine XL.cons (XOp.box [gv, bv, .int .i64 (q), uv] rfl rfl ?_)
 intro b2
 refine XL.as (.bool (false)) rfl ?_
 refine XL.nil (X.seq (X.seq (X.region ?_)))
 refine XL.cons (XOp.fieldP (b := b1) (0) Tryz.runUnderlying62 rfl Tryz.sizeOf57 (by decide) rfl rfl ?_)
 refine XL.cons (XOp.loadN [fv, ssv] Tryz.isAgg57 Tryz.sizeOf57 rfl rfl (Rd.ownN [_] rfl rfl) ?_)
 refine XL.cons (XOp.fieldP (b := b2) (0) Tryz.runUnderlying62 rfl Tryz.sizeOf57 (by decide) rfl rfl ?_)
 refine XL.cons (XOp.loadN [gv, bv] Tryz.isAgg57 Tryz.sizeOf57 rfl rfl (Rd.ownN [] rfl rfl) ?_)
 refine XL.cons (XOp.call (args := [.agg #[fv, ssv], .agg #[gv, bv]]) Tryz.call36 rfl (eqWalk_spec hf hss hg hb (hfl := (by first | assumption | rfl | omega | simp)) (hal := (by first | assumption | rfl | omega | simp)) (hbd := (by first | assumption | rfl | omega | simp))) ?_)
 rintro _ _ _ _ ⟨rfl, rfl, rfl⟩
 refine XL.cons (XOp.notD (p := f = g ∧ ss = b) rfl ?_)
 refine XL.nil ?_
 refine X.condD (p := ¬(f = g ∧ ss = b)) rfl (fun h1 => ?_) (fun h1 => ?_)
 ·refine X.seq (X.region ?_)
  refine XL.as (.bool (false)) rfl ?_
  refine XL.nil ?_
  refine X.ret (thenQ_ret (retEnd (L' := L) [.bool (false)] (.bool (false)) (.tmp rfl .nil) rfl rF rF (Sub.drop (Sub.drop sR)) ?_))
  exact ⟨(vB (decide_eq_false (by intro e; simp_all))), rfl, rfl⟩
 ·refine X.skip (X.seq (X.seq (X.region ?_)))
  refine XL.cons (XOp.fieldP (b := b1) (2) Tryz.runUnderlying62 rfl Tryz.sizeOf2 (by decide) rfl rfl ?_)
  refine XL.cons (XOp.load1 (v := .int .i64 (p)) Tryz.isAgg2 rfl (Rd.own [_] rfl rfl) ?_)
  refine XL.cons (XOp.fieldP (b := b2) (2) Tryz.runUnderlying62 rfl Tryz.sizeOf2 (by decide) rfl rfl ?_)
  refine XL.cons (XOp.load1 (v := .int .i64 (q)) Tryz.isAgg2 rfl (Rd.own [] rfl rfl) ?_)
  refine XL.cons (XOp.neq (a := p) (b := q) rfl rfl ?_)
  refine XL.nil ?_
  refine X.condD (p := (p : Int) ≠ q) rfl (fun h2 => ?_) (fun h2 => ?_)
  ·refine X.seq (X.region ?_)
   refine XL.as (.bool (false)) rfl ?_
   refine XL.nil ?_
   refine X.ret (thenQ_ret (retEnd (L' := L) [.bool (false)] (.bool (false)) (.tmp rfl .nil) rfl rF rF (Sub.drop (Sub.drop sR)) ?_))
   exact ⟨(vB (decide_eq_false (by intro e; simp_all))), rfl, rfl⟩
  ·refine X.skip (X.seq (X.seq (X.region ?_)))
   refine XL.cons (XOp.fieldP (b := b1) (3) Tryz.runUnderlying62 rfl Tryz.sizeOf60 (by decide) rfl rfl ?_)
   refine XL.cons (XOp.loadN [sv] Tryz.isAgg60 Tryz.sizeOf60 rfl rfl (Rd.ownN [_] rfl rfl) ?_)
   refine XL.cons (XOp.fieldP (b := b2) (3) Tryz.runUnderlying62 rfl Tryz.sizeOf60 (by decide) rfl rfl ?_)
   refine XL.cons (XOp.loadN [uv] Tryz.isAgg60 Tryz.sizeOf60 rfl rfl (Rd.ownN [] rfl rfl) ?_)
   refine XL.cons (XOp.call (args := [.agg #[sv], .agg #[uv]]) Tryz.call80 rfl (eqSubst_spec hs hu (hal := (by first | assumption | rfl | omega | simp)) (hbd := (by first | assumption | rfl | omega | simp))) ?_)
   rintro _ _ _ _ ⟨rfl, rfl, rfl⟩
   refine XL.cons (XOp.notD (p := s = u) rfl ?_)
   refine XL.nil ?_
   refine X.condD (p := ¬(s = u)) rfl (fun h3 => ?_) (fun h3 => ?_)
   ·refine X.seq (X.region ?_)
    refine XL.as (.bool (false)) rfl ?_
    refine XL.nil ?_
    refine X.ret (thenQ_ret (retEnd (L' := L) [.bool (false)] (.bool (false)) (.tmp rfl .nil) rfl rF rF (Sub.drop (Sub.drop sR)) ?_))
    exact ⟨(vB (decide_eq_false (by intro e; simp_all))), rfl, rfl⟩
   ·refine X.skip (X.seq (X.region ?_))
    refine XL.as (.bool (true)) rfl ?_
    refine XL.nil ?_
    refine X.ret (retEnd (L' := L) [.bool (true)] (.bool (true)) (.tmp rfl .nil) rfl rF rF (Sub.drop (Sub.drop sR)) ?_)
    exact ⟨(vB (decide_eq_true (by simp_all))), rfl, rfl⟩
end Go.Proofs.YtiaanelimbmniaaGreat
set_option linter.unusedSimpArgs false
set_option linter.unusedVariables false
namespace Go.Proofs.YtiaanelimbmniaaGreat
open Go X M

/- impl.redexSteps -/
theorem redexSteps_spec {F : FH} {L : List HP} {arv : Value} {ar : List Int} (har : IntsF F arv ar) {rsv : Value} {rs : List (List Int × List Int)} (hrs : PairsF F rsv rs) {tv : Value} {t : List Int} (ht : IntsF F tv t) :
    Does Tryz.prog 203 [.agg #[arv, rsv], tv] F (L) (fun v F' L' => ∃ (bt bs : Nat), (.func (.func 224) #[] #[ptr bt 0, ptr bs 0] : Value) = v ∧ FzC F' bt [tv] ∧ FzC F' bs [arv, rsv] ∧ L = L') := by
 refine Does.of_X Tryz.func203 rfl rfl rfl ?_
 refine X.seq (X.region ?_)
 refine XL.cons (XOp.box [arv, rsv] rfl rfl ?_)
 intro b1
 refine XL.cons (XOp.box [tv] rfl (cells_one (IntsF.isSl ht)) ?_)
 intro b2
 refine XL.as (.nilFunc) rfl ?_
 refine XL.nil (X.seq (X.region ?_))
 refine XL.cons (XOp.makeFuncL [] [ptr b2 0, ptr b1 0] rfl rfl ?_)
 refine XL.as (.func (.func 224) #[] #[ptr b2 0, ptr b1 0]) rfl ?_
 refine XL.nil ?_
 refine X.freeze [] _ _ rfl (fun F1 le1 hz1 => ?_)
 replace har := har.mono le1
 replace hrs := hrs.mono le1
 replace ht := ht.mono le1
 have hf1 : FzC F1 b2 [tv] := Fz.cells hz1
 refine X.freeze [] _ _ rfl (fun F2 le2 hz2 => ?_)
 replace har := har.mono le2
 replace hrs := hrs.mono le2
 replace ht := ht.mono le2
 replace hf1 := hf1.mono le2
 have hf2 : FzC F2 b1 [arv, rsv] := Fz.cells hz2
 refine X.ret (retEnd (L' := L) [.func (.func 224) #[] #[ptr b2 0, ptr b1 0]] (.func (.func 224) #[] #[ptr b2 0, ptr b1 0]) (.tmp rfl .nil) rfl (FLe.trans le1 le2) rF sR ?_)
 exact ⟨_, _, rfl, hf1, hf2, rfl⟩

/- impl.redexSteps$1 -/
theorem redexIt_spec {F : FH} {L : List HP} {l bo bl bt bs : Nat} {R : Loop} {arv : Value} {ar : List Int} (har : IntsF F arv ar) {rsv : Value} {rs : List (List Int × List Int)} (hrs : PairsF F rsv rs) {tv : Value} {t : List Int} (ht : IntsF F tv t) (hbt : FzC F bt [tv]) (hbs : FzC F bs [arv, rsv]) (hsys : sysOk ar rs = true) (ho : termOk ar t = true) (hyes : ∀ (Fy : FH) (sv : Value) (ss : List StepT) (cs : List Value) (m : Nat) (lb : Bool) (i j : Int) (tov : Value) (to : List Int), F ≤ Fy → IsSl sv → StepsC Fy cs ss → m = ss.length → ss.length ≤ 4000000 → IntsF Fy tov to → Yld Tryz.prog l [.agg #[.int .i64 i, .int .i64 j, tov], .bool true] Fy (objH l (.loop R) :: cellsH bo [sv] 55 :: slH 116 3 sv m cs :: cellsH bl [.bool (lb)] 4 :: L) (fun v F' L' => .bool true = v ∧ Fy = F' ∧ ∃ sw, IsSl sw ∧ objH l (.loop R) :: cellsH bo [sw] 55 :: slH 116 3 sw (m + 1) (cs ++ [.int .i64 i, .int .i64 j, tov]) :: cellsH bl [.bool (lb)] 4 :: L = L')) (hno : ∀ (Fy : FH) (sv : Value) (cs : List Value) (m : Nat) (lb : Bool) (i j : Int) (tov : Value), F ≤ Fy → IsSl sv → IsSl tov → Yld Tryz.prog l [.agg #[.int .i64 i, .int .i64 j, tov], .bool false] Fy (objH l (.loop R) :: cellsH bo [sv] 55 :: slH 116 3 sv m cs :: cellsH bl [.bool (lb)] 4 :: L) (fun v F' L' => .bool true = v ∧ Fy = F' ∧ objH l (.loop R) :: cellsH bo [sv] 55 :: slH 116 3 sv m cs :: cellsH bl [.bool (true)] 4 :: L = L')) :
    Does Tryz.prog 224 [(.func (.yield l) #[] #[]), ptr bt 0, ptr bs 0] F (objH l (.loop R) :: cellsH bo [(.slice none 0 0)] 55 :: cellsH bl [.bool (false)] 4 :: L) (fun v F' L' => ∃ (sv : Value) (cs : List Value) (Ls : List HP), IsSl sv ∧ StepsC F' cs (stepsL ar rs t) ∧ DeepL 3 (StepO 2) cs (stepsL ar rs t) Ls ∧ Fresh F F' (star Ls) ∧ objH l (.loop R) :: cellsH bo [sv] 55 :: slH 116 3 sv ((stepsL ar rs t).length) cs :: cellsH bl [.bool (longL ar rs t)] 4 :: L = L') := by
 refine Does.of_X Tryz.func224 rfl rfl rfl ?_
 have hnn := notNil_of_pos ht (by have := termOk_len ho; omega)
 have htl := termOk_len ho
 have hrl := (sysOk_iff.1 hsys).2.1
 have hsig := (sysOk_iff.1 hsys).1
 have hsl := sigOk_spec hsig
 refine X.seq (X.region ?_)
 refine XL.cons (XOp.load1 (v := tv) Tryz.isAgg22 rfl (FzC.rd1 hbt rfl) ?_)
 refine XL.cons (XOp.lenS (v := tv) (n := (t).length) Tryz.runUnderlying22 rfl ht.slv ?_)
 refine XL.mv (.int .i64 (0)) rfl ?_
 refine XL.nil (X.block ?_)
 refine X.loop (α := Nat × Value × List StepT × List Value × List HP × Nat × Bool × FH) (fun xQ => [(0, (.func (.yield l) #[] #[])), (1, ptr bt 0), (2, ptr bs 0), (9, tv), (10, .int .i64 ((t.length : Int))), (11, .int .i64 (((xQ.1 : Nat) : Int)))]) (fun xQ => slH 116 3 xQ.2.1 xQ.2.2.2.2.2.1 xQ.2.2.2.1 :: objH l (.loop R) :: cellsH bo [xQ.2.1] 55 :: cellsH bl [.bool (xQ.2.2.2.2.2.2.1)] 4 :: L) (fun xQ F' => xQ.2.2.2.2.2.2.2 = F' ∧ F ≤ xQ.2.2.2.2.2.2.2 ∧ (xQ.1 ≤ t.length) ∧ (IsSl xQ.2.1) ∧ (StepsC xQ.2.2.2.2.2.2.2 xQ.2.2.2.1 xQ.2.2.1) ∧ (xQ.2.2.2.2.2.1 = xQ.2.2.1.length) ∧ (DeepL 3 (StepO 2) xQ.2.2.2.1 xQ.2.2.1 xQ.2.2.2.2.1) ∧ (Fresh F xQ.2.2.2.2.2.2.2 (star xQ.2.2.2.2.1)) ∧ (xQ.2.2.1 = stepsTo ar rs t xQ.1) ∧ (xQ.2.2.2.2.2.2.1 = longTo ar rs t xQ.1)) (fun xQ => t.length - xQ.1) (0, (.slice none 0 0), [], [], [], 0, false, F) ⟨rfl, rfl, rfl, rfl, rfl, rfl, trivial⟩ (Sub.trans (Sub.addNil 116 3 _ _) (Sub.cons (Sub.cons (Sub.cons (Sub.cons sR))))) ⟨rfl, FLe.refl _, (by (try dsimp only) <;> omega), (⟨_, _, _, rfl⟩), (CO.nil), (rfl), (DeepL.nil), (Fresh.nilL), (rfl), (rfl)⟩ ?_
 rintro ⟨k, sv, ss, cs, Ls, m, lb, G1⟩ rE _ _ ⟨rfl, leG, hk, hsv, hC, hm, hD, hZ, hss, hlb⟩
 show X _ _ _ _ (envs [(0, (.func (.yield l) #[] #[])), (1, ptr bt 0), (2, ptr bs 0), (9, tv), (10, .int .i64 ((t.length : Int))), (11, .int .i64 ((k : Int)))] rE) _ (slH 116 3 sv m cs :: objH l (.loop R) :: cellsH bo [sv] 55 :: cellsH bl [.bool (lb)] 4 :: L)
 replace leG : F ≤ G1 := leG
 dsimp only at hk hsv hC hm hD hZ hss hlb
 have hsl1 := stepsTo_len (ar := ar) (t := t) (rs := rs) hrl k
 have hZo := hZ
 have hss0 := hss
 have hlb0 := hlb
 have leG1 := leG
 replace har := har.mono leG1
 replace hrs := hrs.mono leG1
 replace ht := ht.mono leG1
 replace hbt := hbt.mono leG1
 replace hbs := hbs.mono leG1
 refine X.seq (X.region ?_)
 refine XL.cons (XOp.lss (a := (k : Int)) (b := (t.length : Int)) rfl rfl ?_)
 refine XL.nil (X.seq ?_)
 refine X.condD (p := (k : Int) < (t.length : Int)) rfl (fun h1 => ?_) (fun h1 => ?_)
 ·refine X.skip (X.seq (X.block (X.seq (X.region ?_))))
  refine XL.mv (.int .i64 ((k : Int))) rfl ?_
  refine XL.cons (XOp.indexS (v := tv) (i := (k : Int)) (n := (t).length) k Tryz.runUnderlying22 Tryz.sizeOf2 rfl rfl rfl ht.slv (by omega) (Nat.mul_one _) ?_)
  refine XL.cons (XOp.load1 (v := .int .i64 (t.getD k 0)) Tryz.isAgg2 rfl (ht.rd (by omega)) ?_)
  refine XL.as (.int .i64 ((k : Int))) rfl ?_
  refine XL.as (.int .i64 (t.getD k 0)) rfl ?_
  refine XL.nil (X.seq (X.region ?_))
  refine XL.cons (XOp.fieldP (b := bs) (1) Tryz.runUnderlying37 rfl Tryz.sizeOf35 (by decide) rfl rfl ?_)
  refine XL.cons (XOp.load1 (v := rsv) Tryz.isAgg35 rfl (FzC.rd1 hbs rfl) ?_)
  refine XL.cons (XOp.lenS (v := rsv) (n := (rs).length) Tryz.runUnderlying35 rfl hrs.slv ?_)
  refine XL.mv (.int .i64 (0)) rfl ?_
  refine XL.nil (X.block ?_)
  refine X.loop (α := Nat × Value × List StepT × List Value × List HP × Nat × Bool × FH) (fun xQ => [(0, (.func (.yield l) #[] #[])), (1, ptr bt 0), (2, ptr bs 0), (4, .int .i64 ((k : Int))), (5, .int .i64 (t.getD k 0)), (9, tv), (10, .int .i64 ((t.length : Int))), (11, .int .i64 ((k : Int))), (18, .int .i64 ((rs.length : Int))), (19, .int .i64 (((xQ.1 : Nat) : Int)))]) (fun xQ => slH 116 3 xQ.2.1 xQ.2.2.2.2.2.1 xQ.2.2.2.1 :: objH l (.loop R) :: cellsH bo [xQ.2.1] 55 :: cellsH bl [.bool (xQ.2.2.2.2.2.2.1)] 4 :: L) (fun xQ F' => xQ.2.2.2.2.2.2.2 = F' ∧ G1 ≤ xQ.2.2.2.2.2.2.2 ∧ (xQ.1 ≤ rs.length) ∧ (IsSl xQ.2.1) ∧ (StepsC xQ.2.2.2.2.2.2.2 xQ.2.2.2.1 xQ.2.2.1) ∧ (xQ.2.2.2.2.2.1 = xQ.2.2.1.length) ∧ (DeepL 3 (StepO 2) xQ.2.2.2.1 xQ.2.2.1 xQ.2.2.2.2.1) ∧ (Fresh F xQ.2.2.2.2.2.2.2 (star xQ.2.2.2.2.1)) ∧ (xQ.2.2.1 = stepsTo ar rs t k ++ stepsRow ar rs t k xQ.1) ∧ (xQ.2.2.2.2.2.2.1 = (longTo ar rs t k || longRow ar rs t k xQ.1))) (fun xQ => rs.length - xQ.1) (0, sv, ss, cs, Ls, m, lb, G1) ⟨rfl, rfl, rfl, rfl, rfl, rfl, rfl, rfl, rfl, rfl, trivial⟩ (Sub.cons (Sub.cons (Sub.cons (Sub.cons sR)))) ⟨rfl, FLe.refl _, (by (try dsimp only) <;> omega), (hsv), (hC), (hm), (hD), (hZ), (by (try dsimp only); rw [hss0]; simp [stepsRow]), (by (try dsimp only); rw [hlb0]; simp [longRow])⟩ ?_
  rintro ⟨r, sv, ss, cs, Ls, m, lb, G2⟩ rE _ _ ⟨rfl, leG, hr, hsvi, hCi, hmi, hDi, hZi, hssi, hlbi⟩
  show X _ _ _ _ (envs [(0, (.func (.yield l) #[] #[])), (1, ptr bt 0), (2, ptr bs 0), (4, .int .i64 ((k : Int))), (5, .int .i64 (t.getD k 0)), (9, tv), (10, .int .i64 ((t.length : Int))), (11, .int .i64 ((k : Int))), (18, .int .i64 ((rs.length : Int))), (19, .int .i64 ((r : Int)))] rE) _ (slH 116 3 sv m cs :: objH l (.loop R) :: cellsH bo [sv] 55 :: cellsH bl [.bool (lb)] 4 :: L)
  replace leG : G1 ≤ G2 := leG
  dsimp only at hr hsvi hCi hmi hDi hZi hssi hlbi
  have hsl2 := stepsRow_len (ar := ar) (rs := rs) (t := t) (p := k) r
  have hssl : ss.length ≤ 1000 := by rw [hssi, List.length_append]; omega
  have leG2 := leG
  replace har := har.mono leG2
  replace hrs := hrs.mono leG2
  replace ht := ht.mono leG2
  replace hbt := hbt.mono leG2
  replace hbs := hbs.mono leG2
  replace hC := hC.mono leG2
  refine X.seq (X.region ?_)
  refine XL.cons (XOp.lss (a := (r : Int)) (b := (rs.length : Int)) rfl rfl ?_)
  refine XL.nil (X.seq ?_)
  refine X.condD (p := (r : Int) < (rs.length : Int)) rfl (fun h2 => ?_) (fun h2 => ?_)
  ·refine X.skip (X.seq (X.block (X.seq (X.region ?_))))
   refine XL.mv (.int .i64 ((r : Int))) rfl ?_
   refine XL.as (.int .i64 ((r : Int))) rfl ?_
   refine XL.nil (X.seq (X.seq (X.region ?_)))
   refine XL.mv (.int .i64 (t.getD k 0)) rfl ?_
   refine XL.cons (XOp.lss (a := t.getD k 0) (b := 0) rfl rfl ?_)
   refine XL.mv (.bool (decide ((t.getD k 0 : Int) < 0))) rfl ?_
   by_cases h3 : (t.getD k 0 : Int) < 0
   ·have hone := one_none (isRedex_var (p := k) (r := r) hsys ho (by omega) (by omega) (show r < rs.length by omega))
    refine XL.no (t := 24) rfl (vT h3) ?_
    refine XL.no (t := 24) rfl (vT h3) ?_
    refine XL.no (t := 24) rfl (vT h3) ?_
    refine XL.no (t := 24) rfl (vT h3) ?_
    refine XL.no (t := 24) rfl (vT h3) ?_
    refine XL.no (t := 24) rfl (vT h3) ?_
    refine XL.cons (XOp.pickT (.bool (true)) (vT h3) rfl ?_)
    refine XL.nil ?_
    refine X.condT rfl ?_
    refine X.exit (thenQ_exit (blockQ_exit ?_))
    refine X.region ?_
    refine XL.cons (XOp.addR (a := (r : Int)) (b := 1) (((r + 1 : Nat) : Int)) rfl rfl (by omega) (by omega) ?_)
    refine XL.mv (.int .i64 (((r + 1 : Nat) : Int))) rfl ?_
    refine XL.nil ?_
    exact ⟨(r + 1, sv, ss, cs, Ls, m, lb, G2), _, leG2, rF, ⟨rfl, rfl, rfl, rfl, rfl, rfl, rfl, rfl, rfl, rfl, trivial⟩, (Sub.cons (Sub.cons (Sub.cons (Sub.cons sR)))), ⟨rfl, leG2, (by (try dsimp only) <;> omega), (hsvi), (hCi), (by (try dsimp only); (try rw [List.length_append, List.length_singleton]); omega), (hDi), (hZi), (by (try dsimp only); rw [hssi, stepsRow_succ, hone.1]; simp), (by (try dsimp only); rw [longRow_succ, hone.2]; (try rw [hlbi]); simp)⟩, (by omega)⟩
   ·refine XL.yes (t := 24) rfl (vF h3) (XOp.loadN [arv, rsv] Tryz.isAgg37 Tryz.sizeOf37 rfl rfl (FzC.rd hbs rfl) ?_)
    refine XL.yes (t := 24) rfl (vF h3) (XOp.load1 (v := tv) Tryz.isAgg22 rfl (FzC.rd1 hbt rfl) ?_)
    refine XL.yes (t := 24) rfl (vF h3) (XOp.move (.int .i64 ((k : Int))) rfl ?_)
    refine XL.yes (t := 24) rfl (vF h3) (XOp.move (.int .i64 ((r : Int))) rfl ?_)
    refine XL.yes (t := 24) rfl (vF h3) (XOp.call (args := [.agg #[arv, rsv], tv, .int .i64 (k : Int), .int .i64 (r : Int)]) Tryz.call187 rfl (redex_spec (p := k) (r := r) har hrs ht (hsys := (by first | assumption | rfl | omega | simp)) (ho := (by first | assumption | rfl | omega | simp)) (hp := (by first | assumption | rfl | omega | simp)) (hr := (by first | assumption | rfl | omega | simp))) ?_)
    rintro _ _ _ _ ⟨rfl, rfl, rfl⟩
    refine XL.yes (t := 24) rfl (vF h3) (XOp.notB (b := isRedex ar rs t k r) rfl ?_)
    refine XL.cons (XOp.pickF (.bool (!(isRedex ar rs t k r))) (vF h3) rfl ?_)
    refine XL.nil ?_
    refine X.cond (t := !(isRedex ar rs t k r)) rfl (fun h4 => ?_) (fun h4 => ?_)
    ·have hone := one_none (show isRedex ar rs t k r = false by simpa using h4)
     refine X.exit (thenQ_exit (blockQ_exit ?_))
     refine X.region ?_
     refine XL.cons (XOp.addR (a := (r : Int)) (b := 1) (((r + 1 : Nat) : Int)) rfl rfl (by omega) (by omega) ?_)
     refine XL.mv (.int .i64 (((r + 1 : Nat) : Int))) rfl ?_
     refine XL.nil ?_
     exact ⟨(r + 1, sv, ss, cs, Ls, m, lb, G2), _, leG2, rF, ⟨rfl, rfl, rfl, rfl, rfl, rfl, rfl, rfl, rfl, rfl, trivial⟩, (Sub.cons (Sub.cons (Sub.cons (Sub.cons sR)))), ⟨rfl, leG2, (by (try dsimp only) <;> omega), (hsvi), (hCi), (by (try dsimp only); (try rw [List.length_append, List.length_singleton]); omega), (hDi), (hZi), (by (try dsimp only); rw [hssi, stepsRow_succ, hone.1]; simp), (by (try dsimp only); rw [longRow_succ, hone.2]; (try rw [hlbi]); simp)⟩, (by omega)⟩
    ·have hrx : isRedex ar rs t k r = true := by simpa using h4
     refine X.skip (X.seq (X.region ?_))
     refine XL.cons (XOp.loadN [arv, rsv] Tryz.isAgg37 Tryz.sizeOf37 rfl rfl (FzC.rd hbs rfl) ?_)
     refine XL.cons (XOp.load1 (v := tv) Tryz.isAgg22 rfl (FzC.rd1 hbt rfl) ?_)
     refine XL.mv (.int .i64 ((k : Int))) rfl ?_
     refine XL.mv (.int .i64 ((r : Int))) rfl ?_
     refine XL.cons (XOp.call (args := [.agg #[arv, rsv], tv, .int .i64 (k : Int), .int .i64 (r : Int)]) Tryz.call114 rfl (step_spec (p := k) (r := r) har hrs ht (hsys := (by first | assumption | rfl | omega | simp)) (ho := (by first | assumption | rfl | omega | simp)) (hp := (by first | assumption | rfl | omega | simp)) (hr := (by first | assumption | rfl | omega | simp))) ?_)
     rintro _ F1 _ le1 ⟨x1, rfl, hr1, hr2, hr3, rfl⟩
     replace har := har.mono le1
     replace hrs := hrs.mono le1
     replace ht := ht.mono le1
     replace hbt := hbt.mono le1
     replace hbs := hbs.mono le1
     replace hC := hC.mono le1
     replace hCi := hCi.mono le1
     refine XL.mv (.tuple #[x1, .bool ((stepL ar rs t k r).isSome)]) rfl ?_
     refine XL.cons (XOp.extract (x1) rfl rfl ?_)
     refine XL.cons (XOp.extract (.bool ((stepL ar rs t k r).isSome)) rfl rfl ?_)
     refine XL.as (x1) rfl ?_
     refine XL.as (.bool ((stepL ar rs t k r).isSome)) rfl ?_
     refine XL.nil (X.seq ?_)
     refine X.ofI (by kernel_rfl) ?_
     refine XI.region ?_
     refine XIL.cons (XOp.move ((.func (.yield l) #[] #[])) rfl ?_)
     refine XIL.cons (XOp.move (.int .i64 ((k : Int))) rfl ?_)
     refine XIL.cons (XOp.move (.int .i64 ((r : Int))) rfl ?_)
     refine XIL.cons (XOp.move (x1) rfl ?_)
     refine XIL.cons (XOp.build [.int .i64 ((k : Int)), .int .i64 ((r : Int)), x1] [.int .i64 (0), .int .i64 (0), (.slice none 0 0)] [(0, 1), (1, 1), (2, 1)] [(0, [.int .i64 ((k : Int))]), (1, [.int .i64 ((r : Int))]), (2, [x1])] Tryz.runUnderlying116 Tryz.zeroValue116 rfl (.cons rfl Tryz.sizeOf2 (.cons rfl Tryz.sizeOf2 (.cons rfl Tryz.sizeOf22 PlacesAre.nil))) rfl (.cons rfl (.cons rfl (.cons (cells_one (IntsF.isSl hr1)) CellsAre.nil))) ?_)
     refine XIL.cons (XOp.move (.bool ((stepL ar rs t k r).isSome)) rfl ?_)
     by_cases h5 : ((stepL ar rs t k r).isSome) = true
     ·refine XIL.yield (k := l) (args := [.agg #[.int .i64 ((k : Int)), .int .i64 ((r : Int)), x1], .bool true]) rfl (by rw [← h5]; rfl) ?_
      refine Yld.weaken (Sub.trans (Sub.front (A := [_, _, _])) (Sub.trans (Sub.front (A := [_])) (Sub.trans (Sub.front (A := [_, _, _])) (Sub.trans (Sub.front (A := [_, _, _])) (Sub.cons (Sub.cons (Sub.cons (Sub.cons sR)))))))) ?_
      have hone := one_some h5
      refine (hyes _ _ _ _ _ _ _ _ _ _ (FLe.trans (FLe.trans leG1 leG2) le1) hsvi hCi hmi (by omega) hr1).mono ?_
      rintro _ _ _ _ ⟨rfl, rfl, sw1, hs1, rfl⟩
      have hc1 := StepsC.snoc hCi (i := (k : Int)) (j := (r : Int)) hr1
      show XIL _ _ _ _ _ _ _ _ _ (objH l (.loop R) :: cellsH bo [sw1] 55 :: slH 116 3 sw1 (m + 1) ((cs ++ [.int .i64 ((k : Int)), .int .i64 ((r : Int)), x1])) :: cellsH bl [.bool (lb)] 4 :: L)
      refine XIL.cons (XOp.notB (b := true) rfl ?_)
      refine XIL.nil ?_
      refine X.condF rfl ?_
      refine X.skip (X.region ?_)
      refine XL.cons (XOp.addR (a := (r : Int)) (b := 1) (((r + 1 : Nat) : Int)) rfl rfl (by omega) (by omega) ?_)
      refine XL.mv (.int .i64 (((r + 1 : Nat) : Int))) rfl ?_
      refine XL.nil ?_
      exact ⟨(r + 1, sw1, (ss ++ [((k : Int), (r : Int), (stepL ar rs t k r).getD [])]), (cs ++ [.int .i64 ((k : Int)), .int .i64 ((r : Int)), x1]), Ls ++ [intsH 2 x1 ((stepL ar rs t k r).getD [])], m + 1, lb, F1), _, (FLe.trans leG2 le1), rF, ⟨rfl, rfl, rfl, rfl, rfl, rfl, rfl, rfl, rfl, rfl, trivial⟩, (Sub.trans (Sub.front (A := [_, _, _])) (Sub.trans (Sub.front (A := [_, _])) (Sub.trans (Sub.front (A := [_, _])) (Sub.trans (Sub.front (A := [_, _, _])) (Sub.cons (Sub.cons (Sub.cons (Sub.cons sR)))))))), ⟨rfl, (FLe.trans leG2 le1), (by (try dsimp only) <;> omega), (hs1), (hc1), (by (try dsimp only); (try rw [List.length_append, List.length_singleton]); omega), (DeepL.snoc hDi rfl ⟨_, rfl, rfl⟩), ((Fresh.app hZi (FLe.trans leG1 leG2) (Fresh.one hr3) le1)), (by (try dsimp only); rw [hssi, stepsRow_succ, hone.1]; simp), (by (try dsimp only); rw [longRow_succ, hone.2]; (try rw [hlbi]); simp)⟩, (by omega)⟩
     ·rw [Bool.not_eq_true] at h5
      refine XIL.yield (k := l) (args := [.agg #[.int .i64 ((k : Int)), .int .i64 ((r : Int)), x1], .bool false]) rfl (by rw [← h5]; rfl) ?_
      refine Yld.weaken (Sub.trans (Sub.front (A := [_, _, _])) (Sub.trans (Sub.front (A := [_])) (Sub.trans (Sub.front (A := [_, _, _])) (Sub.trans (Sub.front (A := [_, _, _])) (Sub.cons (Sub.cons (Sub.cons (Sub.cons sR)))))))) ?_
      have hone := one_long hrx h5
      refine (hno _ _ _ _ _ _ _ _ (FLe.trans (FLe.trans leG1 leG2) le1) hsvi (IntsF.isSl hr1)).mono ?_
      rintro _ _ _ _ ⟨rfl, rfl, rfl⟩
      show XIL _ _ _ _ _ _ _ _ _ (objH l (.loop R) :: cellsH bo [sv] 55 :: slH 116 3 sv m cs :: cellsH bl [.bool (true)] 4 :: L)
      refine XIL.cons (XOp.notB (b := true) rfl ?_)
      refine XIL.nil ?_
      refine X.condF rfl ?_
      refine X.skip (X.region ?_)
      refine XL.cons (XOp.addR (a := (r : Int)) (b := 1) (((r + 1 : Nat) : Int)) rfl rfl (by omega) (by omega) ?_)
      refine XL.mv (.int .i64 (((r + 1 : Nat) : Int))) rfl ?_
      refine XL.nil ?_
      exact ⟨(r + 1, sv, ss, cs, Ls, m, true, F1), _, (FLe.trans leG2 le1), rF, ⟨rfl, rfl, rfl, rfl, rfl, rfl, rfl, rfl, rfl, rfl, trivial⟩, (Sub.trans (Sub.front (A := [_, _, _])) (Sub.trans (Sub.front (A := [_, _])) (Sub.trans (Sub.front (A := [_, _])) (Sub.trans (Sub.front (A := [_, _, _])) (Sub.cons (Sub.cons (Sub.cons (Sub.cons sR)))))))), ⟨rfl, (FLe.trans leG2 le1), (by (try dsimp only) <;> omega), (hsvi), (hCi), (by (try dsimp only); (try rw [List.length_append, List.length_singleton]); omega), (hDi), ((hZi.mono le1)), (by (try dsimp only); rw [hssi, stepsRow_succ, hone.1]; simp), (by (try dsimp only); rw [longRow_succ, hone.2]; (try rw [hlbi]); simp)⟩, (by omega)⟩
  ·refine X.exit (thenQ_exit (thenQ_exit (blockQ_exit ?_)))
   refine X.region ?_
   refine XL.cons (XOp.addR (a := (k : Int)) (b := 1) (((k + 1 : Nat) : Int)) rfl rfl (by omega) (by omega) ?_)
   refine XL.mv (.int .i64 (((k + 1 : Nat) : Int))) rfl ?_
   refine XL.nil ?_
   exact ⟨(k + 1, sv, ss, cs, Ls, m, lb, G2), _, (FLe.trans leG1 leG2), rF, ⟨rfl, rfl, rfl, rfl, rfl, rfl, trivial⟩, (Sub.cons (Sub.cons (Sub.cons (Sub.cons sR)))), ⟨rfl, (FLe.trans leG1 leG2), (by (try dsimp only) <;> omega), (hsvi), (hCi), (hmi), (hDi), (hZi), (by dsimp only; rw [hssi, stepsTo_succ, show r = rs.length from by omega]), (by dsimp only; rw [hlbi, longTo_succ, show r = rs.length from by omega])⟩, (by omega)⟩
 ·refine X.exit (thenQ_exit (thenQ_exit (blockQ_exit ?_)))
  refine id (retEndN (L' := objH l (.loop R) :: cellsH bo [sv] 55 :: slH 116 3 sv m cs :: cellsH bl [.bool (lb)] 4 :: L) [] (.tuple #[]) (by exact .nil) rfl leG1 rF (Sub.trans (Sub.front (A := [_, _, _])) (Sub.trans (Sub.front (A := [_])) (Sub.trans (Sub.front (A := [_, _, _])) (Sub.trans (Sub.front (A := [_, _, _])) (Sub.cons (Sub.cons (Sub.cons (Sub.cons sR)))))))) ?_)
  have hkl : k = t.length := by omega
  have e1 : stepsL ar rs t = ss := by rw [hss, hkl]; rfl
  have e2 : longL ar rs t = lb := by rw [hlb, hkl]; rfl
  rw [e1, e2]
  subst hm
  exact ⟨sv, cs, Ls, hsv, hC, hD, hZ, rfl⟩

/- impl.stepsFrom -/
set_option maxRecDepth 20000 in
theorem stepsFrom_spec {F : FH} {L : List HP} {arv : Value} {ar : List Int} (har : IntsF F arv ar) {rsv : Value} {rs : List (List Int × List Int)} (hrs : PairsF F rsv rs) {tv : Value} {t : List Int} (ht : IntsF F tv t) (hsys : sysOk ar rs = true) (ho : termOk ar t = true) :
    Does Tryz.prog 154 [.agg #[arv, rsv], tv] F (L) (fun v F' L' => ∃ (a : Value), (.tuple #[a, .bool (longL ar rs t)] : Value) = v ∧ FrStepsF F F' 2 a (stepsL ar rs t) ∧ L = L') := by
 refine Does.of_XF Tryz.func154 rfl (by kernel_rfl) rfl ?_
 have hnn := notNil_of_pos ht (by have := termOk_len ho; omega)
 have htl := termOk_len ho
 have hrl := (sysOk_iff.1 hsys).2.1
 have hsig := (sysOk_iff.1 hsys).1
 have hsl := sigOk_spec hsig
 refine XF.seq ?_
 refine X.region ?_
 refine XL.cons (XOp.box [arv, rsv] rfl rfl ?_)
 intro b1
 refine XL.as ((.slice none 0 0)) rfl ?_
 refine XL.as (.bool (false)) rfl ?_
 refine XL.nil ?_
 refine XF.seq ?_
 refine X.region ?_
 refine XL.cons (XOp.alloc [(.slice none 0 0)] Tryz.zeroValue55 rfl ?_)
 intro b2
 refine XL.nil ?_
 refine XF.seq ?_
 refine X.region ?_
 refine XL.cons (XOp.alloc [.bool (false)] Tryz.zeroValue4 rfl ?_)
 intro b3
 refine XL.cons (XOp.store1 (v := .bool (false)) [] _ [.bool (false)] Tryz.sizeOf4 rfl rfl rfl rfl rfl rfl ?_)
 refine XL.nil ?_
 refine XF.ofR ?_
 refine XR.seq ?_
 refine X.region ?_
 refine XL.cons (XOp.loadN [arv, rsv] Tryz.isAgg37 Tryz.sizeOf37 rfl rfl (Rd.ownN [_, _] rfl rfl) ?_)
 refine XL.mv (tv) rfl ?_
 refine XL.cons (XOp.call (args := [.agg #[arv, rsv], tv]) Tryz.call203 rfl (redexSteps_spec har hrs ht) ?_)
 rintro _ F1 _ le1 ⟨x1, x2, rfl, hb1, hb2, rfl⟩
 replace har := har.mono le1
 replace hrs := hrs.mono le1
 replace ht := ht.mono le1
 refine XL.nil ?_
 refine XR.rangeB (gf := 224) (lb := [ptr x1 0, ptr x2 0]) rfl Tryz.call224 (fun l D R hRs hRp hRps hRa hRb hRz hRg => ?_)
 have hR0 : ({ R with state := .ready, pending := none } : Loop) = R := by
  cases R
  simp only at hRs hRp
  subst hRs hRp
  rfl
 have hyes : ∀ (Fy : FH) (sv : Value) (ss : List StepT) (cs : List Value) (m : Nat) (lb : Bool) (i j : Int) (tov : Value) (to : List Int), F1 ≤ Fy → IsSl sv → StepsC Fy cs ss → m = ss.length → ss.length ≤ 4000000 → IntsF Fy tov to → Yld Tryz.prog l [.agg #[.int .i64 i, .int .i64 j, tov], .bool true] Fy (objH l (.loop R) :: cellsH b2 [sv] 55 :: slH 116 3 sv m cs :: cellsH b3 [.bool (lb)] 4 :: objH D (.deferred (some [])) :: L) (fun v F' L' => .bool true = v ∧ Fy = F' ∧ ∃ sw, IsSl sw ∧ objH l (.loop R) :: cellsH b2 [sw] 55 :: slH 116 3 sw (m + 1) (cs ++ [.int .i64 i, .int .i64 j, tov]) :: cellsH b3 [.bool (lb)] 4 :: objH D (.deferred (some [])) :: L = L') := by
  intro Fy sv ss cs m lb i j tov to leF hsv hC hm hsb hto
  refine Yld.of_round hRs hRp hRps hRa hRb hRz hRg rfl (by kernel_rfl) (by kernel_rfl) (by kernel_rfl) ?_
  refine XI.slots [(13, .agg #[.int .i64 (i), .int .i64 (j), tov]), (14, .bool (true)), (6, ptr b2 0), (7, ptr b3 0)] ⟨rfl, rfl, rfl, rfl, trivial⟩ (fun rE => ?_)
  refine XI.seq ?_
  refine XI.region ?_
  refine XIL.cons (XOp.alloc [.int .i64 (0), .int .i64 (0), (.slice none 0 0)] Tryz.zeroValue116 rfl ?_)
  intro b4
  refine XIL.cons (XOp.storeN (vs := [.int .i64 (i), .int .i64 (j), tov]) [] _ [.int .i64 (i), .int .i64 (j), tov] Tryz.sizeOf116 rfl rfl rfl (ones_cons rfl (ones_cons rfl (ones_cons (one_sl (IntsF.isSl hto)) ones_nil))) rfl rfl rfl ?_)
  refine XIL.nil ?_
  refine XI.region ?_
  refine XIL.cons (XOp.assign (.bool (true)) rfl ?_)
  refine XIL.nil ?_
  refine ⟨cellsH b4 [.int .i64 (i), .int .i64 (j), tov] 116 :: cellsH b2 [sv] 55 :: slH 116 3 sv m cs :: cellsH b3 [.bool (lb)] 4 :: objH D (.deferred (some [])) :: L, (Sub.trans (Sub.front (A := [_, _, _, _])) (Sub.trans (Sub.front (A := [_, _, _, _])) (Sub.trans (Sub.front (A := [_, _, _, _])) (Sub.trans (Sub.front (A := [_, _, _])) (Sub.trans (Sub.front (A := [_, _, _, _])) (Sub.cons (Sub.cons (Sub.cons (Sub.cons (Sub.cons sR)))))))))), ?_⟩
  refine XI.block ?_
  refine XI.seq ?_
  refine XI.region ?_
  refine XIL.cons (XOp.move (.bool (true)) rfl ?_)
  refine XIL.nil ?_
  refine XI.condT rfl ?_
  refine XI.region ?_
  refine XIL.cons (XOp.load1 (v := sv) Tryz.isAgg55 rfl (Rd.own [_, _] rfl rfl) ?_)
  refine XIL.cons (XOp.loadN [.int .i64 (i), .int .i64 (j), tov] Tryz.isAgg116 Tryz.sizeOf116 rfl rfl (Rd.ownN [_] rfl rfl) ?_)
  refine XIL.cons (XOp.buildSlice (s := 3) [.int .i64 (i), .int .i64 (j), tov] [.int .i64 (0), .int .i64 (0), (.slice none 0 0)] [(0, [.int .i64 (i), .int .i64 (j), tov])] Tryz.runUnderlying55 Tryz.sizeOf116 Tryz.zeroValue116 rfl (by decide) rfl (.cons rfl CellsAre.nil) rfl ?_)
  intro v1 hv1
  refine XIL.cons (XOp.append (m := 1) (bytes := 40) (cs := cs) [_, _, _, _] _ [.int .i64 (i), .int .i64 (j), tov] Tryz.runUnderlying55 Tryz.typeInfo116 rfl rfl rfl rfl rfl rfl rfl (SlV.own [] rfl) rfl (Rd.lit [] rfl) (ones_cons rfl (ones_cons rfl (ones_cons (one_sl (IntsF.isSl hto)) ones_nil))) (by (try simp only [List.length_append, List.length_nil, List.length_cons, List.length_singleton]); omega) (by (try simp only [List.length_append, List.length_nil, List.length_cons, List.length_singleton]); omega) ?_)
  intro v2 hs1 hn1 hm1
  have hc1 := StepsC.snoc hC (i := i) (j := j) hto
  refine XIL.cons (XOp.store1 (v := v2) [_, _, _] _ [v2] Tryz.sizeOf55 rfl rfl (one_sl hs1) rfl rfl rfl ?_)
  refine XIL.nil ?_
  refine ⟨rfl, ?_⟩
  refine ⟨cellsH b2 [v2] 55 :: slH 116 3 v2 ((m) + 1) (cs ++ [.int .i64 (i), .int .i64 (j), tov]) :: cellsH b3 [.bool (lb)] 4 :: objH D (.deferred (some [])) :: L, (Sub.drop (Sub.cons (Sub.drop (Sub.cons (Sub.cons (Sub.cons sR)))))), ?_⟩
  rw [hR0]
  exact ⟨rfl, rfl, _, hs1, rfl⟩
 have hno : ∀ (Fy : FH) (sv : Value) (cs : List Value) (m : Nat) (lb : Bool) (i j : Int) (tov : Value), F1 ≤ Fy → IsSl sv → IsSl tov → Yld Tryz.prog l [.agg #[.int .i64 i, .int .i64 j, tov], .bool false] Fy (objH l (.loop R) :: cellsH b2 [sv] 55 :: slH 116 3 sv m cs :: cellsH b3 [.bool (lb)] 4 :: objH D (.deferred (some [])) :: L) (fun v F' L' => .bool true = v ∧ Fy = F' ∧ objH l (.loop R) :: cellsH b2 [sv] 55 :: slH 116 3 sv m cs :: cellsH b3 [.bool (true)] 4 :: objH D (.deferred (some [])) :: L = L') := by
  intro Fy sv cs m lb i j tov leF hsv htv
  refine Yld.of_round hRs hRp hRps hRa hRb hRz hRg rfl (by kernel_rfl) (by kernel_rfl) (by kernel_rfl) ?_
  refine XI.slots [(13, .agg #[.int .i64 (i), .int .i64 (j), tov]), (14, .bool (false)), (6, ptr b2 0), (7, ptr b3 0)] ⟨rfl, rfl, rfl, rfl, trivial⟩ (fun rE => ?_)
  refine XI.seq ?_
  refine XI.region ?_
  refine XIL.cons (XOp.alloc [.int .i64 (0), .int .i64 (0), (.slice none 0 0)] Tryz.zeroValue116 rfl ?_)
  intro b5
  refine XIL.cons (XOp.storeN (vs := [.int .i64 (i), .int .i64 (j), tov]) [] _ [.int .i64 (i), .int .i64 (j), tov] Tryz.sizeOf116 rfl rfl rfl (ones_cons rfl (ones_cons rfl (ones_cons (one_sl htv) ones_nil))) rfl rfl rfl ?_)
  refine XIL.nil ?_
  refine XI.region ?_
  refine XIL.cons (XOp.assign (.bool (false)) rfl ?_)
  refine XIL.nil ?_
  refine ⟨cellsH b5 [.int .i64 (i), .int .i64 (j), tov] 116 :: cellsH b2 [sv] 55 :: slH 116 3 sv m cs :: cellsH b3 [.bool (lb)] 4 :: objH D (.deferred (some [])) :: L, (Sub.trans (Sub.front (A := [_, _, _, _])) (Sub.trans (Sub.front (A := [_, _, _, _])) (Sub.trans (Sub.front (A := [_, _, _, _])) (Sub.trans (Sub.front (A := [_, _, _])) (Sub.trans (Sub.front (A := [_, _, _, _])) (Sub.cons (Sub.cons (Sub.cons (Sub.cons (Sub.cons sR)))))))))), ?_⟩
  refine XI.block ?_
  refine XI.seq ?_
  refine XI.region ?_
  refine XIL.cons (XOp.move (.bool (false)) rfl ?_)
  refine XIL.nil ?_
  refine XI.condF rfl ?_
  refine XI.region ?_
  refine XIL.cons (XOp.store1 (v := .bool (true)) [_, _, _, _] _ [.bool (true)] Tryz.sizeOf4 rfl rfl rfl rfl rfl rfl ?_)
  refine XIL.nil ?_
  refine ⟨rfl, ?_⟩
  refine ⟨cellsH b2 [sv] 55 :: slH 116 3 sv m cs :: cellsH b3 [.bool (true)] 4 :: objH D (.deferred (some [])) :: L, (Sub.cons (Sub.drop (Sub.cons (Sub.cons (Sub.cons sR))))), ?_⟩
  rw [hR0]
  exact ⟨rfl, rfl, rfl⟩
 refine (Does.weaken (Sub.trans (Sub.front (A := [_])) (Sub.trans (Sub.front (A := [_, _])) (Sub.trans (Sub.front (A := [_, _, _])) (Sub.trans (Sub.front (A := [_, _, _])) (Sub.cons (Sub.cons (Sub.cons (Sub.cons (Sub.drop sR))))))))) (redexIt_spec har hrs ht hb1 hb2 hsys ho hyes hno)).mono ?_
 rintro _ F9 _ le9 ⟨sv, cs, Ls, hsv, hC, hD, hZ, rfl⟩
 replace har := har.mono le9
 replace hrs := hrs.mono le9
 replace ht := ht.mono le9
 replace hb1 := hb1.mono le9
 replace hb2 := hb2.mono le9
 refine ⟨R, cellsH b2 [sv] 55 :: slH 116 3 sv ((stepsL ar rs t).length) cs :: cellsH b3 [.bool (longL ar rs t)] 4 :: L, by rw [hRs]; simp, hRp, (Sub.trans (Sub.front (A := [_, _, _])) (Sub.trans (Sub.front (A := [_, _, _])) (Sub.trans (Sub.front (A := [_, _, _])) (Sub.trans (Sub.front (A := [_, _, _, _])) (Sub.trans (Sub.front (A := [_, _, _, _])) (Sub.cons (Sub.cons (Sub.cons (Sub.cons (Sub.cons sR)))))))))), ?_⟩
 refine XI.seq ?_
 refine XI.draw [objH D (.deferred (some [])), cellsH b2 [sv] 55, slH 116 3 sv ((stepsL ar rs t).length) cs, cellsH b3 [.bool (longL ar rs t)] 4] L 3 [[], [], []] [[], [], [0]] (phiL [fun us v => v = sv, fun us v => v = (.bool (longL ar rs t) : Value), fun us v => v = sv]) (ownL [fun us v => [], fun us v => [], fun us v => []]) mixed rfl rfl (by kernel_rfl) ?_ ?_
 ·refine stepsP.cons (fun vals R hpZ => ?_) ?_
  ·refine XG.op (XOp.load1 (v := sv) Tryz.isAgg55 rfl (Rd.own [_] rfl rfl) ?_)
   exact ⟨rfl, rfl, rfl⟩
  refine stepsP.cons (fun vals R hpZ => ?_) ?_
  ·refine XG.op (XOp.load1 (v := .bool (longL ar rs t)) Tryz.isAgg4 rfl (Rd.own [_, _, _] rfl rfl) ?_)
   exact ⟨rfl, rfl, rfl⟩
  refine stepsP.cons (fun vals R hpZ => ?_) ?_
  ·rw [eS (l := [(0, sv)]) ⟨hpZ 0 (by decide), trivial⟩]
   refine XG.op (XOp.assign (sv) rfl ?_)
   exact ⟨rfl, rfl, rfl⟩
  exact stepsP.nil
 ·intro vals hphi
  rw [eS (l := [(0, sv), (1, (.bool (longL ar rs t) : Value)), (2, sv)]) ⟨(hphi 0 (by decide)), (hphi 1 (by decide)), (hphi 2 (by decide)), trivial⟩]
  show XIL _ _ _ _ _ _ _ _ _ (objH D (.deferred (some [])) :: cellsH b2 [sv] 55 :: slH 116 3 sv ((stepsL ar rs t).length) cs :: cellsH b3 [.bool (longL ar rs t)] 4 :: L)
  refine XIL.cons (XOp.assign (.bool (longL ar rs t)) rfl ?_)
  refine XIL.nil ?_
  refine XI.freezeF [_, _] _ _ rfl (fun F2 le2 hz1 => ?_)
  replace har := har.mono le2
  replace hrs := hrs.mono le2
  replace ht := ht.mono le2
  replace hb1 := hb1.mono le2
  replace hb2 := hb2.mono le2
  replace hC := hC.mono le2
  have hf1 : StepsF F2 sv ((stepsL ar rs t)) := CO.fz hC (by first | rfl | simp | omega) hz1.fz
  refine XI.ret (retEndD (L' := L) [sv, .bool (longL ar rs t)] (.tuple #[sv, .bool (longL ar rs t)]) (fun _ _ => (.tmp rfl (.tmp rfl .nil))) rfl (FLe.trans (FLe.trans le1 le9) le2) rF (Sub.cons (Sub.drop (Sub.drop sR))) ?_)
  exact ⟨_, rfl, ⟨cs, Ls, StepsC.fzx hC rfl hz1.fz, hD, ((hZ.mono le2).base le1)⟩, rfl⟩
end Go.Proofs.YtiaanelimbmniaaGreat
set_option linter.unusedSimpArgs false
set_option linter.unusedVariables false
namespace Go.Proofs.YtiaanelimbmniaaGreat
open Go X M

/- impl.found$1 -/
theorem found1_spec {F : FH} {L : List HP} {xv : Value} {x : List Int} (hx : IntsF F xv x) {i1 : Int} {i2 : Int} {i3 : Int} {yv : Value} {y : List Int} (hy : IntsF F yv y) {i4 : Int} {uv : Value} {u : List Int} (hu : IntsF F uv u) {bt : Nat} (hzbt : FzC F bt [uv]) (hlu : u.length ≤ 4000000) :
    Does Tryz.prog 215 [.agg #[xv, .int .i64 (i1), .int .i64 (i2), .int .i64 (i3), yv, .int .i64 (i4)], ptr bt 0] F (L) (fun v F' L' => (.bool (decide (x = u)) : Value) = v ∧ F = F' ∧ L = L') := by
 refine Does.of_X Tryz.func215 rfl rfl rfl ?_
 refine X.seq (X.region ?_)
 refine XL.cons (XOp.box [xv, .int .i64 (i1), .int .i64 (i2), .int .i64 (i3), yv, .int .i64 (i4)] rfl rfl ?_)
 intro b1
 refine XL.as (.bool (false)) rfl ?_
 refine XL.nil (X.seq (X.region ?_))
 refine XL.cons (XOp.fieldP (b := b1) (0) Tryz.runUnderlying183 rfl Tryz.sizeOf22 (by decide) rfl rfl ?_)
 refine XL.cons (XOp.load1 (v := xv) Tryz.isAgg22 rfl (Rd.own [] rfl rfl) ?_)
 refine XL.cons (XOp.load1 (v := uv) Tryz.isAgg22 rfl (FzC.rd1 hzbt rfl) ?_)
 refine XL.cons (XOp.call (args := [xv, uv]) Tryz.call115 rfl (Equal_spec hx hu (hbd := (by first | assumption | rfl | omega | (left; simp; done) | (right; simp; done)))) ?_)
 rintro _ _ _ _ ⟨rfl, rfl, rfl⟩
 refine XL.as (.bool (decide (x = u))) rfl ?_
 refine XL.nil ?_
 refine X.ret (retEnd (L' := L) [.bool (decide (x = u))] (.bool (decide (x = u))) (.tmp rfl .nil) rfl rF rF (Sub.drop sR) ?_)
 exact ⟨rfl, rfl, rfl⟩

/- slices.IndexFunc[[]impl.reached,impl.reached] -/
theorem IndexFuncFound_spec {F : FH} {L : List HP} {alv : Value} {al : List FoundT} {alcs : List Value} (hal : FoundsF F alv al alcs) {uv : Value} {u : List Int} (hu : IntsF F uv u) {bt : Nat} (hzbt : FzC F bt [uv]) (hlt : al.length ≤ 4000000) (hlu : u.length ≤ 4000000) :
    Does Tryz.prog 214 [alv, .func (.func 215) #[] #[ptr bt 0]] F (L) (fun v F' L' => (.int .i64 (foundI al u) : Value) = v ∧ F = F' ∧ L = L') := by
 refine Does.of_X Tryz.func214 rfl rfl rfl ?_
 refine X.seq (X.region ?_)
 refine XL.as (.int .i64 (0)) rfl ?_
 refine XL.nil (X.seq (X.seq (X.region ?_)))
 refine XL.mv (alv) rfl ?_
 refine XL.cons (XOp.lenS (v := alv) (n := (al).length) Tryz.runUnderlying179 rfl hal.slv ?_)
 refine XL.mv (.int .i64 (0)) rfl ?_
 refine XL.nil (X.block ?_)
 refine X.loop (α := Nat) (fun k => [(0, alv), (1, .func (.func 215) #[] #[ptr bt 0]), (7, .int .i64 ((al.length : Int))), (8, .int .i64 ((k : Int)))]) (fun k => L) (fun k F' => F = F' ∧ (k ≤ al.length) ∧ (∀ i, i < k → (EL al i).1 ≠ u)) (fun k => al.length - k) 0 ⟨rfl, rfl, rfl, rfl, trivial⟩ sR ⟨rfl, (by (try dsimp only) <;> omega), (fun i hi => absurd hi (by omega))⟩ ?_
 rintro k rE _ _ ⟨rfl, hk, hall⟩
 show X _ _ _ _ (envs [(0, alv), (1, .func (.func 215) #[] #[ptr bt 0]), (7, .int .i64 ((al.length : Int))), (8, .int .i64 ((k : Int)))] rE) _ (L)
 refine X.seq (X.region ?_)
 refine XL.cons (XOp.lss (a := (k : Int)) (b := (al.length : Int)) rfl rfl ?_)
 refine XL.nil (X.seq ?_)
 refine X.condD (p := (k : Int) < (al.length : Int)) rfl (fun h1 => ?_) (fun h1 => ?_)
 ·refine X.skip (X.seq (X.block (X.seq (X.region ?_))))
  refine XL.mv (.int .i64 ((k : Int))) rfl ?_
  refine XL.as (.int .i64 ((k : Int))) rfl ?_
  refine XL.nil (X.seq (X.region ?_))
  refine XL.mv (.func (.func 215) #[] #[ptr bt 0]) rfl ?_
  refine XL.mv (alv) rfl ?_
  refine XL.mv (.int .i64 ((k : Int))) rfl ?_
  refine XL.cons (XOp.indexS (v := alv) (i := (k : Int)) (n := (al).length) k Tryz.runUnderlying179 Tryz.sizeOf183 rfl rfl rfl hal.slv (by omega) rfl ?_)
  obtain ⟨a1, a2, ha1, ha2, hrg1, hq1⟩ := hal.rd (i := k) (by omega)
  refine XL.cons (XOp.loadN [a1, .int .i64 ((al.getD k ([], 0, (0, 0, []), 0)).2.1), .int .i64 ((al.getD k ([], 0, (0, 0, []), 0)).2.2.1.1), .int .i64 ((al.getD k ([], 0, (0, 0, []), 0)).2.2.1.2.1), a2, .int .i64 ((al.getD k ([], 0, (0, 0, []), 0)).2.2.2)] Tryz.isAgg183 Tryz.sizeOf183 rfl rfl (Rd.all (hrg1 _)) ?_)
  refine XL.cons (XOp.callV (first := []) (captured := [ptr bt 0]) (args := [.agg #[a1, .int .i64 ((al.getD k ([], 0, (0, 0, []), 0)).2.1), .int .i64 ((al.getD k ([], 0, (0, 0, []), 0)).2.2.1.1), .int .i64 ((al.getD k ([], 0, (0, 0, []), 0)).2.2.1.2.1), a2, .int .i64 ((al.getD k ([], 0, (0, 0, []), 0)).2.2.2)], ptr bt 0]) Tryz.call215 rfl rfl (found1_spec ha1 ha2 hu hzbt (hlu := (by first | assumption | rfl | omega | simp))) ?_)
  rintro _ _ _ _ ⟨rfl, rfl, rfl⟩
  refine XL.nil ?_
  refine X.cond (t := decide (((al.getD k ([], 0, (0, 0, []), 0)).1) = u)) rfl (fun h2 => ?_) (fun h2 => ?_)
  ·refine X.seq (X.region ?_)
   refine XL.mv (.int .i64 ((k : Int))) rfl ?_
   refine XL.as (.int .i64 ((k : Int))) rfl ?_
   refine XL.nil ?_
   refine X.ret (blockQ_ret (thenQ_ret (thenQ_ret (blockQ_ret (thenQ_ret (retEnd (L' := L) [.int .i64 ((k : Int))] (.int .i64 ((k : Int))) (.tmp rfl .nil) rfl rF rF sR ?_))))))
   exact ⟨(vI (foundI_at (k := k) (by omega) (by unfold EL; simp_all) hall)), rfl, rfl⟩
  ·refine X.skip (X.region ?_)
   refine XL.cons (XOp.addR (a := (k : Int)) (b := 1) (((k + 1 : Nat) : Int)) rfl rfl (by omega) (by omega) ?_)
   refine XL.mv (.int .i64 (((k + 1 : Nat) : Int))) rfl ?_
   refine XL.nil ?_
   exact ⟨k + 1, _, FLe.refl _, rF, ⟨rfl, rfl, rfl, rfl, trivial⟩, sR, ⟨rfl, (by (try dsimp only) <;> omega), (fun i hi => (Nat.lt_or_ge i k).elim (fun h => hall i h) (fun h => by obtain rfl : i = k := (by omega); unfold EL; simp_all))⟩, (by omega)⟩
 ·refine X.exit (thenQ_exit (thenQ_exit (blockQ_exit ?_)))
  refine X.seq (X.region ?_)
  refine XL.as (.int .i64 (-1)) rfl ?_
  refine XL.nil ?_
  refine X.ret (retEnd (L' := L) [.int .i64 (-1)] (.int .i64 (-1)) (.tmp rfl .nil) rfl rF rF sR ?_)
  exact ⟨(vI (foundI_none (fun i hi => hall i (by omega)))), rfl, rfl⟩

/- impl.found -/
theorem found_spec {F : FH} {L : List HP} {alv : Value} {al : List FoundT} {alcs : List Value} (hal : FoundsF F alv al alcs) {uv : Value} {u : List Int} (hu : IntsF F uv u) (hlt : al.length ≤ 4000000) (hlu : u.length ≤ 4000000) :
    Does Tryz.prog 167 [alv, uv] F (L) (fun v F' L' => (.int .i64 (foundI al u) : Value) = v ∧ F = F' ∧ L = L') := by
 refine Does.of_X Tryz.func167 rfl rfl rfl ?_
 refine X.seq (X.region ?_)
 refine XL.cons (XOp.box [uv] rfl (cells_one (IntsF.isSl hu)) ?_)
 intro b1
 refine XL.as (.int .i64 (0)) rfl ?_
 refine XL.nil (X.seq (X.region ?_))
 refine XL.mv (alv) rfl ?_
 refine XL.cons (XOp.makeFuncL [] [ptr b1 0] rfl rfl ?_)
 refine XL.freeze [] _ _ rfl (fun F1 le1 hz1 => ?_)
 replace hal := hal.mono le1
 replace hu := hu.mono le1
 have hf1 : FzC F1 b1 [uv] := Fz.cells hz1
 refine XL.cons (XOp.call (args := [alv, .func (.func 215) #[] #[ptr b1 0]]) Tryz.call214 rfl (IndexFuncFound_spec hal hu hf1 (hlt := (by first | assumption | rfl | omega | simp)) (hlu := (by first | assumption | rfl | omega | simp))) ?_)
 rintro _ _ _ _ ⟨rfl, rfl, rfl⟩
 refine XL.as (.int .i64 (foundI al u)) rfl ?_
 refine XL.nil ?_
 refine X.ret (retEnd (L' := L) [.int .i64 (foundI al u)] (.int .i64 (foundI al u)) (.tmp rfl .nil) rfl rF le1 sR ?_)
 exact ⟨rfl, rfl, rfl⟩

/- impl.reach -/
set_option maxRecDepth 20000 in
theorem reach_spec {F : FH} {L : List HP} {arv : Value} {ar : List Int} (har : IntsF F arv ar) {rsv : Value} {rs : List (List Int × List Int)} (hrs : PairsF F rsv rs) {tv : Value} {t : List Int} (ht : IntsF F tv t) {n : Int} (hsys : sysOk ar rs = true) (ho : termOk ar t = true) (hn20 : 0 ≤ n ∧ n ≤ 20) :
    Does Tryz.prog 153 [.agg #[arv, rsv], tv, .int .i64 (n)] F (L) (fun v F' L' => ∃ (a : Value) (acs : List Value) (Ls : List HP), (.tuple #[a, .bool (reachL ar rs t n).2] : Value) = v ∧ FoundsF F' a (reachL ar rs t n).1 acs ∧ DeepL 6 (FoundO 2) acs (reachL ar rs t n).1 Ls ∧ Fresh F F' (star Ls) ∧ L = L') := by
 refine Does.of_X Tryz.func153 rfl rfl rfl ?_
 have hnn := notNil_of_pos ht (by have := termOk_len ho; omega)
 have htl := termOk_len ho
 have hrl := (sysOk_iff.1 hsys).2.1
 have hsig := (sysOk_iff.1 hsys).1
 have hsl := sigOk_spec hsig
 refine X.seq (X.region ?_)
 refine XL.cons (XOp.box [arv, rsv] rfl rfl ?_)
 intro b1
 refine XL.as ((.slice none 0 0)) rfl ?_
 refine XL.as (.bool (false)) rfl ?_
 refine XL.nil (X.seq (X.region ?_))
 refine XL.mv (tv) rfl ?_
 refine XL.cons (XOp.frzF <| XOp.call (args := [tv]) Tryz.call111 rfl (Clone_spec ht (hlt := (by first | assumption | rfl | omega | simp))) ?_)
 rintro v1 _ _ _ ⟨rfl, hs1, rfl⟩
 refine ⟨_, _, rfl, fun F1 le1 hz1 => ?_⟩
 replace har := har.mono le1
 replace hrs := hrs.mono le1
 replace ht := ht.mono le1
 have hf1 : IntsF F1 v1 ((t)) := intsH.fz (xs := (t)) hz1.fz
 skip
 refine XL.cons (XOp.build [v1, .int .i64 (-1), .int .i64 (0), .int .i64 (0), (.slice none 0 0), .int .i64 (0)] [(.slice none 0 0), .int .i64 (0), .int .i64 (0), .int .i64 (0), (.slice none 0 0), .int .i64 (0)] [(0, 1), (1, 1), (2, 3), (5, 1)] [(0, [v1]), (1, [.int .i64 (-1)])] Tryz.runUnderlying183 Tryz.zeroValue183 rfl (.cons rfl Tryz.sizeOf22 (.cons rfl Tryz.sizeOf3 (.cons rfl Tryz.sizeOf116 (.cons rfl Tryz.sizeOf2 PlacesAre.nil)))) rfl (.cons (cells_one (IntsF.isSl hf1)) (.cons rfl CellsAre.nil)) ?_)
 refine XL.cons (XOp.buildSlice (s := 6) [v1, .int .i64 (-1), .int .i64 (0), .int .i64 (0), (.slice none 0 0), .int .i64 (0)] [(.slice none 0 0), .int .i64 (0), .int .i64 (0), .int .i64 (0), (.slice none 0 0), .int .i64 (0)] [(0, [v1, .int .i64 (-1), .int .i64 (0), .int .i64 (0), (.slice none 0 0), .int .i64 (0)])] Tryz.runUnderlying179 Tryz.sizeOf183 Tryz.zeroValue183 rfl (by decide) rfl (.cons rfl CellsAre.nil) rfl ?_)
 intro v2 hv1
 refine XL.as (v2) rfl ?_
 refine XL.nil (X.seq (X.seq (X.region ?_)))
 refine XL.as (.int .i64 (0)) rfl ?_
 refine XL.nil (X.block ?_)
 have hc1 : FoundsC F1 [v1, .int .i64 (-1), .int .i64 (0), .int .i64 (0), (.slice none 0 0), .int .i64 (0)] ([((t), -1, (0, 0, []), 0)] : List FoundT) := (FoundsC.snoc (CO.nil : FoundsC F1 [] []) (y0 := (t)) (y1 := -1) (y2 := 0) (y3 := 0) (y4 := []) (y5 := 0) hf1 IntsF.nilV)
 refine X.loop (α := Nat × Value × List FoundT × List Value × List HP × Nat × FH) (fun xQ => [(2, .int .i64 (n)), (3, ptr b1 0), (8, xQ.2.1), (9, .int .i64 (((xQ.1 : Nat) : Int)))]) (fun xQ => slH 183 6 xQ.2.1 xQ.2.2.2.2.2.1 xQ.2.2.2.1 :: cellsH b1 [arv, rsv] 37 :: L) (fun xQ F' => xQ.2.2.2.2.2.2 = F' ∧ F1 ≤ xQ.2.2.2.2.2.2 ∧ (IsSl xQ.2.1) ∧ (FoundsC xQ.2.2.2.2.2.2 xQ.2.2.2.1 xQ.2.2.1) ∧ (xQ.2.2.2.2.2.1 = xQ.2.2.1.length) ∧ (DeepL 6 (FoundO 2) xQ.2.2.2.1 xQ.2.2.1 xQ.2.2.2.2.1) ∧ (Fresh F xQ.2.2.2.2.2.2 (star xQ.2.2.2.2.1)) ∧ (xQ.1 ≤ xQ.2.2.1.length) ∧ (xQ.2.2.1.length ≤ 60) ∧ (AllOk ar xQ.2.2.1) ∧ (DeepOk n xQ.2.2.1) ∧ (reachL ar rs t n = reachGo ar rs n (60 - xQ.1) xQ.1 xQ.2.2.1)) (fun xQ => 60 - xQ.1) (0, v2, ([((t), -1, (0, 0, []), 0)] : List FoundT), [v1, .int .i64 (-1), .int .i64 (0), .int .i64 (0), (.slice none 0 0), .int .i64 (0)], [intsH 2 v1 t], 1, F1) ⟨rfl, rfl, rfl, rfl, trivial⟩ (Sub.cons (Sub.cons sR)) ⟨rfl, FLe.refl _, ((isSl_lit hv1)), (hc1), (rfl), ((DeepL.snoc .nil rfl ⟨_, _, rfl, rfl⟩ : DeepL 6 (FoundO 2) ([] ++ _) ([] ++ _) ([] ++ _))), ((Fresh.one hz1)), (by simp), (by simp), (AllOk.start ho), (DeepOk.start hn20.1), (rfl)⟩ ?_
 rintro ⟨k, ov, os, ocs, Ts, on, G1⟩ rE _ _ ⟨rfl, leG, hov, hC, hn, hD, hZ, hk, hl, hok, hdo, hgo⟩
 show X _ _ _ _ (envs [(2, .int .i64 (n)), (3, ptr b1 0), (8, ov), (9, .int .i64 ((k : Int)))] rE) _ (slH 183 6 ov on ocs :: cellsH b1 [arv, rsv] 37 :: L)
 replace leG : F1 ≤ G1 := leG
 dsimp only at hov hC hn hD hZ hk hl hok hdo hgo
 have hdk : k < os.length → termOk ar (os.getD k ([], 0, (0, 0, []), 0)).1 = true := fun h => hok k h
 have hdl : k < os.length → 1 ≤ (os.getD k ([], 0, (0, 0, []), 0)).1.length ∧ (os.getD k ([], 0, (0, 0, []), 0)).1.length ≤ 60 := fun h => termOk_len (hok k h)
 have leG1 := leG
 replace har := har.mono leG1
 replace hrs := hrs.mono leG1
 replace ht := ht.mono leG1
 replace hf1 := hf1.mono leG1
 replace hc1 := hc1.mono leG1
 refine X.seq (X.seq (X.region ?_))
 refine XL.mv (.int .i64 ((k : Int))) rfl ?_
 refine XL.mv (ov) rfl ?_
 refine XL.cons (XOp.lenS (v := ov) (n := on) Tryz.runUnderlying179 rfl (SlV.own [] rfl) ?_)
 refine XL.cons (XOp.lss (a := (k : Int)) (b := ((on : Nat) : Int)) rfl rfl ?_)
 refine XL.nil ?_
 refine X.condD (p := (k : Int) < ((on : Nat) : Int)) rfl (fun h1 => ?_) (fun h1 => ?_)
 ·refine X.skip (X.seq (X.block (X.seq (X.seq (X.region ?_)))))
  refine XL.mv (ov) rfl ?_
  refine XL.mv (.int .i64 ((k : Int))) rfl ?_
  refine XL.cons (XOp.indexS (v := ov) (i := (k : Int)) (n := on) k Tryz.runUnderlying179 Tryz.sizeOf183 rfl rfl rfl (SlV.own [] rfl) (by omega) rfl ?_)
  refine XL.cons (XOp.fieldE (v := ov) (k * 6 + 5) Tryz.runUnderlying183 rfl Tryz.sizeOf2 (by decide) rfl rfl ?_)
  obtain ⟨a1, a2, ha1, ha2, hq1⟩ := hC.get (i := k) (by omega)
  refine XL.cons (XOp.load1 (v := .int .i64 ((os.getD k ([], 0, (0, 0, []), 0)).2.2.2)) Tryz.isAgg2 rfl (Rd.sl [] rfl (hq1 5 _ rfl)) ?_)
  refine XL.mv (.int .i64 (n)) rfl ?_
  refine XL.cons (XOp.eql (a := (os.getD k ([], 0, (0, 0, []), 0)).2.2.2) (b := n) rfl rfl ?_)
  refine XL.nil ?_
  refine X.condD (p := ((os.getD k ([], 0, (0, 0, []), 0)).2.2.2 : Int) = n) rfl (fun h2 => ?_) (fun h2 => ?_)
  ·have hdeep : (EL os k).2.2.2 = n := h2
   refine X.exit (thenQ_exit (blockQ_exit ?_))
   refine X.region ?_
   refine XL.mv (.int .i64 ((k : Int))) rfl ?_
   refine XL.cons (XOp.addR (a := (k : Int)) (b := 1) (((k + 1 : Nat) : Int)) rfl rfl (by omega) (by omega) ?_)
   refine XL.as (.int .i64 (((k + 1 : Nat) : Int))) rfl ?_
   refine XL.nil ?_
   exact ⟨(k + 1, ov, os, ocs, Ts, on, G1), _, leG1, rF, ⟨rfl, rfl, rfl, rfl, trivial⟩, (Sub.cons (Sub.cons sR)), ⟨rfl, leG1, (hov), (hC), (hn), (hD), (hZ), (by (try dsimp only) <;> omega), (by (try dsimp only) <;> omega), (hok), (hdo), (by (try dsimp only); exact hgo.trans (reach_same (f := 60 - k - 1) (by omega) (by omega) hdeep))⟩, (by (try dsimp only); omega)⟩
  ·have hdeep : (EL os k).2.2.2 ≠ n := h2
   refine X.skip (X.seq ?_)
   refine X.drawG [slH 183 6 ov on ocs, cellsH b1 [arv, rsv] 37] L 11 [[], [], [], [], [], [], [], [6], [6], [], [6]] [[], [], [], [1, 2], [3], [4], [0, 5], [6], [6, 7], [6, 7], [6, 8]] [[], [], [], [], [], [], [], [], [], [], []] (phiG [fun FF us v => v = (.agg #[arv, rsv] : Value), fun FF us v => v = ov, fun FF us v => v = (.int .i64 ((k : Int)) : Value), fun FF us v => v = (.pointer (some (elemA ov (k * 6))) : Value), fun FF us v => v = (.pointer (some (elemA ov (k * 6))) : Value), fun FF us v => v = a1, fun FF us v => (.tuple #[((tupAt v 0)), .bool (longL ar rs ((os.getD k ([], 0, (0, 0, []), 0)).1))] : Value) = v ∧ (FrStepsF G1 FF 2 ((tupAt v 0)) (stepsL ar rs ((os.getD k ([], 0, (0, 0, []), 0)).1))), fun FF us v => v = (.tuple #[((tupAt (us.getD 0 undef) 0)), .bool (longL ar rs ((os.getD k ([], 0, (0, 0, []), 0)).1))] : Value), fun FF us v => v = ((tupAt (us.getD 0 undef) 0)), fun FF us v => v = (.bool (longL ar rs ((os.getD k ([], 0, (0, 0, []), 0)).1)) : Value), fun FF us v => v = ((tupAt (us.getD 0 undef) 0))]) (ownL [fun us v => [], fun us v => [], fun us v => [], fun us v => [], fun us v => [], fun us v => [], fun us v => [], fun us v => [], fun us v => [], fun us v => [], fun us v => []]) mixed rfl rfl (by kernel_rfl) (by kernel_rfl) (MonoG.get (MonoG.cons (fun le h => h) (MonoG.cons (fun le h => h) (MonoG.cons (fun le h => h) (MonoG.cons (fun le h => h) (MonoG.cons (fun le h => h) (MonoG.cons (fun le h => h) (MonoG.cons (fun le h => ⟨h.1, h.2.mono le⟩) (MonoG.cons (fun le h => h) (MonoG.cons (fun le h => h) (MonoG.cons (fun le h => h) (MonoG.cons (fun le h => h) MonoG.nil)))))))))))) ?_ ?_
   ·refine stepsG.cons (fun vals Fs R leFs hpZ => ?_) ?_
    ·replace har := har.mono leFs
     replace hrs := hrs.mono leFs
     replace ht := ht.mono leFs
     replace hf1 := hf1.mono leFs
     replace hc1 := hc1.mono leFs
     replace hC := hC.mono leFs
     replace ha1 := ha1.mono leFs
     replace ha2 := ha2.mono leFs
     refine XG.op (XOp.loadN [arv, rsv] Tryz.isAgg37 Tryz.sizeOf37 rfl rfl (Rd.ownN [_] rfl rfl) ?_)
     exact ⟨rfl, rfl⟩
    refine stepsG.cons (fun vals Fs R leFs hpZ => ?_) ?_
    ·refine XG.op (XOp.move (ov) rfl ?_)
     exact ⟨rfl, rfl⟩
    refine stepsG.cons (fun vals Fs R leFs hpZ => ?_) ?_
    ·refine XG.op (XOp.move (.int .i64 ((k : Int))) rfl ?_)
     exact ⟨rfl, rfl⟩
    refine stepsG.cons (fun vals Fs R leFs hpZ => ?_) ?_
    ·replace har := har.mono leFs
     replace hrs := hrs.mono leFs
     replace ht := ht.mono leFs
     replace hf1 := hf1.mono leFs
     replace hc1 := hc1.mono leFs
     replace hC := hC.mono leFs
     replace ha1 := ha1.mono leFs
     replace ha2 := ha2.mono leFs
     rw [eS (l := [(1, ov), (2, (.int .i64 ((k : Int)) : Value))]) ⟨(hpZ 1 (by decide)), (hpZ 2 (by decide)), trivial⟩]
     refine XG.op (XOp.indexS (v := ov) (i := (k : Int)) (n := on) k Tryz.runUnderlying179 Tryz.sizeOf183 rfl rfl rfl (SlV.own [] rfl) (by omega) rfl ?_)
     exact ⟨rfl, rfl⟩
    refine stepsG.cons (fun vals Fs R leFs hpZ => ?_) ?_
    ·rw [eS (l := [(3, (.pointer (some (elemA ov (k * 6))) : Value))]) ⟨(hpZ 3 (by decide)), trivial⟩]
     refine XG.op (XOp.fieldE (v := ov) (k * 6) Tryz.runUnderlying183 rfl Tryz.sizeOf22 (by decide) rfl rfl ?_)
     exact ⟨rfl, rfl⟩
    refine stepsG.cons (fun vals Fs R leFs hpZ => ?_) ?_
    ·replace har := har.mono leFs
     replace hrs := hrs.mono leFs
     replace ht := ht.mono leFs
     replace hf1 := hf1.mono leFs
     replace hc1 := hc1.mono leFs
     replace hC := hC.mono leFs
     replace ha1 := ha1.mono leFs
     replace ha2 := ha2.mono leFs
     rw [eS (l := [(4, (.pointer (some (elemA ov (k * 6))) : Value))]) ⟨(hpZ 4 (by decide)), trivial⟩]
     refine XG.op (XOp.load1 (v := a1) Tryz.isAgg22 rfl (Rd.sl [] rfl (hq1 0 _ rfl)) ?_)
     exact ⟨rfl, rfl⟩
    refine stepsG.cons (fun vals Fs R leFs hpZ => ?_) ?_
    ·replace har := har.mono leFs
     replace hrs := hrs.mono leFs
     replace ht := ht.mono leFs
     replace hf1 := hf1.mono leFs
     replace hc1 := hc1.mono leFs
     replace hC := hC.mono leFs
     replace ha1 := ha1.mono leFs
     replace ha2 := ha2.mono leFs
     rw [eS (l := [(0, (.agg #[arv, rsv] : Value)), (5, a1)]) ⟨(hpZ 0 (by decide)), (hpZ 5 (by decide)), trivial⟩]
     refine XG.op (XOp.call (args := [.agg #[arv, rsv], a1]) Tryz.call154 rfl (stepsFrom_spec har hrs ha1 (hsys := (hsys)) (ho := (hdk (by omega)))) ?_)
     rintro _ F3 _ le3 ⟨x2, rfl, hx2, rfl⟩
     replace har := har.mono le3
     replace hrs := hrs.mono le3
     replace ht := ht.mono le3
     replace hf1 := hf1.mono le3
     replace hc1 := hc1.mono le3
     replace hC := hC.mono le3
     replace ha1 := ha1.mono le3
     replace ha2 := ha2.mono le3
     exact ⟨⟨rfl, (hx2.base leFs)⟩, rfl⟩
    refine stepsG.cons (fun vals Fs R leFs hpZ => ?_) ?_
    ·obtain ⟨e6, f6_1hx⟩ := hpZ 6 (by decide)
     rw [eS (l := [(6, (.tuple #[((tupAt (vals 6) 0)), .bool (longL ar rs ((os.getD k ([], 0, (0, 0, []), 0)).1))] : Value))]) ⟨(e6).symm, trivial⟩]
     refine XG.op (XOp.move (.tuple #[((tupAt (vals 6) 0)), .bool (longL ar rs ((os.getD k ([], 0, (0, 0, []), 0)).1))]) rfl ?_)
     exact ⟨rfl, rfl⟩
    refine stepsG.cons (fun vals Fs R leFs hpZ => ?_) ?_
    ·obtain ⟨e6, f6_1hx⟩ := hpZ 6 (by decide)
     have e7 : vals 7 = (.tuple #[((tupAt (vals 6) 0)), .bool (longL ar rs ((os.getD k ([], 0, (0, 0, []), 0)).1))] : Value) := hpZ 7 (by decide)
     rw [eS (l := [(6, (.tuple #[((tupAt (vals 6) 0)), .bool (longL ar rs ((os.getD k ([], 0, (0, 0, []), 0)).1))] : Value)), (7, (.tuple #[((tupAt (vals 6) 0)), .bool (longL ar rs ((os.getD k ([], 0, (0, 0, []), 0)).1))] : Value))]) ⟨(e6).symm, e7, trivial⟩]
     refine XG.op (XOp.extract (((tupAt (vals 6) 0))) rfl rfl ?_)
     exact ⟨rfl, rfl⟩
    refine stepsG.cons (fun vals Fs R leFs hpZ => ?_) ?_
    ·obtain ⟨e6, f6_1hx⟩ := hpZ 6 (by decide)
     have e7 : vals 7 = (.tuple #[((tupAt (vals 6) 0)), .bool (longL ar rs ((os.getD k ([], 0, (0, 0, []), 0)).1))] : Value) := hpZ 7 (by decide)
     rw [eS (l := [(6, (.tuple #[((tupAt (vals 6) 0)), .bool (longL ar rs ((os.getD k ([], 0, (0, 0, []), 0)).1))] : Value)), (7, (.tuple #[((tupAt (vals 6) 0)), .bool (longL ar rs ((os.getD k ([], 0, (0, 0, []), 0)).1))] : Value))]) ⟨(e6).symm, e7, trivial⟩]
     refine XG.op (XOp.extract (.bool (longL ar rs ((os.getD k ([], 0, (0, 0, []), 0)).1))) rfl rfl ?_)
     exact ⟨rfl, rfl⟩
    refine stepsG.cons (fun vals Fs R leFs hpZ => ?_) ?_
    ·obtain ⟨e6, f6_1hx⟩ := hpZ 6 (by decide)
     have e8 : vals 8 = ((tupAt (vals 6) 0)) := hpZ 8 (by decide)
     rw [eS (l := [(6, (.tuple #[((tupAt (vals 6) 0)), .bool (longL ar rs ((os.getD k ([], 0, (0, 0, []), 0)).1))] : Value)), (8, ((tupAt (vals 6) 0)))]) ⟨(e6).symm, e8, trivial⟩]
     refine XG.op (XOp.assign (((tupAt (vals 6) 0))) rfl ?_)
     exact ⟨rfl, rfl⟩
    exact stepsG.nil
   ·intro vals F4 le4 hphi
    obtain ⟨e6, f6_1hx⟩ := hphi 6 (by decide)
    have e7 : vals 7 = (.tuple #[((tupAt (vals 6) 0)), .bool (longL ar rs ((os.getD k ([], 0, (0, 0, []), 0)).1))] : Value) := hphi 7 (by decide)
    have e8 : vals 8 = ((tupAt (vals 6) 0)) := hphi 8 (by decide)
    have e10 : vals 10 = ((tupAt (vals 6) 0)) := hphi 10 (by decide)
    generalize hu1 : ((tupAt (vals 6) 0)) = u1 at e6 f6_1hx e7 e8 e10
    rw [eS (l := [(0, (.agg #[arv, rsv] : Value)), (1, ov), (2, (.int .i64 ((k : Int)) : Value)), (3, (.pointer (some (elemA ov (k * 6))) : Value)), (4, (.pointer (some (elemA ov (k * 6))) : Value)), (5, a1), (6, (.tuple #[u1, .bool (longL ar rs ((os.getD k ([], 0, (0, 0, []), 0)).1))] : Value)), (7, (.tuple #[u1, .bool (longL ar rs ((os.getD k ([], 0, (0, 0, []), 0)).1))] : Value)), (8, u1), (9, (.bool (longL ar rs ((os.getD k ([], 0, (0, 0, []), 0)).1)) : Value)), (10, u1)]) ⟨(hphi 0 (by decide)), (hphi 1 (by decide)), (hphi 2 (by decide)), (hphi 3 (by decide)), (hphi 4 (by decide)), (hphi 5 (by decide)), (e6).symm, e7, e8, (hphi 9 (by decide)), e10, trivial⟩]
    replace har := har.mono le4
    replace hrs := hrs.mono le4
    replace ht := ht.mono le4
    replace hf1 := hf1.mono le4
    replace hc1 := hc1.mono le4
    replace hC := hC.mono le4
    replace ha1 := ha1.mono le4
    replace ha2 := ha2.mono le4
    show XL _ _ _ _ _ _ _ (slH 183 6 ov on ocs :: cellsH b1 [arv, rsv] 37 :: L)
    refine XL.as (.bool (longL ar rs ((os.getD k ([], 0, (0, 0, []), 0)).1))) rfl ?_
    refine XL.nil (X.seq (X.region ?_))
    obtain ⟨cso1, Lso1, hXo1, hDo1, hZo1⟩ := f6_1hx
    skip
    refine XL.mv (u1) rfl ?_
    refine XL.cons (XOp.lenS (v := u1) (n := ((stepsL ar rs ((os.getD k ([], 0, (0, 0, []), 0)).1))).length) Tryz.runUnderlying55 rfl hXo1.slv ?_)
    refine XL.mv (.int .i64 (0)) rfl ?_
    refine XL.nil (X.block ?_)
    refine X.loop (α := Nat × Value × List FoundT × List Value × List HP × Nat × FH) (fun xQ => [(2, .int .i64 (n)), (3, ptr b1 0), (8, xQ.2.1), (9, .int .i64 ((k : Int))), (41, u1), (42, .int .i64 (((((stepsL ar rs ((os.getD k ([], 0, (0, 0, []), 0)).1))).length : Nat) : Int))), (43, .int .i64 (((xQ.1 : Nat) : Int)))]) (fun xQ => slH 183 6 xQ.2.1 xQ.2.2.2.2.2.1 xQ.2.2.2.1 :: cellsH b1 [arv, rsv] 37 :: L) (fun xQ F' => xQ.2.2.2.2.2.2 = F' ∧ F4 ≤ xQ.2.2.2.2.2.2 ∧ (IsSl xQ.2.1) ∧ (FoundsC xQ.2.2.2.2.2.2 xQ.2.2.2.1 xQ.2.2.1) ∧ (xQ.2.2.2.2.2.1 = xQ.2.2.1.length) ∧ (DeepL 6 (FoundO 2) xQ.2.2.2.1 xQ.2.2.1 xQ.2.2.2.2.1) ∧ (Fresh F xQ.2.2.2.2.2.2 (star (xQ.2.2.2.2.1 ++ Lso1.drop xQ.1))) ∧ (xQ.1 ≤ (stepsL ar rs (os.getD k ([], 0, (0, 0, []), 0)).1).length) ∧ (xQ.2.2.1.length ≤ 60) ∧ (AllOk ar xQ.2.2.1) ∧ (DeepOk n xQ.2.2.1) ∧ (k < xQ.2.2.1.length) ∧ (EL xQ.2.2.1 k = EL os k) ∧ (addGo (k : Int) (EL os k).2.2.2 (stepsL ar rs (os.getD k ([], 0, (0, 0, []), 0)).1) os = addGo (k : Int) (EL os k).2.2.2 ((stepsL ar rs (os.getD k ([], 0, (0, 0, []), 0)).1).drop xQ.1) xQ.2.2.1)) (fun xQ => (stepsL ar rs (os.getD k ([], 0, (0, 0, []), 0)).1).length - xQ.1) (0, ov, os, ocs, Ts, on, F4) ⟨rfl, rfl, rfl, rfl, rfl, rfl, rfl, trivial⟩ (Sub.cons (Sub.cons sR)) ⟨rfl, FLe.refl _, (hov), (hC), (hn), (hD), ((Fresh.app hZ (FLe.trans le1 leG1) hZo1 le4)), (by (try dsimp only) <;> omega), (hl), (hok), (hdo), (by dsimp only; omega), (rfl), (rfl)⟩ ?_
    rintro ⟨q, pv, ps, pcs, Us, pn, G2⟩ rE _ _ ⟨rfl, leG, hpv, hCi, hni, hDi, hZi, hq, hli, hoki, hdi, hkp, hel, hgoi⟩
    show X _ _ _ _ (envs [(2, .int .i64 (n)), (3, ptr b1 0), (8, pv), (9, .int .i64 ((k : Int))), (41, u1), (42, .int .i64 (((((stepsL ar rs ((os.getD k ([], 0, (0, 0, []), 0)).1))).length : Nat) : Int))), (43, .int .i64 ((q : Int)))] rE) _ (slH 183 6 pv pn pcs :: cellsH b1 [arv, rsv] 37 :: L)
    replace leG : F4 ≤ G2 := leG
    dsimp only at hpv hCi hni hDi hZi hq hli hoki hdi hkp hel hgoi
    have hnl : (stepsL ar rs (os.getD k ([], 0, (0, 0, []), 0)).1).length ≤ 1000 := by have h9 := stepsTo_len (ar := ar) (t := (os.getD k ([], 0, (0, 0, []), 0)).1) (rs := rs) hrl (os.getD k ([], 0, (0, 0, []), 0)).1.length; have h8 := hdl (by omega); show (stepsTo ar rs (os.getD k ([], 0, (0, 0, []), 0)).1 (os.getD k ([], 0, (0, 0, []), 0)).1.length).length ≤ 1000; omega
    have hsok : q < (stepsL ar rs (os.getD k ([], 0, (0, 0, []), 0)).1).length → 1 ≤ ((stepsL ar rs (os.getD k ([], 0, (0, 0, []), 0)).1).getD q (0, 0, [])).2.2.length ∧ ((stepsL ar rs (os.getD k ([], 0, (0, 0, []), 0)).1).getD q (0, 0, [])).2.2.length ≤ 60 := fun h => termOk_len (steps_ok hsys (hdk (by omega)) h)
    have hdn : 0 ≤ (ps.getD k ([], 0, (0, 0, []), 0)).2.2.2 ∧ (ps.getD k ([], 0, (0, 0, []), 0)).2.2.2 ≤ 1000 := by have h8 : (EL ps k).2.2.2 = (EL os k).2.2.2 := (by rw [hel]); have h9 := hdo k (by omega); have h7 : (ps.getD k ([], 0, (0, 0, []), 0)).2.2.2 = (EL ps k).2.2.2 := rfl; omega
    have leG2 := leG
    replace har := har.mono leG2
    replace hrs := hrs.mono leG2
    replace ht := ht.mono leG2
    replace hf1 := hf1.mono leG2
    replace hc1 := hc1.mono leG2
    replace hC := hC.mono leG2
    replace ha1 := ha1.mono leG2
    replace ha2 := ha2.mono leG2
    replace hXo1 := hXo1.mono leG2
    refine X.seq (X.region ?_)
    refine XL.cons (XOp.lss (a := (q : Int)) (b := ((((stepsL ar rs ((os.getD k ([], 0, (0, 0, []), 0)).1))).length : Nat) : Int)) rfl rfl ?_)
    refine XL.nil (X.seq ?_)
    refine X.condD (p := (q : Int) < ((((stepsL ar rs ((os.getD k ([], 0, (0, 0, []), 0)).1))).length : Nat) : Int)) rfl (fun h3 => ?_) (fun h3 => ?_)
    ·refine X.skip (X.seq (X.block (X.seq (X.region ?_))))
     refine XL.cons (XOp.indexS (v := u1) (i := (q : Int)) (n := ((stepsL ar rs ((os.getD k ([], 0, (0, 0, []), 0)).1))).length) q Tryz.runUnderlying55 Tryz.sizeOf116 rfl rfl rfl hXo1.slv (by omega) rfl ?_)
     obtain ⟨a3, ha3, hr1, hr2, hr3, hq2⟩ := hXo1.rd (i := q) (by omega)
     refine XL.cons (XOp.loadN [.int .i64 ((((stepsL ar rs ((os.getD k ([], 0, (0, 0, []), 0)).1))).getD q (0, 0, [])).1), .int .i64 ((((stepsL ar rs ((os.getD k ([], 0, (0, 0, []), 0)).1))).getD q (0, 0, [])).2.1), a3] Tryz.isAgg116 Tryz.sizeOf116 rfl rfl (Rd.three (hr1 _) (hr2 _) (hr3 _)) ?_)
     refine XL.cons (XOp.alloc [.int .i64 (0), .int .i64 (0), (.slice none 0 0)] Tryz.zeroValue116 rfl ?_)
     intro b2
     refine XL.cons (XOp.storeN (vs := [.int .i64 ((((stepsL ar rs ((os.getD k ([], 0, (0, 0, []), 0)).1))).getD q (0, 0, [])).1), .int .i64 ((((stepsL ar rs ((os.getD k ([], 0, (0, 0, []), 0)).1))).getD q (0, 0, [])).2.1), a3]) [] _ [.int .i64 ((((stepsL ar rs ((os.getD k ([], 0, (0, 0, []), 0)).1))).getD q (0, 0, [])).1), .int .i64 ((((stepsL ar rs ((os.getD k ([], 0, (0, 0, []), 0)).1))).getD q (0, 0, [])).2.1), a3] Tryz.sizeOf116 rfl rfl rfl (ones_cons rfl (ones_cons rfl (ones_cons (one_sl (IntsF.isSl ha3)) ones_nil))) rfl rfl rfl ?_)
     refine XL.nil (X.seq (X.seq (X.region ?_)))
     refine XL.mv (pv) rfl ?_
     refine XL.cons (XOp.fieldP (b := b2) (2) Tryz.runUnderlying116 rfl Tryz.sizeOf22 (by decide) rfl rfl ?_)
     refine XL.cons (XOp.load1 (v := a3) Tryz.isAgg22 rfl (Rd.own [] rfl rfl) ?_)
     refine XL.cons (XOp.lend [_] _ _ rfl (fun F5 le5 hz2 => ?_))
     have hf2 : FoundsF _ pv ps pcs := (FoundsC.fz (FoundsC.mono hCi (FLe.trans le5 rF)) (by first | rfl | assumption | omega | (rw [List.length_append]; simp only [List.length_singleton]; omega)) hz2 : FoundsF _ pv ps pcs)
     refine id (XOp.call (args := [pv, a3]) Tryz.call167 rfl (found_spec hf2 ((ha3.mono le5)) (hlt := (by omega)) (hlu := (by have := hsok (by omega); omega))) ?_)
     rintro _ _ _ _ ⟨rfl, rfl, rfl⟩
     show XL _ _ _ _ _ _ _ (slH 183 6 pv pn pcs :: cellsH b2 [.int .i64 ((((stepsL ar rs ((os.getD k ([], 0, (0, 0, []), 0)).1))).getD q (0, 0, [])).1), .int .i64 ((((stepsL ar rs ((os.getD k ([], 0, (0, 0, []), 0)).1))).getD q (0, 0, [])).2.1), a3] 116 :: cellsH b1 [arv, rsv] 37 :: L)
     refine XL.cons (XOp.geq (a := foundI ps ((((stepsL ar rs ((os.getD k ([], 0, (0, 0, []), 0)).1))).getD q (0, 0, [])).2.2)) (b := 0) rfl rfl ?_)
     refine XL.nil ?_
     refine X.condD (p := (foundI ps ((((stepsL ar rs ((os.getD k ([], 0, (0, 0, []), 0)).1))).getD q (0, 0, [])).2.2) : Int) ≥ 0) rfl (fun h4 => ?_) (fun h4 => ?_)
     ·have hin : isIn ps ((stepsL ar rs (os.getD k ([], 0, (0, 0, []), 0)).1).getD q (0, 0, [])).2.2 = true := foundI_iff.1 h4
      refine X.exit (thenQ_exit (blockQ_exit ?_))
      refine X.region ?_
      refine XL.cons (XOp.addR (a := (q : Int)) (b := 1) (((q + 1 : Nat) : Int)) rfl rfl (by omega) (by omega) ?_)
      refine XL.mv (.int .i64 (((q + 1 : Nat) : Int))) rfl ?_
      refine XL.nil ?_
      exact ⟨(q + 1, pv, ps, pcs, Us, pn, G2), _, leG2, rF, ⟨rfl, rfl, rfl, rfl, rfl, rfl, rfl, trivial⟩, (Sub.cons (Sub.drop (Sub.cons sR))), ⟨rfl, leG2, (hpv), (hCi), (hni), (hDi), ((Fresh.skipLeaf hZi ((hDo1.leaves).2 q a3 (by omega) hq2))), (by (try dsimp only) <;> omega), (by (try dsimp only) <;> omega), (hoki), (hdi), (by (try dsimp only) <;> omega), (hel), (by (try dsimp only); exact hgoi.trans (add_in (by omega) hin))⟩, (by omega)⟩
     ·have hnin : isIn ps ((stepsL ar rs (os.getD k ([], 0, (0, 0, []), 0)).1).getD q (0, 0, [])).2.2 = false := by rw [Bool.eq_false_iff]; exact fun h9 => h4 (foundI_iff.2 h9)
      refine X.skip (X.seq (X.seq (X.region ?_)))
      refine XL.mv (pv) rfl ?_
      refine XL.cons (XOp.lenS (v := pv) (n := pn) Tryz.runUnderlying179 rfl (SlV.own [] rfl) ?_)
      refine XL.cons (XOp.eql (a := ((pn : Nat) : Int)) (b := 60) rfl rfl ?_)
      refine XL.nil ?_
      refine X.condD (p := (((pn : Nat) : Int) : Int) = 60) rfl (fun h5 => ?_) (fun h5 => ?_)
      ·refine X.seq (X.region ?_)
       refine XL.mv (pv) rfl ?_
       refine XL.as (pv) rfl ?_
       refine XL.as (.bool (false)) rfl ?_
       refine XL.nil ?_
       refine X.freezeF [] _ _ rfl (fun F6 le6 hz3 => ?_)
       replace har := har.mono le6
       replace hrs := hrs.mono le6
       replace ht := ht.mono le6
       replace hf1 := hf1.mono le6
       replace hc1 := hc1.mono le6
       replace hC := hC.mono le6
       replace ha1 := ha1.mono le6
       replace ha2 := ha2.mono le6
       replace hXo1 := hXo1.mono le6
       replace hCi := hCi.mono le6
       replace ha3 := ha3.mono le6
       replace hr1 := Rd.monoA hr1 le6
       replace hr2 := Rd.monoA hr2 le6
       replace hr3 := Rd.monoA hr3 le6
       have hf3 : FoundsF F6 pv ps pcs := FoundsC.fz hCi (by first | rfl | simp | omega) hz3.fz
       refine X.ret (thenQ_ret (blockQ_ret (thenQ_ret (thenQ_ret (blockQ_ret (blockQ_ret (thenQ_ret (thenQ_ret (blockQ_ret (thenQ_ret (retEnd (L' := L) [pv, .bool (false)] (.tuple #[pv, .bool (false)]) (.tmp rfl (.tmp rfl .nil)) rfl (FLe.trans (FLe.trans (FLe.trans (FLe.trans le1 leG1) le4) leG2) le6) rF (Sub.drop (Sub.drop sR)) ?_)))))))))))
       have h9 := hgoi.trans (add_full (by omega) hnin (by omega))
       have h8 := reach_stop (ar := ar) (rs := rs) (n := n) (f := 60 - k - 1) (show k < os.length by omega) (by omega) hdeep (by rw [h9])
       have e9 : reachL ar rs t n = (ps, false) := (hgo.trans h8).trans h9
       rw [e9]
       exact ⟨_, _, _, rfl, hf3, hDi, ((Fresh.noMore hZi).mono le6), rfl⟩
      ·refine X.skip ?_
       obtain ⟨a4, a5, ha4, ha5, hq3⟩ := hCi.get (i := k) (by omega)
       refine X.draw [slH 183 6 pv pn pcs, cellsH b2 [.int .i64 ((((stepsL ar rs ((os.getD k ([], 0, (0, 0, []), 0)).1))).getD q (0, 0, [])).1), .int .i64 ((((stepsL ar rs ((os.getD k ([], 0, (0, 0, []), 0)).1))).getD q (0, 0, [])).2.1), a3] 116, cellsH b1 [arv, rsv] 37] L 13 [[], [], [], [], [], [], [], [], [], [], [], [], []] [[], [], [1], [], [], [], [], [5, 6], [7], [8], [9], [2, 3, 4, 10], [11]] (phiL [fun us v => v = pv, fun us v => v = ptr b2 2, fun us v => v = a3, fun us v => v = (.int .i64 ((k : Int)) : Value), fun us v => v = (.agg #[.int .i64 ((((stepsL ar rs ((os.getD k ([], 0, (0, 0, []), 0)).1))).getD q (0, 0, [])).1), .int .i64 ((((stepsL ar rs ((os.getD k ([], 0, (0, 0, []), 0)).1))).getD q (0, 0, [])).2.1), a3] : Value), fun us v => v = pv, fun us v => v = (.int .i64 ((k : Int)) : Value), fun us v => v = (.pointer (some (elemA pv (k * 6))) : Value), fun us v => v = (.pointer (some (elemA pv (k * 6 + 5))) : Value), fun us v => v = (.int .i64 ((ps.getD k ([], 0, (0, 0, []), 0)).2.2.2) : Value), fun us v => v = (.int .i64 (((ps.getD k ([], 0, (0, 0, []), 0)).2.2.2) + 1) : Value), fun us v => v = (.agg #[a3, .int .i64 ((k : Int)), .int .i64 ((((stepsL ar rs ((os.getD k ([], 0, (0, 0, []), 0)).1))).getD q (0, 0, [])).1), .int .i64 ((((stepsL ar rs ((os.getD k ([], 0, (0, 0, []), 0)).1))).getD q (0, 0, [])).2.1), a3, .int .i64 (((ps.getD k ([], 0, (0, 0, []), 0)).2.2.2) + 1)] : Value), fun us v => ∃ b, v = .slice (some ⟨b, 0, none⟩) 1 1]) (ownL [fun us v => [], fun us v => [], fun us v => [], fun us v => [], fun us v => [], fun us v => [], fun us v => [], fun us v => [], fun us v => [], fun us v => [], fun us v => [], fun us v => [], fun us v => [slH 183 6 v 1 [a3, .int .i64 ((k : Int)), .int .i64 ((((stepsL ar rs ((os.getD k ([], 0, (0, 0, []), 0)).1))).getD q (0, 0, [])).1), .int .i64 ((((stepsL ar rs ((os.getD k ([], 0, (0, 0, []), 0)).1))).getD q (0, 0, [])).2.1), a3, .int .i64 (((ps.getD k ([], 0, (0, 0, []), 0)).2.2.2) + 1)]]]) mixed rfl rfl (by kernel_rfl) ?_ ?_
       ·refine stepsP.cons (fun vals R hpZ => ?_) ?_
        ·refine XG.op (XOp.move (pv) rfl ?_)
         exact ⟨rfl, rfl, rfl⟩
        refine stepsP.cons (fun vals R hpZ => ?_) ?_
        ·refine XG.op (XOp.fieldP (b := b2) (2) Tryz.runUnderlying116 rfl Tryz.sizeOf22 (by decide) rfl rfl ?_)
         exact ⟨rfl, rfl, rfl⟩
        refine stepsP.cons (fun vals R hpZ => ?_) ?_
        ·rw [eS (l := [(1, ptr b2 2)]) ⟨hpZ 1 (by decide), trivial⟩]
         refine XG.op (XOp.load1 (v := a3) Tryz.isAgg22 rfl (Rd.own [_] rfl rfl) ?_)
         exact ⟨rfl, rfl, rfl⟩
        refine stepsP.cons (fun vals R hpZ => ?_) ?_
        ·refine XG.op (XOp.move (.int .i64 ((k : Int))) rfl ?_)
         exact ⟨rfl, rfl, rfl⟩
        refine stepsP.cons (fun vals R hpZ => ?_) ?_
        ·refine XG.op (XOp.loadN [.int .i64 ((((stepsL ar rs ((os.getD k ([], 0, (0, 0, []), 0)).1))).getD q (0, 0, [])).1), .int .i64 ((((stepsL ar rs ((os.getD k ([], 0, (0, 0, []), 0)).1))).getD q (0, 0, [])).2.1), a3] Tryz.isAgg116 Tryz.sizeOf116 rfl rfl (Rd.ownN [_] rfl rfl) ?_)
         exact ⟨rfl, rfl, rfl⟩
        refine stepsP.cons (fun vals R hpZ => ?_) ?_
        ·refine XG.op (XOp.move (pv) rfl ?_)
         exact ⟨rfl, rfl, rfl⟩
        refine stepsP.cons (fun vals R hpZ => ?_) ?_
        ·refine XG.op (XOp.move (.int .i64 ((k : Int))) rfl ?_)
         exact ⟨rfl, rfl, rfl⟩
        refine stepsP.cons (fun vals R hpZ => ?_) ?_
        ·rw [eS (l := [(5, pv), (6, (.int .i64 ((k : Int)) : Value))]) ⟨hpZ 5 (by decide), hpZ 6 (by decide), trivial⟩]
         refine XG.op (XOp.indexS (v := pv) (i := (k : Int)) (n := pn) k Tryz.runUnderlying179 Tryz.sizeOf183 rfl rfl rfl (SlV.own [] rfl) (by omega) rfl ?_)
         exact ⟨rfl, rfl, rfl⟩
        refine stepsP.cons (fun vals R hpZ => ?_) ?_
        ·rw [eS (l := [(7, (.pointer (some (elemA pv (k * 6))) : Value))]) ⟨hpZ 7 (by decide), trivial⟩]
         refine XG.op (XOp.fieldE (v := pv) (k * 6 + 5) Tryz.runUnderlying183 rfl Tryz.sizeOf2 (by decide) rfl rfl ?_)
         exact ⟨rfl, rfl, rfl⟩
        refine stepsP.cons (fun vals R hpZ => ?_) ?_
        ·rw [eS (l := [(8, (.pointer (some (elemA pv (k * 6 + 5))) : Value))]) ⟨hpZ 8 (by decide), trivial⟩]
         refine XG.op (XOp.load1 (v := .int .i64 ((ps.getD k ([], 0, (0, 0, []), 0)).2.2.2)) Tryz.isAgg2 rfl (Rd.sl [] rfl (hq3 5 _ rfl)) ?_)
         exact ⟨rfl, rfl, rfl⟩
        refine stepsP.cons (fun vals R hpZ => ?_) ?_
        ·rw [eS (l := [(9, (.int .i64 ((ps.getD k ([], 0, (0, 0, []), 0)).2.2.2) : Value))]) ⟨hpZ 9 (by decide), trivial⟩]
         refine XG.op (XOp.addR (a := (ps.getD k ([], 0, (0, 0, []), 0)).2.2.2) (b := 1) (((ps.getD k ([], 0, (0, 0, []), 0)).2.2.2) + 1) rfl rfl (by omega) (by omega) ?_)
         exact ⟨rfl, rfl, rfl⟩
        refine stepsP.cons (fun vals R hpZ => ?_) ?_
        ·rw [eS (l := [(2, a3), (3, (.int .i64 ((k : Int)) : Value)), (4, (.agg #[.int .i64 ((((stepsL ar rs ((os.getD k ([], 0, (0, 0, []), 0)).1))).getD q (0, 0, [])).1), .int .i64 ((((stepsL ar rs ((os.getD k ([], 0, (0, 0, []), 0)).1))).getD q (0, 0, [])).2.1), a3] : Value)), (10, (.int .i64 (((ps.getD k ([], 0, (0, 0, []), 0)).2.2.2) + 1) : Value))]) ⟨hpZ 2 (by decide), hpZ 3 (by decide), hpZ 4 (by decide), hpZ 10 (by decide), trivial⟩]
         refine XG.op (XOp.build [a3, .int .i64 ((k : Int)), .int .i64 ((((stepsL ar rs ((os.getD k ([], 0, (0, 0, []), 0)).1))).getD q (0, 0, [])).1), .int .i64 ((((stepsL ar rs ((os.getD k ([], 0, (0, 0, []), 0)).1))).getD q (0, 0, [])).2.1), a3, .int .i64 (((ps.getD k ([], 0, (0, 0, []), 0)).2.2.2) + 1)] [(.slice none 0 0), .int .i64 (0), .int .i64 (0), .int .i64 (0), (.slice none 0 0), .int .i64 (0)] [(0, 1), (1, 1), (2, 3), (5, 1)] [(0, [a3]), (1, [.int .i64 ((k : Int))]), (2, [.int .i64 ((((stepsL ar rs ((os.getD k ([], 0, (0, 0, []), 0)).1))).getD q (0, 0, [])).1), .int .i64 ((((stepsL ar rs ((os.getD k ([], 0, (0, 0, []), 0)).1))).getD q (0, 0, [])).2.1), a3]), (3, [.int .i64 (((ps.getD k ([], 0, (0, 0, []), 0)).2.2.2) + 1)])] Tryz.runUnderlying183 Tryz.zeroValue183 rfl (.cons rfl Tryz.sizeOf22 (.cons rfl Tryz.sizeOf3 (.cons rfl Tryz.sizeOf116 (.cons rfl Tryz.sizeOf2 PlacesAre.nil)))) rfl (.cons (cells_one (IntsF.isSl ha3)) (.cons rfl (.cons rfl (.cons rfl CellsAre.nil)))) ?_)
         exact ⟨rfl, rfl, rfl⟩
        refine stepsP.cons (fun vals R hpZ => ?_) ?_
        ·rw [eS (l := [(11, (.agg #[a3, .int .i64 ((k : Int)), .int .i64 ((((stepsL ar rs ((os.getD k ([], 0, (0, 0, []), 0)).1))).getD q (0, 0, [])).1), .int .i64 ((((stepsL ar rs ((os.getD k ([], 0, (0, 0, []), 0)).1))).getD q (0, 0, [])).2.1), a3, .int .i64 (((ps.getD k ([], 0, (0, 0, []), 0)).2.2.2) + 1)] : Value))]) ⟨hpZ 11 (by decide), trivial⟩]
         refine XG.op (XOp.buildSlice (s := 6) [a3, .int .i64 ((k : Int)), .int .i64 ((((stepsL ar rs ((os.getD k ([], 0, (0, 0, []), 0)).1))).getD q (0, 0, [])).1), .int .i64 ((((stepsL ar rs ((os.getD k ([], 0, (0, 0, []), 0)).1))).getD q (0, 0, [])).2.1), a3, .int .i64 (((ps.getD k ([], 0, (0, 0, []), 0)).2.2.2) + 1)] [(.slice none 0 0), .int .i64 (0), .int .i64 (0), .int .i64 (0), (.slice none 0 0), .int .i64 (0)] [(0, [a3, .int .i64 ((k : Int)), .int .i64 ((((stepsL ar rs ((os.getD k ([], 0, (0, 0, []), 0)).1))).getD q (0, 0, [])).1), .int .i64 ((((stepsL ar rs ((os.getD k ([], 0, (0, 0, []), 0)).1))).getD q (0, 0, [])).2.1), a3, .int .i64 (((ps.getD k ([], 0, (0, 0, []), 0)).2.2.2) + 1)])] Tryz.runUnderlying179 Tryz.sizeOf183 Tryz.zeroValue183 rfl (by decide) rfl (.cons rfl CellsAre.nil) rfl ?_)
         intro v4 hv3
         exact ⟨rfl, hv3, rfl⟩
        exact stepsP.nil
       ·intro vals hphi
        have f12 : ∃ b, (vals 12) = .slice (some ⟨b, 0, none⟩) 1 1 := hphi 12 (by decide)
        generalize hu12 : vals 12 = u2 at f12
        rw [eS (l := [(0, pv), (1, ptr b2 2), (2, a3), (3, (.int .i64 ((k : Int)) : Value)), (4, (.agg #[.int .i64 ((((stepsL ar rs ((os.getD k ([], 0, (0, 0, []), 0)).1))).getD q (0, 0, [])).1), .int .i64 ((((stepsL ar rs ((os.getD k ([], 0, (0, 0, []), 0)).1))).getD q (0, 0, [])).2.1), a3] : Value)), (5, pv), (6, (.int .i64 ((k : Int)) : Value)), (7, (.pointer (some (elemA pv (k * 6))) : Value)), (8, (.pointer (some (elemA pv (k * 6 + 5))) : Value)), (9, (.int .i64 ((ps.getD k ([], 0, (0, 0, []), 0)).2.2.2) : Value)), (10, (.int .i64 (((ps.getD k ([], 0, (0, 0, []), 0)).2.2.2) + 1) : Value)), (11, (.agg #[a3, .int .i64 ((k : Int)), .int .i64 ((((stepsL ar rs ((os.getD k ([], 0, (0, 0, []), 0)).1))).getD q (0, 0, [])).1), .int .i64 ((((stepsL ar rs ((os.getD k ([], 0, (0, 0, []), 0)).1))).getD q (0, 0, [])).2.1), a3, .int .i64 (((ps.getD k ([], 0, (0, 0, []), 0)).2.2.2) + 1)] : Value)), (12, u2)]) ⟨(hphi 0 (by decide)), (hphi 1 (by decide)), (hphi 2 (by decide)), (hphi 3 (by decide)), (hphi 4 (by decide)), (hphi 5 (by decide)), (hphi 6 (by decide)), (hphi 7 (by decide)), (hphi 8 (by decide)), (hphi 9 (by decide)), (hphi 10 (by decide)), (hphi 11 (by decide)), hu12, trivial⟩]
        show XL _ _ _ _ _ _ _ (slH 183 6 u2 1 [a3, .int .i64 ((k : Int)), .int .i64 ((((stepsL ar rs ((os.getD k ([], 0, (0, 0, []), 0)).1))).getD q (0, 0, [])).1), .int .i64 ((((stepsL ar rs ((os.getD k ([], 0, (0, 0, []), 0)).1))).getD q (0, 0, [])).2.1), a3, .int .i64 (((ps.getD k ([], 0, (0, 0, []), 0)).2.2.2) + 1)] :: slH 183 6 pv pn pcs :: cellsH b2 [.int .i64 ((((stepsL ar rs ((os.getD k ([], 0, (0, 0, []), 0)).1))).getD q (0, 0, [])).1), .int .i64 ((((stepsL ar rs ((os.getD k ([], 0, (0, 0, []), 0)).1))).getD q (0, 0, [])).2.1), a3] 116 :: cellsH b1 [arv, rsv] 37 :: L)
        refine XL.cons (XOp.append (m := 1) (bytes := 80) (cs := pcs) [_] _ [a3, .int .i64 ((k : Int)), .int .i64 ((((stepsL ar rs ((os.getD k ([], 0, (0, 0, []), 0)).1))).getD q (0, 0, [])).1), .int .i64 ((((stepsL ar rs ((os.getD k ([], 0, (0, 0, []), 0)).1))).getD q (0, 0, [])).2.1), a3, .int .i64 (((ps.getD k ([], 0, (0, 0, []), 0)).2.2.2) + 1)] Tryz.runUnderlying179 Tryz.typeInfo183 rfl rfl rfl rfl rfl rfl rfl (SlV.own [] rfl) rfl (Rd.lit [] rfl) (ones_cons (one_sl (IntsF.isSl ha3)) (ones_cons rfl (ones_cons rfl (ones_cons rfl (ones_cons (one_sl (IntsF.isSl ha3)) (ones_cons rfl ones_nil)))))) (by (try simp only [List.length_append, List.length_nil, List.length_cons, List.length_singleton]); omega) (by (try simp only [List.length_append, List.length_nil, List.length_cons, List.length_singleton]); omega) ?_)
        intro v5 hs2 hn1 hm1
        have hc2 := FoundsC.snoc hCi (y0 := (((stepsL ar rs ((os.getD k ([], 0, (0, 0, []), 0)).1))).getD q (0, 0, [])).2.2) (y1 := (k : Int)) (y2 := (((stepsL ar rs ((os.getD k ([], 0, (0, 0, []), 0)).1))).getD q (0, 0, [])).1) (y3 := (((stepsL ar rs ((os.getD k ([], 0, (0, 0, []), 0)).1))).getD q (0, 0, [])).2.1) (y4 := (((stepsL ar rs ((os.getD k ([], 0, (0, 0, []), 0)).1))).getD q (0, 0, [])).2.2) (y5 := ((ps.getD k ([], 0, (0, 0, []), 0)).2.2.2) + 1) ha3 ha3
        refine XL.as (v5) rfl ?_
        refine XL.nil (X.region ?_)
        refine XL.cons (XOp.addR (a := (q : Int)) (b := 1) (((q + 1 : Nat) : Int)) rfl rfl (by omega) (by omega) ?_)
        refine XL.mv (.int .i64 (((q + 1 : Nat) : Int))) rfl ?_
        refine XL.nil ?_
        exact ⟨(q + 1, v5, ps ++ [((((stepsL ar rs ((os.getD k ([], 0, (0, 0, []), 0)).1))).getD q (0, 0, [])).2.2, (k : Int), ((((stepsL ar rs ((os.getD k ([], 0, (0, 0, []), 0)).1))).getD q (0, 0, [])).1, (((stepsL ar rs ((os.getD k ([], 0, (0, 0, []), 0)).1))).getD q (0, 0, [])).2.1, (((stepsL ar rs ((os.getD k ([], 0, (0, 0, []), 0)).1))).getD q (0, 0, [])).2.2), ((ps.getD k ([], 0, (0, 0, []), 0)).2.2.2) + 1)], pcs ++ [a3, .int .i64 ((k : Int)), .int .i64 ((((stepsL ar rs ((os.getD k ([], 0, (0, 0, []), 0)).1))).getD q (0, 0, [])).1), .int .i64 ((((stepsL ar rs ((os.getD k ([], 0, (0, 0, []), 0)).1))).getD q (0, 0, [])).2.1), a3, .int .i64 (((ps.getD k ([], 0, (0, 0, []), 0)).2.2.2) + 1)], Us ++ [intsH 2 a3 ((stepsL ar rs (os.getD k ([], 0, (0, 0, []), 0)).1).getD q (0, 0, [])).2.2], (pn) + 1, G2), _, leG2, rF, ⟨rfl, rfl, rfl, rfl, rfl, rfl, rfl, trivial⟩, (Sub.drop (Sub.cons (Sub.drop (Sub.cons sR)))), ⟨rfl, leG2, (hs2), (hc2), (by (try dsimp only); rw [List.length_append, List.length_singleton]; omega), (DeepL.snoc hDi rfl ⟨_, _, rfl, rfl⟩), ((Fresh.keepLeaf hZi ((hDo1.leaves).2 q a3 (by omega) hq2))), (by (try dsimp only) <;> omega), (by (try dsimp only); rw [List.length_append, List.length_singleton]; omega), (hoki.snoc (steps_ok hsys (hdk (by omega)) (by omega))), (hdi.snoc (by have h9 := hdo k (by omega); have h8 : (EL ps k).2.2.2 = (EL os k).2.2.2 := (by rw [hel]); have h7 : (EL ps k).2.2.2 = (ps.getD k ([], 0, (0, 0, []), 0)).2.2.2 := rfl; have h6 : (EL os k).2.2.2 = (os.getD k ([], 0, (0, 0, []), 0)).2.2.2 := rfl; dsimp only; omega)), (by (try dsimp only); rw [List.length_append, List.length_singleton]; omega), (by (try dsimp only); rw [EL_snoc (by omega)]; exact hel), (by (try dsimp only); rw [show (ps.getD k ([], 0, (0, 0, []), 0)) = EL os k from hel]; exact hgoi.trans (add_new (by omega) hnin (by omega)))⟩, (by omega)⟩
    ·refine X.exit (thenQ_exit (thenQ_exit (blockQ_exit ?_)))
     refine X.region ?_
     refine XL.mv (.int .i64 ((k : Int))) rfl ?_
     refine XL.cons (XOp.addR (a := (k : Int)) (b := 1) (((k + 1 : Nat) : Int)) rfl rfl (by omega) (by omega) ?_)
     refine XL.as (.int .i64 (((k + 1 : Nat) : Int))) rfl ?_
     refine XL.nil ?_
     exact ⟨(k + 1, pv, ps, pcs, Us, pn, G2), _, (FLe.trans (FLe.trans leG1 le4) leG2), rF, ⟨rfl, rfl, rfl, rfl, trivial⟩, (Sub.cons (Sub.cons sR)), ⟨rfl, (FLe.trans (FLe.trans leG1 le4) leG2), (hpv), (hCi), (hni), (hDi), ((Fresh.noMore hZi)), (by (try dsimp only); omega), (by (try dsimp only) <;> omega), (hoki), (hdi), (by (try dsimp only); have h9 := hgoi.trans (add_end (by omega)); have h8 := reach_more (ar := ar) (rs := rs) (n := n) (f := 60 - k - 1) (show k < os.length by omega) (by omega) hdeep (by rw [h9]); rw [h9] at h8; exact hgo.trans h8)⟩, (by (try dsimp only); omega)⟩
 ·refine X.exit (thenQ_exit (thenQ_exit (blockQ_exit ?_)))
  refine X.seq (X.region ?_)
  refine XL.mv (ov) rfl ?_
  refine XL.as (ov) rfl ?_
  refine XL.as (.bool (true)) rfl ?_
  refine XL.nil ?_
  refine X.freezeF [] _ _ rfl (fun F7 le7 hz4 => ?_)
  replace har := har.mono le7
  replace hrs := hrs.mono le7
  replace ht := ht.mono le7
  replace hf1 := hf1.mono le7
  replace hc1 := hc1.mono le7
  replace hC := hC.mono le7
  have hf4 : FoundsF F7 ov os ocs := FoundsC.fz hC (by first | rfl | simp | omega) hz4.fz
  refine X.ret (retEnd (L' := L) [ov, .bool (true)] (.tuple #[ov, .bool (true)]) (.tmp rfl (.tmp rfl .nil)) rfl (FLe.trans (FLe.trans le1 leG1) le7) rF (Sub.drop sR) ?_)
  have e9 : reachL ar rs t n = (os, true) := hgo.trans (reach_done (by omega) hl)
  rw [e9]
  exact ⟨_, _, _, rfl, hf4, hD, (hZ.mono le7), rfl⟩
end Go.Proofs.YtiaanelimbmniaaGreat
set_option linter.unusedSimpArgs false
set_option linter.unusedVariables false
namespace Go.Proofs.YtiaanelimbmniaaGreat
open Go X M

/- (*impl.Walk).add -/
theorem walkAdd_spec {F : FH} {L : List HP} {b m : Nat} {fv sv tov : Value} {ss : List StepT} {cs : List Value} {i j : Int} {to : List Int} (hto : IntsF F tov to) (hsv : IsSl sv) (hC : StepsC F cs ss) (hm : m = ss.length) (hsb : ss.length ≤ 4000000) (hlt : to.length ≤ 4000000) :
    Does Tryz.prog 160 [ptr b 0, .agg #[.int .i64 (i), .int .i64 (j), tov]] F (cellsH b [fv, sv] 57 :: slH 116 3 sv m cs :: L) (fun v F' L' => ∃ (sw cw : Value), IsSl sw ∧ IntsF F' cw to ∧ Fresh F F' (intsH 2 cw to) ∧ cellsH b [fv, sw] 57 :: slH 116 3 sw (m + 1) (cs ++ [.int .i64 i, .int .i64 j, cw]) :: L = L') := by
 refine Does.of_X Tryz.func160 rfl rfl rfl ?_
 refine X.seq (X.region ?_)
 refine XL.cons (XOp.box [.int .i64 (i), .int .i64 (j), tov] rfl rfl ?_)
 intro b1
 refine XL.nil ?_
 refine X.weaken (Sub.front (A := [_, _])) ?_
 show X _ _ _ _ _ _ (slH 116 3 sv m cs :: cellsH b1 [.int .i64 (i), .int .i64 (j), tov] 116 :: cellsH b [fv, sv] 57 :: L)
 refine X.drawH [cellsH b1 [.int .i64 (i), .int .i64 (j), tov] 116, cellsH b [fv, sv] 57] L 15 [[], [], [], [], [], [], [], [], [], [], [], [], [11], [11], [11, 13]] [[], [], [1], [2], [3], [], [5], [], [7], [], [9], [10], [6, 8, 11], [11, 12], [4, 11, 13]] [[], [], [], [], [], [], [], [], [], [], [], [], [], [], [13]] (phiG [fun FF us v => v = ptr b 0, fun FF us v => v = ptr b 0, fun FF us v => v = ptr b 0, fun FF us v => v = ptr b 1, fun FF us v => v = sv, fun FF us v => v = ptr b1 0, fun FF us v => v = (.int .i64 (i) : Value), fun FF us v => v = ptr b1 1, fun FF us v => v = (.int .i64 (j) : Value), fun FF us v => v = ptr b1 2, fun FF us v => v = tov, fun FF us v => ((v) : Value) = v ∧ (IntsF FF (v) (to)) ∧ (FrIntsF F FF 2 (v) (to)), fun FF us v => v = (.agg #[.int .i64 (i), .int .i64 (j), ((us.getD 0 undef))] : Value), fun FF us v => ∃ b, v = .slice (some ⟨b, 0, none⟩) 1 1, fun FF us v => IsSl v]) (ownL [fun us v => [], fun us v => [], fun us v => [], fun us v => [], fun us v => [], fun us v => [], fun us v => [], fun us v => [], fun us v => [], fun us v => [], fun us v => [], fun us v => [], fun us v => [], fun us v => [slH 116 3 v 1 [.int .i64 (i), .int .i64 (j), ((us.getD 0 undef))]], fun us v => [slH 116 3 (us.getD 1 undef) 1 [.int .i64 (i), .int .i64 (j), ((us.getD 0 undef))], slH 116 3 (v) ((m) + 1) (cs ++ [.int .i64 (i), .int .i64 (j), ((us.getD 0 undef))])]]) (fun i => ([[], [], [], [], [], [], [], [], [], [], [], [], [], [], [slH 116 3 sv m cs]] : List (List HP)).getD i []) mixed rfl rfl (by kernel_rfl) (by kernel_rfl) (MonoG.get (MonoG.cons (fun le h => h) (MonoG.cons (fun le h => h) (MonoG.cons (fun le h => h) (MonoG.cons (fun le h => h) (MonoG.cons (fun le h => h) (MonoG.cons (fun le h => h) (MonoG.cons (fun le h => h) (MonoG.cons (fun le h => h) (MonoG.cons (fun le h => h) (MonoG.cons (fun le h => h) (MonoG.cons (fun le h => h) (MonoG.cons (fun le h => ⟨h.1, h.2.1.mono le, h.2.2.mono le⟩) (MonoG.cons (fun le h => h) (MonoG.cons (fun le h => h) (MonoG.cons (fun le h => h) MonoG.nil)))))))))))))))) ?_ ?_
 ·refine stepsT.cons (fun vals Fs R leFs hpZ => ?_) ?_
  ·refine XG.op (XOp.move (ptr b 0) rfl ?_)
   exact ⟨rfl, rfl⟩
  refine stepsT.cons (fun vals Fs R leFs hpZ => ?_) ?_
  ·refine XG.op (XOp.move (ptr b 0) rfl ?_)
   exact ⟨rfl, rfl⟩
  refine stepsT.cons (fun vals Fs R leFs hpZ => ?_) ?_
  ·replace hto := hto.mono leFs
   replace hC := hC.mono leFs
   rw [eS (l := [(1, ptr b 0)]) ⟨(hpZ 1 (by decide)), trivial⟩]
   refine XG.op (XOp.nilCheck (a := ⟨b, 0, none⟩) rfl ?_)
   exact ⟨rfl, rfl⟩
  refine stepsT.cons (fun vals Fs R leFs hpZ => ?_) ?_
  ·rw [eS (l := [(2, ptr b 0)]) ⟨(hpZ 2 (by decide)), trivial⟩]
   refine XG.op (XOp.fieldP (b := b) (1) Tryz.runUnderlying57 rfl Tryz.sizeOf55 (by decide) rfl rfl ?_)
   exact ⟨rfl, rfl⟩
  refine stepsT.cons (fun vals Fs R leFs hpZ => ?_) ?_
  ·replace hto := hto.mono leFs
   replace hC := hC.mono leFs
   rw [eS (l := [(3, ptr b 1)]) ⟨(hpZ 3 (by decide)), trivial⟩]
   refine XG.op (XOp.load1 (v := sv) Tryz.isAgg55 rfl (Rd.own [_] rfl rfl) ?_)
   exact ⟨rfl, rfl⟩
  refine stepsT.cons (fun vals Fs R leFs hpZ => ?_) ?_
  ·refine XG.op (XOp.fieldP (b := b1) (0) Tryz.runUnderlying116 rfl Tryz.sizeOf2 (by decide) rfl rfl ?_)
   exact ⟨rfl, rfl⟩
  refine stepsT.cons (fun vals Fs R leFs hpZ => ?_) ?_
  ·replace hto := hto.mono leFs
   replace hC := hC.mono leFs
   rw [eS (l := [(5, ptr b1 0)]) ⟨(hpZ 5 (by decide)), trivial⟩]
   refine XG.op (XOp.load1 (v := .int .i64 (i)) Tryz.isAgg2 rfl (Rd.own [] rfl rfl) ?_)
   exact ⟨rfl, rfl⟩
  refine stepsT.cons (fun vals Fs R leFs hpZ => ?_) ?_
  ·refine XG.op (XOp.fieldP (b := b1) (1) Tryz.runUnderlying116 rfl Tryz.sizeOf2 (by decide) rfl rfl ?_)
   exact ⟨rfl, rfl⟩
  refine stepsT.cons (fun vals Fs R leFs hpZ => ?_) ?_
  ·replace hto := hto.mono leFs
   replace hC := hC.mono leFs
   rw [eS (l := [(7, ptr b1 1)]) ⟨(hpZ 7 (by decide)), trivial⟩]
   refine XG.op (XOp.load1 (v := .int .i64 (j)) Tryz.isAgg2 rfl (Rd.own [] rfl rfl) ?_)
   exact ⟨rfl, rfl⟩
  refine stepsT.cons (fun vals Fs R leFs hpZ => ?_) ?_
  ·refine XG.op (XOp.fieldP (b := b1) (2) Tryz.runUnderlying116 rfl Tryz.sizeOf22 (by decide) rfl rfl ?_)
   exact ⟨rfl, rfl⟩
  refine stepsT.cons (fun vals Fs R leFs hpZ => ?_) ?_
  ·replace hto := hto.mono leFs
   replace hC := hC.mono leFs
   rw [eS (l := [(9, ptr b1 2)]) ⟨(hpZ 9 (by decide)), trivial⟩]
   refine XG.op (XOp.load1 (v := tov) Tryz.isAgg22 rfl (Rd.own [] rfl rfl) ?_)
   exact ⟨rfl, rfl⟩
  refine stepsT.cons (fun vals Fs R leFs hpZ => ?_) ?_
  ·replace hto := hto.mono leFs
   replace hC := hC.mono leFs
   rw [eS (l := [(10, tov)]) ⟨(hpZ 10 (by decide)), trivial⟩]
   refine XG.op (XOp.frzF <| XOp.call (args := [tov]) Tryz.call111 rfl (Clone_spec hto (hlt := (by first | assumption | rfl | omega | simp))) ?_)
   rintro v4 _ _ _ ⟨rfl, hs3, rfl⟩
   refine ⟨_, _, rfl, fun F1 le1 hz1 => ?_⟩
   replace hto := hto.mono le1
   replace hC := hC.mono le1
   have hf1 : IntsF F1 v4 ((to)) := intsH.fz (xs := (to)) hz1.fz
   exact ⟨⟨rfl, hf1, (hz1.base leFs)⟩, rfl⟩
  refine stepsT.cons (fun vals Fs R leFs hpZ => ?_) ?_
  ·obtain ⟨e11, f11_1ha, f11_1hz⟩ := hpZ 11 (by decide)
   replace hto := hto.mono leFs
   replace hC := hC.mono leFs
   rw [eS (l := [(6, (.int .i64 (i) : Value)), (8, (.int .i64 (j) : Value)), (11, ((vals 11)))]) ⟨(hpZ 6 (by decide)), (hpZ 8 (by decide)), (e11).symm, trivial⟩]
   refine XG.op (XOp.build [.int .i64 (i), .int .i64 (j), ((vals 11))] [.int .i64 (0), .int .i64 (0), (.slice none 0 0)] [(0, 1), (1, 1), (2, 1)] [(0, [.int .i64 (i)]), (1, [.int .i64 (j)]), (2, [((vals 11))])] Tryz.runUnderlying116 Tryz.zeroValue116 rfl (.cons rfl Tryz.sizeOf2 (.cons rfl Tryz.sizeOf2 (.cons rfl Tryz.sizeOf22 PlacesAre.nil))) rfl (.cons rfl (.cons rfl (.cons (cells_one (IntsF.isSl f11_1ha)) CellsAre.nil))) ?_)
   exact ⟨rfl, rfl⟩
  refine stepsT.cons (fun vals Fs R leFs hpZ => ?_) ?_
  ·obtain ⟨e11, f11_1ha, f11_1hz⟩ := hpZ 11 (by decide)
   have e12 : vals 12 = (.agg #[.int .i64 (i), .int .i64 (j), ((vals 11))] : Value) := hpZ 12 (by decide)
   replace hto := hto.mono leFs
   replace hC := hC.mono leFs
   rw [eS (l := [(11, ((vals 11))), (12, (.agg #[.int .i64 (i), .int .i64 (j), ((vals 11))] : Value))]) ⟨(e11).symm, e12, trivial⟩]
   refine XG.op (XOp.buildSlice (s := 3) [.int .i64 (i), .int .i64 (j), ((vals 11))] [.int .i64 (0), .int .i64 (0), (.slice none 0 0)] [(0, [.int .i64 (i), .int .i64 (j), ((vals 11))])] Tryz.runUnderlying55 Tryz.sizeOf116 Tryz.zeroValue116 rfl (by decide) rfl (.cons rfl CellsAre.nil) rfl ?_)
   intro v5 hv2
   exact ⟨hv2, rfl⟩
  refine stepsT.cons (fun vals Fs R leFs hpZ => ?_) ?_
  ·obtain ⟨e11, f11_1ha, f11_1hz⟩ := hpZ 11 (by decide)
   have f13 : ∃ b, (vals 13) = .slice (some ⟨b, 0, none⟩) 1 1 := hpZ 13 (by decide)
   replace hto := hto.mono leFs
   replace hC := hC.mono leFs
   rw [eS (l := [(4, sv), (11, ((vals 11)))]) ⟨(hpZ 4 (by decide)), (e11).symm, trivial⟩]
   show XG _ _ _ _ _ (slH 116 3 (vals 13) 1 [.int .i64 (i), .int .i64 (j), ((vals 11))] :: slH 116 3 sv m cs :: ([cellsH b1 [.int .i64 (i), .int .i64 (j), tov] 116, cellsH b [fv, sv] 57] ++ R)) _
   refine XG.op (XOp.append (m := 1) (bytes := 40) (cs := cs) [_] _ [.int .i64 (i), .int .i64 (j), ((vals 11))] Tryz.runUnderlying55 Tryz.typeInfo116 rfl rfl rfl rfl rfl rfl rfl (SlV.own [] rfl) rfl (Rd.lit [] rfl) (ones_cons rfl (ones_cons rfl (ones_cons (one_sl (IntsF.isSl f11_1ha)) ones_nil))) (by (try simp only [List.length_append, List.length_nil, List.length_cons, List.length_singleton]); omega) (by (try simp only [List.length_append, List.length_nil, List.length_cons, List.length_singleton]); omega) ?_)
   intro v6 hs4 hn2 hm2
   have hc2 := StepsC.snoc hC (i := i) (j := j) f11_1ha
   exact ⟨hs4, rfl⟩
  exact stepsT.nil
 ·intro vals F2 le2 hphi
  obtain ⟨e11, f11_1ha, f11_1hz⟩ := hphi 11 (by decide)
  have e12 : vals 12 = (.agg #[.int .i64 (i), .int .i64 (j), ((vals 11))] : Value) := hphi 12 (by decide)
  have f13 : ∃ b, (vals 13) = .slice (some ⟨b, 0, none⟩) 1 1 := hphi 13 (by decide)
  have f14 : IsSl (vals 14) := hphi 14 (by decide)
  generalize hu1 : ((vals 11)) = u1 at e11 f11_1ha f11_1hz e12 f13 f14
  generalize hu13 : vals 13 = u2 at e11 f11_1ha f11_1hz e12 f13 f14
  generalize hu14 : vals 14 = u3 at e11 f11_1ha f11_1hz e12 f13 f14
  rw [eS (l := [(0, ptr b 0), (1, ptr b 0), (2, ptr b 0), (3, ptr b 1), (4, sv), (5, ptr b1 0), (6, (.int .i64 (i) : Value)), (7, ptr b1 1), (8, (.int .i64 (j) : Value)), (9, ptr b1 2), (10, tov), (11, u1), (12, (.agg #[.int .i64 (i), .int .i64 (j), u1] : Value)), (13, u2), (14, u3)]) ⟨(hphi 0 (by decide)), (hphi 1 (by decide)), (hphi 2 (by decide)), (hphi 3 (by decide)), (hphi 4 (by decide)), (hphi 5 (by decide)), (hphi 6 (by decide)), (hphi 7 (by decide)), (hphi 8 (by decide)), (hphi 9 (by decide)), (hphi 10 (by decide)), hu1, e12, hu13, hu14, trivial⟩]
  replace hto := hto.mono le2
  replace hC := hC.mono le2
  have hc3 := StepsC.snoc hC (i := i) (j := j) f11_1ha
  show XL _ _ _ _ _ _ _ (slH 116 3 u2 1 [.int .i64 (i), .int .i64 (j), u1] :: slH 116 3 u3 ((m) + 1) (cs ++ [.int .i64 (i), .int .i64 (j), u1]) :: cellsH b1 [.int .i64 (i), .int .i64 (j), tov] 116 :: cellsH b [fv, sv] 57 :: L)
  skip
  refine XL.cons (XOp.nilCheck (a := ⟨b, 0, none⟩) rfl ?_)
  refine XL.cons (XOp.fieldP (b := b) (1) Tryz.runUnderlying57 rfl Tryz.sizeOf55 (by decide) rfl rfl ?_)
  refine XL.cons (XOp.store1 (v := u3) [_, _, _] _ [fv, u3] Tryz.sizeOf55 rfl rfl (one_sl f14) rfl rfl rfl ?_)
  refine XL.nil ?_
  refine id (retEndN (L' := cellsH b [fv, u3] 57 :: slH 116 3 u3 ((m) + 1) (cs ++ [.int .i64 (i), .int .i64 (j), u1]) :: L) [] (.tuple #[]) (by exact .nil) rfl le2 rF (Sub.trans (Sub.front (A := [_])) (Sub.trans (Sub.front (A := [_, _, _])) (Sub.cons (Sub.cons (Sub.drop (Sub.drop sR)))))) ?_)
  exact ⟨_, _, f14, f11_1ha, f11_1hz, rfl⟩

/- slices.Backward[[]impl.Step,impl.Step] -/
theorem backward_spec {F : FH} {L : List HP} {sv : Value} {s : List StepT} (hs : StepsF F sv s) :
    Does Tryz.prog 206 [sv] F (L) (fun v F' L' => ∃ (bt : Nat), (.func (.func 225) #[] #[ptr bt 0] : Value) = v ∧ FzC F' bt [sv] ∧ L = L') := by
 refine Does.of_X Tryz.func206 rfl rfl rfl ?_
 refine X.seq (X.region ?_)
 refine XL.cons (XOp.box [sv] rfl (cells_one (StepsF.isSl hs)) ?_)
 intro b1
 refine XL.as (.nilFunc) rfl ?_
 refine XL.nil (X.seq (X.region ?_))
 refine XL.cons (XOp.makeFuncL [] [ptr b1 0] rfl rfl ?_)
 refine XL.as (.func (.func 225) #[] #[ptr b1 0]) rfl ?_
 refine XL.nil ?_
 refine X.freeze [] _ _ rfl (fun F1 le1 hz1 => ?_)
 replace hs := hs.mono le1
 have hf1 : FzC F1 b1 [sv] := Fz.cells hz1
 refine X.ret (retEnd (L' := L) [.func (.func 225) #[] #[ptr b1 0]] (.func (.func 225) #[] #[ptr b1 0]) (.tmp rfl .nil) rfl le1 rF sR ?_)
 exact ⟨_, rfl, hf1, rfl⟩

/- slices.Backward[[]impl.Step,impl.Step]$1 -/
set_option maxRecDepth 20000 in
theorem backIt_spec {F : FH} {L : List HP} {l bt : Nat} {R : Loop} {sv : Value} {ss : List StepT} (hbt : FzC F bt [sv]) (hs : StepsF F sv ss) (hsl : ss.length ≤ 4000000) {J : Nat → FH → List HP → Prop} (hJ0 : J ss.length F L) (hyes : ∀ (k : Nat) (i : Int) (Fy : FH) (Ly : List HP) (tov : Value), k < ss.length → F ≤ Fy → J (k + 1) Fy Ly → IntsF Fy tov (ss.getD k (0, 0, [])).2.2 → i = (k : Int) → Yld Tryz.prog l [.int .i64 i, .agg #[.int .i64 (ss.getD k (0, 0, [])).1, .int .i64 (ss.getD k (0, 0, [])).2.1, tov]] Fy (objH l (.loop R) :: Ly) (fun v F' L' => .bool true = v ∧ ∃ L2, J k F' L2 ∧ objH l (.loop R) :: L2 = L')) :
    Does Tryz.prog 225 [(.func (.yield l) #[] #[]), ptr bt 0] F (objH l (.loop R) :: L) (fun v F' L' => ∃ L2, J 0 F' L2 ∧ objH l (.loop R) :: L2 = L') := by
 refine Does.of_X Tryz.func225 rfl rfl rfl ?_
 refine X.seq (X.region ?_)
 refine XL.cons (XOp.load1 (v := sv) Tryz.isAgg55 rfl (FzC.rd1 hbt rfl) ?_)
 refine XL.cons (XOp.lenS (v := sv) (n := (ss).length) Tryz.runUnderlying55 rfl hs.slv ?_)
 refine XL.cons (XOp.subR (a := (ss.length : Int)) (b := 1) (((ss.length : Int)) - 1) rfl rfl (by omega) (by omega) ?_)
 refine XL.as (.int .i64 (((ss.length : Int)) - 1)) rfl ?_
 refine XL.nil (X.block ?_)
 refine X.loop (α := Nat × List HP × FH) (fun xQ => [(0, (.func (.yield l) #[] #[])), (1, ptr bt 0), (3, .int .i64 ((xQ.1 : Int) - 1))]) (fun xQ => objH l (.loop R) :: xQ.2.1) (fun xQ F' => xQ.2.2 = F' ∧ F ≤ xQ.2.2 ∧ (xQ.1 ≤ ss.length) ∧ (J xQ.1 xQ.2.2 xQ.2.1)) (fun xQ => xQ.1) (ss.length, L, F) ⟨rfl, rfl, rfl, trivial⟩ (Sub.cons sR) ⟨rfl, FLe.refl _, (Nat.le_refl _), (hJ0)⟩ ?_
 rintro ⟨j, Lk, G1⟩ rE _ _ ⟨rfl, leG, hj, hJ⟩
 show X _ _ _ _ (envs [(0, (.func (.yield l) #[] #[])), (1, ptr bt 0), (3, .int .i64 ((j : Int) - 1))] rE) _ (objH l (.loop R) :: Lk)
 replace leG : F ≤ G1 := leG
 dsimp only at hj hJ
 have hjl : j - 1 < ss.length ∨ j = 0 := by omega
 have leG1 := leG
 replace hs := hs.mono leG1
 replace hbt := hbt.mono leG1
 refine X.seq (X.seq (X.region ?_))
 refine XL.mv (.int .i64 ((j : Int) - 1)) rfl ?_
 refine XL.cons (XOp.geq (a := (j : Int) - 1) (b := 0) rfl rfl ?_)
 refine XL.nil ?_
 refine X.condD (p := ((j : Int) - 1 : Int) ≥ 0) rfl (fun h1 => ?_) (fun h1 => ?_)
 ·have hj0 : ((j : Int) - 1).toNat = j - 1 := by omega
  have hjk : ((j : Int) - 1) = ((j - 1 : Nat) : Int) := by omega
  refine X.skip (X.seq (X.block (X.seq ?_)))
  refine X.ofI (by kernel_rfl) ?_
  refine XI.region ?_
  refine XIL.cons (XOp.move ((.func (.yield l) #[] #[])) rfl ?_)
  refine XIL.cons (XOp.move (.int .i64 ((j : Int) - 1)) rfl ?_)
  refine XIL.cons (XOp.load1 (v := sv) Tryz.isAgg55 rfl (FzC.rd1 hbt rfl) ?_)
  refine XIL.cons (XOp.move (.int .i64 ((j : Int) - 1)) rfl ?_)
  refine XIL.cons (XOp.indexS (v := sv) (i := (j : Int) - 1) (n := (ss).length) (((j : Int) - 1).toNat) Tryz.runUnderlying55 Tryz.sizeOf116 rfl rfl (by omega) hs.slv (by omega) rfl ?_)
  obtain ⟨a1, ha1, hr1, hr2, hr3⟩ := hs.rd (i := ((j : Int) - 1).toNat) (by omega)
  refine XIL.cons (XOp.loadN [.int .i64 ((ss.getD (((j : Int) - 1).toNat) (0, 0, [])).1), .int .i64 ((ss.getD (((j : Int) - 1).toNat) (0, 0, [])).2.1), a1] Tryz.isAgg116 Tryz.sizeOf116 rfl rfl (Rd.three (hr1 _) (hr2 _) (hr3 _)) ?_)
  refine XIL.yield (k := l) (args := [.int .i64 ((j : Int) - 1), .agg #[.int .i64 ((ss.getD (((j : Int) - 1).toNat) (0, 0, [])).1), .int .i64 ((ss.getD (((j : Int) - 1).toNat) (0, 0, [])).2.1), a1]]) rfl (by rfl) ?_
  refine Yld.weaken (Sub.cons sR) ?_
  have hJ9 : J ((((j : Int) - 1).toNat) + 1) G1 Lk := by rw [show ((j : Int) - 1).toNat + 1 = j from by omega]; exact hJ
  refine (hyes _ _ _ _ _ (by omega) leG1 hJ9 ha1 (by omega)).mono ?_
  rintro _ F1 _ le1 ⟨rfl, Lj1, hJ1, rfl⟩
  rw [hj0] at hJ1
  replace hs := hs.mono le1
  replace hbt := hbt.mono le1
  replace ha1 := ha1.mono le1
  replace hr1 := Rd.monoA hr1 le1
  replace hr2 := Rd.monoA hr2 le1
  replace hr3 := Rd.monoA hr3 le1
  show XIL _ _ _ _ _ _ _ _ _ (objH l (.loop R) :: Lj1)
  refine XIL.cons (XOp.notB (b := true) rfl ?_)
  refine XIL.nil ?_
  refine X.condF rfl ?_
  refine X.skip (X.region ?_)
  refine XL.mv (.int .i64 ((j : Int) - 1)) rfl ?_
  refine XL.cons (XOp.subR (a := (j : Int) - 1) (b := 1) (((j : Int) - 1) - 1) rfl rfl (by omega) (by omega) ?_)
  refine XL.as (.int .i64 (((j : Int) - 1) - 1)) rfl ?_
  refine XL.nil ?_
  exact ⟨(j - 1, Lj1, F1), _, (FLe.trans leG1 le1), rF, ⟨rfl, rfl, (vI (by (try dsimp only); omega)), trivial⟩, (Sub.cons sR), ⟨rfl, (FLe.trans leG1 le1), (by (try dsimp only) <;> omega), (hJ1)⟩, (by (try dsimp only); omega)⟩
 ·refine X.exit (thenQ_exit (thenQ_exit (blockQ_exit ?_)))
  refine id (retEndN (L' := objH l (.loop R) :: Lk) [] (.tuple #[]) (by exact .nil) rfl leG1 rF (Sub.cons sR) ?_)
  obtain rfl : j = 0 := by omega
  exact ⟨_, hJ, rfl⟩

/- impl.walkBack -/
set_option maxRecDepth 20000 in
theorem walkBack_spec {F : FH} {L : List HP} {alv : Value} {al : List FoundT} {alcs : List Value} (hal : FoundsF F alv al alcs) {k : Nat} (hk : k < al.length) (hll : al.length ≤ 60) (hlk : Link al) (hbd : ∀ i, i < al.length → (EL al i).1.length ≤ 60) :
    Does Tryz.prog 159 [alv, .int .i64 ((k : Int))] F (L) (fun v F' L' => ∃ (a : Value), ∃ (b : Value), (.agg #[a, b] : Value) = v ∧ (IntsF F' a (EL al 0).1) ∧ (StepsF F' b (walkL al k)) ∧ (Fresh F F' (star [intsH 2 a (EL al 0).1, stepsD 2 116 b (walkL al k)])) ∧ L = L') := by
 refine Does.of_XF Tryz.func159 rfl (by kernel_rfl) rfl ?_
 have hbd0 : (al.getD 0 ([], 0, (0, 0, []), 0)).1.length ≤ 60 := hbd 0 (by omega)
 refine XF.seq ?_
 refine X.region ?_
 refine XL.cons (XOp.alloc [(.slice none 0 0), (.slice none 0 0)] Tryz.zeroValue57 rfl ?_)
 intro b1
 refine XL.nil ?_
 refine XF.seq ?_
 refine X.region ?_
 refine XL.mv (alv) rfl ?_
 refine XL.cons (XOp.indexS (v := alv) (i := 0) (n := (al).length) 0 Tryz.runUnderlying179 Tryz.sizeOf183 rfl rfl rfl hal.slv (by omega) rfl ?_)
 refine XL.cons (XOp.fieldE (v := alv) (0 * 6) Tryz.runUnderlying183 rfl Tryz.sizeOf22 (by decide) rfl rfl ?_)
 obtain ⟨a1, a2, ha1, ha2, hrg1, hq1⟩ := hal.rd (i := 0) (by omega)
 refine XL.cons (XOp.load1 (v := a1) Tryz.isAgg22 rfl (hrg1 _ 0 _ rfl) ?_)
 refine XL.cons (XOp.frzF <| XOp.call (args := [a1]) Tryz.call111 rfl (Clone_spec ha1 (hlt := (by first | assumption | rfl | omega | simp))) ?_)
 rintro v1 _ _ _ ⟨rfl, hs1, rfl⟩
 refine ⟨_, _, rfl, fun F1 le1 hz1 => ?_⟩
 replace hal := hal.mono le1
 replace ha1 := ha1.mono le1
 replace ha2 := ha2.mono le1
 replace hrg1 := fun L9 j9 u9 h9 => Rd.mono (hrg1 L9 j9 u9 h9) le1
 have hf1 : IntsF F1 v1 ((((al.getD 0 ([], 0, (0, 0, []), 0)).1))) := intsH.fz (xs := (((al.getD 0 ([], 0, (0, 0, []), 0)).1))) hz1.fz
 refine XL.cons (XOp.build [v1, (.slice none 0 0)] [(.slice none 0 0), (.slice none 0 0)] [(0, 1), (1, 1)] [(0, [v1])] Tryz.runUnderlying57 Tryz.zeroValue57 rfl (.cons rfl Tryz.sizeOf22 (.cons rfl Tryz.sizeOf55 PlacesAre.nil)) rfl (.cons (cells_one (IntsF.isSl hf1)) CellsAre.nil) ?_)
 refine XL.cons (XOp.alloc [(.slice none 0 0), (.slice none 0 0)] Tryz.zeroValue57 rfl ?_)
 intro b2
 refine XL.cons (XOp.storeN (vs := [v1, (.slice none 0 0)]) [] _ [v1, (.slice none 0 0)] Tryz.sizeOf57 rfl rfl rfl (ones_cons (one_sl (IntsF.isSl hf1)) (ones_cons rfl ones_nil)) rfl rfl rfl ?_)
 refine XL.nil ?_
 refine XF.seq ?_
 refine X.region ?_
 refine XL.as ((.slice none 0 0)) rfl ?_
 refine XL.nil ?_
 refine XF.seq ?_
 refine X.block ?_
 refine X.loop (α := Nat × Value × List StepT × List Value × Nat) (fun xQ => [(0, alv), (1, .int .i64 (((xQ.1 : Nat) : Int))), (4, ptr b1 0), (5, ptr b2 0), (6, xQ.2.1)]) (fun xQ => slH 116 3 xQ.2.1 xQ.2.2.2.2 xQ.2.2.2.1 :: cellsH b2 [v1, (.slice none 0 0)] 57 :: cellsH b1 [(.slice none 0 0), (.slice none 0 0)] 57 :: L) (fun xQ F' => F1 = F' ∧ (xQ.1 < al.length) ∧ (IsSl xQ.2.1) ∧ (StepsC F1 xQ.2.2.2.1 xQ.2.2.1) ∧ (xQ.2.2.2.2 = xQ.2.2.1.length) ∧ (xQ.2.2.2.2 + xQ.1 ≤ k) ∧ (backL al k = xQ.2.2.1 ++ backL al xQ.1)) (fun xQ => xQ.1) (k, (.slice none 0 0), [], [], 0) ⟨rfl, rfl, rfl, rfl, rfl, trivial⟩ (Sub.trans (Sub.addNil 116 3 _ _) (Sub.cons (Sub.cons (Sub.cons sR)))) ⟨rfl, (hk), (⟨_, _, _, rfl⟩), (CO.nil), (rfl), (by (try dsimp only) <;> omega), (rfl)⟩ ?_
 rintro ⟨j, sv, ss, cs, m⟩ rE _ _ ⟨rfl, hj, hsv, hC, hm, hmj, hbk⟩
 show X _ _ _ _ (envs [(0, alv), (1, .int .i64 ((j : Int))), (4, ptr b1 0), (5, ptr b2 0), (6, sv)] rE) _ (slH 116 3 sv m cs :: cellsH b2 [v1, (.slice none 0 0)] 57 :: cellsH b1 [(.slice none 0 0), (.slice none 0 0)] 57 :: L)
 dsimp only at hj hsv hC hm hmj hbk
 have hlj := fun (h : 0 < j) => hlk.2 j h hj
 have hljx : 0 < j → 0 ≤ (al.getD j ([], 0, (0, 0, []), 0)).2.1 ∧ (al.getD j ([], 0, (0, 0, []), 0)).2.1 < (j : Int) := fun h => ⟨(hlj h).1, (hlj h).2.1⟩
 refine X.seq (X.seq (X.region ?_))
 refine XL.mv (.int .i64 ((j : Int))) rfl ?_
 refine XL.cons (XOp.gtr (a := (j : Int)) (b := 0) rfl rfl ?_)
 refine XL.nil ?_
 refine X.condD (p := (j : Int) > 0) rfl (fun h1 => ?_) (fun h1 => ?_)
 ·refine X.skip (X.seq (X.block (X.region ?_)))
  refine XL.mv (sv) rfl ?_
  refine XL.mv (alv) rfl ?_
  refine XL.mv (.int .i64 ((j : Int))) rfl ?_
  refine XL.cons (XOp.indexS (v := alv) (i := (j : Int)) (n := (al).length) j Tryz.runUnderlying179 Tryz.sizeOf183 rfl rfl rfl hal.slv (by omega) rfl ?_)
  refine XL.cons (XOp.fieldE (v := alv) (j * 6 + 2) Tryz.runUnderlying183 rfl Tryz.sizeOf116 (by decide) rfl rfl ?_)
  obtain ⟨a3, a4, ha3, ha4, hrg2, hq2⟩ := hal.rd (i := j) (by omega)
  refine XL.cons (XOp.loadN [.int .i64 ((al.getD j ([], 0, (0, 0, []), 0)).2.2.1.1), .int .i64 ((al.getD j ([], 0, (0, 0, []), 0)).2.2.1.2.1), a4] Tryz.isAgg116 Tryz.sizeOf116 rfl rfl (Rd.part 2 (hrg2 _) rfl) ?_)
  refine XL.cons (XOp.buildSlice (s := 3) [.int .i64 ((al.getD j ([], 0, (0, 0, []), 0)).2.2.1.1), .int .i64 ((al.getD j ([], 0, (0, 0, []), 0)).2.2.1.2.1), a4] [.int .i64 (0), .int .i64 (0), (.slice none 0 0)] [(0, [.int .i64 ((al.getD j ([], 0, (0, 0, []), 0)).2.2.1.1), .int .i64 ((al.getD j ([], 0, (0, 0, []), 0)).2.2.1.2.1), a4])] Tryz.runUnderlying55 Tryz.sizeOf116 Tryz.zeroValue116 rfl (by decide) rfl (.cons rfl CellsAre.nil) rfl ?_)
  intro v2 hv1
  refine XL.cons (XOp.append (m := 1) (bytes := 40) (cs := cs) [_] _ [.int .i64 ((al.getD j ([], 0, (0, 0, []), 0)).2.2.1.1), .int .i64 ((al.getD j ([], 0, (0, 0, []), 0)).2.2.1.2.1), a4] Tryz.runUnderlying55 Tryz.typeInfo116 rfl rfl rfl rfl rfl rfl rfl (SlV.own [] rfl) rfl (Rd.lit [] rfl) (ones_cons rfl (ones_cons rfl (ones_cons (one_sl (IntsF.isSl ha4)) ones_nil))) (by (try simp only [List.length_append, List.length_nil, List.length_cons, List.length_singleton]); omega) (by (try simp only [List.length_append, List.length_nil, List.length_cons, List.length_singleton]); omega) ?_)
  intro v3 hs2 hn1 hm1
  have hc1 := StepsC.snoc hC (i := (al.getD j ([], 0, (0, 0, []), 0)).2.2.1.1) (j := (al.getD j ([], 0, (0, 0, []), 0)).2.2.1.2.1) ha4
  refine XL.as (v3) rfl ?_
  refine XL.nil (X.region ?_)
  refine XL.mv (alv) rfl ?_
  refine XL.mv (.int .i64 ((j : Int))) rfl ?_
  refine XL.cons (XOp.indexS (v := alv) (i := (j : Int)) (n := (al).length) j Tryz.runUnderlying179 Tryz.sizeOf183 rfl rfl rfl hal.slv (by omega) rfl ?_)
  refine XL.cons (XOp.fieldE (v := alv) (j * 6 + 1) Tryz.runUnderlying183 rfl Tryz.sizeOf3 (by decide) rfl rfl ?_)
  refine XL.cons (XOp.load1 (v := .int .i64 ((al.getD j ([], 0, (0, 0, []), 0)).2.1)) Tryz.isAgg3 rfl (hrg2 _ 1 _ rfl) ?_)
  refine XL.as (.int .i64 ((al.getD j ([], 0, (0, 0, []), 0)).2.1)) rfl ?_
  refine XL.nil ?_
  exact ⟨((al.getD j ([], 0, (0, 0, []), 0)).2.1.toNat, v3, ss ++ [((al.getD j ([], 0, (0, 0, []), 0)).2.2.1.1, (al.getD j ([], 0, (0, 0, []), 0)).2.2.1.2.1, (al.getD j ([], 0, (0, 0, []), 0)).2.2.1.2.2)], cs ++ [.int .i64 ((al.getD j ([], 0, (0, 0, []), 0)).2.2.1.1), .int .i64 ((al.getD j ([], 0, (0, 0, []), 0)).2.2.1.2.1), a4], (m) + 1), _, FLe.refl _, rF, ⟨rfl, (vI (by have := hljx (by omega); (try dsimp only); omega)), rfl, rfl, rfl, trivial⟩, (Sub.drop (Sub.cons (Sub.cons (Sub.cons sR)))), ⟨rfl, (by have := hljx (by omega); (try dsimp only); omega), (hs2), (hc1), (by (try dsimp only); rw [List.length_append, List.length_singleton]; omega), (by have := hljx (by omega); (try dsimp only); omega), (by (try dsimp only); rw [hbk, backL_succ hlk (by omega) hj, List.append_assoc]; rfl)⟩, (by have := hljx (by omega); (try dsimp only); omega)⟩
 ·refine X.exit (thenQ_exit (thenQ_exit (blockQ_exit ?_)))
  refine XF.ofR ?_
  refine XR.seq ?_
  refine X.region ?_
  skip
  refine XL.mv (sv) rfl ?_
  refine XL.freezeF [] _ _ rfl (fun F2 le2 hz2 => ?_)
  replace hal := hal.mono le2
  replace ha1 := ha1.mono le2
  replace ha2 := ha2.mono le2
  replace hf1 := hf1.mono le2
  replace hC := hC.mono le2
  have hf2 : StepsF F2 sv ss := CO.fz hC (by first | rfl | simp | omega) hz2.fz
  refine XL.cons (XOp.call (args := [sv]) Tryz.call206 rfl (backward_spec hf2) ?_)
  rintro _ F3 _ le3 ⟨x1, rfl, hb1, rfl⟩
  replace hal := hal.mono le3
  replace ha1 := ha1.mono le3
  replace ha2 := ha2.mono le3
  replace hf1 := hf1.mono le3
  replace hC := hC.mono le3
  replace hf2 := hf2.mono le3
  refine XL.nil ?_
  refine XR.rangeB (gf := 225) (lb := [ptr x1 0]) rfl Tryz.call225 (fun l D R hRs hRp hRps hRa hRb hRz hRg => ?_)
  have hR0 : ({ R with state := .ready, pending := none } : Loop) = R := by
   cases R
   simp only at hRs hRp
   subst hRs hRp
   rfl
  have hssb : ss = backL al k := by rw [hbk, show j = 0 from by omega, backL_zero, List.append_nil]
  have htb : ∀ i, i < ss.length → (ss.getD i (0, 0, [])).2.2.length ≤ 60 := fun i hi => by
   obtain ⟨q, hq, he⟩ := backL_mem hlk k k (Nat.le_refl _) hk (ss.getD i (0, 0, [])) (by rw [← hssb]; simp [List.getD, hi])
   rw [he]; exact hbd q hq
  have hyes : ∀ (k : Nat) (i : Int) (Fy : FH) (Ly : List HP) (tov : Value), k < ss.length → F3 ≤ Fy → (WJ F3 2 116 57 b2 v1 ss (objH D (.deferred (some [])) :: cellsH b1 [(.slice none 0 0), (.slice none 0 0)] 57 :: L)) (k + 1) Fy Ly → IntsF Fy tov (ss.getD k (0, 0, [])).2.2 → i = (k : Int) → Yld Tryz.prog l [.int .i64 i, .agg #[.int .i64 (ss.getD k (0, 0, [])).1, .int .i64 (ss.getD k (0, 0, [])).2.1, tov]] Fy (objH l (.loop R) :: Ly) (fun v F' L' => .bool true = v ∧ ∃ L2, (WJ F3 2 116 57 b2 v1 ss (objH D (.deferred (some [])) :: cellsH b1 [(.slice none 0 0), (.slice none 0 0)] 57 :: L)) k F' L2 ∧ objH l (.loop R) :: L2 = L') := by
   intro k i Fy Ly tov hk9 leF hJ hto hi
   obtain ⟨sv8, ss8, cs8, Ls8, m8, hsv8, hC8, hm8, hDp, hZ, hss8, rfl⟩ := hJ
   have hssl : ss8.length ≤ 60 := by rw [hss8, List.length_reverse, List.length_drop]; omega
   have htob := htb k hk9
   refine Yld.of_round hRs hRp hRps hRa hRb hRz hRg rfl (by kernel_rfl) (by kernel_rfl) (by kernel_rfl) ?_
   refine XI.slots [(32, .int .i64 (i)), (33, .agg #[.int .i64 ((ss.getD k (0, 0, [])).1), .int .i64 ((ss.getD k (0, 0, [])).2.1), tov]), (5, ptr b2 0)] ⟨rfl, rfl, rfl, trivial⟩ (fun rE => ?_)
   refine XI.region ?_
   refine XIL.cons (XOp.alloc [.int .i64 (0), .int .i64 (0), (.slice none 0 0)] Tryz.zeroValue116 rfl ?_)
   intro b3
   refine XIL.cons (XOp.storeN (vs := [.int .i64 ((ss.getD k (0, 0, [])).1), .int .i64 ((ss.getD k (0, 0, [])).2.1), tov]) [] _ [.int .i64 ((ss.getD k (0, 0, [])).1), .int .i64 ((ss.getD k (0, 0, [])).2.1), tov] Tryz.sizeOf116 rfl rfl rfl (ones_cons rfl (ones_cons rfl (ones_cons (one_sl (IntsF.isSl hto)) ones_nil))) rfl rfl rfl ?_)
   refine XIL.nil ?_
   refine ⟨cellsH b3 [.int .i64 ((ss.getD k (0, 0, [])).1), .int .i64 ((ss.getD k (0, 0, [])).2.1), tov] 116 :: cellsH b2 [v1, sv8] 57 :: slH 116 3 sv8 m8 cs8 :: objH D (.deferred (some [])) :: cellsH b1 [(.slice none 0 0), (.slice none 0 0)] 57 :: L, (Sub.trans (Sub.front (A := [_, _, _])) (Sub.trans (Sub.front (A := [_, _, _])) (Sub.trans (Sub.front (A := [_, _])) (Sub.trans (Sub.front (A := [_, _, _])) (Sub.cons (Sub.cons (Sub.cons (Sub.cons sR)))))))), ?_⟩
   refine XI.block ?_
   refine XI.region ?_
   refine XIL.cons (XOp.loadN [.int .i64 ((ss.getD k (0, 0, [])).1), .int .i64 ((ss.getD k (0, 0, [])).2.1), tov] Tryz.isAgg116 Tryz.sizeOf116 rfl rfl (Rd.ownN [_] rfl rfl) ?_)
   refine XIL.weaken (Sub.front (A := [_, _, _])) ?_
   show XIL _ _ _ _ _ _ _ _ _ (slH 116 3 sv8 m8 cs8 :: objH l (.loop { R with state := .busy }) :: cellsH b3 [.int .i64 ((ss.getD k (0, 0, [])).1), .int .i64 ((ss.getD k (0, 0, [])).2.1), tov] 116 :: cellsH b2 [v1, sv8] 57 :: objH D (.deferred (some [])) :: cellsH b1 [(.slice none 0 0), (.slice none 0 0)] 57 :: L)
   refine XIL.weaken (Sub.front (A := [_, _, _])) ?_
   show XIL _ _ _ _ _ _ _ _ _ (cellsH b2 [v1, sv8] 57 :: slH 116 3 sv8 m8 cs8 :: objH l (.loop { R with state := .busy }) :: cellsH b3 [.int .i64 ((ss.getD k (0, 0, [])).1), .int .i64 ((ss.getD k (0, 0, [])).2.1), tov] 116 :: objH D (.deferred (some [])) :: cellsH b1 [(.slice none 0 0), (.slice none 0 0)] 57 :: L)
   refine XIL.cons (XOp.call (args := [ptr b2 0, .agg #[.int .i64 ((ss.getD k (0, 0, [])).1), .int .i64 ((ss.getD k (0, 0, [])).2.1), tov]]) Tryz.call160 rfl (walkAdd_spec hto hsv8 hC8 (by first | rfl | assumption | omega) (by omega) (by omega)) ?_)
   rintro _ F4 _ le4 ⟨sw1, cw1, hs3, hw1, hf3, rfl⟩
   replace hC8 := hC8.mono le4
   replace hto := hto.mono le4
   have hc2 := StepsC.snoc hC8 (i := (ss.getD k (0, 0, [])).1) (j := (ss.getD k (0, 0, [])).2.1) hw1
   show XIL _ _ _ _ _ _ _ _ _ (cellsH b2 [v1, sw1] 57 :: slH 116 3 sw1 ((m8) + 1) ((cs8 ++ [.int .i64 ((ss.getD k (0, 0, [])).1), .int .i64 ((ss.getD k (0, 0, [])).2.1), cw1])) :: objH l (.loop { R with state := .busy }) :: cellsH b3 [.int .i64 ((ss.getD k (0, 0, [])).1), .int .i64 ((ss.getD k (0, 0, [])).2.1), tov] 116 :: objH D (.deferred (some [])) :: cellsH b1 [(.slice none 0 0), (.slice none 0 0)] 57 :: L)
   refine XIL.nil ?_
   refine ⟨rfl, ?_⟩
   refine ⟨cellsH b2 [v1, sw1] 57 :: slH 116 3 sw1 ((m8) + 1) ((cs8 ++ [.int .i64 ((ss.getD k (0, 0, [])).1), .int .i64 ((ss.getD k (0, 0, [])).2.1), cw1])) :: objH D (.deferred (some [])) :: cellsH b1 [(.slice none 0 0), (.slice none 0 0)] 57 :: L, (Sub.trans (Sub.front (A := [_])) (Sub.trans (Sub.front (A := [_])) (Sub.trans (Sub.front (A := [_, _])) (Sub.cons (Sub.cons (Sub.cons (Sub.drop sR))))))), ?_⟩
   rw [hR0]
   exact ⟨rfl, _, ⟨_, _, _, _, _, hs3, hc2, by rw [List.length_append, List.length_singleton]; omega, DeepL.snoc hDp rfl ⟨_, rfl, rfl⟩, (Fresh.app hZ leF (Fresh.one hf3) le4), by rw [hss8]; exact (drop_rev (0, 0, []) hk9).symm, rfl⟩, rfl⟩
  refine (Does.weaken (Sub.trans (Sub.addNil 116 3 none _) (Sub.trans (Sub.front (A := [_, _, _, _])) (Sub.trans (Sub.front (A := [_, _, _])) (Sub.trans (Sub.front (A := [_, _])) (Sub.trans (Sub.front (A := [_, _, _, _])) (Sub.trans (Sub.front (A := [_, _, _, _])) (Sub.cons (Sub.cons (Sub.cons (Sub.cons (Sub.cons sR))))))))))) (backIt_spec (J := (WJ F3 2 116 57 b2 v1 ss (objH D (.deferred (some [])) :: cellsH b1 [(.slice none 0 0), (.slice none 0 0)] 57 :: L))) hb1 hf2 (by omega) WJ.start hyes)).mono ?_
  rintro _ F9 _ le9 ⟨L9, ⟨sv9, ss9, cs9, Ls9, m9, hsv9, hC9, hm9, hD9, hZ9, hss9, rfl⟩, rfl⟩
  replace hal := hal.mono le9
  replace ha1 := ha1.mono le9
  replace ha2 := ha2.mono le9
  replace hf1 := hf1.mono le9
  replace hC := hC.mono le9
  replace hf2 := hf2.mono le9
  replace hb1 := hb1.mono le9
  rw [List.drop_zero] at hss9
  refine ⟨R, cellsH b2 [v1, sv9] 57 :: slH 116 3 sv9 m9 cs9 :: cellsH b1 [(.slice none 0 0), (.slice none 0 0)] 57 :: L, by rw [hRs]; simp, hRp, (Sub.trans (Sub.front (A := [_, _, _, _])) (Sub.trans (Sub.front (A := [_, _, _])) (Sub.trans (Sub.front (A := [_, _, _])) (Sub.trans (Sub.front (A := [_, _, _, _])) (Sub.trans (Sub.front (A := [_, _, _, _])) (Sub.cons (Sub.cons (Sub.cons (Sub.cons (Sub.cons sR)))))))))), ?_⟩
  refine XI.seq ?_
  refine XI.region ?_
  refine XIL.cons (XOp.loadN [v1, sv9] Tryz.isAgg57 Tryz.sizeOf57 rfl rfl (Rd.ownN [_] rfl rfl) ?_)
  refine XIL.cons (XOp.storeN (vs := [v1, sv9]) [_, _, _] _ [v1, sv9] Tryz.sizeOf57 rfl rfl rfl (ones_cons (one_sl (IntsF.isSl hf1)) (ones_cons (one_sl hsv9) ones_nil)) rfl rfl rfl ?_)
  refine XIL.nil ?_
  refine XI.freezeF [_, _] _ _ rfl (fun F5 le5 hz3 => ?_)
  replace hal := hal.mono le5
  replace ha1 := ha1.mono le5
  replace ha2 := ha2.mono le5
  replace hf1 := hf1.mono le5
  replace hC := hC.mono le5
  replace hf2 := hf2.mono le5
  replace hb1 := hb1.mono le5
  replace hC9 := hC9.mono le5
  have hf4 : StepsF F5 sv9 ss9 := CO.fz hC9 (by first | rfl | simp | omega) hz3.fz
  refine XI.ret (retEndC (L' := L) (cellsH b2 [v1, sv9] 57 :: cellsH b1 [v1, sv9] 57 :: L) [.agg #[v1, sv9]] (.agg #[v1, sv9]) (.cell rfl (loadNV [v1, sv9] Tryz.isAgg57 Tryz.sizeOf57 rfl (Rd.ownN [_, _] rfl rfl)) .nil) rfl (FLe.trans (FLe.trans (FLe.trans (FLe.trans le1 le2) le3) le9) le5) rF (Sub.cons (Sub.cons (Sub.cons sR))) (Sub.drop (Sub.drop sR)) ?_)
  have e9 : ss9 = walkL al k := by rw [hss9]; unfold walkL; rw [hbk, show j = 0 from by omega, backL_zero, List.append_nil]
  rw [← e9]
  exact ⟨_, _, rfl, hf1, hf4, (Fresh.app ((Fresh.one hz1).mono (FLe.trans le2 le3)) (FLe.trans (FLe.trans le1 le2) le3) (Fresh.one (Fresh.deep hD9 hZ9 le9 hz3 (by omega) le5)) (FLe.trans le9 le5)), rfl⟩
end Go.Proofs.YtiaanelimbmniaaGreat
set_option linter.unusedSimpArgs false
set_option linter.unusedVariables false
namespace Go.Proofs.YtiaanelimbmniaaGreat
open Go X M
end Go.Proofs.YtiaanelimbmniaaGreat
