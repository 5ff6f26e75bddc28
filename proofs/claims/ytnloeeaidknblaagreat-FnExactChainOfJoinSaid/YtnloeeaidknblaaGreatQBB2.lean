/-
  Walks, one after the other (part 3).
-/
import Derived.Test.YtnloeeaidknblaaGreatQBL1
import Derived.Test.YtnloeeaidknblaaGreatQBB1
set_option linter.unusedSimpArgs false
set_option linter.unusedVariables false
namespace Go.Proofs.YtnloeeaidknblaaGreat
open Go X M

/- laws.markInt64S -/
theorem markInt64S_spec {F : FH} {L : List HP} {xv : Value} {x : List Int} {z : Int} (hz : 0 ≤ z ∧ z + (((x)).length : Int) ≤ 9000000000) :
    Does Tryz.prog 26 [xv, .int .i64 (z)] F (intsH 2 xv x :: L) (fun v F' L' => ∃ x' : List Int, ((x')) = iota z ((x)).length ∧ (.int .i64 (z + (((x)).length : Int)) : Value) = v ∧ F = F' ∧ intsH 2 xv x' :: L = L') := by
 refine Does.of_X Tryz.func26 rfl rfl rfl ?_
 refine X.seq (X.region ?_)
 refine XL.as (.int .i64 (0)) rfl ?_
 refine XL.nil (X.seq (X.seq (X.region ?_)))
 refine XL.as (.int .i64 (0)) rfl ?_
 refine XL.nil (X.block ?_)
 refine X.loop (α := Nat × List Int) (fun xQ => [(0, xv), (1, .int .i64 (z + ((xQ.1 : Nat) : Int))), (5, .int .i64 (((xQ.1 : Nat) : Int)))]) (fun xQ => intsH 2 xv xQ.2 :: L) (fun xQ F' => F = F' ∧ (xQ.1 ≤ x.length) ∧ (xQ.2 = iota z xQ.1 ++ x.drop xQ.1) ∧ (xQ.2.length = x.length)) (fun xQ => x.length - xQ.1) (0, x) ⟨rfl, (show Value.int .i64 z = .int .i64 (z + ((0 : Nat) : Int)) from congrArg (Value.int .i64) (by omega)), rfl, trivial⟩ (Sub.cons sR) ⟨rfl, (by (try dsimp only) <;> omega), (by rw [iota_zero]; rfl), (rfl)⟩ ?_
 rintro ⟨k, os⟩ rE _ _ ⟨rfl, hk, hos, hol⟩
 show X _ _ _ _ (envs [(0, xv), (1, .int .i64 (z + (k : Int))), (5, .int .i64 ((k : Int)))] rE) _ (intsH 2 xv os :: L)
 dsimp only at hk hos hol
 refine X.seq (X.seq (X.region ?_))
 refine XL.mv (.int .i64 ((k : Int))) rfl ?_
 refine XL.mv (xv) rfl ?_
 refine XL.cons (XOp.lenS (v := xv) (n := os.length) Tryz.runUnderlying22 rfl (intsH.slv [] rfl) ?_)
 refine XL.cons (XOp.lss (a := (k : Int)) (b := (os.length : Int)) rfl rfl ?_)
 refine XL.nil ?_
 refine X.condD (p := (k : Int) < (os.length : Int)) rfl (fun h1 => ?_) (fun h1 => ?_)
 ·refine X.skip (X.seq (X.block (X.seq (X.region ?_))))
  refine XL.mv (xv) rfl ?_
  refine XL.mv (.int .i64 ((k : Int))) rfl ?_
  refine XL.mv (.int .i64 (z + (k : Int))) rfl ?_
  refine XL.cons (XOp.indexS (v := xv) (i := (k : Int)) (n := os.length) k Tryz.runUnderlying22 Tryz.sizeOf2 rfl rfl rfl (intsH.slv [] rfl) (by omega) (Nat.mul_one _) ?_)
  refine XL.cons (intsH.storeX (i := k) (v := xv) [] _ (os.set k (z + (k : Int))) Tryz.sizeOf2 rfl rfl rfl (by omega) rfl ?_)
  refine XL.nil (X.region ?_)
  refine XL.mv (.int .i64 (z + (k : Int))) rfl ?_
  refine XL.cons (XOp.addR (a := z + (k : Int)) (b := 1) ((z + (k : Int)) + 1) rfl rfl (by omega) (by omega) ?_)
  refine XL.as (.int .i64 ((z + (k : Int)) + 1)) rfl ?_
  refine XL.nil (X.region ?_)
  refine XL.mv (.int .i64 ((k : Int))) rfl ?_
  refine XL.cons (XOp.addR (a := (k : Int)) (b := 1) (((k + 1 : Nat) : Int)) rfl rfl (by omega) (by omega) ?_)
  refine XL.as (.int .i64 (((k + 1 : Nat) : Int))) rfl ?_
  refine XL.nil ?_
  exact ⟨(k + 1, (os.set k (z + (k : Int)))), _, FLe.refl _, rF, ⟨rfl, (vI (by omega)), rfl, trivial⟩, (Sub.cons sR), ⟨rfl, (by (try dsimp only) <;> omega), (by dsimp only; rw [hos]; exact iota_set (by omega)), (by dsimp only; rw [List.length_set]; exact hol)⟩, (by omega)⟩
 ·refine X.exit (thenQ_exit (thenQ_exit (blockQ_exit ?_)))
  refine X.seq (X.region ?_)
  refine XL.mv (.int .i64 (z + (k : Int))) rfl ?_
  refine XL.as (.int .i64 (z + (k : Int))) rfl ?_
  refine XL.nil ?_
  refine X.ret (retEnd (L' := intsH 2 xv os :: L) [.int .i64 (z + (k : Int))] (.int .i64 (z + (k : Int))) (.tmp rfl .nil) rfl rF rF (Sub.cons sR) ?_)
  have hkl : k = x.length := by omega
  subst hkl
  exact ⟨os, by rw [hos, List.drop_eq_nil_of_le (Nat.le_refl _), List.append_nil], rfl, rfl, rfl⟩

/- laws.heldInt64S -/
theorem heldInt64S_spec {F : FH} {L : List HP} {xv : Value} {x : List Int} (hx : IntsF F xv x) {z : Int} (hzb : 0 ≤ z ∧ z + (x.length : Int) ≤ 9000000000) :
    Does Tryz.prog 27 [xv, .int .i64 (z)] F (L) (fun v F' L' => (.int .i64 (heldF x z) : Value) = v ∧ F = F' ∧ L = L') := by
 refine Does.of_X Tryz.func27 rfl rfl rfl ?_
 refine X.seq (X.region ?_)
 refine XL.as (.int .i64 (0)) rfl ?_
 refine XL.nil (X.seq (X.seq (X.region ?_)))
 refine XL.as (.int .i64 (0)) rfl ?_
 refine XL.nil (X.block ?_)
 refine X.loop (α := Nat) (fun k => [(0, xv), (1, .int .i64 (z + (k : Int))), (5, .int .i64 ((k : Int)))]) (fun k => L) (fun k F' => F = F' ∧ (k ≤ x.length) ∧ (x.take k = iota z k)) (fun k => x.length - k) 0 ⟨rfl, (show Value.int .i64 z = .int .i64 (z + ((0 : Nat) : Int)) from congrArg (Value.int .i64) (by omega)), rfl, trivial⟩ sR ⟨rfl, (by (try dsimp only) <;> omega), (rfl)⟩ ?_
 rintro k rE _ _ ⟨rfl, hk, hos⟩
 show X _ _ _ _ (envs [(0, xv), (1, .int .i64 (z + (k : Int))), (5, .int .i64 ((k : Int)))] rE) _ (L)
 refine X.seq (X.seq (X.region ?_))
 refine XL.mv (.int .i64 ((k : Int))) rfl ?_
 refine XL.mv (xv) rfl ?_
 refine XL.cons (XOp.lenS (v := xv) (n := (x).length) Tryz.runUnderlying22 rfl hx.slv ?_)
 refine XL.cons (XOp.lss (a := (k : Int)) (b := (x.length : Int)) rfl rfl ?_)
 refine XL.nil ?_
 refine X.condD (p := (k : Int) < (x.length : Int)) rfl (fun h1 => ?_) (fun h1 => ?_)
 ·refine X.skip (X.seq (X.block (X.seq (X.seq (X.region ?_)))))
  refine XL.mv (xv) rfl ?_
  refine XL.mv (.int .i64 ((k : Int))) rfl ?_
  refine XL.cons (XOp.indexS (v := xv) (i := (k : Int)) (n := (x).length) k Tryz.runUnderlying22 Tryz.sizeOf2 rfl rfl rfl hx.slv (by omega) (Nat.mul_one _) ?_)
  refine XL.cons (XOp.load1 (v := .int .i64 (x.getD k 0)) Tryz.isAgg2 rfl (hx.rd (by omega)) ?_)
  refine XL.mv (.int .i64 (z + (k : Int))) rfl ?_
  refine XL.cons (XOp.neq (a := x.getD k 0) (b := z + (k : Int)) rfl rfl ?_)
  refine XL.nil ?_
  refine X.condD (p := (x.getD k 0 : Int) ≠ z + (k : Int)) rfl (fun h2 => ?_) (fun h2 => ?_)
  ·refine X.seq (X.region ?_)
   refine XL.as (.int .i64 (-1)) rfl ?_
   refine XL.nil ?_
   refine X.ret (thenQ_ret (blockQ_ret (thenQ_ret (thenQ_ret (blockQ_ret (thenQ_ret (retEnd (L' := L) [.int .i64 (-1)] (.int .i64 (-1)) (.tmp rfl .nil) rfl rF rF sR ?_)))))))
   exact ⟨(vI (heldF_snoc_no (i := k) (by omega) (by assumption))), rfl, rfl⟩
  ·refine X.skip (X.region ?_)
   refine XL.mv (.int .i64 (z + (k : Int))) rfl ?_
   refine XL.cons (XOp.addR (a := z + (k : Int)) (b := 1) ((z + (k : Int)) + 1) rfl rfl (by omega) (by omega) ?_)
   refine XL.as (.int .i64 ((z + (k : Int)) + 1)) rfl ?_
   refine XL.nil (X.region ?_)
   refine XL.mv (.int .i64 ((k : Int))) rfl ?_
   refine XL.cons (XOp.addR (a := (k : Int)) (b := 1) (((k + 1 : Nat) : Int)) rfl rfl (by omega) (by omega) ?_)
   refine XL.as (.int .i64 (((k + 1 : Nat) : Int))) rfl ?_
   refine XL.nil ?_
   exact ⟨k + 1, _, FLe.refl _, rF, ⟨rfl, (vI (by omega)), rfl, trivial⟩, sR, ⟨rfl, (by (try dsimp only) <;> omega), (by (try dsimp only); rw [take_succ_getD 0 (by omega), hos, iota_succ]; congr 2; first | assumption | exact Classical.not_not.1 (by assumption) | omega)⟩, (by omega)⟩
 ·refine X.exit (thenQ_exit (thenQ_exit (blockQ_exit ?_)))
  refine X.seq (X.region ?_)
  refine XL.mv (.int .i64 (z + (k : Int))) rfl ?_
  refine XL.as (.int .i64 (z + (k : Int))) rfl ?_
  refine XL.nil ?_
  refine X.ret (retEnd (L' := L) [.int .i64 (z + (k : Int))] (.int .i64 (z + (k : Int))) (.tmp rfl .nil) rfl rF rF sR ?_)
  exact ⟨(vI (held_all (by omega) hos)), rfl, rfl⟩

/- laws.markSig -/
theorem markSig_spec {F : FH} {L : List HP} {xv : Value} {x : List Int} {z : Int} (hz : 0 ≤ z ∧ z + (((x)).length : Int) ≤ 9000000000) :
    Does Tryz.prog 87 [.agg #[xv], .int .i64 (z)] F (intsH 2 xv x :: L) (fun v F' L' => ∃ x' : List Int, ((x')) = iota z ((x)).length ∧ (.int .i64 (z + (((x)).length : Int)) : Value) = v ∧ F = F' ∧ intsH 2 xv x' :: L = L') := by
 refine Does.of_X Tryz.func87 rfl rfl rfl ?_
 refine X.seq (X.region ?_)
 refine XL.cons (XOp.box [xv] rfl rfl ?_)
 intro b1
 refine XL.as (.int .i64 (0)) rfl ?_
 refine XL.nil (X.seq (X.region ?_))
 refine XL.cons (XOp.fieldP (b := b1) (0) Tryz.runUnderlying36 rfl Tryz.sizeOf22 (by decide) rfl rfl ?_)
 refine XL.cons (XOp.load1 (v := xv) Tryz.isAgg22 rfl (Rd.own [] rfl rfl) ?_)
 refine XL.mv (.int .i64 (z)) rfl ?_
 refine XL.weaken (Sub.front (A := [_])) ?_
 show XL _ _ _ _ _ _ _ (intsH 2 xv x :: cellsH b1 [xv] 36 :: L)
 refine XL.cons (XOp.call (args := [xv, .int .i64 (z)]) Tryz.call26 rfl (markInt64S_spec (by omega)) ?_)
 rintro _ _ _ _ ⟨m1, hm1, rfl, rfl, rfl⟩
 have hml1 := congrArg List.length hm1
 rw [iota_len] at hml1
 try simp only [List.length_append] at hml1
 refine XL.as (.int .i64 (z + (((x)).length : Int))) rfl ?_
 refine XL.nil (X.seq (X.region ?_))
 refine XL.mv (.int .i64 (z + (((x)).length : Int))) rfl ?_
 refine XL.as (.int .i64 (z + (((x)).length : Int))) rfl ?_
 refine XL.nil ?_
 refine X.ret (retEnd (L' := intsH 2 xv m1 :: L) [.int .i64 (z + (((x)).length : Int))] (.int .i64 (z + (((x)).length : Int))) (.tmp rfl .nil) rfl rF rF (Sub.cons (Sub.drop sR)) ?_)
 exact ⟨m1, hm1, congrArg (Value.int .i64) (by first | rfl | (simp only [List.length_append]; omega)), rfl, rfl⟩

/- laws.markRuleS -/
theorem markRuleS_spec {F : FH} {L : List HP} {xv : Value} {x : List (List Int × List Int)} {z : Int} (hz : 0 ≤ z ∧ z + (((x.flatMap flatPair)).length : Int) ≤ 9000000000) (hnx : x.length ≤ 4000000) :
    Does Tryz.prog 96 [xv, .int .i64 (z)] F (pairsD 2 161 xv x :: L) (fun v F' L' => ∃ x' : List (List Int × List Int), ((x'.flatMap flatPair)) = iota z ((x.flatMap flatPair)).length ∧ x'.length = x.length ∧ (.int .i64 (z + (((x.flatMap flatPair)).length : Int)) : Value) = v ∧ F = F' ∧ pairsD 2 161 xv x' :: L = L') := by
 refine Does.of_X Tryz.func96 rfl rfl rfl ?_
 refine X.openDeep (fun cs Ls hd => ?_)
 refine X.weaken (Sub.front (A := [_])) ?_
 show X _ _ _ _ _ _ (star Ls :: slH 161 2 xv x.length cs :: L)
 refine X.seq (X.region ?_)
 refine XL.as (.int .i64 (0)) rfl ?_
 refine XL.nil (X.seq (X.seq (X.region ?_)))
 refine XL.as (.int .i64 (0)) rfl ?_
 refine XL.nil (X.block ?_)
 refine X.loop (α := Nat × List (List Int × List Int) × List HP) (fun xQ => [(0, xv), (1, .int .i64 (z + ((((x.take xQ.1).flatMap flatPair).length : Nat) : Int))), (5, .int .i64 (((xQ.1 : Nat) : Int)))]) (fun xQ => star xQ.2.2 :: slH 161 2 xv x.length cs :: L) (fun xQ F' => F = F' ∧ (DeepL 2 (PairO 2) cs (xQ.2.1 ++ x.drop xQ.1) xQ.2.2) ∧ (xQ.1 ≤ x.length) ∧ (xQ.2.1.length = xQ.1) ∧ (xQ.2.1.flatMap flatPair = iota z ((x.take xQ.1).flatMap flatPair).length)) (fun xQ => x.length - xQ.1) (0, [], Ls) ⟨rfl, (show Value.int .i64 z = .int .i64 (z + ((((x.take 0).flatMap flatPair).length : Nat) : Int)) from congrArg (Value.int .i64) (by simp)), rfl, trivial⟩ (Sub.cons (Sub.cons sR)) ⟨rfl, (hd), (by (try dsimp only) <;> omega), (rfl), (rfl)⟩ ?_
 rintro ⟨k, os, Ls⟩ rE _ _ ⟨rfl, hd, hk, hol, hfl⟩
 show X _ _ _ _ (envs [(0, xv), (1, .int .i64 (z + ((((x.take k).flatMap flatPair).length : Nat) : Int))), (5, .int .i64 ((k : Int)))] rE) _ (star Ls :: slH 161 2 xv x.length cs :: L)
 dsimp only at hd hk hol hfl
 have htl := fun (h : k < x.length) => flat_take_le (f := flatPair) (l := x) ([], []) h
 have hlen : (os ++ x.drop k).length = x.length := by rw [List.length_append, List.length_drop]; omega
 refine X.seq (X.seq (X.region ?_))
 refine XL.mv (.int .i64 ((k : Int))) rfl ?_
 refine XL.mv (xv) rfl ?_
 refine XL.cons (XOp.lenS (v := xv) (n := x.length) Tryz.runUnderlying37 rfl (SlV.own [_] rfl) ?_)
 refine XL.cons (XOp.lss (a := (k : Int)) (b := (x.length : Int)) rfl rfl ?_)
 refine XL.nil ?_
 refine X.condD (p := (k : Int) < (x.length : Int)) rfl (fun h1 => ?_) (fun h1 => ?_)
 ·refine X.skip (X.seq (X.block (X.seq (X.region ?_))))
  have hkx : k < x.length := by omega
  have htl2 := htl hkx
  obtain ⟨A, K, B, es, hLs, hel, hR, hg, hput⟩ := hd.at (d := ([], [])) (k := k) (by omega)
  rw [app_getD hol] at hR
  have hself := splice_self hel hg (hd.bound (k := k) (by omega))
  obtain ⟨a, b, he, hK⟩ := hR
  subst he hK
  have hfp : (flatPair (x.getD k ([], []))).length = (x.getD k ([], [])).1.length + (x.getD k ([], [])).2.length := by unfold flatPair; rw [List.length_append]
  subst hLs
  refine XL.weaken (Sub.pull (A := A)) ?_
  show XL _ _ _ _ _ _ _ (intsH 2 a ((x.getD k ([], [])).1) :: intsH 2 b ((x.getD k ([], [])).2) :: star (A ++ B) :: slH 161 2 xv x.length cs :: L)
  skip
  refine XL.mv (xv) rfl ?_
  refine XL.mv (.int .i64 ((k : Int))) rfl ?_
  refine XL.cons (XOp.indexS (v := xv) (i := (k : Int)) (n := x.length) k Tryz.runUnderlying37 Tryz.sizeOf161 rfl rfl rfl (SlV.own [_, _, _] rfl) (by omega) rfl ?_)
  refine XL.cons (XOp.fieldE (v := xv) (k * 2) Tryz.runUnderlying161 rfl Tryz.sizeOf22 (by decide) rfl rfl ?_)
  refine XL.cons (XOp.load1 (v := a) Tryz.isAgg22 rfl (Rd.sl [_, _, _] rfl (hg 0 _ rfl)) ?_)
  refine XL.mv (.int .i64 (z + ((((x.take k).flatMap flatPair).length : Nat) : Int))) rfl ?_
  refine XL.cons (XOp.call (args := [a, .int .i64 (z + ((((x.take k).flatMap flatPair).length : Nat) : Int))]) Tryz.call26 rfl (markInt64S_spec (by omega)) ?_)
  rintro _ _ _ _ ⟨m1, hm1, rfl, rfl, rfl⟩
  have hml1 := congrArg List.length hm1
  rw [iota_len] at hml1
  try simp only [List.length_append] at hml1
  refine XL.as (.int .i64 ((z + ((((x.take k).flatMap flatPair).length : Nat) : Int)) + (((((x.getD k ([], [])).1))).length : Int))) rfl ?_
  refine XL.nil (X.region ?_)
  refine XL.mv (xv) rfl ?_
  refine XL.mv (.int .i64 ((k : Int))) rfl ?_
  refine XL.cons (XOp.indexS (v := xv) (i := (k : Int)) (n := x.length) k Tryz.runUnderlying37 Tryz.sizeOf161 rfl rfl rfl (SlV.own [_, _, _] rfl) (by omega) rfl ?_)
  refine XL.cons (XOp.fieldE (v := xv) (k * 2 + 1) Tryz.runUnderlying161 rfl Tryz.sizeOf22 (by decide) rfl rfl ?_)
  refine XL.cons (XOp.load1 (v := b) Tryz.isAgg22 rfl (Rd.sl [_, _, _] rfl (hg 1 _ rfl)) ?_)
  refine XL.mv (.int .i64 ((z + ((((x.take k).flatMap flatPair).length : Nat) : Int)) + (((((x.getD k ([], [])).1))).length : Int))) rfl ?_
  refine XL.weaken (Sub.front (A := [_])) ?_
  show XL _ _ _ _ _ _ _ (intsH 2 b ((x.getD k ([], [])).2) :: intsH 2 a m1 :: star (A ++ B) :: slH 161 2 xv x.length cs :: L)
  refine XL.cons (XOp.call (args := [b, .int .i64 ((z + ((((x.take k).flatMap flatPair).length : Nat) : Int)) + (((((x.getD k ([], [])).1))).length : Int))]) Tryz.call26 rfl (markInt64S_spec (by omega)) ?_)
  rintro _ _ _ _ ⟨m2, hm2, rfl, rfl, rfl⟩
  have hml2 := congrArg List.length hm2
  rw [iota_len] at hml2
  try simp only [List.length_append] at hml2
  refine XL.as (.int .i64 (((z + ((((x.take k).flatMap flatPair).length : Nat) : Int)) + (((((x.getD k ([], [])).1))).length : Int)) + (((((x.getD k ([], [])).2))).length : Int))) rfl ?_
  refine XL.nil (X.region ?_)
  refine XL.weaken (Sub.trans (Sub.front (A := [_, _, _])) (Sub.trans (Sub.front (A := [_, _, _])) (Sub.trans (Sub.front (A := [_, _])) (Sub.trans (Sub.front (A := [_, _, _])) (Sub.cons (Sub.cons (Sub.cons (Sub.cons sR)))))))) ?_
  refine XL.weaken (Sub.push (A := A) (K := [intsH 2 a m1, intsH 2 b m2]) (B := B)) ?_
  show XL _ _ _ _ _ _ _ (star (A ++ ([intsH 2 a m1, intsH 2 b m2] ++ B)) :: slH 161 2 xv x.length cs :: L)
  have hdn := hput [a, b] (m1, m2) _ rfl ⟨a, b, rfl, rfl⟩
  rw [hself, app_set hol hkx] at hdn
  have hfx : flatPair (m1, m2) = iota (z + ((((x.take k).flatMap flatPair).length : Nat) : Int)) (flatPair (x.getD k ([], []))).length := by rw [hfp, iota_add]; show m1 ++ m2 = _; rw [hm1, hm2]
  have hnext : (z + ((((x.take k).flatMap flatPair).length : Nat) : Int)) + ((x.getD k ([], [])).1.length : Int) + ((x.getD k ([], [])).2.length : Int) = z + ((((x.take (k + 1)).flatMap flatPair).length : Nat) : Int) := by rw [flatMap_take_succ flatPair ([], []) hkx, List.length_append, hfp]; omega
  skip
  refine XL.mv (.int .i64 ((k : Int))) rfl ?_
  refine XL.cons (XOp.addR (a := (k : Int)) (b := 1) (((k + 1 : Nat) : Int)) rfl rfl (by omega) (by omega) ?_)
  refine XL.as (.int .i64 (((k + 1 : Nat) : Int))) rfl ?_
  refine XL.nil ?_
  exact ⟨(k + 1, os ++ [(m1, m2)], A ++ ([intsH 2 a m1, intsH 2 b m2] ++ B)), _, FLe.refl _, rF, ⟨rfl, (vI hnext), rfl, trivial⟩, (Sub.cons (Sub.cons sR)), ⟨rfl, (hdn), (by (try dsimp only) <;> omega), (by simp [hol]), (marked (d := ([], [])) (by omega) hfl hfx)⟩, (by omega)⟩
 ·refine X.exit (thenQ_exit (thenQ_exit (blockQ_exit ?_)))
  refine X.seq (X.region ?_)
  refine XL.mv (.int .i64 (z + ((((x.take k).flatMap flatPair).length : Nat) : Int))) rfl ?_
  refine XL.as (.int .i64 (z + ((((x.take k).flatMap flatPair).length : Nat) : Int))) rfl ?_
  refine XL.nil ?_
  refine X.ret (retEnd (L' := pairsD 2 161 xv os :: L) [.int .i64 (z + ((((x.take k).flatMap flatPair).length : Nat) : Int))] (.int .i64 (z + ((((x.take k).flatMap flatPair).length : Nat) : Int))) (.tmp rfl .nil) rfl rF rF (Sub.trans (Sub.front (A := [_])) (Sub.closeDeep (by rw [app_all (by omega)] at hd; exact hd) (by omega))) ?_)
  rw [app_all (by omega)] at hd
  have hkl : k = x.length := by omega
  exact ⟨os, by rw [hfl, hkl, List.take_length], by omega, by rw [hkl, List.take_length], rfl, rfl⟩

/- laws.markStepS -/
theorem markStepS_spec {F : FH} {L : List HP} {xv : Value} {x : List StepT} {z : Int} (hz : 0 ≤ z ∧ z + (((x.flatMap flatStep)).length : Int) ≤ 9000000000) (hnx : x.length ≤ 4000000) :
    Does Tryz.prog 107 [xv, .int .i64 (z)] F (stepsD 2 158 xv x :: L) (fun v F' L' => ∃ x' : List StepT, ((x'.flatMap flatStep)) = iota z ((x.flatMap flatStep)).length ∧ x'.length = x.length ∧ (.int .i64 (z + (((x.flatMap flatStep)).length : Int)) : Value) = v ∧ F = F' ∧ stepsD 2 158 xv x' :: L = L') := by
 refine Does.of_X Tryz.func107 rfl rfl rfl ?_
 refine X.openDeep (fun cs Ls hd => ?_)
 refine X.weaken (Sub.front (A := [_])) ?_
 show X _ _ _ _ _ _ (star Ls :: slH 158 3 xv x.length cs :: L)
 refine X.seq (X.region ?_)
 refine XL.as (.int .i64 (0)) rfl ?_
 refine XL.nil (X.seq (X.seq (X.region ?_)))
 refine XL.as (.int .i64 (0)) rfl ?_
 refine XL.nil (X.block ?_)
 refine X.loop (α := Nat × List StepT × List HP × List Value) (fun xQ => [(0, xv), (1, .int .i64 (z + ((((x.take xQ.1).flatMap flatStep).length : Nat) : Int))), (5, .int .i64 (((xQ.1 : Nat) : Int)))]) (fun xQ => star xQ.2.2.1 :: slH 158 3 xv x.length xQ.2.2.2 :: L) (fun xQ F' => F = F' ∧ (DeepL 3 (StepO 2) xQ.2.2.2 (xQ.2.1 ++ x.drop xQ.1) xQ.2.2.1) ∧ (xQ.1 ≤ x.length) ∧ (xQ.2.1.length = xQ.1) ∧ (xQ.2.1.flatMap flatStep = iota z ((x.take xQ.1).flatMap flatStep).length)) (fun xQ => x.length - xQ.1) (0, [], Ls, cs) ⟨rfl, (show Value.int .i64 z = .int .i64 (z + ((((x.take 0).flatMap flatStep).length : Nat) : Int)) from congrArg (Value.int .i64) (by simp)), rfl, trivial⟩ (Sub.cons (Sub.cons sR)) ⟨rfl, (hd), (by (try dsimp only) <;> omega), (rfl), (rfl)⟩ ?_
 rintro ⟨k, os, Ls, cs⟩ rE _ _ ⟨rfl, hd, hk, hol, hfl⟩
 show X _ _ _ _ (envs [(0, xv), (1, .int .i64 (z + ((((x.take k).flatMap flatStep).length : Nat) : Int))), (5, .int .i64 ((k : Int)))] rE) _ (star Ls :: slH 158 3 xv x.length cs :: L)
 dsimp only at hd hk hol hfl
 have htl := fun (h : k < x.length) => flat_take_le (f := flatStep) (l := x) ((0 : Int), (0 : Int), ([] : List Int)) h
 have hlen : (os ++ x.drop k).length = x.length := by rw [List.length_append, List.length_drop]; omega
 refine X.seq (X.seq (X.region ?_))
 refine XL.mv (.int .i64 ((k : Int))) rfl ?_
 refine XL.mv (xv) rfl ?_
 refine XL.cons (XOp.lenS (v := xv) (n := x.length) Tryz.runUnderlying43 rfl (SlV.own [_] rfl) ?_)
 refine XL.cons (XOp.lss (a := (k : Int)) (b := (x.length : Int)) rfl rfl ?_)
 refine XL.nil ?_
 refine X.condD (p := (k : Int) < (x.length : Int)) rfl (fun h1 => ?_) (fun h1 => ?_)
 ·refine X.skip (X.seq (X.block (X.seq (X.region ?_))))
  have hkx : k < x.length := by omega
  have htl2 := htl hkx
  obtain ⟨A, K, B, es, hLs, hel, hR, hg, hput⟩ := hd.at (d := ((0 : Int), (0 : Int), ([] : List Int))) (k := k) (by omega)
  rw [app_getD hol] at hR
  have hself := splice_self hel hg (hd.bound (k := k) (by omega))
  obtain ⟨c, he, hK⟩ := hR
  subst he hK
  have hfp : (flatStep (x.getD k (0, 0, []))).length = (x.getD k (0, 0, [])).2.2.length + 1 + 1 := rfl
  have hbd := hd.bound (k := k) (by omega)
  subst hLs
  refine XL.weaken (Sub.pull (A := A)) ?_
  show XL _ _ _ _ _ _ _ (intsH 2 c ((x.getD k (0, 0, [])).2.2) :: star (A ++ B) :: slH 158 3 xv x.length cs :: L)
  skip
  refine XL.mv (xv) rfl ?_
  refine XL.mv (.int .i64 ((k : Int))) rfl ?_
  refine XL.mv (.int .i64 (z + ((((x.take k).flatMap flatStep).length : Nat) : Int))) rfl ?_
  refine XL.cons (XOp.indexS (v := xv) (i := (k : Int)) (n := x.length) k Tryz.runUnderlying43 Tryz.sizeOf158 rfl rfl rfl (SlV.own [_, _] rfl) (by omega) rfl ?_)
  refine XL.cons (XOp.fieldE (v := xv) (k * 3) Tryz.runUnderlying158 rfl Tryz.sizeOf2 (by decide) rfl rfl ?_)
  refine XL.cons (XOp.storeS (i := k * 3) (cs := cs) [_, _] _ Tryz.sizeOf2 rfl rfl rfl rfl (by (try simp only [List.length_set]); omega) ?_)
  refine XL.nil (X.seq (X.region ?_))
  refine XL.mv (.int .i64 (z + ((((x.take k).flatMap flatStep).length : Nat) : Int))) rfl ?_
  refine XL.cons (XOp.addR (a := z + ((((x.take k).flatMap flatStep).length : Nat) : Int)) (b := 1) ((z + ((((x.take k).flatMap flatStep).length : Nat) : Int)) + 1) rfl rfl (by omega) (by omega) ?_)
  refine XL.as (.int .i64 ((z + ((((x.take k).flatMap flatStep).length : Nat) : Int)) + 1)) rfl ?_
  refine XL.nil (X.seq (X.region ?_))
  refine XL.mv (xv) rfl ?_
  refine XL.mv (.int .i64 ((k : Int))) rfl ?_
  refine XL.mv (.int .i64 ((z + ((((x.take k).flatMap flatStep).length : Nat) : Int)) + 1)) rfl ?_
  refine XL.cons (XOp.indexS (v := xv) (i := (k : Int)) (n := x.length) k Tryz.runUnderlying43 Tryz.sizeOf158 rfl rfl rfl (SlV.own [_, _] rfl) (by omega) rfl ?_)
  refine XL.cons (XOp.fieldE (v := xv) (k * 3 + 1) Tryz.runUnderlying158 rfl Tryz.sizeOf2 (by decide) rfl rfl ?_)
  refine XL.cons (XOp.storeS (i := k * 3 + 1) (cs := (cs.set (k * 3) (.int .i64 (z + ((((x.take k).flatMap flatStep).length : Nat) : Int))))) [_, _] _ Tryz.sizeOf2 rfl rfl rfl rfl (by (try simp only [List.length_set]); omega) ?_)
  refine XL.nil (X.seq (X.region ?_))
  refine XL.mv (.int .i64 ((z + ((((x.take k).flatMap flatStep).length : Nat) : Int)) + 1)) rfl ?_
  refine XL.cons (XOp.addR (a := (z + ((((x.take k).flatMap flatStep).length : Nat) : Int)) + 1) (b := 1) (((z + ((((x.take k).flatMap flatStep).length : Nat) : Int)) + 1) + 1) rfl rfl (by omega) (by omega) ?_)
  refine XL.as (.int .i64 (((z + ((((x.take k).flatMap flatStep).length : Nat) : Int)) + 1) + 1)) rfl ?_
  refine XL.nil (X.region ?_)
  refine XL.mv (xv) rfl ?_
  refine XL.mv (.int .i64 ((k : Int))) rfl ?_
  refine XL.cons (XOp.indexS (v := xv) (i := (k : Int)) (n := x.length) k Tryz.runUnderlying43 Tryz.sizeOf158 rfl rfl rfl (SlV.own [_, _] rfl) (by omega) rfl ?_)
  refine XL.cons (XOp.fieldE (v := xv) (k * 3 + 2) Tryz.runUnderlying158 rfl Tryz.sizeOf22 (by decide) rfl rfl ?_)
  refine XL.cons (XOp.load1 (v := c) Tryz.isAgg22 rfl (Rd.sl [_, _] rfl (by rw [List.getElem?_set_ne (by omega), List.getElem?_set_ne (by omega)]; exact hg 2 _ rfl)) ?_)
  refine XL.mv (.int .i64 (((z + ((((x.take k).flatMap flatStep).length : Nat) : Int)) + 1) + 1)) rfl ?_
  refine XL.cons (XOp.call (args := [c, .int .i64 (((z + ((((x.take k).flatMap flatStep).length : Nat) : Int)) + 1) + 1)]) Tryz.call26 rfl (markInt64S_spec (by omega)) ?_)
  rintro _ _ _ _ ⟨m1, hm1, rfl, rfl, rfl⟩
  have hml1 := congrArg List.length hm1
  rw [iota_len] at hml1
  try simp only [List.length_append] at hml1
  refine XL.as (.int .i64 ((((z + ((((x.take k).flatMap flatStep).length : Nat) : Int)) + 1) + 1) + (((((x.getD k (0, 0, [])).2.2))).length : Int))) rfl ?_
  refine XL.nil (X.region ?_)
  refine XL.weaken (Sub.cons (Sub.cons (Sub.cons sR))) ?_
  refine XL.weaken (Sub.push (A := A) (K := [intsH 2 c m1]) (B := B)) ?_
  show XL _ _ _ _ _ _ _ (star (A ++ ([intsH 2 c m1] ++ B)) :: slH 158 3 xv x.length ((((cs.set (k * 3) (.int .i64 (z + ((((x.take k).flatMap flatStep).length : Nat) : Int))))).set (k * 3 + 1) (.int .i64 ((z + ((((x.take k).flatMap flatStep).length : Nat) : Int)) + 1)))) :: L)
  have hdn := hput [.int .i64 (z + ((((x.take k).flatMap flatStep).length : Nat) : Int)), .int .i64 ((z + ((((x.take k).flatMap flatStep).length : Nat) : Int)) + 1), c] ((z + ((((x.take k).flatMap flatStep).length : Nat) : Int)), (z + ((((x.take k).flatMap flatStep).length : Nat) : Int)) + 1, m1) _ rfl ⟨c, rfl, rfl⟩
  rw [← set_three (hg 0 _ rfl) (hg 1 _ rfl) (hg 2 _ rfl), app_set hol hkx] at hdn
  have hfx : flatStep ((z + ((((x.take k).flatMap flatStep).length : Nat) : Int)), (z + ((((x.take k).flatMap flatStep).length : Nat) : Int)) + 1, m1) = iota (z + ((((x.take k).flatMap flatStep).length : Nat) : Int)) (flatStep (x.getD k (0, 0, []))).length := by rw [hfp, iota_cons, iota_cons]; show _ :: _ :: m1 = _; rw [hm1]
  have hnext : (z + ((((x.take k).flatMap flatStep).length : Nat) : Int)) + 1 + 1 + ((x.getD k (0, 0, [])).2.2.length : Int) = z + ((((x.take (k + 1)).flatMap flatStep).length : Nat) : Int) := by rw [flatMap_take_succ flatStep (0, 0, []) hkx, List.length_append, hfp]; omega
  skip
  refine XL.mv (.int .i64 ((k : Int))) rfl ?_
  refine XL.cons (XOp.addR (a := (k : Int)) (b := 1) (((k + 1 : Nat) : Int)) rfl rfl (by omega) (by omega) ?_)
  refine XL.as (.int .i64 (((k + 1 : Nat) : Int))) rfl ?_
  refine XL.nil ?_
  exact ⟨(k + 1, os ++ [((z + ((((x.take k).flatMap flatStep).length : Nat) : Int)), (z + ((((x.take k).flatMap flatStep).length : Nat) : Int)) + 1, m1)], A ++ ([intsH 2 c m1] ++ B), (((cs.set (k * 3) (.int .i64 (z + ((((x.take k).flatMap flatStep).length : Nat) : Int))))).set (k * 3 + 1) (.int .i64 ((z + ((((x.take k).flatMap flatStep).length : Nat) : Int)) + 1)))), _, FLe.refl _, rF, ⟨rfl, (vI hnext), rfl, trivial⟩, (Sub.cons (Sub.cons sR)), ⟨rfl, (hdn), (by (try dsimp only) <;> omega), (by simp [hol]), (marked (d := ((0 : Int), (0 : Int), ([] : List Int))) (by omega) hfl hfx)⟩, (by omega)⟩
 ·refine X.exit (thenQ_exit (thenQ_exit (blockQ_exit ?_)))
  refine X.seq (X.region ?_)
  refine XL.mv (.int .i64 (z + ((((x.take k).flatMap flatStep).length : Nat) : Int))) rfl ?_
  refine XL.as (.int .i64 (z + ((((x.take k).flatMap flatStep).length : Nat) : Int))) rfl ?_
  refine XL.nil ?_
  refine X.ret (retEnd (L' := stepsD 2 158 xv os :: L) [.int .i64 (z + ((((x.take k).flatMap flatStep).length : Nat) : Int))] (.int .i64 (z + ((((x.take k).flatMap flatStep).length : Nat) : Int))) (.tmp rfl .nil) rfl rF rF (Sub.trans (Sub.front (A := [_])) (Sub.closeDeep (by rw [app_all (by omega)] at hd; exact hd) (by omega))) ?_)
  rw [app_all (by omega)] at hd
  have hkl : k = x.length := by omega
  exact ⟨os, by rw [hfl, hkl, List.take_length], by omega, by rw [hkl, List.take_length], rfl, rfl⟩

/- laws.markSystem -/
theorem markSystem_spec {F : FH} {L : List HP} {xv : Value} {x : List Int} {yv : Value} {y : List (List Int × List Int)} {z : Int} (hz : 0 ≤ z ∧ z + (((x) ++ (y.flatMap flatPair)).length : Int) ≤ 9000000000) (hny : y.length ≤ 4000000) :
    Does Tryz.prog 36 [.agg #[xv, yv], .int .i64 (z)] F (intsH 2 xv x :: pairsD 2 161 yv y :: L) (fun v F' L' => ∃ x' : List Int, ∃ y' : List (List Int × List Int), ((x') ++ (y'.flatMap flatPair)) = iota z ((x) ++ (y.flatMap flatPair)).length ∧ y'.length = y.length ∧ (.int .i64 (z + (((x) ++ (y.flatMap flatPair)).length : Int)) : Value) = v ∧ F = F' ∧ intsH 2 xv x' :: pairsD 2 161 yv y' :: L = L') := by
 refine Does.of_X Tryz.func36 rfl rfl rfl ?_
 have hlx : ((x) ++ (y.flatMap flatPair)).length = x.length + (y.flatMap flatPair).length := List.length_append
 refine X.seq (X.region ?_)
 refine XL.cons (XOp.box [xv, yv] rfl rfl ?_)
 intro b1
 refine XL.as (.int .i64 (0)) rfl ?_
 refine XL.nil (X.seq (X.region ?_))
 refine XL.cons (XOp.fieldP (b := b1) (0) Tryz.runUnderlying39 rfl Tryz.sizeOf36 (by decide) rfl rfl ?_)
 refine XL.cons (XOp.loadN [xv] Tryz.isAgg36 Tryz.sizeOf36 rfl rfl (Rd.ownN [] rfl rfl) ?_)
 refine XL.mv (.int .i64 (z)) rfl ?_
 refine XL.weaken (Sub.front (A := [_])) ?_
 show XL _ _ _ _ _ _ _ (intsH 2 xv x :: cellsH b1 [xv, yv] 39 :: pairsD 2 161 yv y :: L)
 refine XL.cons (XOp.call (args := [.agg #[xv], .int .i64 (z)]) Tryz.call87 rfl (markSig_spec (by omega)) ?_)
 rintro _ _ _ _ ⟨m1, hm1, rfl, rfl, rfl⟩
 have hml1 := congrArg List.length hm1
 rw [iota_len] at hml1
 try simp only [List.length_append] at hml1
 refine XL.as (.int .i64 (z + (((x)).length : Int))) rfl ?_
 refine XL.nil (X.seq (X.region ?_))
 refine XL.cons (XOp.fieldP (b := b1) (1) Tryz.runUnderlying39 rfl Tryz.sizeOf37 (by decide) rfl rfl ?_)
 refine XL.cons (XOp.load1 (v := yv) Tryz.isAgg37 rfl (Rd.own [_] rfl rfl) ?_)
 refine XL.mv (.int .i64 (z + (((x)).length : Int))) rfl ?_
 refine XL.weaken (Sub.front (A := [_, _])) ?_
 show XL _ _ _ _ _ _ _ (pairsD 2 161 yv y :: intsH 2 xv m1 :: cellsH b1 [xv, yv] 39 :: L)
 refine XL.cons (XOp.call (args := [yv, .int .i64 (z + (((x)).length : Int))]) Tryz.call96 rfl (markRuleS_spec (by omega) (by omega)) ?_)
 rintro _ _ _ _ ⟨m2, hm2, hk1, rfl, rfl, rfl⟩
 have hml2 := congrArg List.length hm2
 rw [iota_len] at hml2
 try simp only [List.length_append] at hml2
 refine XL.as (.int .i64 ((z + (((x)).length : Int)) + (((y.flatMap flatPair)).length : Int))) rfl ?_
 refine XL.nil (X.seq (X.region ?_))
 refine XL.mv (.int .i64 ((z + (((x)).length : Int)) + (((y.flatMap flatPair)).length : Int))) rfl ?_
 refine XL.as (.int .i64 ((z + (((x)).length : Int)) + (((y.flatMap flatPair)).length : Int))) rfl ?_
 refine XL.nil ?_
 refine X.ret (retEnd (L' := intsH 2 xv m1 :: pairsD 2 161 yv m2 :: L) [.int .i64 ((z + (((x)).length : Int)) + (((y.flatMap flatPair)).length : Int))] (.int .i64 ((z + (((x)).length : Int)) + (((y.flatMap flatPair)).length : Int))) (.tmp rfl .nil) rfl rF rF (Sub.trans (Sub.front (A := [_])) (Sub.cons (Sub.cons (Sub.drop sR)))) ?_)
 exact ⟨m1, m2, by rw [List.length_append, iota_add, hm1, hm2], (by assumption), congrArg (Value.int .i64) (by first | rfl | (simp only [List.length_append]; omega)), rfl, rfl⟩

/- laws.markWalk -/
theorem markWalk_spec {F : FH} {L : List HP} {xv : Value} {x : List Int} {yv : Value} {y : List StepT} {z : Int} (hz : 0 ≤ z ∧ z + (((x) ++ (y.flatMap flatStep)).length : Int) ≤ 9000000000) (hny : y.length ≤ 4000000) :
    Does Tryz.prog 43 [.agg #[xv, yv], .int .i64 (z)] F (intsH 2 xv x :: stepsD 2 158 yv y :: L) (fun v F' L' => ∃ x' : List Int, ∃ y' : List StepT, ((x') ++ (y'.flatMap flatStep)) = iota z ((x) ++ (y.flatMap flatStep)).length ∧ y'.length = y.length ∧ (.int .i64 (z + (((x) ++ (y.flatMap flatStep)).length : Int)) : Value) = v ∧ F = F' ∧ intsH 2 xv x' :: stepsD 2 158 yv y' :: L = L') := by
 refine Does.of_X Tryz.func43 rfl rfl rfl ?_
 have hlx : ((x) ++ (y.flatMap flatStep)).length = x.length + (y.flatMap flatStep).length := List.length_append
 refine X.seq (X.region ?_)
 refine XL.cons (XOp.box [xv, yv] rfl rfl ?_)
 intro b1
 refine XL.as (.int .i64 (0)) rfl ?_
 refine XL.nil (X.seq (X.region ?_))
 refine XL.cons (XOp.fieldP (b := b1) (0) Tryz.runUnderlying45 rfl Tryz.sizeOf22 (by decide) rfl rfl ?_)
 refine XL.cons (XOp.load1 (v := xv) Tryz.isAgg22 rfl (Rd.own [] rfl rfl) ?_)
 refine XL.mv (.int .i64 (z)) rfl ?_
 refine XL.weaken (Sub.front (A := [_])) ?_
 show XL _ _ _ _ _ _ _ (intsH 2 xv x :: cellsH b1 [xv, yv] 45 :: stepsD 2 158 yv y :: L)
 refine XL.cons (XOp.call (args := [xv, .int .i64 (z)]) Tryz.call26 rfl (markInt64S_spec (by omega)) ?_)
 rintro _ _ _ _ ⟨m1, hm1, rfl, rfl, rfl⟩
 have hml1 := congrArg List.length hm1
 rw [iota_len] at hml1
 try simp only [List.length_append] at hml1
 refine XL.as (.int .i64 (z + (((x)).length : Int))) rfl ?_
 refine XL.nil (X.seq (X.region ?_))
 refine XL.cons (XOp.fieldP (b := b1) (1) Tryz.runUnderlying45 rfl Tryz.sizeOf43 (by decide) rfl rfl ?_)
 refine XL.cons (XOp.load1 (v := yv) Tryz.isAgg43 rfl (Rd.own [_] rfl rfl) ?_)
 refine XL.mv (.int .i64 (z + (((x)).length : Int))) rfl ?_
 refine XL.weaken (Sub.front (A := [_, _])) ?_
 show XL _ _ _ _ _ _ _ (stepsD 2 158 yv y :: intsH 2 xv m1 :: cellsH b1 [xv, yv] 45 :: L)
 refine XL.cons (XOp.call (args := [yv, .int .i64 (z + (((x)).length : Int))]) Tryz.call107 rfl (markStepS_spec (by omega) (by omega)) ?_)
 rintro _ _ _ _ ⟨m2, hm2, hk1, rfl, rfl, rfl⟩
 have hml2 := congrArg List.length hm2
 rw [iota_len] at hml2
 try simp only [List.length_append] at hml2
 refine XL.as (.int .i64 ((z + (((x)).length : Int)) + (((y.flatMap flatStep)).length : Int))) rfl ?_
 refine XL.nil (X.seq (X.region ?_))
 refine XL.mv (.int .i64 ((z + (((x)).length : Int)) + (((y.flatMap flatStep)).length : Int))) rfl ?_
 refine XL.as (.int .i64 ((z + (((x)).length : Int)) + (((y.flatMap flatStep)).length : Int))) rfl ?_
 refine XL.nil ?_
 refine X.ret (retEnd (L' := intsH 2 xv m1 :: stepsD 2 158 yv m2 :: L) [.int .i64 ((z + (((x)).length : Int)) + (((y.flatMap flatStep)).length : Int))] (.int .i64 ((z + (((x)).length : Int)) + (((y.flatMap flatStep)).length : Int))) (.tmp rfl .nil) rfl rF rF (Sub.trans (Sub.front (A := [_])) (Sub.cons (Sub.cons (Sub.drop sR)))) ?_)
 exact ⟨m1, m2, by rw [List.length_append, iota_add, hm1, hm2], (by assumption), congrArg (Value.int .i64) (by first | rfl | (simp only [List.length_append]; omega)), rfl, rfl⟩
end Go.Proofs.YtnloeeaidknblaaGreat
set_option linter.unusedSimpArgs false
set_option linter.unusedVariables false
namespace Go.Proofs.YtnloeeaidknblaaGreat
open Go X M

/- laws.szStep -/
theorem szStep_spec {F : FH} {L : List HP} {i : Int} {j : Int} {lv : Value} {l : List Int} (hl : IntsF F lv l) {z : Int} (hz : 0 ≤ z ∧ z ≤ 4000000) (hll : l.length ≤ 9223372036854775807) :
    Does Tryz.prog 111 [.agg #[.int .i64 (i), .int .i64 (j), lv], .int .i64 (z)] F (L) (fun v F' L' => (.int .i64 (dec z l.length) : Value) = v ∧ F = F' ∧ L = L') := by
 refine Does.of_X Tryz.func111 rfl rfl rfl ?_
 have hdr := dec_range z l.length
 refine X.seq (X.region ?_)
 refine XL.cons (XOp.box [.int .i64 (i), .int .i64 (j), lv] rfl rfl ?_)
 intro b1
 refine XL.as (.int .i64 (0)) rfl ?_
 refine XL.nil (X.seq (X.region ?_))
 refine XL.cons (XOp.fieldP (b := b1) (2) Tryz.runUnderlying155 rfl Tryz.sizeOf22 (by decide) rfl rfl ?_)
 refine XL.cons (XOp.load1 (v := lv) Tryz.isAgg22 rfl (Rd.own [] rfl rfl) ?_)
 refine XL.mv (.int .i64 (z)) rfl ?_
 refine XL.cons (XOp.call (args := [lv, .int .i64 (z)]) Tryz.call49 rfl (szInt64S_spec (z := z) hl (hz := (by first | assumption | rfl | omega | simp)) (hlx := (by first | assumption | rfl | omega | simp))) ?_)
 rintro _ _ _ _ ⟨rfl, rfl, rfl⟩
 refine XL.as (.int .i64 (dec z l.length)) rfl ?_
 refine XL.nil (X.seq (X.seq (X.region ?_)))
 refine XL.mv (.int .i64 (dec z l.length)) rfl ?_
 refine XL.cons (XOp.lss (a := dec z l.length) (b := 0) rfl rfl ?_)
 refine XL.nil ?_
 refine X.condD (p := (dec z l.length : Int) < 0) rfl (fun h1 => ?_) (fun h1 => ?_)
 ·refine X.seq (X.region ?_)
  refine XL.as (.int .i64 (-1)) rfl ?_
  refine XL.nil ?_
  refine X.ret (thenQ_ret (retEnd (L' := L) [.int .i64 (-1)] (.int .i64 (-1)) (.tmp rfl .nil) rfl rF rF (Sub.drop sR) ?_))
  exact ⟨(vI (by omega)), rfl, rfl⟩
 ·refine X.skip (X.seq (X.region ?_))
  refine XL.mv (.int .i64 (dec z l.length)) rfl ?_
  refine XL.as (.int .i64 (dec z l.length)) rfl ?_
  refine XL.nil ?_
  refine X.ret (retEnd (L' := L) [.int .i64 (dec z l.length)] (.int .i64 (dec z l.length)) (.tmp rfl .nil) rfl rF rF (Sub.drop sR) ?_)
  exact ⟨rfl, rfl, rfl⟩

/- laws.szStepS -/
theorem szStepS_spec {F : FH} {L : List HP} {rsv : Value} {rs : List StepT} (hrs : StepsF F rsv rs) {z : Int} (hz : 0 ≤ z ∧ z ≤ 4000000) (hrl : rs.length ≤ 9223372036854775807) (hrb : ∀ i, i < rs.length → (rs.getD i (0, 0, [])).2.2.length ≤ 9223372036854775807) :
    Does Tryz.prog 50 [rsv, .int .i64 (z)] F (L) (fun v F' L' => (.int .i64 (dec z (szG lenS rs)) : Value) = v ∧ F = F' ∧ L = L') := by
 refine Does.of_X Tryz.func50 rfl rfl rfl ?_
 refine X.seq (X.region ?_)
 refine XL.as (.int .i64 (0)) rfl ?_
 refine XL.nil (X.seq (X.region ?_))
 refine XL.mv (.int .i64 (z)) rfl ?_
 refine XL.mv (rsv) rfl ?_
 refine XL.cons (XOp.lenS (v := rsv) (n := (rs).length) Tryz.runUnderlying29 rfl hrs.slv ?_)
 refine XL.cons (XOp.subR (a := z) (b := (rs.length : Int)) (z - ((rs.length : Int))) rfl rfl (by omega) (by omega) ?_)
 refine XL.as (.int .i64 (z - ((rs.length : Int)))) rfl ?_
 refine XL.nil (X.seq (X.seq (X.region ?_)))
 refine XL.mv (.int .i64 (z - ((rs.length : Int)))) rfl ?_
 refine XL.cons (XOp.lss (a := z - ((rs.length : Int))) (b := 0) rfl rfl ?_)
 refine XL.nil ?_
 refine X.condD (p := (z - ((rs.length : Int)) : Int) < 0) rfl (fun h1 => ?_) (fun h1 => ?_)
 ·refine X.seq (X.region ?_)
  refine XL.as (.int .i64 (-1)) rfl ?_
  refine XL.nil ?_
  refine X.ret (thenQ_ret (retEnd (L' := L) [.int .i64 (-1)] (.int .i64 (-1)) (.tmp rfl .nil) rfl rF rF sR ?_))
  exact ⟨(vI (dec_mono (n := rs.length) (by rw [dec_neg (by omega)]; omega) (by unfold szG; omega))), rfl, rfl⟩
 ·refine X.skip (X.seq (X.seq (X.region ?_)))
  refine XL.as (.int .i64 (0)) rfl ?_
  refine XL.nil (X.block ?_)
  refine X.loop (α := Nat) (fun k => [(0, rsv), (1, .int .i64 (dec z (rs.length + gTo lenS rs k))), (5, .int .i64 ((k : Int)))]) (fun k => L) (fun k F' => F = F' ∧ (k ≤ rs.length) ∧ (0 ≤ dec z (rs.length + gTo lenS rs k))) (fun k => rs.length - k) 0 ⟨rfl, (vI (by show z - rs.length = dec z (rs.length + 0); rw [Nat.add_zero, dec_pos (by omega)])), rfl, trivial⟩ sR ⟨rfl, (by (try dsimp only) <;> omega), (by show 0 ≤ dec z (rs.length + 0); rw [Nat.add_zero, dec_pos (by omega)]; omega)⟩ ?_
  rintro k rE _ _ ⟨rfl, hk, hnn⟩
  show X _ _ _ _ (envs [(0, rsv), (1, .int .i64 (dec z (rs.length + gTo lenS rs k))), (5, .int .i64 ((k : Int)))] rE) _ (L)
  have hdr := dec_range z (rs.length + gTo lenS rs k)
  have hrk := hrb k
  have hgk : lenS (rs.getD k (0, 0, [])) = (rs.getD k (0, 0, [])).2.2.length := rfl
  refine X.seq (X.seq (X.region ?_))
  refine XL.mv (.int .i64 ((k : Int))) rfl ?_
  refine XL.mv (rsv) rfl ?_
  refine XL.cons (XOp.lenS (v := rsv) (n := (rs).length) Tryz.runUnderlying29 rfl hrs.slv ?_)
  refine XL.cons (XOp.lss (a := (k : Int)) (b := (rs.length : Int)) rfl rfl ?_)
  refine XL.nil ?_
  refine X.condD (p := (k : Int) < (rs.length : Int)) rfl (fun h2 => ?_) (fun h2 => ?_)
  ·refine X.skip (X.seq (X.block (X.seq (X.region ?_))))
   refine XL.mv (rsv) rfl ?_
   refine XL.mv (.int .i64 ((k : Int))) rfl ?_
   refine XL.cons (XOp.indexS (v := rsv) (i := (k : Int)) (n := (rs).length) k Tryz.runUnderlying29 Tryz.sizeOf155 rfl rfl rfl hrs.slv (by omega) rfl ?_)
   obtain ⟨a1, ha1, hr1, hr2, hr3⟩ := hrs.rd (i := k) (by omega)
   refine XL.cons (XOp.loadN [.int .i64 ((rs.getD k (0, 0, [])).1), .int .i64 ((rs.getD k (0, 0, [])).2.1), a1] Tryz.isAgg155 Tryz.sizeOf155 rfl rfl (Rd.three (hr1 _) (hr2 _) (hr3 _)) ?_)
   refine XL.mv (.int .i64 (dec z (rs.length + gTo lenS rs k))) rfl ?_
   refine XL.cons (XOp.call (args := [.agg #[.int .i64 ((rs.getD k (0, 0, [])).1), .int .i64 ((rs.getD k (0, 0, [])).2.1), a1], .int .i64 (dec z (rs.length + gTo lenS rs k))]) Tryz.call111 rfl (szStep_spec (z := dec z (rs.length + gTo lenS rs k)) ha1 (hz := (by first | assumption | rfl | omega | simp)) (hll := (by first | assumption | rfl | omega | simp))) ?_)
   rintro _ _ _ _ ⟨rfl, rfl, rfl⟩
   refine XL.as (.int .i64 (dec (dec z (rs.length + gTo lenS rs k)) ((rs.getD k (0, 0, [])).2.2).length)) rfl ?_
   refine XL.nil (X.seq (X.region ?_))
   refine XL.mv (.int .i64 (dec (dec z (rs.length + gTo lenS rs k)) ((rs.getD k (0, 0, [])).2.2).length)) rfl ?_
   refine XL.cons (XOp.lss (a := dec (dec z (rs.length + gTo lenS rs k)) ((rs.getD k (0, 0, [])).2.2).length) (b := 0) rfl rfl ?_)
   refine XL.nil ?_
   refine X.condD (p := (dec (dec z (rs.length + gTo lenS rs k)) ((rs.getD k (0, 0, [])).2.2).length : Int) < 0) rfl (fun h3 => ?_) (fun h3 => ?_)
   ·refine X.seq (X.region ?_)
    refine XL.as (.int .i64 (-1)) rfl ?_
    refine XL.nil ?_
    refine X.ret (blockQ_ret (thenQ_ret (thenQ_ret (blockQ_ret (thenQ_ret (retEnd (L' := L) [.int .i64 (-1)] (.int .i64 (-1)) (.tmp rfl .nil) rfl rF rF sR ?_))))))
    exact ⟨(vI (by have h9 := gTo_le (f := lenS) (l := rs) ((0 : Int), (0 : Int), ([] : List Int)) (k + 1) rs.length (by omega) (Nat.le_refl _); refine dec_mono (n := rs.length + gTo lenS rs (k + 1)) ?_ (by unfold szG; omega); rw [← gTo_succ ((0 : Int), (0 : Int), ([] : List Int)) (by omega), ← Nat.add_assoc, ← dec_dec (by omega)]; assumption)), rfl, rfl⟩
   ·refine X.skip (X.region ?_)
    refine XL.mv (.int .i64 ((k : Int))) rfl ?_
    refine XL.cons (XOp.addR (a := (k : Int)) (b := 1) (((k + 1 : Nat) : Int)) rfl rfl (by omega) (by omega) ?_)
    refine XL.as (.int .i64 (((k + 1 : Nat) : Int))) rfl ?_
    refine XL.nil ?_
    exact ⟨k + 1, _, FLe.refl _, rF, ⟨rfl, (vI (by rw [dec_dec (by omega), Nat.add_assoc, ← gTo_succ ((0 : Int), (0 : Int), ([] : List Int)) (by omega)]; rfl)), rfl, trivial⟩, sR, ⟨rfl, (by (try dsimp only) <;> omega), (by (try dsimp only); rw [← gTo_succ ((0 : Int), (0 : Int), ([] : List Int)) (by omega), ← Nat.add_assoc, ← dec_dec (by omega)]; exact Int.not_lt.1 (by assumption))⟩, (by omega)⟩
  ·refine X.exit (thenQ_exit (thenQ_exit (blockQ_exit ?_)))
   refine X.seq (X.region ?_)
   refine XL.mv (.int .i64 (dec z (rs.length + gTo lenS rs k))) rfl ?_
   refine XL.as (.int .i64 (dec z (rs.length + gTo lenS rs k))) rfl ?_
   refine XL.nil ?_
   refine X.ret (retEnd (L' := L) [.int .i64 (dec z (rs.length + gTo lenS rs k))] (.int .i64 (dec z (rs.length + gTo lenS rs k))) (.tmp rfl .nil) rfl rF rF sR ?_)
   exact ⟨(vI (by rw [szG, show k = rs.length from by omega])), rfl, rfl⟩

/- laws.szWalk -/
theorem szWalk_spec {F : FH} {L : List HP} {fv : Value} {f : List Int} (hf : IntsF F fv f) {rsv : Value} {rs : List StepT} (hrs : StepsF F rsv rs) {z : Int} (hz : 0 ≤ z ∧ z ≤ 4000000) (hal : f.length ≤ 9223372036854775807) (hrl : rs.length ≤ 9223372036854775807) (hrb : ∀ i, i < rs.length → (rs.getD i (0, 0, [])).2.2.length ≤ 9223372036854775807) :
    Does Tryz.prog 9 [.agg #[fv, rsv], .int .i64 (z)] F (L) (fun v F' L' => (.int .i64 (dec z (f.length + szG lenS rs)) : Value) = v ∧ F = F' ∧ L = L') := by
 refine Does.of_X Tryz.func9 rfl rfl rfl ?_
 have hdr := dec_range z f.length
 refine X.seq (X.region ?_)
 refine XL.cons (XOp.box [fv, rsv] rfl rfl ?_)
 intro b1
 refine XL.as (.int .i64 (0)) rfl ?_
 refine XL.nil (X.seq (X.region ?_))
 refine XL.cons (XOp.fieldP (b := b1) (0) Tryz.runUnderlying31 rfl Tryz.sizeOf22 (by decide) rfl rfl ?_)
 refine XL.cons (XOp.load1 (v := fv) Tryz.isAgg22 rfl (Rd.own [] rfl rfl) ?_)
 refine XL.mv (.int .i64 (z)) rfl ?_
 refine XL.cons (XOp.call (args := [fv, .int .i64 (z)]) Tryz.call49 rfl (szInt64S_spec (z := z) hf (hz := (by first | assumption | rfl | omega | simp)) (hlx := (by first | assumption | rfl | omega | simp))) ?_)
 rintro _ _ _ _ ⟨rfl, rfl, rfl⟩
 refine XL.as (.int .i64 (dec z f.length)) rfl ?_
 refine XL.nil (X.seq (X.seq (X.region ?_)))
 refine XL.mv (.int .i64 (dec z f.length)) rfl ?_
 refine XL.cons (XOp.lss (a := dec z f.length) (b := 0) rfl rfl ?_)
 refine XL.nil ?_
 refine X.condD (p := (dec z f.length : Int) < 0) rfl (fun h1 => ?_) (fun h1 => ?_)
 ·refine X.seq (X.region ?_)
  refine XL.as (.int .i64 (-1)) rfl ?_
  refine XL.nil ?_
  refine X.ret (thenQ_ret (retEnd (L' := L) [.int .i64 (-1)] (.int .i64 (-1)) (.tmp rfl .nil) rfl rF rF (Sub.drop sR) ?_))
  exact ⟨(vI (dec_out (by omega))), rfl, rfl⟩
 ·refine X.skip (X.seq (X.region ?_))
  refine XL.cons (XOp.fieldP (b := b1) (1) Tryz.runUnderlying31 rfl Tryz.sizeOf29 (by decide) rfl rfl ?_)
  refine XL.cons (XOp.load1 (v := rsv) Tryz.isAgg29 rfl (Rd.own [] rfl rfl) ?_)
  refine XL.mv (.int .i64 (dec z f.length)) rfl ?_
  refine XL.cons (XOp.call (args := [rsv, .int .i64 (dec z f.length)]) Tryz.call50 rfl (szStepS_spec (z := dec z f.length) hrs (hz := (by first | assumption | rfl | omega | simp)) (hrl := (by first | assumption | rfl | omega | simp)) (hrb := (by first | assumption | rfl | omega | simp))) ?_)
  rintro _ _ _ _ ⟨rfl, rfl, rfl⟩
  refine XL.as (.int .i64 (dec (dec z f.length) (szG lenS rs))) rfl ?_
  refine XL.nil (X.seq (X.seq (X.region ?_)))
  refine XL.mv (.int .i64 (dec (dec z f.length) (szG lenS rs))) rfl ?_
  refine XL.cons (XOp.lss (a := dec (dec z f.length) (szG lenS rs)) (b := 0) rfl rfl ?_)
  refine XL.nil ?_
  refine X.condD (p := (dec (dec z f.length) (szG lenS rs) : Int) < 0) rfl (fun h2 => ?_) (fun h2 => ?_)
  ·refine X.seq (X.region ?_)
   refine XL.as (.int .i64 (-1)) rfl ?_
   refine XL.nil ?_
   refine X.ret (thenQ_ret (retEnd (L' := L) [.int .i64 (-1)] (.int .i64 (-1)) (.tmp rfl .nil) rfl rF rF (Sub.drop sR) ?_))
   exact ⟨(vI (by rw [← dec_dec (by omega)]; have := (dec_range (dec z f.length) (szG lenS rs)).1; omega)), rfl, rfl⟩
  ·refine X.skip (X.seq (X.region ?_))
   refine XL.mv (.int .i64 (dec (dec z f.length) (szG lenS rs))) rfl ?_
   refine XL.as (.int .i64 (dec (dec z f.length) (szG lenS rs))) rfl ?_
   refine XL.nil ?_
   refine X.ret (retEnd (L' := L) [.int .i64 (dec (dec z f.length) (szG lenS rs))] (.int .i64 (dec (dec z f.length) (szG lenS rs))) (.tmp rfl .nil) rfl rF rF (Sub.drop sR) ?_)
   exact ⟨(vI ((dec_dec (by omega)).symm)), rfl, rfl⟩

/- laws.eqStep -/
theorem eqStep_spec {F : FH} {L : List HP} {i : Int} {j : Int} {av : Value} {a : List Int} (ha : IntsF F av a) {p : Int} {q : Int} {bv : Value} {b : List Int} (hb : IntsF F bv b) (hbd : a.length ≤ 9223372036854775807 ∨ b.length ≤ 9223372036854775807) :
    Does Tryz.prog 123 [.agg #[.int .i64 (i), .int .i64 (j), av], .agg #[.int .i64 (p), .int .i64 (q), bv]] F (L) (fun v F' L' => (.bool (decide ((i, j, a) = (p, q, b))) : Value) = v ∧ F = F' ∧ L = L') := by
 refine Does.of_X Tryz.func123 rfl rfl rfl ?_
 refine X.seq (X.region ?_)
 refine XL.cons (XOp.box [.int .i64 (i), .int .i64 (j), av] rfl rfl ?_)
 intro b1
 refine XL.cons (XOp.box [.int .i64 (p), .int .i64 (q), bv] rfl rfl ?_)
 intro b2
 refine XL.as (.bool (false)) rfl ?_
 refine XL.nil (X.seq (X.seq (X.region ?_)))
 refine XL.cons (XOp.fieldP (b := b1) (0) Tryz.runUnderlying158 rfl Tryz.sizeOf2 (by decide) rfl rfl ?_)
 refine XL.cons (XOp.load1 (v := .int .i64 (i)) Tryz.isAgg2 rfl (Rd.own [_] rfl rfl) ?_)
 refine XL.cons (XOp.fieldP (b := b2) (0) Tryz.runUnderlying158 rfl Tryz.sizeOf2 (by decide) rfl rfl ?_)
 refine XL.cons (XOp.load1 (v := .int .i64 (p)) Tryz.isAgg2 rfl (Rd.own [] rfl rfl) ?_)
 refine XL.cons (XOp.neq (a := i) (b := p) rfl rfl ?_)
 refine XL.nil ?_
 refine X.condD (p := (i : Int) ≠ p) rfl (fun h1 => ?_) (fun h1 => ?_)
 ·refine X.seq (X.region ?_)
  refine XL.as (.bool (false)) rfl ?_
  refine XL.nil ?_
  refine X.ret (thenQ_ret (retEnd (L' := L) [.bool (false)] (.bool (false)) (.tmp rfl .nil) rfl rF rF (Sub.drop (Sub.drop sR)) ?_))
  exact ⟨(vB (decide_eq_false (by intro e; simp_all))), rfl, rfl⟩
 ·refine X.skip (X.seq (X.seq (X.region ?_)))
  refine XL.cons (XOp.fieldP (b := b1) (1) Tryz.runUnderlying158 rfl Tryz.sizeOf2 (by decide) rfl rfl ?_)
  refine XL.cons (XOp.load1 (v := .int .i64 (j)) Tryz.isAgg2 rfl (Rd.own [_] rfl rfl) ?_)
  refine XL.cons (XOp.fieldP (b := b2) (1) Tryz.runUnderlying158 rfl Tryz.sizeOf2 (by decide) rfl rfl ?_)
  refine XL.cons (XOp.load1 (v := .int .i64 (q)) Tryz.isAgg2 rfl (Rd.own [] rfl rfl) ?_)
  refine XL.cons (XOp.neq (a := j) (b := q) rfl rfl ?_)
  refine XL.nil ?_
  refine X.condD (p := (j : Int) ≠ q) rfl (fun h2 => ?_) (fun h2 => ?_)
  ·refine X.seq (X.region ?_)
   refine XL.as (.bool (false)) rfl ?_
   refine XL.nil ?_
   refine X.ret (thenQ_ret (retEnd (L' := L) [.bool (false)] (.bool (false)) (.tmp rfl .nil) rfl rF rF (Sub.drop (Sub.drop sR)) ?_))
   exact ⟨(vB (decide_eq_false (by intro e; simp_all))), rfl, rfl⟩
  ·refine X.skip (X.seq (X.seq (X.region ?_)))
   refine XL.cons (XOp.fieldP (b := b1) (2) Tryz.runUnderlying158 rfl Tryz.sizeOf22 (by decide) rfl rfl ?_)
   refine XL.cons (XOp.load1 (v := av) Tryz.isAgg22 rfl (Rd.own [_] rfl rfl) ?_)
   refine XL.cons (XOp.fieldP (b := b2) (2) Tryz.runUnderlying158 rfl Tryz.sizeOf22 (by decide) rfl rfl ?_)
   refine XL.cons (XOp.load1 (v := bv) Tryz.isAgg22 rfl (Rd.own [] rfl rfl) ?_)
   refine XL.cons (XOp.call (args := [av, bv]) Tryz.call23 rfl (eqInt64S_spec ha hb (hbd := (by first | assumption | rfl | omega | (left; simp; done) | (right; simp; done)))) ?_)
   rintro _ _ _ _ ⟨rfl, rfl, rfl⟩
   refine XL.cons (XOp.notD (p := a = b) rfl ?_)
   refine XL.nil ?_
   refine X.condD (p := ¬(a = b)) rfl (fun h3 => ?_) (fun h3 => ?_)
   ·refine X.seq (X.region ?_)
    refine XL.as (.bool (false)) rfl ?_
    refine XL.nil ?_
    refine X.ret (thenQ_ret (retEnd (L' := L) [.bool (false)] (.bool (false)) (.tmp rfl .nil) rfl rF rF (Sub.drop (Sub.drop sR)) ?_))
    exact ⟨(vB (decide_eq_false (by intro e; simp_all))), rfl, rfl⟩
   ·refine X.skip (X.seq (X.region ?_))
    refine XL.as (.bool (true)) rfl ?_
    refine XL.nil ?_
    refine X.ret (retEnd (L' := L) [.bool (true)] (.bool (true)) (.tmp rfl .nil) rfl rF rF (Sub.drop (Sub.drop sR)) ?_)
    exact ⟨(vB (decide_eq_true (by simp_all))), rfl, rfl⟩

/- laws.eqStepS -/
theorem eqStepS_spec {F : FH} {L : List HP} {av : Value} {a : List StepT} (ha : StepsF F av a) {bv : Value} {b : List StepT} (hb : StepsF F bv b) (hal : a.length ≤ 9223372036854775807) (hbd : ∀ i, i < a.length → (a.getD i (0, 0, [])).2.2.length ≤ 9223372036854775807) :
    Does Tryz.prog 62 [av, bv] F (L) (fun v F' L' => (.bool (decide (a = b)) : Value) = v ∧ F = F' ∧ L = L') := by
 refine Does.of_X Tryz.func62 rfl rfl rfl ?_
 refine X.seq (X.region ?_)
 refine XL.as (.bool (false)) rfl ?_
 refine XL.nil (X.seq (X.seq (X.region ?_)))
 refine XL.mv (av) rfl ?_
 refine XL.cons (XOp.lenS (v := av) (n := (a).length) Tryz.runUnderlying43 rfl ha.slv ?_)
 refine XL.mv (bv) rfl ?_
 refine XL.cons (XOp.lenS (v := bv) (n := (b).length) Tryz.runUnderlying43 rfl hb.slv ?_)
 refine XL.cons (XOp.neq (a := (a.length : Int)) (b := (b.length : Int)) rfl rfl ?_)
 refine XL.nil ?_
 refine X.condD (p := ((a.length : Int) : Int) ≠ (b.length : Int)) rfl (fun h1 => ?_) (fun h1 => ?_)
 ·refine X.seq (X.region ?_)
  refine XL.as (.bool (false)) rfl ?_
  refine XL.nil ?_
  refine X.ret (thenQ_ret (retEnd (L' := L) [.bool (false)] (.bool (false)) (.tmp rfl .nil) rfl rF rF sR ?_))
  exact ⟨(vB (decide_eq_false (fun e => by rw [e] at h1; omega))), rfl, rfl⟩
 ·refine X.skip (X.seq (X.seq (X.region ?_)))
  refine XL.as (.int .i64 (0)) rfl ?_
  refine XL.nil (X.block ?_)
  refine X.loop (α := Nat) (fun k => [(0, av), (1, bv), (5, .int .i64 ((k : Int)))]) (fun k => L) (fun k F' => F = F' ∧ (k ≤ a.length) ∧ (∀ i, i < k → a.getD i ((0 : Int), (0 : Int), ([] : List Int)) = b.getD i ((0 : Int), (0 : Int), ([] : List Int)))) (fun k => a.length - k) 0 ⟨rfl, rfl, rfl, trivial⟩ sR ⟨rfl, (by (try dsimp only) <;> omega), (fun i hi => absurd hi (by omega))⟩ ?_
  rintro k rE _ _ ⟨rfl, hk, hall⟩
  show X _ _ _ _ (envs [(0, av), (1, bv), (5, .int .i64 ((k : Int)))] rE) _ (L)
  have hbk := hbd k
  refine X.seq (X.seq (X.region ?_))
  refine XL.mv (.int .i64 ((k : Int))) rfl ?_
  refine XL.mv (av) rfl ?_
  refine XL.cons (XOp.lenS (v := av) (n := (a).length) Tryz.runUnderlying43 rfl ha.slv ?_)
  refine XL.cons (XOp.lss (a := (k : Int)) (b := (a.length : Int)) rfl rfl ?_)
  refine XL.nil ?_
  refine X.condD (p := (k : Int) < (a.length : Int)) rfl (fun h2 => ?_) (fun h2 => ?_)
  ·refine X.skip (X.seq (X.block (X.seq ?_)))
   obtain ⟨a1, ha1, hr1, hr2, hr3⟩ := ha.rd (i := k) (by omega)
   obtain ⟨a2, ha2, hr4, hr5, hr6⟩ := hb.rd (i := k) (by omega)
   refine X.draw [] L 8 [[], [], [], [], [], [], [], []] [[], [], [0, 1], [2], [], [], [4, 5], [6]] (phiL [fun us v => v = av, fun us v => v = (.int .i64 ((k : Int)) : Value), fun us v => v = (.pointer (some (elemA av (k * 3))) : Value), fun us v => v = (.agg #[.int .i64 ((a.getD k (0, 0, [])).1), .int .i64 ((a.getD k (0, 0, [])).2.1), a1] : Value), fun us v => v = bv, fun us v => v = (.int .i64 ((k : Int)) : Value), fun us v => v = (.pointer (some (elemA bv (k * 3))) : Value), fun us v => v = (.agg #[.int .i64 ((b.getD k (0, 0, [])).1), .int .i64 ((b.getD k (0, 0, [])).2.1), a2] : Value)]) (ownL [fun us v => [], fun us v => [], fun us v => [], fun us v => [], fun us v => [], fun us v => [], fun us v => [], fun us v => []]) mixed rfl rfl (by kernel_rfl) ?_ ?_
   ·refine stepsP.cons (fun vals R hpZ => ?_) ?_
    ·refine XG.op (XOp.move (av) rfl ?_)
     exact ⟨rfl, rfl, rfl⟩
    refine stepsP.cons (fun vals R hpZ => ?_) ?_
    ·refine XG.op (XOp.move (.int .i64 ((k : Int))) rfl ?_)
     exact ⟨rfl, rfl, rfl⟩
    refine stepsP.cons (fun vals R hpZ => ?_) ?_
    ·rw [eS (l := [(0, av), (1, (.int .i64 ((k : Int)) : Value))]) ⟨hpZ 0 (by decide), hpZ 1 (by decide), trivial⟩]
     refine XG.op (XOp.indexS (v := av) (i := (k : Int)) (n := (a).length) k Tryz.runUnderlying43 Tryz.sizeOf158 rfl rfl rfl ha.slv (by omega) rfl ?_)
     exact ⟨rfl, rfl, rfl⟩
    refine stepsP.cons (fun vals R hpZ => ?_) ?_
    ·rw [eS (l := [(2, (.pointer (some (elemA av (k * 3))) : Value))]) ⟨hpZ 2 (by decide), trivial⟩]
     refine XG.op (XOp.loadN [.int .i64 ((a.getD k (0, 0, [])).1), .int .i64 ((a.getD k (0, 0, [])).2.1), a1] Tryz.isAgg158 Tryz.sizeOf158 rfl rfl (Rd.three (hr1 _) (hr2 _) (hr3 _)) ?_)
     exact ⟨rfl, rfl, rfl⟩
    refine stepsP.cons (fun vals R hpZ => ?_) ?_
    ·refine XG.op (XOp.move (bv) rfl ?_)
     exact ⟨rfl, rfl, rfl⟩
    refine stepsP.cons (fun vals R hpZ => ?_) ?_
    ·refine XG.op (XOp.move (.int .i64 ((k : Int))) rfl ?_)
     exact ⟨rfl, rfl, rfl⟩
    refine stepsP.cons (fun vals R hpZ => ?_) ?_
    ·rw [eS (l := [(4, bv), (5, (.int .i64 ((k : Int)) : Value))]) ⟨hpZ 4 (by decide), hpZ 5 (by decide), trivial⟩]
     refine XG.op (XOp.indexS (v := bv) (i := (k : Int)) (n := (b).length) k Tryz.runUnderlying43 Tryz.sizeOf158 rfl rfl rfl hb.slv (by omega) rfl ?_)
     exact ⟨rfl, rfl, rfl⟩
    refine stepsP.cons (fun vals R hpZ => ?_) ?_
    ·rw [eS (l := [(6, (.pointer (some (elemA bv (k * 3))) : Value))]) ⟨hpZ 6 (by decide), trivial⟩]
     refine XG.op (XOp.loadN [.int .i64 ((b.getD k (0, 0, [])).1), .int .i64 ((b.getD k (0, 0, [])).2.1), a2] Tryz.isAgg158 Tryz.sizeOf158 rfl rfl (Rd.three (hr4 _) (hr5 _) (hr6 _)) ?_)
     exact ⟨rfl, rfl, rfl⟩
    exact stepsP.nil
   ·intro vals hphi
    rw [eS (l := [(0, av), (1, (.int .i64 ((k : Int)) : Value)), (2, (.pointer (some (elemA av (k * 3))) : Value)), (3, (.agg #[.int .i64 ((a.getD k (0, 0, [])).1), .int .i64 ((a.getD k (0, 0, [])).2.1), a1] : Value)), (4, bv), (5, (.int .i64 ((k : Int)) : Value)), (6, (.pointer (some (elemA bv (k * 3))) : Value)), (7, (.agg #[.int .i64 ((b.getD k (0, 0, [])).1), .int .i64 ((b.getD k (0, 0, [])).2.1), a2] : Value))]) ⟨(hphi 0 (by decide)), (hphi 1 (by decide)), (hphi 2 (by decide)), (hphi 3 (by decide)), (hphi 4 (by decide)), (hphi 5 (by decide)), (hphi 6 (by decide)), (hphi 7 (by decide)), trivial⟩]
    show XL _ _ _ _ _ _ _ (L)
    refine XL.cons (XOp.call (args := [.agg #[.int .i64 ((a.getD k (0, 0, [])).1), .int .i64 ((a.getD k (0, 0, [])).2.1), a1], .agg #[.int .i64 ((b.getD k (0, 0, [])).1), .int .i64 ((b.getD k (0, 0, [])).2.1), a2]]) Tryz.call123 rfl (eqStep_spec ha1 ha2 (hbd := (.inl (hbk (by omega))))) ?_)
    rintro _ _ _ _ ⟨rfl, rfl, rfl⟩
    refine XL.cons (XOp.notD (p := (((a.getD k (0, 0, [])).1), ((a.getD k (0, 0, [])).2.1), ((a.getD k (0, 0, [])).2.2)) = (((b.getD k (0, 0, [])).1), ((b.getD k (0, 0, [])).2.1), ((b.getD k (0, 0, [])).2.2))) rfl ?_)
    refine XL.nil ?_
    refine X.condD (p := ¬((((a.getD k (0, 0, [])).1), ((a.getD k (0, 0, [])).2.1), ((a.getD k (0, 0, [])).2.2)) = (((b.getD k (0, 0, [])).1), ((b.getD k (0, 0, [])).2.1), ((b.getD k (0, 0, [])).2.2)))) rfl (fun h3 => ?_) (fun h3 => ?_)
    ·refine X.seq (X.region ?_)
     refine XL.as (.bool (false)) rfl ?_
     refine XL.nil ?_
     refine X.ret (blockQ_ret (thenQ_ret (thenQ_ret (blockQ_ret (thenQ_ret (retEnd (L' := L) [.bool (false)] (.bool (false)) (.tmp rfl .nil) rfl rF rF sR ?_))))))
     exact ⟨(vB (decide_eq_false (fun e => by subst e; simp at *))), rfl, rfl⟩
    ·refine X.skip (X.region ?_)
     refine XL.mv (.int .i64 ((k : Int))) rfl ?_
     refine XL.cons (XOp.addR (a := (k : Int)) (b := 1) (((k + 1 : Nat) : Int)) rfl rfl (by omega) (by omega) ?_)
     refine XL.as (.int .i64 (((k + 1 : Nat) : Int))) rfl ?_
     refine XL.nil ?_
     exact ⟨k + 1, _, FLe.refl _, rF, ⟨rfl, rfl, rfl, trivial⟩, sR, ⟨rfl, (by (try dsimp only) <;> omega), (fun i hi => (Nat.lt_or_ge i k).elim (fun h => hall i h) (fun h => by obtain rfl : i = k := (by omega); first | assumption | exact Classical.not_not.1 (by assumption)))⟩, (by omega)⟩
  ·refine X.exit (thenQ_exit (thenQ_exit (blockQ_exit ?_)))
   refine X.seq (X.region ?_)
   refine XL.as (.bool (true)) rfl ?_
   refine XL.nil ?_
   refine X.ret (retEnd (L' := L) [.bool (true)] (.bool (true)) (.tmp rfl .nil) rfl rF rF sR ?_)
   exact ⟨(vB (decide_eq_true (ext_any ((0 : Int), (0 : Int), ([] : List Int)) (by omega) (fun i hi => hall i (by omega))))), rfl, rfl⟩

/- laws.eqWalk -/
theorem eqWalk_spec {F : FH} {L : List HP} {fv : Value} {f : List Int} (hf : IntsF F fv f) {av : Value} {a : List StepT} (ha : StepsF F av a) {gv : Value} {g : List Int} (hg : IntsF F gv g) {bv : Value} {b : List StepT} (hb : StepsF F bv b) (hfl : f.length ≤ 9223372036854775807) (hal : a.length ≤ 9223372036854775807) (hbd : ∀ i, i < a.length → (a.getD i (0, 0, [])).2.2.length ≤ 9223372036854775807) :
    Does Tryz.prog 17 [.agg #[fv, av], .agg #[gv, bv]] F (L) (fun v F' L' => (.bool (decide (f = g ∧ a = b)) : Value) = v ∧ F = F' ∧ L = L') := by
 refine Does.of_X Tryz.func17 rfl rfl rfl ?_
 refine X.seq (X.region ?_)
 refine XL.cons (XOp.box [fv, av] rfl rfl ?_)
 intro b1
 refine XL.cons (XOp.box [gv, bv] rfl rfl ?_)
 intro b2
 refine XL.as (.bool (false)) rfl ?_
 refine XL.nil (X.seq (X.seq (X.region ?_)))
 refine XL.cons (XOp.fieldP (b := b1) (0) Tryz.runUnderlying45 rfl Tryz.sizeOf22 (by decide) rfl rfl ?_)
 refine XL.cons (XOp.load1 (v := fv) Tryz.isAgg22 rfl (Rd.own [_] rfl rfl) ?_)
 refine XL.cons (XOp.fieldP (b := b2) (0) Tryz.runUnderlying45 rfl Tryz.sizeOf22 (by decide) rfl rfl ?_)
 refine XL.cons (XOp.load1 (v := gv) Tryz.isAgg22 rfl (Rd.own [] rfl rfl) ?_)
 refine XL.cons (XOp.call (args := [fv, gv]) Tryz.call23 rfl (eqInt64S_spec hf hg (hbd := (.inl hfl))) ?_)
 rintro _ _ _ _ ⟨rfl, rfl, rfl⟩
 refine XL.cons (XOp.notD (p := f = g) rfl ?_)
 refine XL.nil ?_
 refine X.condD (p := ¬(f = g)) rfl (fun h1 => ?_) (fun h1 => ?_)
 ·refine X.seq (X.region ?_)
  refine XL.as (.bool (false)) rfl ?_
  refine XL.nil ?_
  refine X.ret (thenQ_ret (retEnd (L' := L) [.bool (false)] (.bool (false)) (.tmp rfl .nil) rfl rF rF (Sub.drop (Sub.drop sR)) ?_))
  exact ⟨(vB (decide_eq_false (by intro e; simp_all))), rfl, rfl⟩
 ·refine X.skip (X.seq (X.seq (X.region ?_)))
  refine XL.cons (XOp.fieldP (b := b1) (1) Tryz.runUnderlying45 rfl Tryz.sizeOf43 (by decide) rfl rfl ?_)
  refine XL.cons (XOp.load1 (v := av) Tryz.isAgg43 rfl (Rd.own [_] rfl rfl) ?_)
  refine XL.cons (XOp.fieldP (b := b2) (1) Tryz.runUnderlying45 rfl Tryz.sizeOf43 (by decide) rfl rfl ?_)
  refine XL.cons (XOp.load1 (v := bv) Tryz.isAgg43 rfl (Rd.own [] rfl rfl) ?_)
  refine XL.cons (XOp.call (args := [av, bv]) Tryz.call62 rfl (eqStepS_spec ha hb (hal := (by first | assumption | rfl | omega | simp)) (hbd := (by first | assumption | rfl | omega | simp))) ?_)
  rintro _ _ _ _ ⟨rfl, rfl, rfl⟩
  refine XL.cons (XOp.notD (p := a = b) rfl ?_)
  refine XL.nil ?_
  refine X.condD (p := ¬(a = b)) rfl (fun h2 => ?_) (fun h2 => ?_)
  ·refine X.seq (X.region ?_)
   refine XL.as (.bool (false)) rfl ?_
   refine XL.nil ?_
   refine X.ret (thenQ_ret (retEnd (L' := L) [.bool (false)] (.bool (false)) (.tmp rfl .nil) rfl rF rF (Sub.drop (Sub.drop sR)) ?_))
   exact ⟨(vB (decide_eq_false (by intro e; simp_all))), rfl, rfl⟩
  ·refine X.skip (X.seq (X.region ?_))
   refine XL.as (.bool (true)) rfl ?_
   refine XL.nil ?_
   refine X.ret (retEnd (L' := L) [.bool (true)] (.bool (true)) (.tmp rfl .nil) rfl rF rF (Sub.drop (Sub.drop sR)) ?_)
   exact ⟨(vB (decide_eq_true (by simp_all))), rfl, rfl⟩

/- impl.stepArgs -/
theorem stepArgs_spec {F : FH} {L : List HP} {arv : Value} {ar : List Int} (har : IntsF F arv ar) {rsv : Value} {rs : List (List Int × List Int)} (hrs : PairsF F rsv rs) {tv : Value} {t : List Int} (ht : IntsF F tv t) {p : Int} {r : Int} :
    Does Tryz.prog 203 [.agg #[arv, rsv], tv, .int .i64 (p), .int .i64 (r)] F (L) (fun v F' L' => (.bool (stepAtOk ar rs t p r) : Value) = v ∧ F = F' ∧ L = L') := by
 refine Does.of_X Tryz.func203 rfl rfl rfl ?_
 refine X.seq (X.region ?_)
 refine XL.cons (XOp.box [arv, rsv] rfl rfl ?_)
 intro b1
 refine XL.as (.bool (false)) rfl ?_
 refine XL.nil (X.seq (X.region ?_))
 refine XL.cons (XOp.loadN [arv, rsv] Tryz.isAgg39 Tryz.sizeOf39 rfl rfl (Rd.ownN [] rfl rfl) ?_)
 refine XL.cons (XOp.call (args := [.agg #[arv, rsv]]) Tryz.call118 rfl (SystemOk_spec har hrs) ?_)
 rintro _ _ _ _ ⟨rfl, rfl, rfl⟩
 refine XL.mv (.bool (sysOk ar rs)) rfl ?_
 by_cases h1 : (sysOk ar rs) = true
 ·refine XL.yes (t := 11) rfl (vB h1) (XOp.fieldP (b := b1) (0) Tryz.runUnderlying39 rfl Tryz.sizeOf36 (by decide) rfl rfl ?_)
  refine XL.yes (t := 11) rfl (vB h1) (XOp.loadN [arv] Tryz.isAgg36 Tryz.sizeOf36 rfl rfl (Rd.ownN [] rfl rfl) ?_)
  refine XL.yes (t := 11) rfl (vB h1) (XOp.move (tv) rfl ?_)
  refine XL.yes (t := 11) rfl (vB h1) (XOp.move (.int .i64 (p)) rfl ?_)
  refine XL.yes (t := 11) rfl (vB h1) (XOp.call (args := [.agg #[arv], tv, .int .i64 (p)]) Tryz.call222 rfl (posOk_spec (n := p) har ht) ?_)
  rintro _ _ _ _ ⟨rfl, rfl, rfl⟩
  refine XL.cons (XOp.pickT (.bool (posOk ar t p)) (vB h1) rfl ?_)
  refine XL.mv (.bool (posOk ar t p)) rfl ?_
  by_cases h2 : (posOk ar t p) = true
  ·refine XL.yes (t := 18) rfl (vB h2) (XOp.move (.int .i64 (r)) rfl ?_)
   refine XL.yes (t := 18) rfl (vB h2) (XOp.geq (a := r) (b := 0) rfl rfl ?_)
   refine XL.cons (XOp.pickT (.bool (decide ((r : Int) ≥ 0))) (vB h2) rfl ?_)
   refine XL.mv (.bool (decide ((r : Int) ≥ 0))) rfl ?_
   by_cases h3 : (r : Int) ≥ 0
   ·refine XL.yes (t := 22) rfl (vT h3) (XOp.move (.int .i64 (r)) rfl ?_)
    refine XL.yes (t := 22) rfl (vT h3) (XOp.fieldP (b := b1) (1) Tryz.runUnderlying39 rfl Tryz.sizeOf37 (by decide) rfl rfl ?_)
    refine XL.yes (t := 22) rfl (vT h3) (XOp.load1 (v := rsv) Tryz.isAgg37 rfl (Rd.own [] rfl rfl) ?_)
    refine XL.yes (t := 22) rfl (vT h3) (XOp.lenS (v := rsv) (n := (rs).length) Tryz.runUnderlying37 rfl hrs.slv ?_)
    refine XL.yes (t := 22) rfl (vT h3) (XOp.lss (a := r) (b := (rs.length : Int)) rfl rfl ?_)
    refine XL.cons (XOp.pickT (.bool (decide ((r : Int) < (rs.length : Int)))) (vT h3) rfl ?_)
    refine XL.as (.bool (decide ((r : Int) < (rs.length : Int)))) rfl ?_
    refine XL.nil ?_
    refine X.ret (retEnd (L' := L) [.bool (decide ((r : Int) < (rs.length : Int)))] (.bool (decide ((r : Int) < (rs.length : Int)))) (.tmp rfl .nil) rfl rF rF (Sub.drop sR) ?_)
    exact ⟨(vB (by unfold stepAtOk rightB; cases hA : sysOk ar rs <;> cases hB : termOk ar t <;> simp_all [posOk] <;> omega)), rfl, rfl⟩
   ·refine XL.no (t := 22) rfl (vF h3) ?_
    refine XL.no (t := 22) rfl (vF h3) ?_
    refine XL.no (t := 22) rfl (vF h3) ?_
    refine XL.no (t := 22) rfl (vF h3) ?_
    refine XL.no (t := 22) rfl (vF h3) ?_
    refine XL.cons (XOp.pickF (.bool (false)) (vF h3) rfl ?_)
    refine XL.as (.bool (false)) rfl ?_
    refine XL.nil ?_
    refine X.ret (retEnd (L' := L) [.bool (false)] (.bool (false)) (.tmp rfl .nil) rfl rF rF (Sub.drop sR) ?_)
    exact ⟨(vB (by unfold stepAtOk rightB; cases hA : sysOk ar rs <;> cases hB : termOk ar t <;> simp_all [posOk] <;> omega)), rfl, rfl⟩
  ·rw [Bool.not_eq_true] at h2
   refine XL.no (t := 18) rfl (vB h2) ?_
   refine XL.no (t := 18) rfl (vB h2) ?_
   refine XL.cons (XOp.pickF (.bool (false)) (vB h2) rfl ?_)
   refine XL.mv (.bool (false)) rfl ?_
   refine XL.no (t := 22) rfl rfl ?_
   refine XL.no (t := 22) rfl rfl ?_
   refine XL.no (t := 22) rfl rfl ?_
   refine XL.no (t := 22) rfl rfl ?_
   refine XL.no (t := 22) rfl rfl ?_
   refine XL.cons (XOp.pickF (.bool (false)) rfl rfl ?_)
   refine XL.as (.bool (false)) rfl ?_
   refine XL.nil ?_
   refine X.ret (retEnd (L' := L) [.bool (false)] (.bool (false)) (.tmp rfl .nil) rfl rF rF (Sub.drop sR) ?_)
   exact ⟨(vB (by unfold stepAtOk rightB; cases hA : sysOk ar rs <;> cases hB : termOk ar t <;> simp_all [posOk] <;> omega)), rfl, rfl⟩
 ·rw [Bool.not_eq_true] at h1
  refine XL.no (t := 11) rfl (vB h1) ?_
  refine XL.no (t := 11) rfl (vB h1) ?_
  refine XL.no (t := 11) rfl (vB h1) ?_
  refine XL.no (t := 11) rfl (vB h1) ?_
  refine XL.no (t := 11) rfl (vB h1) ?_
  refine XL.cons (XOp.pickF (.bool (false)) (vB h1) rfl ?_)
  refine XL.mv (.bool (false)) rfl ?_
  refine XL.no (t := 18) rfl rfl ?_
  refine XL.no (t := 18) rfl rfl ?_
  refine XL.cons (XOp.pickF (.bool (false)) rfl rfl ?_)
  refine XL.mv (.bool (false)) rfl ?_
  refine XL.no (t := 22) rfl rfl ?_
  refine XL.no (t := 22) rfl rfl ?_
  refine XL.no (t := 22) rfl rfl ?_
  refine XL.no (t := 22) rfl rfl ?_
  refine XL.no (t := 22) rfl rfl ?_
  refine XL.cons (XOp.pickF (.bool (false)) rfl rfl ?_)
  refine XL.as (.bool (false)) rfl ?_
  refine XL.nil ?_
  refine X.ret (retEnd (L' := L) [.bool (false)] (.bool (false)) (.tmp rfl .nil) rfl rF rF (Sub.drop sR) ?_)
  exact ⟨(vB (by unfold stepAtOk rightB; cases hA : sysOk ar rs <;> cases hB : termOk ar t <;> simp_all [posOk] <;> omega)), rfl, rfl⟩

/- impl.StepAt -/
theorem StepAt_spec {F : FH} {L : List HP} {arv : Value} {ar : List Int} (har : IntsF F arv ar) {rsv : Value} {rs : List (List Int × List Int)} (hrs : PairsF F rsv rs) {tv : Value} {t : List Int} (ht : IntsF F tv t) {p : Int} {r : Int} :
    Does Tryz.prog 174 [.agg #[arv, rsv], tv, .int .i64 (p), .int .i64 (r)] F (L) (fun v F' L' => ∃ (a : Value), (.tuple #[a, .bool ((stepAtL ar rs t p r).isSome)] : Value) = v ∧ (IntsF F' a ((stepAtL ar rs t p r).getD [])) ∧ (Fresh F F' (intsH 2 a ((stepAtL ar rs t p r).getD []))) ∧ L = L') := by
 refine Does.of_X Tryz.func174 rfl rfl rfl ?_
 refine X.seq (X.region ?_)
 refine XL.cons (XOp.box [arv, rsv] rfl rfl ?_)
 intro b1
 refine XL.as ((.slice none 0 0)) rfl ?_
 refine XL.as (.bool (false)) rfl ?_
 refine XL.nil (X.seq (X.seq (X.region ?_)))
 refine XL.cons (XOp.loadN [arv, rsv] Tryz.isAgg39 Tryz.sizeOf39 rfl rfl (Rd.ownN [] rfl rfl) ?_)
 refine XL.mv (tv) rfl ?_
 refine XL.mv (.int .i64 (p)) rfl ?_
 refine XL.mv (.int .i64 (r)) rfl ?_
 refine XL.cons (XOp.call (args := [.agg #[arv, rsv], tv, .int .i64 (p), .int .i64 (r)]) Tryz.call203 rfl (stepArgs_spec (p := p) (r := r) har hrs ht) ?_)
 rintro _ _ _ _ ⟨rfl, rfl, rfl⟩
 refine XL.cons (XOp.notB (b := stepAtOk ar rs t p r) rfl ?_)
 refine XL.nil ?_
 refine X.cond (t := !(stepAtOk ar rs t p r)) rfl (fun h1 => ?_) (fun h1 => ?_)
 ·have hz0 : stepAtL ar rs t p r = none := by rw [stepAtL, if_neg (by simpa using h1)]
  refine X.seq (X.region ?_)
  refine XL.as ((.slice none 0 0)) rfl ?_
  refine XL.as (.bool (false)) rfl ?_
  refine XL.nil ?_
  refine X.ret (thenQ_ret (retEnd (L' := L) [(.slice none 0 0), .bool (false)] (.tuple #[(.slice none 0 0), .bool (false)]) (.tmp rfl (.tmp rfl .nil)) rfl rF rF (Sub.drop sR) ?_))
  exact ⟨_, by rw [hz0]; rfl, by rw [hz0]; exact IntsF.nilV, by rw [hz0]; exact Fresh.ofNil _, rfl⟩
 ·have hok : stepAtOk ar rs t p r = true := by simpa using h1
  have hok2 := hok
  unfold stepAtOk rightB at hok2
  simp only [Bool.and_eq_true, decide_eq_true_eq] at hok2
  obtain ⟨⟨⟨hsys, ho⟩, hp1⟩, hr1⟩ := hok2
  refine X.skip (X.seq (X.region ?_))
  refine XL.cons (XOp.loadN [arv, rsv] Tryz.isAgg39 Tryz.sizeOf39 rfl rfl (Rd.ownN [] rfl rfl) ?_)
  refine XL.mv (tv) rfl ?_
  refine XL.mv (.int .i64 (p)) rfl ?_
  refine XL.mv (.int .i64 (r)) rfl ?_
  refine XL.cons (XOp.call (args := [.agg #[arv, rsv], tv, .int .i64 (((p).toNat : Nat) : Int), .int .i64 (((r).toNat : Nat) : Int)]) Tryz.call204 (by rw [show (((p).toNat : Nat) : Int) = p from by omega, show (((r).toNat : Nat) : Int) = r from by omega]; rfl) (step_spec (p := (p).toNat) (r := (r).toNat) har hrs ht (hsys := (by first | assumption | rfl | omega | simp)) (ho := (by first | assumption | rfl | omega | simp)) (hp := (by first | assumption | rfl | omega | simp)) (hr := (by first | assumption | rfl | omega | simp))) ?_)
  rintro _ F1 _ le1 ⟨x1, rfl, hr1, hr2, hr3, rfl⟩
  replace har := har.mono le1
  replace hrs := hrs.mono le1
  replace ht := ht.mono le1
  refine XL.cons (XOp.extract (x1) rfl rfl ?_)
  refine XL.cons (XOp.extract (.bool ((stepL ar rs t ((p).toNat) ((r).toNat)).isSome)) rfl rfl ?_)
  refine XL.as (x1) rfl ?_
  refine XL.as (.bool ((stepL ar rs t ((p).toNat) ((r).toNat)).isSome)) rfl ?_
  refine XL.nil ?_
  refine X.ret (retEnd (L' := L) [x1, .bool ((stepL ar rs t ((p).toNat) ((r).toNat)).isSome)] (.tuple #[x1, .bool ((stepL ar rs t ((p).toNat) ((r).toNat)).isSome)]) (.tmp rfl (.tmp rfl .nil)) rfl le1 rF (Sub.drop sR) ?_)
  have e := show stepAtL ar rs t p r = stepL ar rs t p.toNat r.toNat from by rw [stepAtL, if_pos hok]
  exact ⟨_, by rw [e], by rw [e]; exact hr1, by rw [e]; exact hr3, rfl⟩
end Go.Proofs.YtnloeeaidknblaaGreat
set_option linter.unusedSimpArgs false
set_option linter.unusedVariables false
namespace Go.Proofs.YtnloeeaidknblaaGreat
open Go X M

/- impl.walkOk -/
theorem walkOk_spec {F : FH} {L : List HP} {arv : Value} {ar : List Int} (har : IntsF F arv ar) {rsv : Value} {rs : List (List Int × List Int)} (hrs : PairsF F rsv rs) {fv : Value} {f : List Int} (hf : IntsF F fv f) {ssv : Value} {ss : List StepT} (hss : StepsF F ssv ss) (hlf : f.length ≤ 4000000) (hsb : ∀ i, i < ss.length → (ss.getD i (0, 0, [])).2.2.length ≤ 4000000) :
    Does Tryz.prog 119 [.agg #[arv, rsv], .agg #[fv, ssv]] F (L) (fun v F' L' => (.bool (((termOk ar f && decide (ss.length ≤ 60)) && goOk ar rs f ss)) : Value) = v ∧ F = F' ∧ L = L') := by
 refine Does.of_X Tryz.func119 rfl rfl rfl ?_
 refine X.seq (X.region ?_)
 refine XL.cons (XOp.box [arv, rsv] rfl rfl ?_)
 intro b1
 refine XL.cons (XOp.box [fv, ssv] rfl rfl ?_)
 intro b2
 refine XL.as (.bool (false)) rfl ?_
 refine XL.nil (X.seq (X.seq (X.region ?_)))
 refine XL.cons (XOp.fieldP (b := b1) (0) Tryz.runUnderlying39 rfl Tryz.sizeOf36 (by decide) rfl rfl ?_)
 refine XL.cons (XOp.loadN [arv] Tryz.isAgg36 Tryz.sizeOf36 rfl rfl (Rd.ownN [_] rfl rfl) ?_)
 refine XL.cons (XOp.fieldP (b := b2) (0) Tryz.runUnderlying45 rfl Tryz.sizeOf22 (by decide) rfl rfl ?_)
 refine XL.cons (XOp.load1 (v := fv) Tryz.isAgg22 rfl (Rd.own [] rfl rfl) ?_)
 refine XL.cons (XOp.call (args := [.agg #[arv], fv]) Tryz.call141 rfl (TermOk_spec har hf) ?_)
 rintro _ _ _ _ ⟨rfl, rfl, rfl⟩
 refine XL.cons (XOp.notB (b := termOk ar f) rfl ?_)
 refine XL.mv (.bool (!(termOk ar f))) rfl ?_
 by_cases h1 : (!(termOk ar f)) = true
 ·refine XL.no (t := 16) rfl (vB h1) ?_
  refine XL.no (t := 16) rfl (vB h1) ?_
  refine XL.no (t := 16) rfl (vB h1) ?_
  refine XL.no (t := 16) rfl (vB h1) ?_
  refine XL.cons (XOp.pickT (.bool (true)) (vB h1) rfl ?_)
  refine XL.nil ?_
  refine X.condT rfl ?_
  refine X.seq (X.region ?_)
  refine XL.as (.bool (false)) rfl ?_
  refine XL.nil ?_
  refine X.ret (thenQ_ret (retEnd (L' := L) [.bool (false)] (.bool (false)) (.tmp rfl .nil) rfl rF rF (Sub.drop (Sub.drop sR)) ?_))
  exact ⟨(vB (by simp_all <;> omega)), rfl, rfl⟩
 ·rw [Bool.not_eq_true] at h1
  refine XL.yes (t := 16) rfl (vB h1) (XOp.fieldP (b := b2) (1) Tryz.runUnderlying45 rfl Tryz.sizeOf43 (by decide) rfl rfl ?_)
  refine XL.yes (t := 16) rfl (vB h1) (XOp.load1 (v := ssv) Tryz.isAgg43 rfl (Rd.own [] rfl rfl) ?_)
  refine XL.yes (t := 16) rfl (vB h1) (XOp.lenS (v := ssv) (n := (ss).length) Tryz.runUnderlying43 rfl hss.slv ?_)
  refine XL.yes (t := 16) rfl (vB h1) (XOp.gtr (a := (ss.length : Int)) (b := 60) rfl rfl ?_)
  refine XL.cons (XOp.pickF (.bool (decide (((ss.length : Int) : Int) > 60))) (vB h1) rfl ?_)
  refine XL.nil ?_
  refine X.condD (p := ((ss.length : Int) : Int) > 60) rfl (fun h2 => ?_) (fun h2 => ?_)
  ·refine X.seq (X.region ?_)
   refine XL.as (.bool (false)) rfl ?_
   refine XL.nil ?_
   refine X.ret (thenQ_ret (retEnd (L' := L) [.bool (false)] (.bool (false)) (.tmp rfl .nil) rfl rF rF (Sub.drop (Sub.drop sR)) ?_))
   exact ⟨(vB (by simp_all <;> omega)), rfl, rfl⟩
  ·refine X.skip (X.seq (X.region ?_))
   refine XL.cons (XOp.fieldP (b := b2) (0) Tryz.runUnderlying45 rfl Tryz.sizeOf22 (by decide) rfl rfl ?_)
   refine XL.cons (XOp.load1 (v := fv) Tryz.isAgg22 rfl (Rd.own [] rfl rfl) ?_)
   refine XL.as (fv) rfl ?_
   refine XL.nil (X.seq (X.seq (X.region ?_)))
   refine XL.cons (XOp.fieldP (b := b2) (1) Tryz.runUnderlying45 rfl Tryz.sizeOf43 (by decide) rfl rfl ?_)
   refine XL.cons (XOp.load1 (v := ssv) Tryz.isAgg43 rfl (Rd.own [] rfl rfl) ?_)
   refine XL.cons (XOp.lenS (v := ssv) (n := (ss).length) Tryz.runUnderlying43 rfl hss.slv ?_)
   refine XL.mv (.int .i64 (0)) rfl ?_
   refine XL.nil (X.block ?_)
   refine X.loop (α := Nat × Value × List Int × FH) (fun xQ => [(2, ptr b1 0), (5, xQ.2.1), (25, ssv), (26, .int .i64 ((ss.length : Int))), (27, .int .i64 (((xQ.1 : Nat) : Int)))]) (fun xQ => cellsH b2 [fv, ssv] 45 :: cellsH b1 [arv, rsv] 39 :: L) (fun xQ F' => xQ.2.2.2 = F' ∧ F ≤ xQ.2.2.2 ∧ (IntsF xQ.2.2.2 xQ.2.1 xQ.2.2.1) ∧ (xQ.1 ≤ ss.length) ∧ (goOk ar rs f ss = goOk ar rs xQ.2.2.1 (ss.drop xQ.1)) ∧ (xQ.2.2.1.length ≤ 4000000)) (fun xQ => ss.length - xQ.1) (0, fv, f, F) ⟨rfl, rfl, rfl, rfl, rfl, trivial⟩ (Sub.cons (Sub.cons sR)) ⟨rfl, FLe.refl _, (hf), (by (try dsimp only) <;> omega), (rfl), (hlf)⟩ ?_
   rintro ⟨k, cv, cur, G1⟩ rE _ _ ⟨rfl, leG, hcv, hk, hgo, hcl⟩
   show X _ _ _ _ (envs [(2, ptr b1 0), (5, cv), (25, ssv), (26, .int .i64 ((ss.length : Int))), (27, .int .i64 ((k : Int)))] rE) _ (cellsH b2 [fv, ssv] 45 :: cellsH b1 [arv, rsv] 39 :: L)
   replace leG : F ≤ G1 := leG
   dsimp only at hcv hk hgo hcl
   have hsk := hsb k
   have leG1 := leG
   replace har := har.mono leG1
   replace hrs := hrs.mono leG1
   replace hf := hf.mono leG1
   replace hss := hss.mono leG1
   refine X.seq (X.region ?_)
   refine XL.cons (XOp.lss (a := (k : Int)) (b := (ss.length : Int)) rfl rfl ?_)
   refine XL.nil (X.seq ?_)
   refine X.condD (p := (k : Int) < (ss.length : Int)) rfl (fun h3 => ?_) (fun h3 => ?_)
   ·refine X.skip (X.seq (X.block (X.seq (X.region ?_))))
    refine XL.cons (XOp.indexS (v := ssv) (i := (k : Int)) (n := (ss).length) k Tryz.runUnderlying43 Tryz.sizeOf158 rfl rfl rfl hss.slv (by omega) rfl ?_)
    obtain ⟨a1, ha1, hr1, hr2, hr3⟩ := hss.rd (i := k) (by omega)
    refine XL.cons (XOp.loadN [.int .i64 ((ss.getD k (0, 0, [])).1), .int .i64 ((ss.getD k (0, 0, [])).2.1), a1] Tryz.isAgg158 Tryz.sizeOf158 rfl rfl (Rd.three (hr1 _) (hr2 _) (hr3 _)) ?_)
    refine XL.cons (XOp.alloc [.int .i64 (0), .int .i64 (0), (.slice none 0 0)] Tryz.zeroValue158 rfl ?_)
    intro b3
    refine XL.cons (XOp.storeN (vs := [.int .i64 ((ss.getD k (0, 0, [])).1), .int .i64 ((ss.getD k (0, 0, [])).2.1), a1]) [] _ [.int .i64 ((ss.getD k (0, 0, [])).1), .int .i64 ((ss.getD k (0, 0, [])).2.1), a1] Tryz.sizeOf158 rfl rfl rfl (ones_cons rfl (ones_cons rfl (ones_cons (one_sl (IntsF.isSl ha1)) ones_nil))) rfl rfl rfl ?_)
    refine XL.nil (X.seq (X.region ?_))
    refine XL.cons (XOp.loadN [arv, rsv] Tryz.isAgg39 Tryz.sizeOf39 rfl rfl (Rd.ownN [_, _] rfl rfl) ?_)
    refine XL.mv (cv) rfl ?_
    refine XL.cons (XOp.fieldP (b := b3) (0) Tryz.runUnderlying158 rfl Tryz.sizeOf2 (by decide) rfl rfl ?_)
    refine XL.cons (XOp.load1 (v := .int .i64 ((ss.getD k (0, 0, [])).1)) Tryz.isAgg2 rfl (Rd.own [] rfl rfl) ?_)
    refine XL.cons (XOp.fieldP (b := b3) (1) Tryz.runUnderlying158 rfl Tryz.sizeOf2 (by decide) rfl rfl ?_)
    refine XL.cons (XOp.load1 (v := .int .i64 ((ss.getD k (0, 0, [])).2.1)) Tryz.isAgg2 rfl (Rd.own [] rfl rfl) ?_)
    refine XL.cons (XOp.call (args := [.agg #[arv, rsv], cv, .int .i64 ((ss.getD k (0, 0, [])).1), .int .i64 ((ss.getD k (0, 0, [])).2.1)]) Tryz.call174 rfl (StepAt_spec (p := (ss.getD k (0, 0, [])).1) (r := (ss.getD k (0, 0, [])).2.1) har hrs hcv) ?_)
    rintro _ F1 _ le1 ⟨x1, rfl, hr4, hr5, rfl⟩
    replace har := har.mono le1
    replace hrs := hrs.mono le1
    replace hf := hf.mono le1
    replace hss := hss.mono le1
    replace hcv := hcv.mono le1
    replace ha1 := ha1.mono le1
    replace hr1 := Rd.monoA hr1 le1
    replace hr2 := Rd.monoA hr2 le1
    replace hr3 := Rd.monoA hr3 le1
    refine XL.mv (.tuple #[x1, .bool ((stepAtL ar rs cur ((ss.getD k (0, 0, [])).1) ((ss.getD k (0, 0, [])).2.1)).isSome)]) rfl ?_
    refine XL.cons (XOp.extract (x1) rfl rfl ?_)
    refine XL.cons (XOp.extract (.bool ((stepAtL ar rs cur ((ss.getD k (0, 0, [])).1) ((ss.getD k (0, 0, [])).2.1)).isSome)) rfl rfl ?_)
    refine XL.as (x1) rfl ?_
    refine XL.as (.bool ((stepAtL ar rs cur ((ss.getD k (0, 0, [])).1) ((ss.getD k (0, 0, [])).2.1)).isSome)) rfl ?_
    refine XL.nil (X.seq (X.seq (X.region ?_)))
    refine XL.mv (.bool ((stepAtL ar rs cur ((ss.getD k (0, 0, [])).1) ((ss.getD k (0, 0, [])).2.1)).isSome)) rfl ?_
    refine XL.cons (XOp.notB (b := (stepAtL ar rs cur ((ss.getD k (0, 0, [])).1) ((ss.getD k (0, 0, [])).2.1)).isSome) rfl ?_)
    refine XL.mv (.bool (!((stepAtL ar rs cur ((ss.getD k (0, 0, [])).1) ((ss.getD k (0, 0, [])).2.1)).isSome))) rfl ?_
    by_cases h4 : (!((stepAtL ar rs cur ((ss.getD k (0, 0, [])).1) ((ss.getD k (0, 0, [])).2.1)).isSome)) = true
    ·have hu1 : (stepAtL ar rs cur (ss.getD k (0, 0, [])).1 (ss.getD k (0, 0, [])).2.1).isSome = false := by simpa using h4
     refine XL.no (t := 43) rfl (vB h4) ?_
     refine XL.no (t := 43) rfl (vB h4) ?_
     refine XL.no (t := 43) rfl (vB h4) ?_
     refine XL.no (t := 43) rfl (vB h4) ?_
     refine XL.no (t := 43) rfl (vB h4) ?_
     refine XL.cons (XOp.pickT (.bool (true)) (vB h4) rfl ?_)
     refine XL.nil ?_
     refine X.condT rfl ?_
     refine X.seq (X.region ?_)
     refine XL.as (.bool (false)) rfl ?_
     refine XL.nil ?_
     refine X.ret (thenQ_ret (blockQ_ret (thenQ_ret (thenQ_ret (blockQ_ret (thenQ_ret (retEnd (L' := L) [.bool (false)] (.bool (false)) (.tmp rfl .nil) rfl rF (FLe.trans leG1 le1) (Sub.drop (Sub.drop (Sub.drop sR))) ?_)))))))
     exact ⟨(vB (by have hz := goOk_fail (ar := ar) (rs := rs) (t := cur) (ss := ss) (k := k) (by omega) (by first | exact .inl hu1 | exact .inr hu2); rw [hgo, hz]; simp)), rfl, rfl⟩
    ·rw [Bool.not_eq_true] at h4
     have hu1 : (stepAtL ar rs cur (ss.getD k (0, 0, [])).1 (ss.getD k (0, 0, [])).2.1).isSome = true := by simpa using h4
     refine XL.yes (t := 43) rfl (vB h4) (XOp.move (x1) rfl ?_)
     refine XL.yes (t := 43) rfl (vB h4) (XOp.fieldP (b := b3) (2) Tryz.runUnderlying158 rfl Tryz.sizeOf22 (by decide) rfl rfl ?_)
     refine XL.yes (t := 43) rfl (vB h4) (XOp.load1 (v := a1) Tryz.isAgg22 rfl (Rd.own [] rfl rfl) ?_)
     refine XL.yes (t := 43) rfl (vB h4) (XOp.call (args := [x1, a1]) Tryz.call163 rfl (Equal_spec hr4 ha1 (hbd := (by first | assumption | rfl | omega | (left; simp; done) | (right; simp; done)))) ?_)
     rintro _ _ _ _ ⟨rfl, rfl, rfl⟩
     refine XL.yes (t := 43) rfl (vB h4) (XOp.notD (p := ((stepAtL ar rs cur ((ss.getD k (0, 0, [])).1) ((ss.getD k (0, 0, [])).2.1)).getD []) = ((ss.getD k (0, 0, [])).2.2)) rfl ?_)
     refine XL.cons (XOp.pickF (.bool (decide (¬(((stepAtL ar rs cur ((ss.getD k (0, 0, [])).1) ((ss.getD k (0, 0, [])).2.1)).getD []) = ((ss.getD k (0, 0, [])).2.2))))) (vB h4) rfl ?_)
     refine XL.nil ?_
     refine X.condD (p := ¬(((stepAtL ar rs cur ((ss.getD k (0, 0, [])).1) ((ss.getD k (0, 0, [])).2.1)).getD []) = ((ss.getD k (0, 0, [])).2.2))) rfl (fun h5 => ?_) (fun h5 => ?_)
     ·have hu2 : (stepAtL ar rs cur (ss.getD k (0, 0, [])).1 (ss.getD k (0, 0, [])).2.1).getD [] ≠ (ss.getD k (0, 0, [])).2.2 := h5
      refine X.seq (X.region ?_)
      refine XL.as (.bool (false)) rfl ?_
      refine XL.nil ?_
      refine X.ret (thenQ_ret (blockQ_ret (thenQ_ret (thenQ_ret (blockQ_ret (thenQ_ret (retEnd (L' := L) [.bool (false)] (.bool (false)) (.tmp rfl .nil) rfl rF (FLe.trans leG1 le1) (Sub.drop (Sub.drop (Sub.drop sR))) ?_)))))))
      exact ⟨(vB (by have hz := goOk_fail (ar := ar) (rs := rs) (t := cur) (ss := ss) (k := k) (by omega) (by first | exact .inl hu1 | exact .inr hu2); rw [hgo, hz]; simp)), rfl, rfl⟩
     ·have hu2 : (stepAtL ar rs cur (ss.getD k (0, 0, [])).1 (ss.getD k (0, 0, [])).2.1).getD [] = (ss.getD k (0, 0, [])).2.2 := Classical.not_not.1 h5
      refine X.skip (X.region ?_)
      refine XL.mv (x1) rfl ?_
      refine XL.as (x1) rfl ?_
      refine XL.nil (X.region ?_)
      refine XL.cons (XOp.addR (a := (k : Int)) (b := 1) (((k + 1 : Nat) : Int)) rfl rfl (by omega) (by omega) ?_)
      refine XL.mv (.int .i64 (((k + 1 : Nat) : Int))) rfl ?_
      refine XL.nil ?_
      exact ⟨(k + 1, x1, (stepAtL ar rs cur ((ss.getD k (0, 0, [])).1) ((ss.getD k (0, 0, [])).2.1)).getD [], F1), _, (FLe.trans leG1 le1), rF, ⟨rfl, rfl, rfl, rfl, rfl, trivial⟩, (Sub.drop (Sub.cons (Sub.cons sR))), ⟨rfl, (FLe.trans leG1 le1), (hr4), (by (try dsimp only) <;> omega), (by (try dsimp only); rw [hgo]; exact goOk_next (by omega) hu1 hu2), (by (try dsimp only); rw [hu2]; exact hsk (by omega))⟩, (by omega)⟩
   ·refine X.exit (thenQ_exit (thenQ_exit (blockQ_exit ?_)))
    refine X.seq (X.region ?_)
    refine XL.as (.bool (true)) rfl ?_
    refine XL.nil ?_
    refine X.ret (retEnd (L' := L) [.bool (true)] (.bool (true)) (.tmp rfl .nil) rfl rF leG1 (Sub.drop (Sub.drop sR)) ?_)
    exact ⟨(vB (by rw [hgo, goOk_end (by omega)]; simp_all <;> omega)), rfl, rfl⟩

/- impl.WalkOk -/
theorem WalkOk_spec {F : FH} {L : List HP} {arv : Value} {ar : List Int} (har : IntsF F arv ar) {rsv : Value} {rs : List (List Int × List Int)} (hrs : PairsF F rsv rs) {fv : Value} {f : List Int} (hf : IntsF F fv f) {ssv : Value} {ss : List StepT} (hss : StepsF F ssv ss) (hlf : f.length ≤ 4000000) (hsb : ∀ i, i < ss.length → (ss.getD i (0, 0, [])).2.2.length ≤ 4000000) :
    Does Tryz.prog 57 [.agg #[arv, rsv], .agg #[fv, ssv]] F (L) (fun v F' L' => (.bool (walkOkL ar rs f ss) : Value) = v ∧ F = F' ∧ L = L') := by
 refine Does.of_X Tryz.func57 rfl rfl rfl ?_
 refine X.seq (X.region ?_)
 refine XL.cons (XOp.box [arv, rsv] rfl rfl ?_)
 intro b1
 refine XL.cons (XOp.box [fv, ssv] rfl rfl ?_)
 intro b2
 refine XL.as (.bool (false)) rfl ?_
 refine XL.nil (X.seq (X.region ?_))
 refine XL.cons (XOp.loadN [arv, rsv] Tryz.isAgg39 Tryz.sizeOf39 rfl rfl (Rd.ownN [_] rfl rfl) ?_)
 refine XL.cons (XOp.call (args := [.agg #[arv, rsv]]) Tryz.call118 rfl (SystemOk_spec har hrs) ?_)
 rintro _ _ _ _ ⟨rfl, rfl, rfl⟩
 refine XL.mv (.bool (sysOk ar rs)) rfl ?_
 by_cases h1 : (sysOk ar rs) = true
 ·refine XL.yes (t := 7) rfl (vB h1) (XOp.loadN [arv, rsv] Tryz.isAgg39 Tryz.sizeOf39 rfl rfl (Rd.ownN [_] rfl rfl) ?_)
  refine XL.yes (t := 7) rfl (vB h1) (XOp.loadN [fv, ssv] Tryz.isAgg45 Tryz.sizeOf45 rfl rfl (Rd.ownN [] rfl rfl) ?_)
  refine XL.yes (t := 7) rfl (vB h1) (XOp.call (args := [.agg #[arv, rsv], .agg #[fv, ssv]]) Tryz.call119 rfl (walkOk_spec har hrs hf hss (hlf := (by first | assumption | rfl | omega | simp)) (hsb := (by first | assumption | rfl | omega | simp))) ?_)
  rintro _ _ _ _ ⟨rfl, rfl, rfl⟩
  refine XL.cons (XOp.pickT (.bool (((termOk ar f && decide (ss.length ≤ 60)) && goOk ar rs f ss))) (vB h1) rfl ?_)
  refine XL.as (.bool (((termOk ar f && decide (ss.length ≤ 60)) && goOk ar rs f ss))) rfl ?_
  refine XL.nil ?_
  refine X.ret (retEnd (L' := L) [.bool (((termOk ar f && decide (ss.length ≤ 60)) && goOk ar rs f ss))] (.bool (((termOk ar f && decide (ss.length ≤ 60)) && goOk ar rs f ss))) (.tmp rfl .nil) rfl rF rF (Sub.drop (Sub.drop sR)) ?_)
  exact ⟨(vB (by rw [walkOkL, rightB]; simp_all [Bool.and_assoc])), rfl, rfl⟩
 ·rw [Bool.not_eq_true] at h1
  refine XL.no (t := 7) rfl (vB h1) ?_
  refine XL.no (t := 7) rfl (vB h1) ?_
  refine XL.no (t := 7) rfl (vB h1) ?_
  refine XL.cons (XOp.pickF (.bool (false)) (vB h1) rfl ?_)
  refine XL.as (.bool (false)) rfl ?_
  refine XL.nil ?_
  refine X.ret (retEnd (L' := L) [.bool (false)] (.bool (false)) (.tmp rfl .nil) rfl rF rF (Sub.drop (Sub.drop sR)) ?_)
  exact ⟨(vB (by rw [walkOkL, rightB]; simp_all [Bool.and_assoc])), rfl, rfl⟩

/- spec.StepAt -/
theorem sStepAt_spec {F : FH} {L : List HP} {arv : Value} {ar : List Int} (har : IntsF F arv ar) {rsv : Value} {rs : List (List Int × List Int)} (hrs : PairsF F rsv rs) {tv : Value} {t : List Int} (ht : IntsF F tv t) {p : Int} {r : Int} (hla : ar.length ≤ 4000000) (hlr : rs.length ≤ 4000000) (hrb : ∀ i, i < rs.length → (rs.getD i ([], [])).1.length ≤ 4000000 ∧ (rs.getD i ([], [])).2.length ≤ 4000000) (hlt : t.length ≤ 4000000) :
    Does Tryz.prog 113 [.agg #[arv, rsv], tv, .int .i64 (p), .int .i64 (r)] F (L) (fun v F' L' => ∃ (a : Value), (.tuple #[a, .bool ((stepAtL ar rs t p r).isSome)] : Value) = v ∧ (IntsF F' a ((stepAtL ar rs t p r).getD [])) ∧ L = L') := by
 refine Does.of_X Tryz.func113 rfl rfl rfl ?_
 refine X.seq (X.region ?_)
 refine XL.cons (XOp.box [arv, rsv] rfl rfl ?_)
 intro b1
 refine XL.as ((.slice none 0 0)) rfl ?_
 refine XL.as (.bool (false)) rfl ?_
 refine XL.nil (X.seq (X.seq (X.region ?_)))
 refine XL.cons (XOp.loadN [arv, rsv] Tryz.isAgg39 Tryz.sizeOf39 rfl rfl (Rd.ownN [] rfl rfl) ?_)
 refine XL.mv (tv) rfl ?_
 refine XL.cons (XOp.call (args := [.agg #[arv, rsv], tv]) Tryz.call112 rfl (l7Right_spec har hrs ht (hla := (by first | assumption | rfl | omega | simp)) (hlr := (by first | assumption | rfl | omega | simp)) (hrb := (by first | assumption | rfl | omega | simp)) (hlt := (by first | assumption | rfl | omega | simp))) ?_)
 rintro _ _ _ _ ⟨rfl, rfl, rfl⟩
 refine XL.cons (XOp.notB (b := rightB ar rs t) rfl ?_)
 refine XL.mv (.bool (!(rightB ar rs t))) rfl ?_
 by_cases h1 : (!(rightB ar rs t)) = true
 ·refine XL.no (t := 14) rfl (vB h1) ?_
  refine XL.no (t := 14) rfl (vB h1) ?_
  refine XL.no (t := 14) rfl (vB h1) ?_
  refine XL.no (t := 14) rfl (vB h1) ?_
  refine XL.cons (XOp.pickT (.bool (true)) (vB h1) rfl ?_)
  refine XL.mv (.bool (true)) rfl ?_
  refine XL.no (t := 20) rfl rfl ?_
  refine XL.no (t := 20) rfl rfl ?_
  refine XL.no (t := 20) rfl rfl ?_
  refine XL.no (t := 20) rfl rfl ?_
  refine XL.no (t := 20) rfl rfl ?_
  refine XL.no (t := 20) rfl rfl ?_
  refine XL.no (t := 20) rfl rfl ?_
  refine XL.cons (XOp.pickT (.bool (true)) rfl rfl ?_)
  refine XL.nil ?_
  refine X.condT rfl ?_
  refine X.seq (X.region ?_)
  refine XL.cons (XOp.buildSlice (s := 1) [] [.int .i64 (0)] [] Tryz.runUnderlying22 Tryz.sizeOf2 Tryz.zeroValue2 rfl (by decide) rfl CellsAre.nil rfl ?_)
  intro v1 hv1
  refine XL.as (v1) rfl ?_
  refine XL.as (.bool (false)) rfl ?_
  refine XL.nil ?_
  show X _ _ _ _ _ _ (intsH 2 v1 ([] : List Int) :: cellsH b1 [arv, rsv] 39 :: L)
  refine X.freezeF [] _ _ rfl (fun F1 le1 hz1 => ?_)
  replace har := har.mono le1
  replace hrs := hrs.mono le1
  replace ht := ht.mono le1
  have hf1 : IntsF F1 v1 ([]) := intsH.fz (xs := []) hz1.fz
  refine X.ret (thenQ_ret (retEnd (L' := L) [v1, .bool (false)] (.tuple #[v1, .bool (false)]) (.tmp rfl (.tmp rfl .nil)) rfl le1 rF (Sub.drop sR) ?_))
  have hz0 : stepAtL ar rs t p r = none := by rw [stepAtL, if_neg (by unfold stepAtOk; cases hA : rightB ar rs t <;> simp_all <;> omega)]
  exact ⟨_, by rw [hz0]; rfl, by rw [hz0]; exact hf1, rfl⟩
 ·rw [Bool.not_eq_true] at h1
  refine XL.yes (t := 14) rfl (vB h1) (XOp.move (tv) rfl ?_)
  refine XL.yes (t := 14) rfl (vB h1) (XOp.move (.int .i64 (p)) rfl ?_)
  refine XL.yes (t := 14) rfl (vB h1) (XOp.call (args := [tv, .int .i64 (p)]) Tryz.call168 rfl (l1There_spec (n := p) ht (hbd := (by first | assumption | rfl | omega | simp))) ?_)
  rintro _ _ _ _ ⟨rfl, rfl, rfl⟩
  refine XL.yes (t := 14) rfl (vB h1) (XOp.notD (p := 0 ≤ p ∧ p < (t.length : Int)) rfl ?_)
  refine XL.cons (XOp.pickF (.bool (decide (¬(0 ≤ p ∧ p < (t.length : Int))))) (vB h1) rfl ?_)
  refine XL.mv (.bool (decide (¬(0 ≤ p ∧ p < (t.length : Int))))) rfl ?_
  by_cases h2 : ¬(0 ≤ p ∧ p < (t.length : Int))
  ·refine XL.no (t := 20) rfl (vT h2) ?_
   refine XL.no (t := 20) rfl (vT h2) ?_
   refine XL.no (t := 20) rfl (vT h2) ?_
   refine XL.no (t := 20) rfl (vT h2) ?_
   refine XL.no (t := 20) rfl (vT h2) ?_
   refine XL.no (t := 20) rfl (vT h2) ?_
   refine XL.no (t := 20) rfl (vT h2) ?_
   refine XL.cons (XOp.pickT (.bool (true)) (vT h2) rfl ?_)
   refine XL.nil ?_
   refine X.condT rfl ?_
   refine X.seq (X.region ?_)
   refine XL.cons (XOp.buildSlice (s := 1) [] [.int .i64 (0)] [] Tryz.runUnderlying22 Tryz.sizeOf2 Tryz.zeroValue2 rfl (by decide) rfl CellsAre.nil rfl ?_)
   intro v2 hv2
   refine XL.as (v2) rfl ?_
   refine XL.as (.bool (false)) rfl ?_
   refine XL.nil ?_
   show X _ _ _ _ _ _ (intsH 2 v2 ([] : List Int) :: cellsH b1 [arv, rsv] 39 :: L)
   refine X.freezeF [] _ _ rfl (fun F2 le2 hz2 => ?_)
   replace har := har.mono le2
   replace hrs := hrs.mono le2
   replace ht := ht.mono le2
   have hf2 : IntsF F2 v2 ([]) := intsH.fz (xs := []) hz2.fz
   refine X.ret (thenQ_ret (retEnd (L' := L) [v2, .bool (false)] (.tuple #[v2, .bool (false)]) (.tmp rfl (.tmp rfl .nil)) rfl le2 rF (Sub.drop sR) ?_))
   have hz0 : stepAtL ar rs t p r = none := by rw [stepAtL, if_neg (by unfold stepAtOk; cases hA : rightB ar rs t <;> simp_all <;> omega)]
   exact ⟨_, by rw [hz0]; rfl, by rw [hz0]; exact hf2, rfl⟩
  ·refine XL.yes (t := 20) rfl (vF h2) (XOp.move (.int .i64 (r)) rfl ?_)
   refine XL.yes (t := 20) rfl (vF h2) (XOp.fieldP (b := b1) (1) Tryz.runUnderlying39 rfl Tryz.sizeOf37 (by decide) rfl rfl ?_)
   refine XL.yes (t := 20) rfl (vF h2) (XOp.load1 (v := rsv) Tryz.isAgg37 rfl (Rd.own [] rfl rfl) ?_)
   refine XL.yes (t := 20) rfl (vF h2) (XOp.lenS (v := rsv) (n := (rs).length) Tryz.runUnderlying37 rfl hrs.slv ?_)
   refine XL.yes (t := 20) rfl (vF h2) (XOp.subR (a := (rs.length : Int)) (b := 1) (((rs.length : Int)) - 1) rfl rfl (by omega) (by omega) ?_)
   refine XL.yes (t := 20) rfl (vF h2) (XOp.call (args := [.int .i64 (r), .int .i64 (0), .int .i64 (((rs.length : Int)) - 1)]) Tryz.call66 rfl (l1In_spec (n := r) (a := 0) (b := ((rs.length : Int)) - 1)) ?_)
   rintro _ _ _ _ ⟨rfl, rfl, rfl⟩
   refine XL.yes (t := 20) rfl (vF h2) (XOp.notD (p := 0 ≤ r ∧ r ≤ (((rs.length : Int)) - 1)) rfl ?_)
   refine XL.cons (XOp.pickF (.bool (decide (¬(0 ≤ r ∧ r ≤ (((rs.length : Int)) - 1))))) (vF h2) rfl ?_)
   refine XL.nil ?_
   refine X.condD (p := ¬(0 ≤ r ∧ r ≤ (((rs.length : Int)) - 1))) rfl (fun h3 => ?_) (fun h3 => ?_)
   ·refine X.seq (X.region ?_)
    refine XL.cons (XOp.buildSlice (s := 1) [] [.int .i64 (0)] [] Tryz.runUnderlying22 Tryz.sizeOf2 Tryz.zeroValue2 rfl (by decide) rfl CellsAre.nil rfl ?_)
    intro v3 hv3
    refine XL.as (v3) rfl ?_
    refine XL.as (.bool (false)) rfl ?_
    refine XL.nil ?_
    show X _ _ _ _ _ _ (intsH 2 v3 ([] : List Int) :: cellsH b1 [arv, rsv] 39 :: L)
    refine X.freezeF [] _ _ rfl (fun F3 le3 hz3 => ?_)
    replace har := har.mono le3
    replace hrs := hrs.mono le3
    replace ht := ht.mono le3
    have hf3 : IntsF F3 v3 ([]) := intsH.fz (xs := []) hz3.fz
    refine X.ret (thenQ_ret (retEnd (L' := L) [v3, .bool (false)] (.tuple #[v3, .bool (false)]) (.tmp rfl (.tmp rfl .nil)) rfl le3 rF (Sub.drop sR) ?_))
    have hz0 : stepAtL ar rs t p r = none := by rw [stepAtL, if_neg (by unfold stepAtOk; cases hA : rightB ar rs t <;> simp_all <;> omega)]
    exact ⟨_, by rw [hz0]; rfl, by rw [hz0]; exact hf3, rfl⟩
   ·refine X.skip (X.seq (X.region ?_))
    have hok : stepAtOk ar rs t p r = true := by unfold stepAtOk; cases hA : rightB ar rs t <;> simp_all <;> omega
    have hok2 := hok
    unfold stepAtOk rightB at hok2
    simp only [Bool.and_eq_true, decide_eq_true_eq] at hok2
    obtain ⟨⟨⟨hsys, ho⟩, hp1⟩, hr1⟩ := hok2
    refine XL.cons (XOp.loadN [arv, rsv] Tryz.isAgg39 Tryz.sizeOf39 rfl rfl (Rd.ownN [] rfl rfl) ?_)
    refine XL.mv (tv) rfl ?_
    refine XL.mv (.int .i64 (p)) rfl ?_
    refine XL.mv (.int .i64 (r)) rfl ?_
    refine XL.cons (XOp.call (args := [.agg #[arv, rsv], tv, .int .i64 (((p).toNat : Nat) : Int), .int .i64 (((r).toNat : Nat) : Int)]) Tryz.call169 (by rw [show (((p).toNat : Nat) : Int) = p from by omega, show (((r).toNat : Nat) : Int) = r from by omega]; rfl) (l7Step_spec (p := (p).toNat) (r := (r).toNat) har hrs ht (hsys := (by first | assumption | rfl | omega | simp)) (ho := (by first | assumption | rfl | omega | simp)) (hp := (by first | assumption | rfl | omega | simp)) (hr := (by first | assumption | rfl | omega | simp))) ?_)
    rintro _ F4 _ le4 ⟨x1, rfl, hr1, rfl⟩
    replace har := har.mono le4
    replace hrs := hrs.mono le4
    replace ht := ht.mono le4
    refine XL.cons (XOp.extract (x1) rfl rfl ?_)
    refine XL.cons (XOp.extract (.bool ((stepL ar rs t ((p).toNat) ((r).toNat)).isSome)) rfl rfl ?_)
    refine XL.as (x1) rfl ?_
    refine XL.as (.bool ((stepL ar rs t ((p).toNat) ((r).toNat)).isSome)) rfl ?_
    refine XL.nil ?_
    refine X.ret (retEnd (L' := L) [x1, .bool ((stepL ar rs t ((p).toNat) ((r).toNat)).isSome)] (.tuple #[x1, .bool ((stepL ar rs t ((p).toNat) ((r).toNat)).isSome)]) (.tmp rfl (.tmp rfl .nil)) rfl le4 rF (Sub.drop sR) ?_)
    have e := show stepAtL ar rs t p r = stepL ar rs t p.toNat r.toNat from by rw [stepAtL, if_pos hok]
    exact ⟨_, by rw [e], by rw [e]; exact hr1, rfl⟩

/- spec.WalkOk -/
theorem sWalkOk_spec {F : FH} {L : List HP} {arv : Value} {ar : List Int} (har : IntsF F arv ar) {rsv : Value} {rs : List (List Int × List Int)} (hrs : PairsF F rsv rs) {fv : Value} {f : List Int} (hf : IntsF F fv f) {ssv : Value} {ss : List StepT} (hss : StepsF F ssv ss) (hla : ar.length ≤ 4000000) (hlr : rs.length ≤ 4000000) (hrb : ∀ i, i < rs.length → (rs.getD i ([], [])).1.length ≤ 4000000 ∧ (rs.getD i ([], [])).2.length ≤ 4000000) (hlf : f.length ≤ 4000000) (hlss : ss.length ≤ 4000000) (hsb : ∀ i, i < ss.length → (ss.getD i (0, 0, [])).2.2.length ≤ 4000000) :
    Does Tryz.prog 51 [.agg #[arv, rsv], .agg #[fv, ssv]] F (L) (fun v F' L' => (.bool (walkOkL ar rs f ss) : Value) = v ∧ F = F' ∧ L = L') := by
 refine Does.of_X Tryz.func51 rfl rfl rfl ?_
 refine X.seq (X.region ?_)
 refine XL.cons (XOp.box [arv, rsv] rfl rfl ?_)
 intro b1
 refine XL.cons (XOp.box [fv, ssv] rfl rfl ?_)
 intro b2
 refine XL.as (.bool (false)) rfl ?_
 refine XL.nil (X.seq (X.seq (X.region ?_)))
 refine XL.cons (XOp.loadN [arv, rsv] Tryz.isAgg39 Tryz.sizeOf39 rfl rfl (Rd.ownN [_] rfl rfl) ?_)
 refine XL.cons (XOp.fieldP (b := b2) (0) Tryz.runUnderlying45 rfl Tryz.sizeOf22 (by decide) rfl rfl ?_)
 refine XL.cons (XOp.load1 (v := fv) Tryz.isAgg22 rfl (Rd.own [] rfl rfl) ?_)
 refine XL.cons (XOp.call (args := [.agg #[arv, rsv], fv]) Tryz.call112 rfl (l7Right_spec har hrs hf (hla := (by first | assumption | rfl | omega | simp)) (hlr := (by first | assumption | rfl | omega | simp)) (hrb := (by first | assumption | rfl | omega | simp)) (hlt := (by first | assumption | rfl | omega | simp))) ?_)
 rintro _ _ _ _ ⟨rfl, rfl, rfl⟩
 refine XL.cons (XOp.notB (b := rightB ar rs f) rfl ?_)
 refine XL.mv (.bool (!(rightB ar rs f))) rfl ?_
 by_cases h1 : (!(rightB ar rs f)) = true
 ·refine XL.no (t := 14) rfl (vB h1) ?_
  refine XL.no (t := 14) rfl (vB h1) ?_
  refine XL.no (t := 14) rfl (vB h1) ?_
  refine XL.no (t := 14) rfl (vB h1) ?_
  refine XL.cons (XOp.pickT (.bool (true)) (vB h1) rfl ?_)
  refine XL.nil ?_
  refine X.condT rfl ?_
  refine X.seq (X.region ?_)
  refine XL.as (.bool (false)) rfl ?_
  refine XL.nil ?_
  refine X.ret (thenQ_ret (retEnd (L' := L) [.bool (false)] (.bool (false)) (.tmp rfl .nil) rfl rF rF (Sub.drop (Sub.drop sR)) ?_))
  exact ⟨(vB (by unfold walkOkL; simp_all <;> omega)), rfl, rfl⟩
 ·rw [Bool.not_eq_true] at h1
  refine XL.yes (t := 14) rfl (vB h1) (XOp.fieldP (b := b2) (1) Tryz.runUnderlying45 rfl Tryz.sizeOf43 (by decide) rfl rfl ?_)
  refine XL.yes (t := 14) rfl (vB h1) (XOp.load1 (v := ssv) Tryz.isAgg43 rfl (Rd.own [] rfl rfl) ?_)
  refine XL.yes (t := 14) rfl (vB h1) (XOp.lenS (v := ssv) (n := (ss).length) Tryz.runUnderlying43 rfl hss.slv ?_)
  refine XL.yes (t := 14) rfl (vB h1) (XOp.gtr (a := (ss.length : Int)) (b := 60) rfl rfl ?_)
  refine XL.cons (XOp.pickF (.bool (decide (((ss.length : Int) : Int) > 60))) (vB h1) rfl ?_)
  refine XL.nil ?_
  refine X.condD (p := ((ss.length : Int) : Int) > 60) rfl (fun h2 => ?_) (fun h2 => ?_)
  ·refine X.seq (X.region ?_)
   refine XL.as (.bool (false)) rfl ?_
   refine XL.nil ?_
   refine X.ret (thenQ_ret (retEnd (L' := L) [.bool (false)] (.bool (false)) (.tmp rfl .nil) rfl rF rF (Sub.drop (Sub.drop sR)) ?_))
   exact ⟨(vB (by unfold walkOkL; simp_all <;> omega)), rfl, rfl⟩
  ·refine X.skip (X.seq (X.region ?_))
   refine XL.cons (XOp.fieldP (b := b2) (0) Tryz.runUnderlying45 rfl Tryz.sizeOf22 (by decide) rfl rfl ?_)
   refine XL.cons (XOp.load1 (v := fv) Tryz.isAgg22 rfl (Rd.own [] rfl rfl) ?_)
   refine XL.as (fv) rfl ?_
   refine XL.nil (X.seq (X.seq (X.region ?_)))
   refine XL.as (.int .i64 (0)) rfl ?_
   refine XL.nil (X.block ?_)
   refine X.loop (α := Nat × Value × List Int × FH) (fun xQ => [(2, ptr b1 0), (3, ptr b2 0), (5, xQ.2.1), (6, .int .i64 (((xQ.1 : Nat) : Int)))]) (fun xQ => cellsH b2 [fv, ssv] 45 :: cellsH b1 [arv, rsv] 39 :: L) (fun xQ F' => xQ.2.2.2 = F' ∧ F ≤ xQ.2.2.2 ∧ (IntsF xQ.2.2.2 xQ.2.1 xQ.2.2.1) ∧ (xQ.1 ≤ ss.length) ∧ (goOk ar rs f ss = goOk ar rs xQ.2.2.1 (ss.drop xQ.1)) ∧ (xQ.2.2.1.length ≤ 4000000)) (fun xQ => ss.length - xQ.1) (0, fv, f, F) ⟨rfl, rfl, rfl, rfl, trivial⟩ (Sub.cons (Sub.cons sR)) ⟨rfl, FLe.refl _, (hf), (by (try dsimp only) <;> omega), (rfl), (hlf)⟩ ?_
   rintro ⟨k, cv, cur, G1⟩ rE _ _ ⟨rfl, leG, hcv, hk, hgo, hcl⟩
   show X _ _ _ _ (envs [(2, ptr b1 0), (3, ptr b2 0), (5, cv), (6, .int .i64 ((k : Int)))] rE) _ (cellsH b2 [fv, ssv] 45 :: cellsH b1 [arv, rsv] 39 :: L)
   replace leG : F ≤ G1 := leG
   dsimp only at hcv hk hgo hcl
   have hsk := hsb k
   have leG1 := leG
   replace har := har.mono leG1
   replace hrs := hrs.mono leG1
   replace hf := hf.mono leG1
   replace hss := hss.mono leG1
   refine X.seq (X.seq (X.region ?_))
   refine XL.mv (.int .i64 ((k : Int))) rfl ?_
   refine XL.cons (XOp.fieldP (b := b2) (1) Tryz.runUnderlying45 rfl Tryz.sizeOf43 (by decide) rfl rfl ?_)
   refine XL.cons (XOp.load1 (v := ssv) Tryz.isAgg43 rfl (Rd.own [] rfl rfl) ?_)
   refine XL.cons (XOp.lenS (v := ssv) (n := (ss).length) Tryz.runUnderlying43 rfl hss.slv ?_)
   refine XL.cons (XOp.lss (a := (k : Int)) (b := (ss.length : Int)) rfl rfl ?_)
   refine XL.nil ?_
   refine X.condD (p := (k : Int) < (ss.length : Int)) rfl (fun h3 => ?_) (fun h3 => ?_)
   ·refine X.skip (X.seq (X.block (X.seq ?_)))
    obtain ⟨a1, ha1, hr1, hr2, hr3⟩ := hss.rd (i := k) (by omega)
    refine X.drawG [cellsH b2 [fv, ssv] 45, cellsH b1 [arv, rsv] 39] L 19 [[], [], [], [], [], [], [], [], [], [], [], [], [], [], [], [14], [14], [], [14]] [[], [], [], [2], [], [3, 4], [5], [6], [], [8], [], [9, 10], [11], [12], [0, 1, 7, 13], [14], [14, 15], [14, 15], [14, 16]] [[], [], [], [], [], [], [], [], [], [], [], [], [], [], [], [], [], [], []] (phiG [fun FF us v => v = (.agg #[arv, rsv] : Value), fun FF us v => v = cv, fun FF us v => v = ptr b2 1, fun FF us v => v = ssv, fun FF us v => v = (.int .i64 ((k : Int)) : Value), fun FF us v => v = (.pointer (some (elemA ssv (k * 3))) : Value), fun FF us v => v = (.pointer (some (elemA ssv (k * 3))) : Value), fun FF us v => v = (.int .i64 ((ss.getD k (0, 0, [])).1) : Value), fun FF us v => v = ptr b2 1, fun FF us v => v = ssv, fun FF us v => v = (.int .i64 ((k : Int)) : Value), fun FF us v => v = (.pointer (some (elemA ssv (k * 3))) : Value), fun FF us v => v = (.pointer (some (elemA ssv (k * 3 + 1))) : Value), fun FF us v => v = (.int .i64 ((ss.getD k (0, 0, [])).2.1) : Value), fun FF us v => (.tuple #[((tupAt v 0)), .bool ((stepAtL ar rs cur ((ss.getD k (0, 0, [])).1) ((ss.getD k (0, 0, [])).2.1)).isSome)] : Value) = v ∧ (IntsF FF ((tupAt v 0)) ((stepAtL ar rs cur ((ss.getD k (0, 0, [])).1) ((ss.getD k (0, 0, [])).2.1)).getD [])), fun FF us v => v = (.tuple #[((tupAt (us.getD 0 undef) 0)), .bool ((stepAtL ar rs cur ((ss.getD k (0, 0, [])).1) ((ss.getD k (0, 0, [])).2.1)).isSome)] : Value), fun FF us v => v = ((tupAt (us.getD 0 undef) 0)), fun FF us v => v = (.bool ((stepAtL ar rs cur ((ss.getD k (0, 0, [])).1) ((ss.getD k (0, 0, [])).2.1)).isSome) : Value), fun FF us v => v = ((tupAt (us.getD 0 undef) 0))]) (ownL [fun us v => [], fun us v => [], fun us v => [], fun us v => [], fun us v => [], fun us v => [], fun us v => [], fun us v => [], fun us v => [], fun us v => [], fun us v => [], fun us v => [], fun us v => [], fun us v => [], fun us v => [], fun us v => [], fun us v => [], fun us v => [], fun us v => []]) mixed rfl rfl (by kernel_rfl) (by kernel_rfl) (MonoG.get (MonoG.cons (fun le h => h) (MonoG.cons (fun le h => h) (MonoG.cons (fun le h => h) (MonoG.cons (fun le h => h) (MonoG.cons (fun le h => h) (MonoG.cons (fun le h => h) (MonoG.cons (fun le h => h) (MonoG.cons (fun le h => h) (MonoG.cons (fun le h => h) (MonoG.cons (fun le h => h) (MonoG.cons (fun le h => h) (MonoG.cons (fun le h => h) (MonoG.cons (fun le h => h) (MonoG.cons (fun le h => h) (MonoG.cons (fun le h => ⟨h.1, h.2.mono le⟩) (MonoG.cons (fun le h => h) (MonoG.cons (fun le h => h) (MonoG.cons (fun le h => h) (MonoG.cons (fun le h => h) MonoG.nil)))))))))))))))))))) ?_ ?_
    ·refine stepsG.cons (fun vals Fs R leFs hpZ => ?_) ?_
     ·replace har := har.mono leFs
      replace hrs := hrs.mono leFs
      replace hf := hf.mono leFs
      replace hss := hss.mono leFs
      replace hcv := hcv.mono leFs
      replace ha1 := ha1.mono leFs
      replace hr1 := Rd.monoA hr1 leFs
      replace hr2 := Rd.monoA hr2 leFs
      replace hr3 := Rd.monoA hr3 leFs
      refine XG.op (XOp.loadN [arv, rsv] Tryz.isAgg39 Tryz.sizeOf39 rfl rfl (Rd.ownN [_] rfl rfl) ?_)
      exact ⟨rfl, rfl⟩
     refine stepsG.cons (fun vals Fs R leFs hpZ => ?_) ?_
     ·refine XG.op (XOp.move (cv) rfl ?_)
      exact ⟨rfl, rfl⟩
     refine stepsG.cons (fun vals Fs R leFs hpZ => ?_) ?_
     ·refine XG.op (XOp.fieldP (b := b2) (1) Tryz.runUnderlying45 rfl Tryz.sizeOf43 (by decide) rfl rfl ?_)
      exact ⟨rfl, rfl⟩
     refine stepsG.cons (fun vals Fs R leFs hpZ => ?_) ?_
     ·replace har := har.mono leFs
      replace hrs := hrs.mono leFs
      replace hf := hf.mono leFs
      replace hss := hss.mono leFs
      replace hcv := hcv.mono leFs
      replace ha1 := ha1.mono leFs
      replace hr1 := Rd.monoA hr1 leFs
      replace hr2 := Rd.monoA hr2 leFs
      replace hr3 := Rd.monoA hr3 leFs
      rw [eS (l := [(2, ptr b2 1)]) ⟨(hpZ 2 (by decide)), trivial⟩]
      refine XG.op (XOp.load1 (v := ssv) Tryz.isAgg43 rfl (Rd.own [] rfl rfl) ?_)
      exact ⟨rfl, rfl⟩
     refine stepsG.cons (fun vals Fs R leFs hpZ => ?_) ?_
     ·refine XG.op (XOp.move (.int .i64 ((k : Int))) rfl ?_)
      exact ⟨rfl, rfl⟩
     refine stepsG.cons (fun vals Fs R leFs hpZ => ?_) ?_
     ·replace har := har.mono leFs
      replace hrs := hrs.mono leFs
      replace hf := hf.mono leFs
      replace hss := hss.mono leFs
      replace hcv := hcv.mono leFs
      replace ha1 := ha1.mono leFs
      replace hr1 := Rd.monoA hr1 leFs
      replace hr2 := Rd.monoA hr2 leFs
      replace hr3 := Rd.monoA hr3 leFs
      rw [eS (l := [(3, ssv), (4, (.int .i64 ((k : Int)) : Value))]) ⟨(hpZ 3 (by decide)), (hpZ 4 (by decide)), trivial⟩]
      refine XG.op (XOp.indexS (v := ssv) (i := (k : Int)) (n := (ss).length) k Tryz.runUnderlying43 Tryz.sizeOf158 rfl rfl rfl hss.slv (by omega) rfl ?_)
      exact ⟨rfl, rfl⟩
     refine stepsG.cons (fun vals Fs R leFs hpZ => ?_) ?_
     ·rw [eS (l := [(5, (.pointer (some (elemA ssv (k * 3))) : Value))]) ⟨(hpZ 5 (by decide)), trivial⟩]
      refine XG.op (XOp.fieldE (v := ssv) (k * 3) Tryz.runUnderlying158 rfl Tryz.sizeOf2 (by decide) rfl rfl ?_)
      exact ⟨rfl, rfl⟩
     refine stepsG.cons (fun vals Fs R leFs hpZ => ?_) ?_
     ·replace har := har.mono leFs
      replace hrs := hrs.mono leFs
      replace hf := hf.mono leFs
      replace hss := hss.mono leFs
      replace hcv := hcv.mono leFs
      replace ha1 := ha1.mono leFs
      replace hr1 := Rd.monoA hr1 leFs
      replace hr2 := Rd.monoA hr2 leFs
      replace hr3 := Rd.monoA hr3 leFs
      rw [eS (l := [(6, (.pointer (some (elemA ssv (k * 3))) : Value))]) ⟨(hpZ 6 (by decide)), trivial⟩]
      refine XG.op (XOp.load1 (v := .int .i64 ((ss.getD k (0, 0, [])).1)) Tryz.isAgg2 rfl (hr1 _) ?_)
      exact ⟨rfl, rfl⟩
     refine stepsG.cons (fun vals Fs R leFs hpZ => ?_) ?_
     ·refine XG.op (XOp.fieldP (b := b2) (1) Tryz.runUnderlying45 rfl Tryz.sizeOf43 (by decide) rfl rfl ?_)
      exact ⟨rfl, rfl⟩
     refine stepsG.cons (fun vals Fs R leFs hpZ => ?_) ?_
     ·replace har := har.mono leFs
      replace hrs := hrs.mono leFs
      replace hf := hf.mono leFs
      replace hss := hss.mono leFs
      replace hcv := hcv.mono leFs
      replace ha1 := ha1.mono leFs
      replace hr1 := Rd.monoA hr1 leFs
      replace hr2 := Rd.monoA hr2 leFs
      replace hr3 := Rd.monoA hr3 leFs
      rw [eS (l := [(8, ptr b2 1)]) ⟨(hpZ 8 (by decide)), trivial⟩]
      refine XG.op (XOp.load1 (v := ssv) Tryz.isAgg43 rfl (Rd.own [] rfl rfl) ?_)
      exact ⟨rfl, rfl⟩
     refine stepsG.cons (fun vals Fs R leFs hpZ => ?_) ?_
     ·refine XG.op (XOp.move (.int .i64 ((k : Int))) rfl ?_)
      exact ⟨rfl, rfl⟩
     refine stepsG.cons (fun vals Fs R leFs hpZ => ?_) ?_
     ·replace har := har.mono leFs
      replace hrs := hrs.mono leFs
      replace hf := hf.mono leFs
      replace hss := hss.mono leFs
      replace hcv := hcv.mono leFs
      replace ha1 := ha1.mono leFs
      replace hr1 := Rd.monoA hr1 leFs
      replace hr2 := Rd.monoA hr2 leFs
      replace hr3 := Rd.monoA hr3 leFs
      rw [eS (l := [(9, ssv), (10, (.int .i64 ((k : Int)) : Value))]) ⟨(hpZ 9 (by decide)), (hpZ 10 (by decide)), trivial⟩]
      refine XG.op (XOp.indexS (v := ssv) (i := (k : Int)) (n := (ss).length) k Tryz.runUnderlying43 Tryz.sizeOf158 rfl rfl rfl hss.slv (by omega) rfl ?_)
      exact ⟨rfl, rfl⟩
     refine stepsG.cons (fun vals Fs R leFs hpZ => ?_) ?_
     ·rw [eS (l := [(11, (.pointer (some (elemA ssv (k * 3))) : Value))]) ⟨(hpZ 11 (by decide)), trivial⟩]
      refine XG.op (XOp.fieldE (v := ssv) (k * 3 + 1) Tryz.runUnderlying158 rfl Tryz.sizeOf2 (by decide) rfl rfl ?_)
      exact ⟨rfl, rfl⟩
     refine stepsG.cons (fun vals Fs R leFs hpZ => ?_) ?_
     ·replace har := har.mono leFs
      replace hrs := hrs.mono leFs
      replace hf := hf.mono leFs
      replace hss := hss.mono leFs
      replace hcv := hcv.mono leFs
      replace ha1 := ha1.mono leFs
      replace hr1 := Rd.monoA hr1 leFs
      replace hr2 := Rd.monoA hr2 leFs
      replace hr3 := Rd.monoA hr3 leFs
      rw [eS (l := [(12, (.pointer (some (elemA ssv (k * 3 + 1))) : Value))]) ⟨(hpZ 12 (by decide)), trivial⟩]
      refine XG.op (XOp.load1 (v := .int .i64 ((ss.getD k (0, 0, [])).2.1)) Tryz.isAgg2 rfl (hr2 _) ?_)
      exact ⟨rfl, rfl⟩
     refine stepsG.cons (fun vals Fs R leFs hpZ => ?_) ?_
     ·replace har := har.mono leFs
      replace hrs := hrs.mono leFs
      replace hf := hf.mono leFs
      replace hss := hss.mono leFs
      replace hcv := hcv.mono leFs
      replace ha1 := ha1.mono leFs
      replace hr1 := Rd.monoA hr1 leFs
      replace hr2 := Rd.monoA hr2 leFs
      replace hr3 := Rd.monoA hr3 leFs
      rw [eS (l := [(0, (.agg #[arv, rsv] : Value)), (1, cv), (7, (.int .i64 ((ss.getD k (0, 0, [])).1) : Value)), (13, (.int .i64 ((ss.getD k (0, 0, [])).2.1) : Value))]) ⟨(hpZ 0 (by decide)), (hpZ 1 (by decide)), (hpZ 7 (by decide)), (hpZ 13 (by decide)), trivial⟩]
      refine XG.op (XOp.call (args := [.agg #[arv, rsv], cv, .int .i64 ((ss.getD k (0, 0, [])).1), .int .i64 ((ss.getD k (0, 0, [])).2.1)]) Tryz.call113 rfl (sStepAt_spec (p := (ss.getD k (0, 0, [])).1) (r := (ss.getD k (0, 0, [])).2.1) har hrs hcv (hla := (by first | assumption | rfl | omega | simp)) (hlr := (by first | assumption | rfl | omega | simp)) (hrb := (by first | assumption | rfl | omega | simp)) (hlt := (by first | assumption | rfl | omega | simp))) ?_)
      rintro _ F2 _ le2 ⟨x2, rfl, hr5, rfl⟩
      replace har := har.mono le2
      replace hrs := hrs.mono le2
      replace hf := hf.mono le2
      replace hss := hss.mono le2
      replace hcv := hcv.mono le2
      replace ha1 := ha1.mono le2
      replace hr1 := Rd.monoA hr1 le2
      replace hr2 := Rd.monoA hr2 le2
      replace hr3 := Rd.monoA hr3 le2
      exact ⟨⟨rfl, hr5⟩, rfl⟩
     refine stepsG.cons (fun vals Fs R leFs hpZ => ?_) ?_
     ·obtain ⟨e14, f14_1hr⟩ := hpZ 14 (by decide)
      rw [eS (l := [(14, (.tuple #[((tupAt (vals 14) 0)), .bool ((stepAtL ar rs cur ((ss.getD k (0, 0, [])).1) ((ss.getD k (0, 0, [])).2.1)).isSome)] : Value))]) ⟨(e14).symm, trivial⟩]
      refine XG.op (XOp.move (.tuple #[((tupAt (vals 14) 0)), .bool ((stepAtL ar rs cur ((ss.getD k (0, 0, [])).1) ((ss.getD k (0, 0, [])).2.1)).isSome)]) rfl ?_)
      exact ⟨rfl, rfl⟩
     refine stepsG.cons (fun vals Fs R leFs hpZ => ?_) ?_
     ·obtain ⟨e14, f14_1hr⟩ := hpZ 14 (by decide)
      have e15 : vals 15 = (.tuple #[((tupAt (vals 14) 0)), .bool ((stepAtL ar rs cur ((ss.getD k (0, 0, [])).1) ((ss.getD k (0, 0, [])).2.1)).isSome)] : Value) := hpZ 15 (by decide)
      rw [eS (l := [(14, (.tuple #[((tupAt (vals 14) 0)), .bool ((stepAtL ar rs cur ((ss.getD k (0, 0, [])).1) ((ss.getD k (0, 0, [])).2.1)).isSome)] : Value)), (15, (.tuple #[((tupAt (vals 14) 0)), .bool ((stepAtL ar rs cur ((ss.getD k (0, 0, [])).1) ((ss.getD k (0, 0, [])).2.1)).isSome)] : Value))]) ⟨(e14).symm, e15, trivial⟩]
      refine XG.op (XOp.extract (((tupAt (vals 14) 0))) rfl rfl ?_)
      exact ⟨rfl, rfl⟩
     refine stepsG.cons (fun vals Fs R leFs hpZ => ?_) ?_
     ·obtain ⟨e14, f14_1hr⟩ := hpZ 14 (by decide)
      have e15 : vals 15 = (.tuple #[((tupAt (vals 14) 0)), .bool ((stepAtL ar rs cur ((ss.getD k (0, 0, [])).1) ((ss.getD k (0, 0, [])).2.1)).isSome)] : Value) := hpZ 15 (by decide)
      rw [eS (l := [(14, (.tuple #[((tupAt (vals 14) 0)), .bool ((stepAtL ar rs cur ((ss.getD k (0, 0, [])).1) ((ss.getD k (0, 0, [])).2.1)).isSome)] : Value)), (15, (.tuple #[((tupAt (vals 14) 0)), .bool ((stepAtL ar rs cur ((ss.getD k (0, 0, [])).1) ((ss.getD k (0, 0, [])).2.1)).isSome)] : Value))]) ⟨(e14).symm, e15, trivial⟩]
      refine XG.op (XOp.extract (.bool ((stepAtL ar rs cur ((ss.getD k (0, 0, [])).1) ((ss.getD k (0, 0, [])).2.1)).isSome)) rfl rfl ?_)
      exact ⟨rfl, rfl⟩
     refine stepsG.cons (fun vals Fs R leFs hpZ => ?_) ?_
     ·obtain ⟨e14, f14_1hr⟩ := hpZ 14 (by decide)
      have e16 : vals 16 = ((tupAt (vals 14) 0)) := hpZ 16 (by decide)
      rw [eS (l := [(14, (.tuple #[((tupAt (vals 14) 0)), .bool ((stepAtL ar rs cur ((ss.getD k (0, 0, [])).1) ((ss.getD k (0, 0, [])).2.1)).isSome)] : Value)), (16, ((tupAt (vals 14) 0)))]) ⟨(e14).symm, e16, trivial⟩]
      refine XG.op (XOp.assign (((tupAt (vals 14) 0))) rfl ?_)
      exact ⟨rfl, rfl⟩
     exact stepsG.nil
    ·intro vals F3 le3 hphi
     obtain ⟨e14, f14_1hr⟩ := hphi 14 (by decide)
     have e15 : vals 15 = (.tuple #[((tupAt (vals 14) 0)), .bool ((stepAtL ar rs cur ((ss.getD k (0, 0, [])).1) ((ss.getD k (0, 0, [])).2.1)).isSome)] : Value) := hphi 15 (by decide)
     have e16 : vals 16 = ((tupAt (vals 14) 0)) := hphi 16 (by decide)
     have e18 : vals 18 = ((tupAt (vals 14) 0)) := hphi 18 (by decide)
     generalize hu1 : ((tupAt (vals 14) 0)) = u1 at e14 f14_1hr e15 e16 e18
     rw [eS (l := [(0, (.agg #[arv, rsv] : Value)), (1, cv), (2, ptr b2 1), (3, ssv), (4, (.int .i64 ((k : Int)) : Value)), (5, (.pointer (some (elemA ssv (k * 3))) : Value)), (6, (.pointer (some (elemA ssv (k * 3))) : Value)), (7, (.int .i64 ((ss.getD k (0, 0, [])).1) : Value)), (8, ptr b2 1), (9, ssv), (10, (.int .i64 ((k : Int)) : Value)), (11, (.pointer (some (elemA ssv (k * 3))) : Value)), (12, (.pointer (some (elemA ssv (k * 3 + 1))) : Value)), (13, (.int .i64 ((ss.getD k (0, 0, [])).2.1) : Value)), (14, (.tuple #[u1, .bool ((stepAtL ar rs cur ((ss.getD k (0, 0, [])).1) ((ss.getD k (0, 0, [])).2.1)).isSome)] : Value)), (15, (.tuple #[u1, .bool ((stepAtL ar rs cur ((ss.getD k (0, 0, [])).1) ((ss.getD k (0, 0, [])).2.1)).isSome)] : Value)), (16, u1), (17, (.bool ((stepAtL ar rs cur ((ss.getD k (0, 0, [])).1) ((ss.getD k (0, 0, [])).2.1)).isSome) : Value)), (18, u1)]) ⟨(hphi 0 (by decide)), (hphi 1 (by decide)), (hphi 2 (by decide)), (hphi 3 (by decide)), (hphi 4 (by decide)), (hphi 5 (by decide)), (hphi 6 (by decide)), (hphi 7 (by decide)), (hphi 8 (by decide)), (hphi 9 (by decide)), (hphi 10 (by decide)), (hphi 11 (by decide)), (hphi 12 (by decide)), (hphi 13 (by decide)), (e14).symm, e15, e16, (hphi 17 (by decide)), e18, trivial⟩]
     replace har := har.mono le3
     replace hrs := hrs.mono le3
     replace hf := hf.mono le3
     replace hss := hss.mono le3
     replace hcv := hcv.mono le3
     replace ha1 := ha1.mono le3
     replace hr1 := Rd.monoA hr1 le3
     replace hr2 := Rd.monoA hr2 le3
     replace hr3 := Rd.monoA hr3 le3
     show XL _ _ _ _ _ _ _ (cellsH b2 [fv, ssv] 45 :: cellsH b1 [arv, rsv] 39 :: L)
     refine XL.as (.bool ((stepAtL ar rs cur ((ss.getD k (0, 0, [])).1) ((ss.getD k (0, 0, [])).2.1)).isSome)) rfl ?_
     refine XL.nil (X.seq (X.seq (X.region ?_)))
     refine XL.mv (.bool ((stepAtL ar rs cur ((ss.getD k (0, 0, [])).1) ((ss.getD k (0, 0, [])).2.1)).isSome)) rfl ?_
     refine XL.cons (XOp.notB (b := (stepAtL ar rs cur ((ss.getD k (0, 0, [])).1) ((ss.getD k (0, 0, [])).2.1)).isSome) rfl ?_)
     refine XL.mv (.bool (!((stepAtL ar rs cur ((ss.getD k (0, 0, [])).1) ((ss.getD k (0, 0, [])).2.1)).isSome))) rfl ?_
     by_cases h4 : (!((stepAtL ar rs cur ((ss.getD k (0, 0, [])).1) ((ss.getD k (0, 0, [])).2.1)).isSome)) = true
     ·have hu1 : (stepAtL ar rs cur (ss.getD k (0, 0, [])).1 (ss.getD k (0, 0, [])).2.1).isSome = false := by simpa using h4
      refine XL.no (t := 49) rfl (vB h4) ?_
      refine XL.no (t := 49) rfl (vB h4) ?_
      refine XL.no (t := 49) rfl (vB h4) ?_
      refine XL.no (t := 49) rfl (vB h4) ?_
      refine XL.no (t := 49) rfl (vB h4) ?_
      refine XL.no (t := 49) rfl (vB h4) ?_
      refine XL.no (t := 49) rfl (vB h4) ?_
      refine XL.no (t := 49) rfl (vB h4) ?_
      refine XL.no (t := 49) rfl (vB h4) ?_
      refine XL.cons (XOp.pickT (.bool (true)) (vB h4) rfl ?_)
      refine XL.nil ?_
      refine X.condT rfl ?_
      refine X.seq (X.region ?_)
      refine XL.as (.bool (false)) rfl ?_
      refine XL.nil ?_
      refine X.ret (thenQ_ret (blockQ_ret (thenQ_ret (thenQ_ret (blockQ_ret (thenQ_ret (retEnd (L' := L) [.bool (false)] (.bool (false)) (.tmp rfl .nil) rfl rF (FLe.trans leG1 le3) (Sub.drop (Sub.drop sR)) ?_)))))))
      exact ⟨(vB (by have hz := goOk_fail (ar := ar) (rs := rs) (t := cur) (ss := ss) (k := k) (by omega) (by first | exact .inl hu1 | exact .inr hu2); rw [walkOkL, hgo, hz]; simp)), rfl, rfl⟩
     ·rw [Bool.not_eq_true] at h4
      have hu1 : (stepAtL ar rs cur (ss.getD k (0, 0, [])).1 (ss.getD k (0, 0, [])).2.1).isSome = true := by simpa using h4
      refine XL.yes (t := 49) rfl (vB h4) (XOp.move (u1) rfl ?_)
      refine XL.yes (t := 49) rfl (vB h4) (XOp.fieldP (b := b2) (1) Tryz.runUnderlying45 rfl Tryz.sizeOf43 (by decide) rfl rfl ?_)
      refine XL.yes (t := 49) rfl (vB h4) (XOp.load1 (v := ssv) Tryz.isAgg43 rfl (Rd.own [] rfl rfl) ?_)
      refine XL.yes (t := 49) rfl (vB h4) (XOp.move (.int .i64 ((k : Int))) rfl ?_)
      refine XL.yes (t := 49) rfl (vB h4) (XOp.indexS (v := ssv) (i := (k : Int)) (n := (ss).length) k Tryz.runUnderlying43 Tryz.sizeOf158 rfl rfl rfl hss.slv (by omega) rfl ?_)
      refine XL.yes (t := 49) rfl (vB h4) (XOp.fieldE (v := ssv) (k * 3 + 2) Tryz.runUnderlying158 rfl Tryz.sizeOf22 (by decide) rfl rfl ?_)
      refine XL.yes (t := 49) rfl (vB h4) (XOp.load1 (v := a1) Tryz.isAgg22 rfl (hr3 _) ?_)
      refine XL.yes (t := 49) rfl (vB h4) (XOp.call (args := [u1, a1]) Tryz.call98 rfl (SameTerm_spec f14_1hr ha1 (hbd := (by first | assumption | rfl | omega | (left; simp; done) | (right; simp; done)))) ?_)
      rintro _ _ _ _ ⟨rfl, rfl, rfl⟩
      refine XL.yes (t := 49) rfl (vB h4) (XOp.notD (p := ((stepAtL ar rs cur ((ss.getD k (0, 0, [])).1) ((ss.getD k (0, 0, [])).2.1)).getD []) = ((ss.getD k (0, 0, [])).2.2)) rfl ?_)
      refine XL.cons (XOp.pickF (.bool (decide (¬(((stepAtL ar rs cur ((ss.getD k (0, 0, [])).1) ((ss.getD k (0, 0, [])).2.1)).getD []) = ((ss.getD k (0, 0, [])).2.2))))) (vB h4) rfl ?_)
      refine XL.nil ?_
      refine X.condD (p := ¬(((stepAtL ar rs cur ((ss.getD k (0, 0, [])).1) ((ss.getD k (0, 0, [])).2.1)).getD []) = ((ss.getD k (0, 0, [])).2.2))) rfl (fun h5 => ?_) (fun h5 => ?_)
      ·have hu2 : (stepAtL ar rs cur (ss.getD k (0, 0, [])).1 (ss.getD k (0, 0, [])).2.1).getD [] ≠ (ss.getD k (0, 0, [])).2.2 := h5
       refine X.seq (X.region ?_)
       refine XL.as (.bool (false)) rfl ?_
       refine XL.nil ?_
       refine X.ret (thenQ_ret (blockQ_ret (thenQ_ret (thenQ_ret (blockQ_ret (thenQ_ret (retEnd (L' := L) [.bool (false)] (.bool (false)) (.tmp rfl .nil) rfl rF (FLe.trans leG1 le3) (Sub.drop (Sub.drop sR)) ?_)))))))
       exact ⟨(vB (by have hz := goOk_fail (ar := ar) (rs := rs) (t := cur) (ss := ss) (k := k) (by omega) (by first | exact .inl hu1 | exact .inr hu2); rw [walkOkL, hgo, hz]; simp)), rfl, rfl⟩
      ·have hu2 : (stepAtL ar rs cur (ss.getD k (0, 0, [])).1 (ss.getD k (0, 0, [])).2.1).getD [] = (ss.getD k (0, 0, [])).2.2 := Classical.not_not.1 h5
       refine X.skip (X.region ?_)
       refine XL.mv (u1) rfl ?_
       refine XL.as (u1) rfl ?_
       refine XL.nil (X.region ?_)
       refine XL.mv (.int .i64 ((k : Int))) rfl ?_
       refine XL.cons (XOp.addR (a := (k : Int)) (b := 1) (((k + 1 : Nat) : Int)) rfl rfl (by omega) (by omega) ?_)
       refine XL.as (.int .i64 (((k + 1 : Nat) : Int))) rfl ?_
       refine XL.nil ?_
       exact ⟨(k + 1, u1, (stepAtL ar rs cur ((ss.getD k (0, 0, [])).1) ((ss.getD k (0, 0, [])).2.1)).getD [], F3), _, (FLe.trans leG1 le3), rF, ⟨rfl, rfl, rfl, rfl, trivial⟩, (Sub.cons (Sub.cons sR)), ⟨rfl, (FLe.trans leG1 le3), (f14_1hr), (by (try dsimp only) <;> omega), (by (try dsimp only); rw [hgo]; exact goOk_next (by omega) hu1 hu2), (by (try dsimp only); rw [hu2]; exact hsk (by omega))⟩, (by omega)⟩
   ·refine X.exit (thenQ_exit (thenQ_exit (blockQ_exit ?_)))
    refine X.seq (X.region ?_)
    refine XL.as (.bool (true)) rfl ?_
    refine XL.nil ?_
    refine X.ret (retEnd (L' := L) [.bool (true)] (.bool (true)) (.tmp rfl .nil) rfl rF leG1 (Sub.drop (Sub.drop sR)) ?_)
    exact ⟨(vB (by rw [walkOkL, hgo, goOk_end (by omega)]; simp_all <;> omega)), rfl, rfl⟩

/- spec.l7End -/
theorem l7End_spec {F : FH} {L : List HP} {fv : Value} {f : List Int} (hf : IntsF F fv f) {ssv : Value} {ss : List StepT} (hss : StepsF F ssv ss) (hlf : f.length ≤ 4000000) (hlss : ss.length ≤ 4000000) (hsb : ∀ i, i < ss.length → (ss.getD i (0, 0, [])).2.2.length ≤ 4000000) :
    Does Tryz.prog 160 [.agg #[fv, ssv]] F (L) (fun v F' L' => F = F' ∧ IsSl v ∧ intsH 2 v (endL f ss) :: L = L') := by
 refine Does.of_X Tryz.func160 rfl rfl rfl ?_
 have hsb1 := hsb (ss.length - 1)
 refine X.seq (X.region ?_)
 refine XL.cons (XOp.box [fv, ssv] rfl rfl ?_)
 intro b1
 refine XL.as ((.slice none 0 0)) rfl ?_
 refine XL.nil (X.seq (X.seq (X.region ?_)))
 refine XL.cons (XOp.fieldP (b := b1) (1) Tryz.runUnderlying45 rfl Tryz.sizeOf43 (by decide) rfl rfl ?_)
 refine XL.cons (XOp.load1 (v := ssv) Tryz.isAgg43 rfl (Rd.own [] rfl rfl) ?_)
 refine XL.cons (XOp.lenS (v := ssv) (n := (ss).length) Tryz.runUnderlying43 rfl hss.slv ?_)
 refine XL.cons (XOp.eql (a := (ss.length : Int)) (b := 0) rfl rfl ?_)
 refine XL.nil ?_
 refine X.condD (p := ((ss.length : Int) : Int) = 0) rfl (fun h1 => ?_) (fun h1 => ?_)
 ·refine X.seq (X.region ?_)
  refine XL.cons (XOp.fieldP (b := b1) (0) Tryz.runUnderlying45 rfl Tryz.sizeOf22 (by decide) rfl rfl ?_)
  refine XL.cons (XOp.load1 (v := fv) Tryz.isAgg22 rfl (Rd.own [] rfl rfl) ?_)
  refine XL.cons (XOp.call (args := [fv]) Tryz.call67 rfl (l1Copy_spec hf (hlt := (by first | assumption | rfl | omega | simp))) ?_)
  rintro v1 _ _ _ ⟨rfl, hs1, rfl⟩
  refine XL.as (v1) rfl ?_
  refine XL.nil ?_
  refine X.ret (thenQ_ret (retEnd (L' := intsH 2 v1 ((f)) :: L) [v1] (v1) (.tmp rfl .nil) rfl rF rF (Sub.cons (Sub.drop sR)) ?_))
  refine ⟨rfl, hs1, ?_⟩
  have hxs : (endL f ss : List Int) = (f) := by rw [endL, if_pos (by omega)]
  exact congrArg (fun z => intsH 2 _ z :: L) hxs
 ·refine X.skip (X.seq (X.region ?_))
  refine XL.cons (XOp.fieldP (b := b1) (1) Tryz.runUnderlying45 rfl Tryz.sizeOf43 (by decide) rfl rfl ?_)
  refine XL.cons (XOp.load1 (v := ssv) Tryz.isAgg43 rfl (Rd.own [] rfl rfl) ?_)
  refine XL.cons (XOp.fieldP (b := b1) (1) Tryz.runUnderlying45 rfl Tryz.sizeOf43 (by decide) rfl rfl ?_)
  refine XL.cons (XOp.load1 (v := ssv) Tryz.isAgg43 rfl (Rd.own [] rfl rfl) ?_)
  refine XL.cons (XOp.lenS (v := ssv) (n := (ss).length) Tryz.runUnderlying43 rfl hss.slv ?_)
  refine XL.cons (XOp.subR (a := (ss.length : Int)) (b := 1) (((((ss).length) - 1 : Nat) : Int)) rfl rfl (by omega) (by omega) ?_)
  refine XL.cons (XOp.indexS (v := ssv) (i := ((((ss).length) - 1 : Nat) : Int)) (n := (ss).length) (((ss).length) - 1) Tryz.runUnderlying43 Tryz.sizeOf158 rfl rfl rfl hss.slv (by omega) rfl ?_)
  refine XL.cons (XOp.fieldE (v := ssv) ((((ss).length) - 1) * 3 + 2) Tryz.runUnderlying158 rfl Tryz.sizeOf22 (by decide) rfl rfl ?_)
  obtain ⟨a1, ha1, hr1, hr2, hr3⟩ := hss.rd (i := ((ss).length) - 1) (by omega)
  refine XL.cons (XOp.load1 (v := a1) Tryz.isAgg22 rfl (hr3 _) ?_)
  refine XL.cons (XOp.call (args := [a1]) Tryz.call67 rfl (l1Copy_spec ha1 (hlt := (by first | assumption | rfl | omega | simp))) ?_)
  rintro v2 _ _ _ ⟨rfl, hs2, rfl⟩
  refine XL.as (v2) rfl ?_
  refine XL.nil ?_
  refine X.ret (retEnd (L' := intsH 2 v2 ((((ss.getD (((ss).length) - 1) (0, 0, [])).2.2))) :: L) [v2] (v2) (.tmp rfl .nil) rfl rF rF (Sub.cons (Sub.drop sR)) ?_)
  refine ⟨rfl, hs2, ?_⟩
  have hxs : (endL f ss : List Int) = (((ss.getD (((ss).length) - 1) (0, 0, [])).2.2)) := by rw [endL, if_neg (by omega)]
  exact congrArg (fun z => intsH 2 _ z :: L) hxs

/- spec.EndTerm -/
theorem sEndTerm_spec {F : FH} {L : List HP} {arv : Value} {ar : List Int} (har : IntsF F arv ar) {rsv : Value} {rs : List (List Int × List Int)} (hrs : PairsF F rsv rs) {fv : Value} {f : List Int} (hf : IntsF F fv f) {ssv : Value} {ss : List StepT} (hss : StepsF F ssv ss) (hla : ar.length ≤ 4000000) (hlr : rs.length ≤ 4000000) (hrb : ∀ i, i < rs.length → (rs.getD i ([], [])).1.length ≤ 4000000 ∧ (rs.getD i ([], [])).2.length ≤ 4000000) (hlf : f.length ≤ 4000000) (hlss : ss.length ≤ 4000000) (hsb : ∀ i, i < ss.length → (ss.getD i (0, 0, [])).2.2.length ≤ 4000000) :
    Does Tryz.prog 99 [.agg #[arv, rsv], .agg #[fv, ssv]] F (L) (fun v F' L' => F = F' ∧ IsSl v ∧ intsH 2 v (endT ar rs f ss) :: L = L') := by
 refine Does.of_X Tryz.func99 rfl rfl rfl ?_
 refine X.seq (X.region ?_)
 refine XL.cons (XOp.box [arv, rsv] rfl rfl ?_)
 intro b1
 refine XL.cons (XOp.box [fv, ssv] rfl rfl ?_)
 intro b2
 refine XL.as ((.slice none 0 0)) rfl ?_
 refine XL.nil (X.seq (X.seq (X.region ?_)))
 refine XL.cons (XOp.loadN [arv, rsv] Tryz.isAgg39 Tryz.sizeOf39 rfl rfl (Rd.ownN [_] rfl rfl) ?_)
 refine XL.cons (XOp.loadN [fv, ssv] Tryz.isAgg45 Tryz.sizeOf45 rfl rfl (Rd.ownN [] rfl rfl) ?_)
 refine XL.cons (XOp.call (args := [.agg #[arv, rsv], .agg #[fv, ssv]]) Tryz.call51 rfl (sWalkOk_spec har hrs hf hss (hla := (by first | assumption | rfl | omega | simp)) (hlr := (by first | assumption | rfl | omega | simp)) (hrb := (by first | assumption | rfl | omega | simp)) (hlf := (by first | assumption | rfl | omega | simp)) (hlss := (by first | assumption | rfl | omega | simp)) (hsb := (by first | assumption | rfl | omega | simp))) ?_)
 rintro _ _ _ _ ⟨rfl, rfl, rfl⟩
 refine XL.cons (XOp.notB (b := walkOkL ar rs f ss) rfl ?_)
 refine XL.nil ?_
 refine X.cond (t := !(walkOkL ar rs f ss)) rfl (fun h1 => ?_) (fun h1 => ?_)
 ·refine X.seq (X.region ?_)
  refine XL.cons (XOp.buildSlice (s := 1) [] [.int .i64 (0)] [] Tryz.runUnderlying22 Tryz.sizeOf2 Tryz.zeroValue2 rfl (by decide) rfl CellsAre.nil rfl ?_)
  intro v1 hv1
  refine XL.as (v1) rfl ?_
  refine XL.nil ?_
  refine X.ret (thenQ_ret (retEnd (L' := intsH 2 v1 ([]) :: L) [v1] (v1) (.tmp rfl .nil) rfl rF rF (Sub.cons (Sub.drop (Sub.drop sR))) ?_))
  refine ⟨rfl, (isSl_lit hv1), ?_⟩
  have hxs : (endT ar rs f ss : List Int) = [] := by rw [endT, if_neg (by simp_all)]
  exact congrArg (fun z => intsH 2 _ z :: L) hxs
 ·have hwk : walkOkL ar rs f ss = true := by simpa using h1
  have hel := termOk_len (right_iff.1 (walkOk_end hwk)).2
  have hwl := (walkOkL_iff.1 hwk).2.1
  refine X.skip (X.seq (X.region ?_))
  refine XL.cons (XOp.loadN [fv, ssv] Tryz.isAgg45 Tryz.sizeOf45 rfl rfl (Rd.ownN [] rfl rfl) ?_)
  refine XL.cons (XOp.call (args := [.agg #[fv, ssv]]) Tryz.call160 rfl (l7End_spec hf hss (hlf := (by first | assumption | rfl | omega | simp)) (hlss := (by first | assumption | rfl | omega | simp)) (hsb := (by first | assumption | rfl | omega | simp))) ?_)
  rintro v2 _ _ _ ⟨rfl, hs1, rfl⟩
  refine XL.as (v2) rfl ?_
  refine XL.nil ?_
  refine X.ret (retEnd (L' := intsH 2 v2 ((endL f ss)) :: L) [v2] (v2) (.tmp rfl .nil) rfl rF rF (Sub.cons (Sub.drop (Sub.drop sR))) ?_)
  refine ⟨rfl, hs1, ?_⟩
  have hxs : (endT ar rs f ss : List Int) = (endL f ss) := by rw [endT, if_pos hwk]
  exact congrArg (fun z => intsH 2 _ z :: L) hxs
end Go.Proofs.YtnloeeaidknblaaGreat
set_option linter.unusedSimpArgs false
set_option linter.unusedVariables false
namespace Go.Proofs.YtnloeeaidknblaaGreat
open Go X M

/- (*impl.Chain).add -/
theorem chainAdd_spec {F : FH} {L : List HP} {b m : Nat} {fv sv tov : Value} {ms : List MoveT} {cs : List Value} {i j : Int} {k : Bool} {to : List Int} (hto : IntsF F tov to) (hsv : IsSl sv) (hC : MovesC F cs ms) (hm : m = ms.length) (hsb : ms.length ≤ 4000000) (hlt : to.length ≤ 4000000) :
    Does Tryz.prog 165 [ptr b 0, .agg #[.int .i64 (i), .int .i64 (j), .bool (k), tov]] F (cellsH b [fv, sv] 88 :: slH 195 4 sv m cs :: L) (fun v F' L' => ∃ (sw cw : Value), IsSl sw ∧ IntsF F' cw to ∧ Fresh F F' (intsH 2 cw to) ∧ cellsH b [fv, sw] 88 :: slH 195 4 sw (m + 1) (cs ++ [.int .i64 i, .int .i64 j, .bool k, cw]) :: L = L') := by
 refine Does.of_X Tryz.func165 rfl rfl rfl ?_
 refine X.seq (X.region ?_)
 refine XL.cons (XOp.box [.int .i64 (i), .int .i64 (j), .bool (k), tov] rfl rfl ?_)
 intro b1
 refine XL.nil (X.seq (X.region ?_))
 refine XL.cons (XOp.fieldP (b := b1) (3) Tryz.runUnderlying195 rfl Tryz.sizeOf22 (by decide) rfl rfl ?_)
 refine XL.cons (XOp.load1 (v := tov) Tryz.isAgg22 rfl (Rd.own [] rfl rfl) ?_)
 refine XL.cons (XOp.frzF <| XOp.call (args := [tov]) Tryz.call78 rfl (Clone_spec hto (hlt := (by first | assumption | rfl | omega | simp))) ?_)
 rintro v1 _ _ _ ⟨rfl, hs1, rfl⟩
 refine ⟨_, _, rfl, fun F1 le1 hz1 => ?_⟩
 replace hto := hto.mono le1
 replace hC := hC.mono le1
 have hf1 : IntsF F1 v1 ((to)) := intsH.fz (xs := (to)) hz1.fz
 refine XL.cons (XOp.fieldP (b := b1) (3) Tryz.runUnderlying195 rfl Tryz.sizeOf22 (by decide) rfl rfl ?_)
 refine XL.cons (XOp.store1 (v := v1) [] _ [.int .i64 (i), .int .i64 (j), .bool (k), v1] Tryz.sizeOf22 rfl rfl (one_sl (IntsF.isSl hf1)) rfl rfl rfl ?_)
 refine XL.nil ?_
 refine X.weaken (Sub.front (A := [_, _])) ?_
 show X _ _ _ _ _ _ (slH 195 4 sv m cs :: cellsH b1 [.int .i64 (i), .int .i64 (j), .bool (k), v1] 195 :: cellsH b [fv, sv] 88 :: L)
 refine X.drawH [cellsH b1 [.int .i64 (i), .int .i64 (j), .bool (k), v1] 195, cellsH b [fv, sv] 88] L 8 [[], [], [], [], [], [], [], [6]] [[], [], [1], [2], [3], [], [5], [4, 6]] [[], [], [], [], [], [], [], [6]] (phiG [fun FF us v => v = ptr b 0, fun FF us v => v = ptr b 0, fun FF us v => v = ptr b 0, fun FF us v => v = ptr b 1, fun FF us v => v = sv, fun FF us v => v = (.agg #[.int .i64 (i), .int .i64 (j), .bool (k), v1] : Value), fun FF us v => ∃ b, v = .slice (some ⟨b, 0, none⟩) 1 1, fun FF us v => IsSl v]) (ownL [fun us v => [], fun us v => [], fun us v => [], fun us v => [], fun us v => [], fun us v => [], fun us v => [slH 195 4 v 1 [.int .i64 (i), .int .i64 (j), .bool (k), v1]], fun us v => [slH 195 4 (us.getD 0 undef) 1 [.int .i64 (i), .int .i64 (j), .bool (k), v1], slH 195 4 (v) ((m) + 1) (cs ++ [.int .i64 (i), .int .i64 (j), .bool (k), v1])]]) (fun i => ([[], [], [], [], [], [], [], [slH 195 4 sv m cs]] : List (List HP)).getD i []) mixed rfl rfl (by kernel_rfl) (by kernel_rfl) (MonoG.get (MonoG.cons (fun le h => h) (MonoG.cons (fun le h => h) (MonoG.cons (fun le h => h) (MonoG.cons (fun le h => h) (MonoG.cons (fun le h => h) (MonoG.cons (fun le h => h) (MonoG.cons (fun le h => h) (MonoG.cons (fun le h => h) MonoG.nil))))))))) ?_ ?_
 ·refine stepsT.cons (fun vals Fs R leFs hpZ => ?_) ?_
  ·refine XG.op (XOp.move (ptr b 0) rfl ?_)
   exact ⟨rfl, rfl⟩
  refine stepsT.cons (fun vals Fs R leFs hpZ => ?_) ?_
  ·refine XG.op (XOp.move (ptr b 0) rfl ?_)
   exact ⟨rfl, rfl⟩
  refine stepsT.cons (fun vals Fs R leFs hpZ => ?_) ?_
  ·replace hto := hto.mono leFs
   replace hC := hC.mono leFs
   replace hf1 := hf1.mono leFs
   rw [eS (l := [(1, ptr b 0)]) ⟨(hpZ 1 (by decide)), trivial⟩]
   refine XG.op (XOp.nilCheck (a := ⟨b, 0, none⟩) rfl ?_)
   exact ⟨rfl, rfl⟩
  refine stepsT.cons (fun vals Fs R leFs hpZ => ?_) ?_
  ·rw [eS (l := [(2, ptr b 0)]) ⟨(hpZ 2 (by decide)), trivial⟩]
   refine XG.op (XOp.fieldP (b := b) (1) Tryz.runUnderlying88 rfl Tryz.sizeOf86 (by decide) rfl rfl ?_)
   exact ⟨rfl, rfl⟩
  refine stepsT.cons (fun vals Fs R leFs hpZ => ?_) ?_
  ·replace hto := hto.mono leFs
   replace hC := hC.mono leFs
   replace hf1 := hf1.mono leFs
   rw [eS (l := [(3, ptr b 1)]) ⟨(hpZ 3 (by decide)), trivial⟩]
   refine XG.op (XOp.load1 (v := sv) Tryz.isAgg86 rfl (Rd.own [_] rfl rfl) ?_)
   exact ⟨rfl, rfl⟩
  refine stepsT.cons (fun vals Fs R leFs hpZ => ?_) ?_
  ·replace hto := hto.mono leFs
   replace hC := hC.mono leFs
   replace hf1 := hf1.mono leFs
   refine XG.op (XOp.loadN [.int .i64 (i), .int .i64 (j), .bool (k), v1] Tryz.isAgg195 Tryz.sizeOf195 rfl rfl (Rd.ownN [] rfl rfl) ?_)
   exact ⟨rfl, rfl⟩
  refine stepsT.cons (fun vals Fs R leFs hpZ => ?_) ?_
  ·replace hto := hto.mono leFs
   replace hC := hC.mono leFs
   replace hf1 := hf1.mono leFs
   rw [eS (l := [(5, (.agg #[.int .i64 (i), .int .i64 (j), .bool (k), v1] : Value))]) ⟨(hpZ 5 (by decide)), trivial⟩]
   refine XG.op (XOp.buildSlice (s := 4) [.int .i64 (i), .int .i64 (j), .bool (k), v1] [.int .i64 (0), .int .i64 (0), .bool (false), (.slice none 0 0)] [(0, [.int .i64 (i), .int .i64 (j), .bool (k), v1])] Tryz.runUnderlying86 Tryz.sizeOf195 Tryz.zeroValue195 rfl (by decide) rfl (.cons rfl CellsAre.nil) rfl ?_)
   intro v4 hv2
   exact ⟨hv2, rfl⟩
  refine stepsT.cons (fun vals Fs R leFs hpZ => ?_) ?_
  ·have f6 : ∃ b, (vals 6) = .slice (some ⟨b, 0, none⟩) 1 1 := hpZ 6 (by decide)
   replace hto := hto.mono leFs
   replace hC := hC.mono leFs
   replace hf1 := hf1.mono leFs
   rw [eS (l := [(4, sv)]) ⟨(hpZ 4 (by decide)), trivial⟩]
   show XG _ _ _ _ _ (slH 195 4 (vals 6) 1 [.int .i64 (i), .int .i64 (j), .bool (k), v1] :: slH 195 4 sv m cs :: ([cellsH b1 [.int .i64 (i), .int .i64 (j), .bool (k), v1] 195, cellsH b [fv, sv] 88] ++ R)) _
   refine XG.op (XOp.append (m := 1) (bytes := 48) (cs := cs) [_] _ [.int .i64 (i), .int .i64 (j), .bool (k), v1] Tryz.runUnderlying86 Tryz.typeInfo195 rfl rfl rfl rfl rfl rfl rfl (SlV.own [] rfl) rfl (Rd.lit [] rfl) (ones_cons rfl (ones_cons rfl (ones_cons rfl (ones_cons (one_sl (IntsF.isSl hf1)) ones_nil)))) (by (try simp only [List.length_append, List.length_nil, List.length_cons, List.length_singleton]); omega) (by (try simp only [List.length_append, List.length_nil, List.length_cons, List.length_singleton]); omega) ?_)
   intro v5 hs3 hn2 hm2
   have hc2 := MovesC.snoc hC (y0 := i) (y1 := j) (y2 := k) (y3 := (to)) hf1
   exact ⟨hs3, rfl⟩
  exact stepsT.nil
 ·intro vals F2 le2 hphi
  have f6 : ∃ b, (vals 6) = .slice (some ⟨b, 0, none⟩) 1 1 := hphi 6 (by decide)
  have f7 : IsSl (vals 7) := hphi 7 (by decide)
  generalize hu6 : vals 6 = u1 at f6 f7
  generalize hu7 : vals 7 = u2 at f6 f7
  rw [eS (l := [(0, ptr b 0), (1, ptr b 0), (2, ptr b 0), (3, ptr b 1), (4, sv), (5, (.agg #[.int .i64 (i), .int .i64 (j), .bool (k), v1] : Value)), (6, u1), (7, u2)]) ⟨(hphi 0 (by decide)), (hphi 1 (by decide)), (hphi 2 (by decide)), (hphi 3 (by decide)), (hphi 4 (by decide)), (hphi 5 (by decide)), hu6, hu7, trivial⟩]
  replace hto := hto.mono le2
  replace hC := hC.mono le2
  replace hf1 := hf1.mono le2
  have hc3 := MovesC.snoc hC (y0 := i) (y1 := j) (y2 := k) (y3 := (to)) hf1
  show XL _ _ _ _ _ _ _ (slH 195 4 u1 1 [.int .i64 (i), .int .i64 (j), .bool (k), v1] :: slH 195 4 u2 ((m) + 1) (cs ++ [.int .i64 (i), .int .i64 (j), .bool (k), v1]) :: cellsH b1 [.int .i64 (i), .int .i64 (j), .bool (k), v1] 195 :: cellsH b [fv, sv] 88 :: L)
  skip
  refine XL.cons (XOp.nilCheck (a := ⟨b, 0, none⟩) rfl ?_)
  refine XL.cons (XOp.fieldP (b := b) (1) Tryz.runUnderlying88 rfl Tryz.sizeOf86 (by decide) rfl rfl ?_)
  refine XL.cons (XOp.store1 (v := u2) [_, _, _] _ [fv, u2] Tryz.sizeOf86 rfl rfl (one_sl f7) rfl rfl rfl ?_)
  refine XL.nil ?_
  refine id (retEndN (L' := cellsH b [fv, u2] 88 :: slH 195 4 u2 ((m) + 1) (cs ++ [.int .i64 (i), .int .i64 (j), .bool (k), v1]) :: L) [] (.tuple #[]) (by exact .nil) rfl (FLe.trans le1 le2) rF (Sub.trans (Sub.front (A := [_])) (Sub.trans (Sub.front (A := [_, _, _])) (Sub.cons (Sub.cons (Sub.drop (Sub.drop sR)))))) ?_)
  exact ⟨_, _, f7, hf1, (hz1.mono le2), rfl⟩

/- (impl.Chain).end -/
theorem chainEnd_spec {F : FH} {L : List HP} {fv : Value} {f : List Int} (hf : IntsF F fv f) {nsv : Value} {ns : List MoveT} (hns : MovesF F nsv ns) (hlss : ns.length ≤ 4000000) :
    Does Tryz.prog 164 [.agg #[fv, nsv]] F (L) (fun v F' L' => F = F' ∧ ∃ (a : Value), (a : Value) = v ∧ (IntsF F' a (endM f ns)) ∧ L = L') := by
 refine Does.of_X Tryz.func164 rfl rfl rfl ?_
 refine X.seq (X.region ?_)
 refine XL.cons (XOp.box [fv, nsv] rfl rfl ?_)
 intro b1
 refine XL.as ((.slice none 0 0)) rfl ?_
 refine XL.nil (X.seq (X.seq (X.region ?_)))
 refine XL.cons (XOp.fieldP (b := b1) (1) Tryz.runUnderlying88 rfl Tryz.sizeOf86 (by decide) rfl rfl ?_)
 refine XL.cons (XOp.load1 (v := nsv) Tryz.isAgg86 rfl (Rd.own [] rfl rfl) ?_)
 refine XL.cons (XOp.lenS (v := nsv) (n := (ns).length) Tryz.runUnderlying86 rfl hns.slv ?_)
 refine XL.as (.int .i64 ((ns.length : Int))) rfl ?_
 refine XL.nil (X.seq (X.region ?_))
 refine XL.mv (.int .i64 ((ns.length : Int))) rfl ?_
 refine XL.cons (XOp.gtr (a := (ns.length : Int)) (b := 0) rfl rfl ?_)
 refine XL.nil ?_
 refine X.condD (p := ((ns.length : Int) : Int) > 0) rfl (fun h1 => ?_) (fun h1 => ?_)
 ·refine X.seq (X.region ?_)
  refine XL.cons (XOp.fieldP (b := b1) (1) Tryz.runUnderlying88 rfl Tryz.sizeOf86 (by decide) rfl rfl ?_)
  refine XL.cons (XOp.load1 (v := nsv) Tryz.isAgg86 rfl (Rd.own [] rfl rfl) ?_)
  refine XL.mv (.int .i64 ((ns.length : Int))) rfl ?_
  refine XL.cons (XOp.subR (a := (ns.length : Int)) (b := 1) (((((ns).length) - 1 : Nat) : Int)) rfl rfl (by omega) (by omega) ?_)
  refine XL.cons (XOp.indexS (v := nsv) (i := ((((ns).length) - 1 : Nat) : Int)) (n := (ns).length) (((ns).length) - 1) Tryz.runUnderlying86 Tryz.sizeOf195 rfl rfl rfl hns.slv (by omega) rfl ?_)
  refine XL.cons (XOp.fieldE (v := nsv) ((((ns).length) - 1) * 4 + 3) Tryz.runUnderlying195 rfl Tryz.sizeOf22 (by decide) rfl rfl ?_)
  obtain ⟨a1, ha1, hrg1, hq1⟩ := hns.rd (i := ((ns).length) - 1) (by omega)
  refine XL.cons (XOp.load1 (v := a1) Tryz.isAgg22 rfl (hrg1 _ 3 _ rfl) ?_)
  refine XL.as (a1) rfl ?_
  refine XL.nil ?_
  refine X.ret (thenQ_ret (retEnd (L' := L) [a1] (a1) (.tmp rfl .nil) rfl rF rF (Sub.drop sR) ?_))
  exact ⟨rfl, _, rfl, by rw [endM, if_neg (by omega)]; exact ha1, rfl⟩
 ·refine X.skip (X.seq (X.region ?_))
  refine XL.cons (XOp.fieldP (b := b1) (0) Tryz.runUnderlying88 rfl Tryz.sizeOf22 (by decide) rfl rfl ?_)
  refine XL.cons (XOp.load1 (v := fv) Tryz.isAgg22 rfl (Rd.own [] rfl rfl) ?_)
  refine XL.as (fv) rfl ?_
  refine XL.nil ?_
  refine X.ret (retEnd (L' := L) [fv] (fv) (.tmp rfl .nil) rfl rF rF (Sub.drop sR) ?_)
  exact ⟨rfl, _, rfl, by rw [endM, if_pos (by omega)]; exact hf, rfl⟩

/- impl.chainOfWalk -/
set_option maxRecDepth 20000 in
theorem chainOfWalk_spec {F : FH} {L : List HP} {fv : Value} {f : List Int} (hf : IntsF F fv f) {xsv : Value} {xs : List StepT} (hxs : StepsF F xsv xs) (hlf : f.length ≤ 4000000) (hlx : xs.length ≤ 60) (hxb : ∀ i, i < xs.length → (xs.getD i (0, 0, [])).2.2.length ≤ 60) :
    Does Tryz.prog 104 [.agg #[fv, xsv]] F (L) (fun v F' L' => ∃ (a : Value), ∃ (b : Value), (.agg #[a, b] : Value) = v ∧ (IntsF F' a f) ∧ (MovesF F' b (chainL xs)) ∧ (Fresh F F' (star [intsH 2 a f, movesD 2 195 b (chainL xs)])) ∧ L = L') := by
 refine Does.of_X Tryz.func104 rfl rfl rfl ?_
 refine X.seq (X.region ?_)
 refine XL.cons (XOp.box [fv, xsv] rfl rfl ?_)
 intro b1
 refine XL.cons (XOp.alloc [(.slice none 0 0), (.slice none 0 0)] Tryz.zeroValue88 rfl ?_)
 intro b2
 refine XL.nil (X.seq (X.region ?_))
 refine XL.cons (XOp.fieldP (b := b1) (0) Tryz.runUnderlying45 rfl Tryz.sizeOf22 (by decide) rfl rfl ?_)
 refine XL.cons (XOp.load1 (v := fv) Tryz.isAgg22 rfl (Rd.own [_] rfl rfl) ?_)
 refine XL.cons (XOp.frzF <| XOp.call (args := [fv]) Tryz.call78 rfl (Clone_spec hf (hlt := (by first | assumption | rfl | omega | simp))) ?_)
 rintro v1 _ _ _ ⟨rfl, hs1, rfl⟩
 refine ⟨_, _, rfl, fun F1 le1 hz1 => ?_⟩
 replace hf := hf.mono le1
 replace hxs := hxs.mono le1
 have hf1 : IntsF F1 v1 ((f)) := intsH.fz (xs := (f)) hz1.fz
 refine XL.cons (XOp.build [v1, (.slice none 0 0)] [(.slice none 0 0), (.slice none 0 0)] [(0, 1), (1, 1)] [(0, [v1])] Tryz.runUnderlying88 Tryz.zeroValue88 rfl (.cons rfl Tryz.sizeOf22 (.cons rfl Tryz.sizeOf86 PlacesAre.nil)) rfl (.cons (cells_one (IntsF.isSl hf1)) CellsAre.nil) ?_)
 refine XL.cons (XOp.alloc [(.slice none 0 0), (.slice none 0 0)] Tryz.zeroValue88 rfl ?_)
 intro b3
 refine XL.cons (XOp.storeN (vs := [v1, (.slice none 0 0)]) [] _ [v1, (.slice none 0 0)] Tryz.sizeOf88 rfl rfl rfl (ones_cons (one_sl (IntsF.isSl hf1)) (ones_cons rfl ones_nil)) rfl rfl rfl ?_)
 refine XL.nil (X.seq (X.seq (X.region ?_)))
 refine XL.cons (XOp.fieldP (b := b1) (1) Tryz.runUnderlying45 rfl Tryz.sizeOf43 (by decide) rfl rfl ?_)
 refine XL.cons (XOp.load1 (v := xsv) Tryz.isAgg43 rfl (Rd.own [_, _] rfl rfl) ?_)
 refine XL.cons (XOp.lenS (v := xsv) (n := (xs).length) Tryz.runUnderlying43 rfl hxs.slv ?_)
 refine XL.mv (.int .i64 (0)) rfl ?_
 refine XL.nil (X.block ?_)
 refine X.loop (α := Nat × Value × List MoveT × List Value × List HP × Nat × FH) (fun xQ => [(2, ptr b2 0), (3, ptr b3 0), (11, xsv), (12, .int .i64 ((xs.length : Int))), (13, .int .i64 (((xQ.1 : Nat) : Int)))]) (fun xQ => slH 195 4 xQ.2.1 xQ.2.2.2.2.2.1 xQ.2.2.2.1 :: cellsH b3 [v1, xQ.2.1] 88 :: cellsH b2 [(.slice none 0 0), (.slice none 0 0)] 88 :: cellsH b1 [fv, xsv] 45 :: L) (fun xQ F' => xQ.2.2.2.2.2.2 = F' ∧ F1 ≤ xQ.2.2.2.2.2.2 ∧ (xQ.1 ≤ xs.length) ∧ (IsSl xQ.2.1) ∧ (MovesC xQ.2.2.2.2.2.2 xQ.2.2.2.1 xQ.2.2.1) ∧ (xQ.2.2.2.2.2.1 = xQ.2.2.1.length) ∧ (DeepL 4 (MoveO 2) xQ.2.2.2.1 xQ.2.2.1 xQ.2.2.2.2.1) ∧ (Fresh F1 xQ.2.2.2.2.2.2 (star xQ.2.2.2.2.1)) ∧ (xQ.2.2.1 = chainL (xs.take xQ.1))) (fun xQ => xs.length - xQ.1) (0, (.slice none 0 0), [], [], [], 0, F1) ⟨rfl, rfl, rfl, rfl, rfl, trivial⟩ (Sub.trans (Sub.addNil 195 4 _ _) (Sub.cons (Sub.cons (Sub.cons (Sub.cons sR))))) ⟨rfl, FLe.refl _, (by (try dsimp only) <;> omega), (⟨_, _, _, rfl⟩), (CO.nil), (rfl), (DeepL.nil), (Fresh.nilL), (rfl)⟩ ?_
 rintro ⟨k, sv, ms, cs, Ls, m, G1⟩ rE _ _ ⟨rfl, leG, hk, hsv, hC, hm, hD, hZ, hms⟩
 show X _ _ _ _ (envs [(2, ptr b2 0), (3, ptr b3 0), (11, xsv), (12, .int .i64 ((xs.length : Int))), (13, .int .i64 ((k : Int)))] rE) _ (slH 195 4 sv m cs :: cellsH b3 [v1, sv] 88 :: cellsH b2 [(.slice none 0 0), (.slice none 0 0)] 88 :: cellsH b1 [fv, xsv] 45 :: L)
 replace leG : F1 ≤ G1 := leG
 dsimp only at hk hsv hC hm hD hZ hms
 have hxk := hxb k
 have hml : ms.length = k := by rw [hms, chainL_len, List.length_take]; omega
 have leG1 := leG
 replace hf := hf.mono leG1
 replace hxs := hxs.mono leG1
 replace hf1 := hf1.mono leG1
 refine X.seq (X.region ?_)
 refine XL.cons (XOp.lss (a := (k : Int)) (b := (xs.length : Int)) rfl rfl ?_)
 refine XL.nil (X.seq ?_)
 refine X.condD (p := (k : Int) < (xs.length : Int)) rfl (fun h1 => ?_) (fun h1 => ?_)
 ·refine X.skip (X.seq (X.block (X.seq (X.region ?_))))
  refine XL.cons (XOp.indexS (v := xsv) (i := (k : Int)) (n := (xs).length) k Tryz.runUnderlying43 Tryz.sizeOf158 rfl rfl rfl hxs.slv (by omega) rfl ?_)
  obtain ⟨a1, ha1, hr1, hr2, hr3⟩ := hxs.rd (i := k) (by omega)
  refine XL.cons (XOp.loadN [.int .i64 ((xs.getD k (0, 0, [])).1), .int .i64 ((xs.getD k (0, 0, [])).2.1), a1] Tryz.isAgg158 Tryz.sizeOf158 rfl rfl (Rd.three (hr1 _) (hr2 _) (hr3 _)) ?_)
  refine XL.cons (XOp.alloc [.int .i64 (0), .int .i64 (0), (.slice none 0 0)] Tryz.zeroValue158 rfl ?_)
  intro b4
  refine XL.cons (XOp.storeN (vs := [.int .i64 ((xs.getD k (0, 0, [])).1), .int .i64 ((xs.getD k (0, 0, [])).2.1), a1]) [] _ [.int .i64 ((xs.getD k (0, 0, [])).1), .int .i64 ((xs.getD k (0, 0, [])).2.1), a1] Tryz.sizeOf158 rfl rfl rfl (ones_cons rfl (ones_cons rfl (ones_cons (one_sl (IntsF.isSl ha1)) ones_nil))) rfl rfl rfl ?_)
  refine XL.nil (X.region ?_)
  refine XL.cons (XOp.fieldP (b := b4) (1) Tryz.runUnderlying158 rfl Tryz.sizeOf2 (by decide) rfl rfl ?_)
  refine XL.cons (XOp.load1 (v := .int .i64 ((xs.getD k (0, 0, [])).2.1)) Tryz.isAgg2 rfl (Rd.own [] rfl rfl) ?_)
  refine XL.cons (XOp.fieldP (b := b4) (0) Tryz.runUnderlying158 rfl Tryz.sizeOf2 (by decide) rfl rfl ?_)
  refine XL.cons (XOp.load1 (v := .int .i64 ((xs.getD k (0, 0, [])).1)) Tryz.isAgg2 rfl (Rd.own [] rfl rfl) ?_)
  refine XL.cons (XOp.fieldP (b := b4) (2) Tryz.runUnderlying158 rfl Tryz.sizeOf22 (by decide) rfl rfl ?_)
  refine XL.cons (XOp.load1 (v := a1) Tryz.isAgg22 rfl (Rd.own [] rfl rfl) ?_)
  refine XL.cons (XOp.build [.int .i64 ((xs.getD k (0, 0, [])).2.1), .int .i64 ((xs.getD k (0, 0, [])).1), .bool (false), a1] [.int .i64 (0), .int .i64 (0), .bool (false), (.slice none 0 0)] [(0, 1), (1, 1), (2, 1), (3, 1)] [(0, [.int .i64 ((xs.getD k (0, 0, [])).2.1)]), (1, [.int .i64 ((xs.getD k (0, 0, [])).1)]), (3, [a1])] Tryz.runUnderlying195 Tryz.zeroValue195 rfl (.cons rfl Tryz.sizeOf2 (.cons rfl Tryz.sizeOf2 (.cons rfl Tryz.sizeOf4 (.cons rfl Tryz.sizeOf22 PlacesAre.nil)))) rfl (.cons rfl (.cons rfl (.cons (cells_one (IntsF.isSl ha1)) CellsAre.nil))) ?_)
  refine XL.weaken (Sub.front (A := [_])) ?_
  show XL _ _ _ _ _ _ _ (slH 195 4 sv m cs :: cellsH b4 [.int .i64 ((xs.getD k (0, 0, [])).1), .int .i64 ((xs.getD k (0, 0, [])).2.1), a1] 158 :: cellsH b3 [v1, sv] 88 :: cellsH b2 [(.slice none 0 0), (.slice none 0 0)] 88 :: cellsH b1 [fv, xsv] 45 :: L)
  refine XL.weaken (Sub.front (A := [_, _])) ?_
  show XL _ _ _ _ _ _ _ (cellsH b3 [v1, sv] 88 :: slH 195 4 sv m cs :: cellsH b4 [.int .i64 ((xs.getD k (0, 0, [])).1), .int .i64 ((xs.getD k (0, 0, [])).2.1), a1] 158 :: cellsH b2 [(.slice none 0 0), (.slice none 0 0)] 88 :: cellsH b1 [fv, xsv] 45 :: L)
  refine XL.cons (XOp.call (args := [ptr b3 0, .agg #[.int .i64 ((xs.getD k (0, 0, [])).2.1), .int .i64 ((xs.getD k (0, 0, [])).1), .bool (false), a1]]) Tryz.call165 rfl (chainAdd_spec ha1 hsv hC (by first | rfl | assumption | omega) (by omega) (by omega)) ?_)
  rintro _ F2 _ le2 ⟨sw1, cw1, hs2, hw1, hf2, rfl⟩
  replace hf := hf.mono le2
  replace hxs := hxs.mono le2
  replace hf1 := hf1.mono le2
  replace hC := hC.mono le2
  replace ha1 := ha1.mono le2
  replace hr1 := Rd.monoA hr1 le2
  replace hr2 := Rd.monoA hr2 le2
  replace hr3 := Rd.monoA hr3 le2
  have hc1 := MovesC.snoc hC (y0 := (xs.getD k (0, 0, [])).2.1) (y1 := (xs.getD k (0, 0, [])).1) (y2 := false) hw1
  show XL _ _ _ _ _ _ _ (cellsH b3 [v1, sw1] 88 :: slH 195 4 sw1 ((m) + 1) ((cs ++ [.int .i64 ((xs.getD k (0, 0, [])).2.1), .int .i64 ((xs.getD k (0, 0, [])).1), .bool (false), cw1])) :: cellsH b4 [.int .i64 ((xs.getD k (0, 0, [])).1), .int .i64 ((xs.getD k (0, 0, [])).2.1), a1] 158 :: cellsH b2 [(.slice none 0 0), (.slice none 0 0)] 88 :: cellsH b1 [fv, xsv] 45 :: L)
  refine XL.nil (X.region ?_)
  refine XL.cons (XOp.addR (a := (k : Int)) (b := 1) (((k + 1 : Nat) : Int)) rfl rfl (by omega) (by omega) ?_)
  refine XL.mv (.int .i64 (((k + 1 : Nat) : Int))) rfl ?_
  refine XL.nil ?_
  exact ⟨(k + 1, sw1, (ms ++ [((xs.getD k (0, 0, [])).2.1, (xs.getD k (0, 0, [])).1, false, (xs.getD k (0, 0, [])).2.2)]), (cs ++ [.int .i64 ((xs.getD k (0, 0, [])).2.1), .int .i64 ((xs.getD k (0, 0, [])).1), .bool (false), cw1]), Ls ++ [intsH 2 cw1 ((xs.getD k (0, 0, [])).2.2)], (m) + 1, F2), _, (FLe.trans leG1 le2), rF, ⟨rfl, rfl, rfl, rfl, rfl, trivial⟩, (Sub.trans (Sub.front (A := [_, _, _, _])) (Sub.trans (Sub.front (A := [_, _, _, _])) (Sub.trans (Sub.front (A := [_, _])) (Sub.trans (Sub.front (A := [_, _, _])) (Sub.cons (Sub.cons (Sub.cons (Sub.cons (Sub.drop sR))))))))), ⟨rfl, (FLe.trans leG1 le2), (by (try dsimp only) <;> omega), (hs2), (hc1), (by (try dsimp only); rw [List.length_append]; simp only [List.length_singleton]; omega), (DeepL.snoc hD rfl ⟨_, rfl, rfl⟩), ((Fresh.app hZ leG1 (Fresh.one hf2) le2)), (by (try dsimp only); rw [chainL_succ (by omega), ← hms]; rfl)⟩, (by omega)⟩
 ·refine X.exit (thenQ_exit (thenQ_exit (blockQ_exit ?_)))
  refine X.seq (X.region ?_)
  refine XL.cons (XOp.loadN [v1, sv] Tryz.isAgg88 Tryz.sizeOf88 rfl rfl (Rd.ownN [_] rfl rfl) ?_)
  refine XL.cons (XOp.storeN (vs := [v1, sv]) [_, _] _ [v1, sv] Tryz.sizeOf88 rfl rfl rfl (ones_cons (one_sl (IntsF.isSl hf1)) (ones_cons (one_sl hsv) ones_nil)) rfl rfl rfl ?_)
  refine XL.nil ?_
  refine X.freezeF [] _ _ rfl (fun F3 le3 hz2 => ?_)
  replace hf := hf.mono le3
  replace hxs := hxs.mono le3
  replace hf1 := hf1.mono le3
  replace hC := hC.mono le3
  have hf3 : MovesF F3 sv ms := CO.fz hC (by first | rfl | simp | omega) hz2.fz
  refine X.ret (retEnd (L' := L) [.agg #[v1, sv]] (.agg #[v1, sv]) (.cell rfl (loadNV [v1, sv] Tryz.isAgg88 Tryz.sizeOf88 rfl (Rd.ownN [_] rfl rfl)) .nil) rfl (FLe.trans (FLe.trans le1 leG1) le3) rF (Sub.drop (Sub.drop (Sub.drop sR))) ?_)
  have e9 : ms = chainL xs := by rw [hms, show k = xs.length from by omega, List.take_length]
  rw [← e9]
  exact ⟨_, _, rfl, hf1, hf3, (Fresh.app (Fresh.one hz1) le1 (Fresh.one (Fresh.deep hD hZ leG1 hz2 (by omega) le3)) (FLe.trans leG1 le3)), rfl⟩

/- slices.Backward[[]impl.Move,impl.Move] -/
theorem backwardM_spec {F : FH} {L : List HP} {sv : Value} {s : List MoveT} (hs : MovesF F sv s) :
    Does Tryz.prog 166 [sv] F (L) (fun v F' L' => ∃ (bt : Nat), (.func (.func 199) #[] #[ptr bt 0] : Value) = v ∧ FzC F' bt [sv] ∧ L = L') := by
 refine Does.of_X Tryz.func166 rfl rfl rfl ?_
 refine X.seq (X.region ?_)
 refine XL.cons (XOp.box [sv] rfl (cells_one (MovesF.isSl hs)) ?_)
 intro b1
 refine XL.as (.nilFunc) rfl ?_
 refine XL.nil (X.seq (X.region ?_))
 refine XL.cons (XOp.makeFuncL [] [ptr b1 0] rfl rfl ?_)
 refine XL.as (.func (.func 199) #[] #[ptr b1 0]) rfl ?_
 refine XL.nil ?_
 refine X.freeze [] _ _ rfl (fun F1 le1 hz1 => ?_)
 replace hs := hs.mono le1
 have hf1 : FzC F1 b1 [sv] := Fz.cells hz1
 refine X.ret (retEnd (L' := L) [.func (.func 199) #[] #[ptr b1 0]] (.func (.func 199) #[] #[ptr b1 0]) (.tmp rfl .nil) rfl le1 rF sR ?_)
 exact ⟨_, rfl, hf1, rfl⟩

/- slices.Backward[[]impl.Move,impl.Move]$1 -/
set_option maxRecDepth 20000 in
theorem backItM_spec {F : FH} {L : List HP} {l bt : Nat} {R : Loop} {sv : Value} {ms : List MoveT} (hbt : FzC F bt [sv]) (hs : MovesF F sv ms) (hsl : ms.length ≤ 4000000) {J : Nat → FH → List HP → Prop} (hJ0 : J ms.length F L) (hyes : ∀ (k : Nat) (i : Int) (Fy : FH) (Ly : List HP) (tov : Value), k < ms.length → F ≤ Fy → J (k + 1) Fy Ly → IntsF Fy tov (ms.getD k (0, 0, false, [])).2.2.2 → i = (k : Int) → Yld Tryz.prog l [.int .i64 i, .agg #[.int .i64 (ms.getD k (0, 0, false, [])).1, .int .i64 (ms.getD k (0, 0, false, [])).2.1, .bool (ms.getD k (0, 0, false, [])).2.2.1, tov]] Fy (objH l (.loop R) :: Ly) (fun v F' L' => .bool true = v ∧ ∃ L2, J k F' L2 ∧ objH l (.loop R) :: L2 = L')) :
    Does Tryz.prog 199 [(.func (.yield l) #[] #[]), ptr bt 0] F (objH l (.loop R) :: L) (fun v F' L' => ∃ L2, J 0 F' L2 ∧ objH l (.loop R) :: L2 = L') := by
 refine Does.of_X Tryz.func199 rfl rfl rfl ?_
 refine X.seq (X.region ?_)
 refine XL.cons (XOp.load1 (v := sv) Tryz.isAgg86 rfl (FzC.rd1 hbt rfl) ?_)
 refine XL.cons (XOp.lenS (v := sv) (n := (ms).length) Tryz.runUnderlying86 rfl hs.slv ?_)
 refine XL.cons (XOp.subR (a := (ms.length : Int)) (b := 1) (((ms.length : Int)) - 1) rfl rfl (by omega) (by omega) ?_)
 refine XL.as (.int .i64 (((ms.length : Int)) - 1)) rfl ?_
 refine XL.nil (X.block ?_)
 refine X.loop (α := Nat × List HP × FH) (fun xQ => [(0, (.func (.yield l) #[] #[])), (1, ptr bt 0), (3, .int .i64 ((xQ.1 : Int) - 1))]) (fun xQ => objH l (.loop R) :: xQ.2.1) (fun xQ F' => xQ.2.2 = F' ∧ F ≤ xQ.2.2 ∧ (xQ.1 ≤ ms.length) ∧ (J xQ.1 xQ.2.2 xQ.2.1)) (fun xQ => xQ.1) (ms.length, L, F) ⟨rfl, rfl, rfl, trivial⟩ (Sub.cons sR) ⟨rfl, FLe.refl _, (Nat.le_refl _), (hJ0)⟩ ?_
 rintro ⟨j, Lk, G1⟩ rE _ _ ⟨rfl, leG, hj, hJ⟩
 show X _ _ _ _ (envs [(0, (.func (.yield l) #[] #[])), (1, ptr bt 0), (3, .int .i64 ((j : Int) - 1))] rE) _ (objH l (.loop R) :: Lk)
 replace leG : F ≤ G1 := leG
 dsimp only at hj hJ
 have hjl : j - 1 < ms.length ∨ j = 0 := by omega
 have leG1 := leG
 replace hs := hs.mono leG1
 replace hbt := hbt.mono leG1
 refine X.seq (X.seq (X.region ?_))
 refine XL.mv (.int .i64 ((j : Int) - 1)) rfl ?_
 refine XL.cons (XOp.geq (a := (j : Int) - 1) (b := 0) rfl rfl ?_)
 refine XL.nil ?_
 refine X.condD (p := ((j : Int) - 1 : Int) ≥ 0) rfl (fun h1 => ?_) (fun h1 => ?_)
 ·have hj0 : ((j : Int) - 1).toNat = j - 1 := by omega
  have hjk : ((j : Int) - 1) = ((j - 1 : Nat) : Int) := by omega
  refine X.skip (X.seq (X.block (X.seq ?_)))
  refine X.ofI (by kernel_rfl) ?_
  refine XI.region ?_
  refine XIL.cons (XOp.move ((.func (.yield l) #[] #[])) rfl ?_)
  refine XIL.cons (XOp.move (.int .i64 ((j : Int) - 1)) rfl ?_)
  refine XIL.cons (XOp.load1 (v := sv) Tryz.isAgg86 rfl (FzC.rd1 hbt rfl) ?_)
  refine XIL.cons (XOp.move (.int .i64 ((j : Int) - 1)) rfl ?_)
  refine XIL.cons (XOp.indexS (v := sv) (i := (j : Int) - 1) (n := (ms).length) (((j : Int) - 1).toNat) Tryz.runUnderlying86 Tryz.sizeOf195 rfl rfl (by omega) hs.slv (by omega) rfl ?_)
  obtain ⟨a1, ha1, hrg1, hq1⟩ := hs.rd (i := ((j : Int) - 1).toNat) (by omega)
  refine XIL.cons (XOp.loadN [.int .i64 ((ms.getD (((j : Int) - 1).toNat) (0, 0, false, [])).1), .int .i64 ((ms.getD (((j : Int) - 1).toNat) (0, 0, false, [])).2.1), .bool ((ms.getD (((j : Int) - 1).toNat) (0, 0, false, [])).2.2.1), a1] Tryz.isAgg195 Tryz.sizeOf195 rfl rfl (Rd.all (hrg1 _)) ?_)
  refine XIL.yield (k := l) (args := [.int .i64 ((j : Int) - 1), .agg #[.int .i64 ((ms.getD (((j : Int) - 1).toNat) (0, 0, false, [])).1), .int .i64 ((ms.getD (((j : Int) - 1).toNat) (0, 0, false, [])).2.1), .bool ((ms.getD (((j : Int) - 1).toNat) (0, 0, false, [])).2.2.1), a1]]) rfl (by rfl) ?_
  refine Yld.weaken (Sub.cons sR) ?_
  have hJ9 : J ((((j : Int) - 1).toNat) + 1) G1 Lk := by rw [show ((j : Int) - 1).toNat + 1 = j from by omega]; exact hJ
  refine (hyes _ _ _ _ _ (by omega) leG1 hJ9 ha1 (by omega)).mono ?_
  rintro _ F1 _ le1 ⟨rfl, Lj1, hJ1, rfl⟩
  rw [hj0] at hJ1
  replace hs := hs.mono le1
  replace hbt := hbt.mono le1
  replace ha1 := ha1.mono le1
  replace hrg1 := fun L9 j9 u9 h9 => Rd.mono (hrg1 L9 j9 u9 h9) le1
  show XIL _ _ _ _ _ _ _ _ _ (objH l (.loop R) :: Lj1)
  refine XIL.cons (XOp.notB (b := true) rfl ?_)
  refine XIL.nil ?_
  refine X.condF rfl ?_
  refine X.skip (X.region ?_)
  refine XL.mv (.int .i64 ((j : Int) - 1)) rfl ?_
  refine XL.cons (XOp.subR (a := (j : Int) - 1) (b := 1) (((j : Int) - 1) - 1) rfl rfl (by omega) (by omega) ?_)
  refine XL.as (.int .i64 (((j : Int) - 1) - 1)) rfl ?_
  refine XL.nil ?_
  exact ⟨(j - 1, Lj1, F1), _, (FLe.trans leG1 le1), rF, ⟨rfl, rfl, (vI (by (try dsimp only); omega)), trivial⟩, (Sub.cons sR), ⟨rfl, (FLe.trans leG1 le1), (by (try dsimp only) <;> omega), (hJ1)⟩, (by (try dsimp only); omega)⟩
 ·refine X.exit (thenQ_exit (thenQ_exit (blockQ_exit ?_)))
  refine id (retEndN (L' := objH l (.loop R) :: Lk) [] (.tuple #[]) (by exact .nil) rfl leG1 rF (Sub.cons sR) ?_)
  obtain rfl : j = 0 := by omega
  exact ⟨_, hJ, rfl⟩

/- impl.turned -/
set_option maxRecDepth 20000 in
theorem turned_spec {F : FH} {L : List HP} {fv : Value} {f : List Int} (hf : IntsF F fv f) {nsv : Value} {ns : List MoveT} (hns : MovesF F nsv ns) (hlf : f.length ≤ 60) (hln : ns.length ≤ 60) (hnb : ∀ i, i < ns.length → (ns.getD i (0, 0, false, [])).2.2.2.length ≤ 60) :
    Does Tryz.prog 105 [.agg #[fv, nsv]] F (L) (fun v F' L' => ∃ (a : Value), ∃ (b : Value), (.agg #[a, b] : Value) = v ∧ (IntsF F' a (endM f ns)) ∧ (MovesF F' b (turnL f ns)) ∧ (Fresh F F' (star [intsH 2 a (endM f ns), movesD 2 195 b (turnL f ns)])) ∧ L = L') := by
 refine Does.of_XF Tryz.func105 rfl (by kernel_rfl) rfl ?_
 have hel : (endM f ns).length ≤ 60 := by unfold endM; split <;> first | exact hlf | exact hnb _ (by omega)
 refine XF.seq ?_
 refine X.region ?_
 refine XL.cons (XOp.box [fv, nsv] rfl rfl ?_)
 intro b1
 refine XL.cons (XOp.alloc [(.slice none 0 0), (.slice none 0 0)] Tryz.zeroValue88 rfl ?_)
 intro b2
 refine XL.nil ?_
 refine XF.seq ?_
 refine X.region ?_
 refine XL.cons (XOp.loadN [fv, nsv] Tryz.isAgg88 Tryz.sizeOf88 rfl rfl (Rd.ownN [_] rfl rfl) ?_)
 refine XL.cons (XOp.call (args := [.agg #[fv, nsv]]) Tryz.call164 rfl (chainEnd_spec hf hns (hlss := (by first | assumption | rfl | omega | simp))) ?_)
 rintro _ _ _ _ ⟨rfl, x1, rfl, hr1, rfl⟩
 refine XL.cons (XOp.frzF <| XOp.call (args := [x1]) Tryz.call78 rfl (Clone_spec hr1 (hlt := (by first | assumption | rfl | omega | simp))) ?_)
 rintro v1 _ _ _ ⟨rfl, hs1, rfl⟩
 refine ⟨_, _, rfl, fun F2 le2 hz1 => ?_⟩
 replace hf := hf.mono le2
 replace hns := hns.mono le2
 replace hr1 := hr1.mono le2
 have hf1 : IntsF F2 v1 (((endM f ns))) := intsH.fz (xs := ((endM f ns))) hz1.fz
 refine XL.cons (XOp.build [v1, (.slice none 0 0)] [(.slice none 0 0), (.slice none 0 0)] [(0, 1), (1, 1)] [(0, [v1])] Tryz.runUnderlying88 Tryz.zeroValue88 rfl (.cons rfl Tryz.sizeOf22 (.cons rfl Tryz.sizeOf86 PlacesAre.nil)) rfl (.cons (cells_one (IntsF.isSl hf1)) CellsAre.nil) ?_)
 refine XL.cons (XOp.alloc [(.slice none 0 0), (.slice none 0 0)] Tryz.zeroValue88 rfl ?_)
 intro b3
 refine XL.cons (XOp.storeN (vs := [v1, (.slice none 0 0)]) [] _ [v1, (.slice none 0 0)] Tryz.sizeOf88 rfl rfl rfl (ones_cons (one_sl (IntsF.isSl hf1)) (ones_cons rfl ones_nil)) rfl rfl rfl ?_)
 refine XL.nil ?_
 refine XF.ofR ?_
 refine XR.seq ?_
 refine X.region ?_
 refine XL.freeze [_, _] _ _ rfl (fun F3 le3 hz2 => ?_)
 replace hf := hf.mono le3
 replace hns := hns.mono le3
 replace hr1 := hr1.mono le3
 replace hf1 := hf1.mono le3
 have hf2 : FzC F3 b1 [fv, nsv] := Fz.cells hz2
 skip
 refine XL.cons (XOp.fieldP (b := b1) (1) Tryz.runUnderlying88 rfl Tryz.sizeOf86 (by decide) rfl rfl ?_)
 refine XL.cons (XOp.load1 (v := nsv) Tryz.isAgg86 rfl (FzC.rd1 hf2 rfl) ?_)
 refine XL.cons (XOp.call (args := [nsv]) Tryz.call166 rfl (backwardM_spec hns) ?_)
 rintro _ F4 _ le4 ⟨x2, rfl, hb1, rfl⟩
 replace hf := hf.mono le4
 replace hns := hns.mono le4
 replace hr1 := hr1.mono le4
 replace hf1 := hf1.mono le4
 replace hf2 := hf2.mono le4
 refine XL.nil ?_
 refine XR.rangeB (gf := 199) (lb := [ptr x2 0]) rfl Tryz.call199 (fun l D R hRs hRp hRps hRa hRb hRz hRg => ?_)
 have hR0 : ({ R with state := .ready, pending := none } : Loop) = R := by
  cases R
  simp only at hRs hRp
  subst hRs hRp
  rfl
 have hyes : ∀ (k : Nat) (i : Int) (Fy : FH) (Ly : List HP) (tov : Value), k < ns.length → F4 ≤ Fy → (WJM F4 2 195 88 b3 v1 (turnTo f ns) (objH D (.deferred (some [])) :: cellsH b2 [(.slice none 0 0), (.slice none 0 0)] 88 :: L)) (k + 1) Fy Ly → IntsF Fy tov (ns.getD k (0, 0, false, [])).2.2.2 → i = (k : Int) → Yld Tryz.prog l [.int .i64 i, .agg #[.int .i64 (ns.getD k (0, 0, false, [])).1, .int .i64 (ns.getD k (0, 0, false, [])).2.1, .bool (ns.getD k (0, 0, false, [])).2.2.1, tov]] Fy (objH l (.loop R) :: Ly) (fun v F' L' => .bool true = v ∧ ∃ L2, (WJM F4 2 195 88 b3 v1 (turnTo f ns) (objH D (.deferred (some [])) :: cellsH b2 [(.slice none 0 0), (.slice none 0 0)] 88 :: L)) k F' L2 ∧ objH l (.loop R) :: L2 = L') := by
  intro k i Fy Ly tov hk9 leF hJ hto hi
  obtain ⟨sv8, ms8, cs8, Ls8, m8, hsv8, hC8, hm8, hDp, hZ, hms8, rfl⟩ := hJ
  have hmsl : ms8.length ≤ 60 := by rw [hms8]; unfold turnTo; simp; omega
  have htob := hnb k hk9
  have htob2 := hnb (i - 1).toNat
  have hix : 0 < i → (i - 1).toNat = k - 1 := fun _ => by omega
  have hf := hf.mono leF
  have hns := hns.mono leF
  have hr1 := hr1.mono leF
  have hf1 := hf1.mono leF
  have hf2 := hf2.mono leF
  have hb1 := hb1.mono leF
  refine Yld.of_round hRs hRp hRps hRa hRb hRz hRg rfl (by kernel_rfl) (by kernel_rfl) (by kernel_rfl) ?_
  refine XI.slots [(14, .int .i64 (i)), (15, .agg #[.int .i64 ((ns.getD k (0, 0, false, [])).1), .int .i64 ((ns.getD k (0, 0, false, [])).2.1), .bool ((ns.getD k (0, 0, false, [])).2.2.1), tov]), (3, ptr b3 0), (1, ptr b1 0)] ⟨rfl, rfl, rfl, rfl, trivial⟩ (fun rE => ?_)
  refine XI.seq ?_
  refine XI.region ?_
  refine XIL.cons (XOp.assign (.int .i64 (i)) rfl ?_)
  refine XIL.nil ?_
  refine XI.region ?_
  refine XIL.cons (XOp.alloc [.int .i64 (0), .int .i64 (0), .bool (false), (.slice none 0 0)] Tryz.zeroValue195 rfl ?_)
  intro b4
  refine XIL.cons (XOp.storeN (vs := [.int .i64 ((ns.getD k (0, 0, false, [])).1), .int .i64 ((ns.getD k (0, 0, false, [])).2.1), .bool ((ns.getD k (0, 0, false, [])).2.2.1), tov]) [] _ [.int .i64 ((ns.getD k (0, 0, false, [])).1), .int .i64 ((ns.getD k (0, 0, false, [])).2.1), .bool ((ns.getD k (0, 0, false, [])).2.2.1), tov] Tryz.sizeOf195 rfl rfl rfl (ones_cons rfl (ones_cons rfl (ones_cons rfl (ones_cons (one_sl (IntsF.isSl hto)) ones_nil)))) rfl rfl rfl ?_)
  refine XIL.nil ?_
  refine ⟨cellsH b4 [.int .i64 ((ns.getD k (0, 0, false, [])).1), .int .i64 ((ns.getD k (0, 0, false, [])).2.1), .bool ((ns.getD k (0, 0, false, [])).2.2.1), tov] 195 :: cellsH b3 [v1, sv8] 88 :: slH 195 4 sv8 m8 cs8 :: objH D (.deferred (some [])) :: cellsH b2 [(.slice none 0 0), (.slice none 0 0)] 88 :: L, (Sub.trans (Sub.front (A := [_, _, _])) (Sub.trans (Sub.front (A := [_, _, _])) (Sub.trans (Sub.front (A := [_, _])) (Sub.trans (Sub.front (A := [_, _, _])) (Sub.cons (Sub.cons (Sub.cons (Sub.cons sR)))))))), ?_⟩
  refine XI.block ?_
  refine XI.seq ?_
  refine XI.region ?_
  refine XIL.cons (XOp.fieldP (b := b1) (0) Tryz.runUnderlying88 rfl Tryz.sizeOf22 (by decide) rfl rfl ?_)
  refine XIL.cons (XOp.load1 (v := fv) Tryz.isAgg22 rfl (FzC.rd1 hf2 rfl) ?_)
  refine XIL.cons (XOp.assign (fv) rfl ?_)
  refine XIL.nil ?_
  refine XI.seq ?_
  refine XI.seq ?_
  refine XI.region ?_
  refine XIL.cons (XOp.move (.int .i64 (i)) rfl ?_)
  refine XIL.cons (XOp.gtr (a := i) (b := 0) rfl rfl ?_)
  refine XIL.nil ?_
  refine XI.condD (p := (i : Int) > 0) rfl (fun h1 => ?_) (fun h1 => ?_)
  ·refine XI.region ?_
   refine XIL.cons (XOp.fieldP (b := b1) (1) Tryz.runUnderlying88 rfl Tryz.sizeOf86 (by decide) rfl rfl ?_)
   refine XIL.cons (XOp.load1 (v := nsv) Tryz.isAgg86 rfl (FzC.rd1 hf2 rfl) ?_)
   refine XIL.cons (XOp.move (.int .i64 (i)) rfl ?_)
   refine XIL.cons (XOp.subR (a := i) (b := 1) (i - 1) rfl rfl (by omega) (by omega) ?_)
   refine XIL.cons (XOp.indexS (v := nsv) (i := i - 1) (n := (ns).length) ((i - 1).toNat) Tryz.runUnderlying86 Tryz.sizeOf195 rfl rfl (by omega) hns.slv (by omega) rfl ?_)
   refine XIL.cons (XOp.fieldE (v := nsv) (((i - 1).toNat) * 4 + 3) Tryz.runUnderlying195 rfl Tryz.sizeOf22 (by decide) rfl rfl ?_)
   obtain ⟨a1, ha1, hrg1, hq1⟩ := hns.rd (i := (i - 1).toNat) (by omega)
   refine XIL.cons (XOp.load1 (v := a1) Tryz.isAgg22 rfl (hrg1 _ 3 _ rfl) ?_)
   refine XIL.cons (XOp.assign (a1) rfl ?_)
   refine XIL.nil ?_
   refine XI.region ?_
   refine XIL.cons (XOp.fieldP (b := b4) (0) Tryz.runUnderlying195 rfl Tryz.sizeOf2 (by decide) rfl rfl ?_)
   refine XIL.cons (XOp.load1 (v := .int .i64 ((ns.getD k (0, 0, false, [])).1)) Tryz.isAgg2 rfl (Rd.own [_] rfl rfl) ?_)
   refine XIL.cons (XOp.fieldP (b := b4) (1) Tryz.runUnderlying195 rfl Tryz.sizeOf2 (by decide) rfl rfl ?_)
   refine XIL.cons (XOp.load1 (v := .int .i64 ((ns.getD k (0, 0, false, [])).2.1)) Tryz.isAgg2 rfl (Rd.own [_] rfl rfl) ?_)
   refine XIL.cons (XOp.fieldP (b := b4) (2) Tryz.runUnderlying195 rfl Tryz.sizeOf4 (by decide) rfl rfl ?_)
   refine XIL.cons (XOp.load1 (v := .bool ((ns.getD k (0, 0, false, [])).2.2.1)) Tryz.isAgg4 rfl (Rd.own [_] rfl rfl) ?_)
   refine XIL.cons (XOp.notB (b := (ns.getD k (0, 0, false, [])).2.2.1) rfl ?_)
   refine XIL.cons (XOp.move (a1) rfl ?_)
   refine XIL.cons (XOp.build [.int .i64 ((ns.getD k (0, 0, false, [])).1), .int .i64 ((ns.getD k (0, 0, false, [])).2.1), .bool (!((ns.getD k (0, 0, false, [])).2.2.1)), a1] [.int .i64 (0), .int .i64 (0), .bool (false), (.slice none 0 0)] [(0, 1), (1, 1), (2, 1), (3, 1)] [(0, [.int .i64 ((ns.getD k (0, 0, false, [])).1)]), (1, [.int .i64 ((ns.getD k (0, 0, false, [])).2.1)]), (2, [.bool (!((ns.getD k (0, 0, false, [])).2.2.1))]), (3, [a1])] Tryz.runUnderlying195 Tryz.zeroValue195 rfl (.cons rfl Tryz.sizeOf2 (.cons rfl Tryz.sizeOf2 (.cons rfl Tryz.sizeOf4 (.cons rfl Tryz.sizeOf22 PlacesAre.nil)))) rfl (.cons rfl (.cons rfl (.cons rfl (.cons (cells_one (IntsF.isSl ha1)) CellsAre.nil)))) ?_)
   refine XIL.weaken (Sub.front (A := [_, _, _])) ?_
   show XIL _ _ _ _ _ _ _ _ _ (slH 195 4 sv8 m8 cs8 :: objH l (.loop { R with state := .busy }) :: cellsH b4 [.int .i64 ((ns.getD k (0, 0, false, [])).1), .int .i64 ((ns.getD k (0, 0, false, [])).2.1), .bool ((ns.getD k (0, 0, false, [])).2.2.1), tov] 195 :: cellsH b3 [v1, sv8] 88 :: objH D (.deferred (some [])) :: cellsH b2 [(.slice none 0 0), (.slice none 0 0)] 88 :: L)
   refine XIL.weaken (Sub.front (A := [_, _, _])) ?_
   show XIL _ _ _ _ _ _ _ _ _ (cellsH b3 [v1, sv8] 88 :: slH 195 4 sv8 m8 cs8 :: objH l (.loop { R with state := .busy }) :: cellsH b4 [.int .i64 ((ns.getD k (0, 0, false, [])).1), .int .i64 ((ns.getD k (0, 0, false, [])).2.1), .bool ((ns.getD k (0, 0, false, [])).2.2.1), tov] 195 :: objH D (.deferred (some [])) :: cellsH b2 [(.slice none 0 0), (.slice none 0 0)] 88 :: L)
   refine XIL.cons (XOp.call (args := [ptr b3 0, .agg #[.int .i64 ((ns.getD k (0, 0, false, [])).1), .int .i64 ((ns.getD k (0, 0, false, [])).2.1), .bool (!((ns.getD k (0, 0, false, [])).2.2.1)), a1]]) Tryz.call165 rfl (chainAdd_spec ha1 hsv8 hC8 (by first | rfl | assumption | omega) (by omega) (by omega)) ?_)
   rintro _ F5 _ le5 ⟨sw1, cw1, hs2, hw1, hf3, rfl⟩
   replace hC8 := hC8.mono le5
   replace hto := hto.mono le5
   replace hf := hf.mono le5
   replace hns := hns.mono le5
   replace hr1 := hr1.mono le5
   replace hf1 := hf1.mono le5
   replace hf2 := hf2.mono le5
   replace hb1 := hb1.mono le5
   replace ha1 := ha1.mono le5
   replace hrg1 := fun L9 j9 u9 h9 => Rd.mono (hrg1 L9 j9 u9 h9) le5
   have hc1 := MovesC.snoc hC8 (y0 := (ns.getD k (0, 0, false, [])).1) (y1 := (ns.getD k (0, 0, false, [])).2.1) (y2 := !((ns.getD k (0, 0, false, [])).2.2.1)) hw1
   show XIL _ _ _ _ _ _ _ _ _ (cellsH b3 [v1, sw1] 88 :: slH 195 4 sw1 ((m8) + 1) ((cs8 ++ [.int .i64 ((ns.getD k (0, 0, false, [])).1), .int .i64 ((ns.getD k (0, 0, false, [])).2.1), .bool (!((ns.getD k (0, 0, false, [])).2.2.1)), cw1])) :: objH l (.loop { R with state := .busy }) :: cellsH b4 [.int .i64 ((ns.getD k (0, 0, false, [])).1), .int .i64 ((ns.getD k (0, 0, false, [])).2.1), .bool ((ns.getD k (0, 0, false, [])).2.2.1), tov] 195 :: objH D (.deferred (some [])) :: cellsH b2 [(.slice none 0 0), (.slice none 0 0)] 88 :: L)
   refine XIL.nil ?_
   refine ⟨rfl, ?_⟩
   refine ⟨cellsH b3 [v1, sw1] 88 :: slH 195 4 sw1 ((m8) + 1) ((cs8 ++ [.int .i64 ((ns.getD k (0, 0, false, [])).1), .int .i64 ((ns.getD k (0, 0, false, [])).2.1), .bool (!((ns.getD k (0, 0, false, [])).2.2.1)), cw1])) :: objH D (.deferred (some [])) :: cellsH b2 [(.slice none 0 0), (.slice none 0 0)] 88 :: L, (Sub.trans (Sub.front (A := [_])) (Sub.trans (Sub.front (A := [_])) (Sub.trans (Sub.front (A := [_, _])) (Sub.cons (Sub.cons (Sub.cons (Sub.drop sR))))))), ?_⟩
   rw [hR0]
   exact ⟨rfl, _, ⟨_, _, _, _, _, hs2, hc1, by rw [List.length_append, List.length_singleton]; omega, DeepL.snoc hDp rfl ⟨_, rfl, rfl⟩, (Fresh.app hZ leF (Fresh.one hf3) le5), by have h9 := turnTo_next (f := f) (ms := ns) (j := k + 1) (by omega) (by omega); rw [Nat.add_sub_cancel] at h9; rw [hms8, h9]; unfold turnAt; first | (rw [if_pos (by omega), ← hix (by omega)]) | rw [if_neg (by omega)], rfl⟩, rfl⟩
  ·refine XI.skip ?_
   refine XI.region ?_
   refine XIL.cons (XOp.fieldP (b := b4) (0) Tryz.runUnderlying195 rfl Tryz.sizeOf2 (by decide) rfl rfl ?_)
   refine XIL.cons (XOp.load1 (v := .int .i64 ((ns.getD k (0, 0, false, [])).1)) Tryz.isAgg2 rfl (Rd.own [_] rfl rfl) ?_)
   refine XIL.cons (XOp.fieldP (b := b4) (1) Tryz.runUnderlying195 rfl Tryz.sizeOf2 (by decide) rfl rfl ?_)
   refine XIL.cons (XOp.load1 (v := .int .i64 ((ns.getD k (0, 0, false, [])).2.1)) Tryz.isAgg2 rfl (Rd.own [_] rfl rfl) ?_)
   refine XIL.cons (XOp.fieldP (b := b4) (2) Tryz.runUnderlying195 rfl Tryz.sizeOf4 (by decide) rfl rfl ?_)
   refine XIL.cons (XOp.load1 (v := .bool ((ns.getD k (0, 0, false, [])).2.2.1)) Tryz.isAgg4 rfl (Rd.own [_] rfl rfl) ?_)
   refine XIL.cons (XOp.notB (b := (ns.getD k (0, 0, false, [])).2.2.1) rfl ?_)
   refine XIL.cons (XOp.move (fv) rfl ?_)
   refine XIL.cons (XOp.build [.int .i64 ((ns.getD k (0, 0, false, [])).1), .int .i64 ((ns.getD k (0, 0, false, [])).2.1), .bool (!((ns.getD k (0, 0, false, [])).2.2.1)), fv] [.int .i64 (0), .int .i64 (0), .bool (false), (.slice none 0 0)] [(0, 1), (1, 1), (2, 1), (3, 1)] [(0, [.int .i64 ((ns.getD k (0, 0, false, [])).1)]), (1, [.int .i64 ((ns.getD k (0, 0, false, [])).2.1)]), (2, [.bool (!((ns.getD k (0, 0, false, [])).2.2.1))]), (3, [fv])] Tryz.runUnderlying195 Tryz.zeroValue195 rfl (.cons rfl Tryz.sizeOf2 (.cons rfl Tryz.sizeOf2 (.cons rfl Tryz.sizeOf4 (.cons rfl Tryz.sizeOf22 PlacesAre.nil)))) rfl (.cons rfl (.cons rfl (.cons rfl (.cons (cells_one (IntsF.isSl hf)) CellsAre.nil)))) ?_)
   refine XIL.weaken (Sub.front (A := [_, _, _])) ?_
   show XIL _ _ _ _ _ _ _ _ _ (slH 195 4 sv8 m8 cs8 :: objH l (.loop { R with state := .busy }) :: cellsH b4 [.int .i64 ((ns.getD k (0, 0, false, [])).1), .int .i64 ((ns.getD k (0, 0, false, [])).2.1), .bool ((ns.getD k (0, 0, false, [])).2.2.1), tov] 195 :: cellsH b3 [v1, sv8] 88 :: objH D (.deferred (some [])) :: cellsH b2 [(.slice none 0 0), (.slice none 0 0)] 88 :: L)
   refine XIL.weaken (Sub.front (A := [_, _, _])) ?_
   show XIL _ _ _ _ _ _ _ _ _ (cellsH b3 [v1, sv8] 88 :: slH 195 4 sv8 m8 cs8 :: objH l (.loop { R with state := .busy }) :: cellsH b4 [.int .i64 ((ns.getD k (0, 0, false, [])).1), .int .i64 ((ns.getD k (0, 0, false, [])).2.1), .bool ((ns.getD k (0, 0, false, [])).2.2.1), tov] 195 :: objH D (.deferred (some [])) :: cellsH b2 [(.slice none 0 0), (.slice none 0 0)] 88 :: L)
   refine XIL.cons (XOp.call (args := [ptr b3 0, .agg #[.int .i64 ((ns.getD k (0, 0, false, [])).1), .int .i64 ((ns.getD k (0, 0, false, [])).2.1), .bool (!((ns.getD k (0, 0, false, [])).2.2.1)), fv]]) Tryz.call165 rfl (chainAdd_spec hf hsv8 hC8 (by first | rfl | assumption | omega) (by omega) (by omega)) ?_)
   rintro _ F6 _ le6 ⟨sw2, cw2, hs3, hw2, hf4, rfl⟩
   replace hC8 := hC8.mono le6
   replace hto := hto.mono le6
   replace hf := hf.mono le6
   replace hns := hns.mono le6
   replace hr1 := hr1.mono le6
   replace hf1 := hf1.mono le6
   replace hf2 := hf2.mono le6
   replace hb1 := hb1.mono le6
   have hc2 := MovesC.snoc hC8 (y0 := (ns.getD k (0, 0, false, [])).1) (y1 := (ns.getD k (0, 0, false, [])).2.1) (y2 := !((ns.getD k (0, 0, false, [])).2.2.1)) hw2
   show XIL _ _ _ _ _ _ _ _ _ (cellsH b3 [v1, sw2] 88 :: slH 195 4 sw2 ((m8) + 1) ((cs8 ++ [.int .i64 ((ns.getD k (0, 0, false, [])).1), .int .i64 ((ns.getD k (0, 0, false, [])).2.1), .bool (!((ns.getD k (0, 0, false, [])).2.2.1)), cw2])) :: objH l (.loop { R with state := .busy }) :: cellsH b4 [.int .i64 ((ns.getD k (0, 0, false, [])).1), .int .i64 ((ns.getD k (0, 0, false, [])).2.1), .bool ((ns.getD k (0, 0, false, [])).2.2.1), tov] 195 :: objH D (.deferred (some [])) :: cellsH b2 [(.slice none 0 0), (.slice none 0 0)] 88 :: L)
   refine XIL.nil ?_
   refine ⟨rfl, ?_⟩
   refine ⟨cellsH b3 [v1, sw2] 88 :: slH 195 4 sw2 ((m8) + 1) ((cs8 ++ [.int .i64 ((ns.getD k (0, 0, false, [])).1), .int .i64 ((ns.getD k (0, 0, false, [])).2.1), .bool (!((ns.getD k (0, 0, false, [])).2.2.1)), cw2])) :: objH D (.deferred (some [])) :: cellsH b2 [(.slice none 0 0), (.slice none 0 0)] 88 :: L, (Sub.trans (Sub.front (A := [_])) (Sub.trans (Sub.front (A := [_])) (Sub.trans (Sub.front (A := [_, _])) (Sub.cons (Sub.cons (Sub.cons (Sub.drop sR))))))), ?_⟩
   rw [hR0]
   exact ⟨rfl, _, ⟨_, _, _, _, _, hs3, hc2, by rw [List.length_append, List.length_singleton]; omega, DeepL.snoc hDp rfl ⟨_, rfl, rfl⟩, (Fresh.app hZ leF (Fresh.one hf4) le6), by have h9 := turnTo_next (f := f) (ms := ns) (j := k + 1) (by omega) (by omega); rw [Nat.add_sub_cancel] at h9; rw [hms8, h9]; unfold turnAt; first | (rw [if_pos (by omega), ← hix (by omega)]) | rw [if_neg (by omega)], rfl⟩, rfl⟩
 refine (Does.weaken (Sub.trans (Sub.addNil 195 4 none _) (Sub.trans (Sub.front (A := [_, _, _, _])) (Sub.trans (Sub.front (A := [_, _, _])) (Sub.trans (Sub.front (A := [_, _])) (Sub.trans (Sub.front (A := [_, _, _, _])) (Sub.trans (Sub.front (A := [_, _, _, _])) (Sub.cons (Sub.cons (Sub.cons (Sub.cons (Sub.cons sR))))))))))) (backItM_spec (J := (WJM F4 2 195 88 b3 v1 (turnTo f ns) (objH D (.deferred (some [])) :: cellsH b2 [(.slice none 0 0), (.slice none 0 0)] 88 :: L))) hb1 hns (by omega) (WJM.start turnTo_start) hyes)).mono ?_
 rintro _ F9 _ le9 ⟨L9, ⟨sv9, ms9, cs9, Ls9, m9, hsv9, hC9, hm9, hD9, hZ9, hms9, rfl⟩, rfl⟩
 replace hf := hf.mono le9
 replace hns := hns.mono le9
 replace hr1 := hr1.mono le9
 replace hf1 := hf1.mono le9
 replace hf2 := hf2.mono le9
 replace hb1 := hb1.mono le9
 refine ⟨R, cellsH b3 [v1, sv9] 88 :: slH 195 4 sv9 m9 cs9 :: cellsH b2 [(.slice none 0 0), (.slice none 0 0)] 88 :: L, by rw [hRs]; simp, hRp, (Sub.trans (Sub.front (A := [_, _, _, _])) (Sub.trans (Sub.front (A := [_, _, _])) (Sub.trans (Sub.front (A := [_, _, _])) (Sub.trans (Sub.front (A := [_, _, _, _])) (Sub.trans (Sub.front (A := [_, _, _, _])) (Sub.cons (Sub.cons (Sub.cons (Sub.cons (Sub.cons sR)))))))))), ?_⟩
 refine XI.seq ?_
 refine XI.region ?_
 refine XIL.cons (XOp.loadN [v1, sv9] Tryz.isAgg88 Tryz.sizeOf88 rfl rfl (Rd.ownN [_] rfl rfl) ?_)
 refine XIL.cons (XOp.storeN (vs := [v1, sv9]) [_, _, _] _ [v1, sv9] Tryz.sizeOf88 rfl rfl rfl (ones_cons (one_sl (IntsF.isSl hf1)) (ones_cons (one_sl hsv9) ones_nil)) rfl rfl rfl ?_)
 refine XIL.nil ?_
 refine XI.freezeF [_, _] _ _ rfl (fun F7 le7 hz3 => ?_)
 replace hf := hf.mono le7
 replace hns := hns.mono le7
 replace hr1 := hr1.mono le7
 replace hf1 := hf1.mono le7
 replace hf2 := hf2.mono le7
 replace hb1 := hb1.mono le7
 replace hC9 := hC9.mono le7
 have hf5 : MovesF F7 sv9 ms9 := CO.fz hC9 (by first | rfl | simp | omega) hz3.fz
 refine XI.ret (retEndC (L' := L) (cellsH b3 [v1, sv9] 88 :: cellsH b2 [v1, sv9] 88 :: L) [.agg #[v1, sv9]] (.agg #[v1, sv9]) (.cell rfl (loadNV [v1, sv9] Tryz.isAgg88 Tryz.sizeOf88 rfl (Rd.ownN [_, _] rfl rfl)) .nil) rfl (FLe.trans (FLe.trans (FLe.trans (FLe.trans le2 le3) le4) le9) le7) rF (Sub.cons (Sub.cons (Sub.cons sR))) (Sub.drop (Sub.drop sR)) ?_)
 have e9 : turnL f ns = ms9 := hms9.symm
 rw [e9]
 exact ⟨_, _, rfl, hf1, hf5, (Fresh.app ((Fresh.one hz1).mono (FLe.trans le3 le4)) (FLe.trans (FLe.trans le2 le3) le4) (Fresh.one (Fresh.deep hD9 hZ9 le9 hz3 (by omega) le7)) (FLe.trans le9 le7)), rfl⟩

/- impl.joinChains -/
set_option maxRecDepth 20000 in
theorem joinChains_spec {F : FH} {L : List HP} {fv : Value} {f : List Int} (hf : IntsF F fv f) {nsv : Value} {ns : List MoveT} (hns : MovesF F nsv ns) {gv : Value} {g : List Int} (hg : IntsF F gv g) {ksv : Value} {ks : List MoveT} (hks : MovesF F ksv ks) (hlf : f.length ≤ 60) (hln : ns.length ≤ 60) (hlk : ks.length ≤ 60) (hnb : ∀ i, i < ns.length → (ns.getD i (0, 0, false, [])).2.2.2.length ≤ 60) (hkb : ∀ i, i < ks.length → (ks.getD i (0, 0, false, [])).2.2.2.length ≤ 60) (hgl : g.length ≤ 60) :
    Does Tryz.prog 103 [.agg #[fv, nsv], .agg #[gv, ksv]] F (L) (fun v F' L' => ∃ (a : Value), ∃ (b : Value), (.tuple #[.agg #[a, b], .bool ((joinG f ns g ks).2.2)] : Value) = v ∧ (IntsF F' a (joinG f ns g ks).1) ∧ (MovesF F' b (joinG f ns g ks).2.1) ∧ (Fresh F F' (star [intsH 2 a (joinG f ns g ks).1, movesD 2 195 b (joinG f ns g ks).2.1])) ∧ L = L') := by
 refine Does.of_X Tryz.func103 rfl rfl rfl ?_
 have hal : (ns ++ ks).length = ns.length + ks.length := List.length_append
 have hab : ∀ i, i < (ns ++ ks).length → ((ns ++ ks).getD i (0, 0, false, [])).2.2.2.length ≤ 60 := fun i hi => by
  rcases Nat.lt_or_ge i ns.length with h | h
  · have := hnb i h; simpa [List.getD, List.getElem?_append_left h] using this
  · have := hkb (i - ns.length) (by omega); simpa [List.getD, List.getElem?_append_right h] using this
 refine X.seq (X.region ?_)
 refine XL.cons (XOp.box [fv, nsv] rfl rfl ?_)
 intro b1
 refine XL.cons (XOp.box [gv, ksv] rfl rfl ?_)
 intro b2
 refine XL.cons (XOp.alloc [(.slice none 0 0), (.slice none 0 0)] Tryz.zeroValue88 rfl ?_)
 intro b3
 refine XL.as (.bool (false)) rfl ?_
 refine XL.nil (X.seq (X.seq ?_))
 by_cases h1 : ¬((endM f ns) = g)
 ·have hjoin : endM f ns ≠ g := by simpa using h1
  refine X.drawG [cellsH b3 [(.slice none 0 0), (.slice none 0 0)] 88, cellsH b2 [gv, ksv] 88, cellsH b1 [fv, nsv] 88] L 13 [[], [], [], [], [], [], [], [], [], [], [], [], []] [[], [0], [], [2], [1, 3], [4], [5], [6], [6, 7], [6, 8], [6], [6, 10], [6, 11]] [[], [], [], [], [], [], [], [], [], [], [], [], []] (phiG [fun FF us v => v = (.agg #[fv, nsv] : Value), fun FF us v => ((v) : Value) = v ∧ (IntsF FF (v) (endM f ns)), fun FF us v => v = ptr b2 0, fun FF us v => v = gv, fun FF us v => v = (.bool (decide ((endM f ns) = g)) : Value), fun FF us v => v = (.bool (decide (¬((endM f ns) = g))) : Value), fun FF us v => v = (.bool (decide (¬((endM f ns) = g))) : Value), fun FF us v => v = undef, fun FF us v => v = undef, fun FF us v => v = undef, fun FF us v => v = undef, fun FF us v => v = undef, fun FF us v => v = undef]) (ownL [fun us v => [], fun us v => [], fun us v => [], fun us v => [], fun us v => [], fun us v => [], fun us v => [], fun us v => [], fun us v => [], fun us v => [], fun us v => [], fun us v => [], fun us v => []]) mixed rfl rfl (by kernel_rfl) (by kernel_rfl) (MonoG.get (MonoG.cons (fun le h => h) (MonoG.cons (fun le h => ⟨h.1, h.2.mono le⟩) (MonoG.cons (fun le h => h) (MonoG.cons (fun le h => h) (MonoG.cons (fun le h => h) (MonoG.cons (fun le h => h) (MonoG.cons (fun le h => h) (MonoG.cons (fun le h => h) (MonoG.cons (fun le h => h) (MonoG.cons (fun le h => h) (MonoG.cons (fun le h => h) (MonoG.cons (fun le h => h) (MonoG.cons (fun le h => h) MonoG.nil)))))))))))))) ?_ ?_
  ·refine stepsG.cons (fun vals Fs R leFs hpZ => ?_) ?_
   ·replace hf := hf.mono leFs
    replace hns := hns.mono leFs
    replace hg := hg.mono leFs
    replace hks := hks.mono leFs
    refine XG.op (XOp.loadN [fv, nsv] Tryz.isAgg88 Tryz.sizeOf88 rfl rfl (Rd.ownN [_, _] rfl rfl) ?_)
    exact ⟨rfl, rfl⟩
   refine stepsG.cons (fun vals Fs R leFs hpZ => ?_) ?_
   ·replace hf := hf.mono leFs
    replace hns := hns.mono leFs
    replace hg := hg.mono leFs
    replace hks := hks.mono leFs
    rw [eS (l := [(0, (.agg #[fv, nsv] : Value))]) ⟨(hpZ 0 (by decide)), trivial⟩]
    refine XG.op (XOp.call (args := [.agg #[fv, nsv]]) Tryz.call164 rfl (chainEnd_spec hf hns (hlss := (by first | assumption | rfl | omega | simp))) ?_)
    rintro _ _ _ _ ⟨rfl, x3, rfl, hr3, rfl⟩
    exact ⟨⟨rfl, hr3⟩, rfl⟩
   refine stepsG.cons (fun vals Fs R leFs hpZ => ?_) ?_
   ·refine XG.op (XOp.fieldP (b := b2) (0) Tryz.runUnderlying88 rfl Tryz.sizeOf22 (by decide) rfl rfl ?_)
    exact ⟨rfl, rfl⟩
   refine stepsG.cons (fun vals Fs R leFs hpZ => ?_) ?_
   ·replace hf := hf.mono leFs
    replace hns := hns.mono leFs
    replace hg := hg.mono leFs
    replace hks := hks.mono leFs
    rw [eS (l := [(2, ptr b2 0)]) ⟨(hpZ 2 (by decide)), trivial⟩]
    refine XG.op (XOp.load1 (v := gv) Tryz.isAgg22 rfl (Rd.own [_] rfl rfl) ?_)
    exact ⟨rfl, rfl⟩
   refine stepsG.cons (fun vals Fs R leFs hpZ => ?_) ?_
   ·obtain ⟨e1, f1_2hr⟩ := hpZ 1 (by decide)
    replace hf := hf.mono leFs
    replace hns := hns.mono leFs
    replace hg := hg.mono leFs
    replace hks := hks.mono leFs
    rw [eS (l := [(1, ((vals 1))), (3, gv)]) ⟨(e1).symm, (hpZ 3 (by decide)), trivial⟩]
    refine XG.op (XOp.call (args := [((vals 1)), gv]) Tryz.call163 rfl (Equal_spec f1_2hr hg (hbd := (by first | assumption | rfl | omega | (left; simp; done) | (right; simp; done)))) ?_)
    rintro _ _ _ _ ⟨rfl, rfl, rfl⟩
    exact ⟨rfl, rfl⟩
   refine stepsG.cons (fun vals Fs R leFs hpZ => ?_) ?_
   ·rw [eS (l := [(4, (.bool (decide ((endM f ns) = g)) : Value))]) ⟨(hpZ 4 (by decide)), trivial⟩]
    refine XG.op (XOp.notD (p := (endM f ns) = g) rfl ?_)
    exact ⟨rfl, rfl⟩
   refine stepsG.cons (fun vals Fs R leFs hpZ => ?_) ?_
   ·rw [eS (l := [(5, (.bool (decide (¬((endM f ns) = g))) : Value))]) ⟨(hpZ 5 (by decide)), trivial⟩]
    refine XG.op (XOp.move (.bool (decide (¬((endM f ns) = g)))) rfl ?_)
    exact ⟨rfl, rfl⟩
   refine stepsG.cons (fun vals Fs R leFs hpZ => ?_) ?_
   ·rw [eS (l := [(6, (.bool (decide (¬((endM f ns) = g))) : Value))]) ⟨(hpZ 6 (by decide)), trivial⟩]
    exact XG.no (t := 16) rfl (vT h1) ⟨rfl, rfl⟩
   refine stepsG.cons (fun vals Fs R leFs hpZ => ?_) ?_
   ·replace hf := hf.mono leFs
    replace hns := hns.mono leFs
    replace hg := hg.mono leFs
    replace hks := hks.mono leFs
    rw [eS (l := [(6, (.bool (decide (¬((endM f ns) = g))) : Value)), (7, undef)]) ⟨(hpZ 6 (by decide)), (hpZ 7 (by decide)), trivial⟩]
    exact XG.no (t := 16) rfl (vT h1) ⟨rfl, rfl⟩
   refine stepsG.cons (fun vals Fs R leFs hpZ => ?_) ?_
   ·replace hf := hf.mono leFs
    replace hns := hns.mono leFs
    replace hg := hg.mono leFs
    replace hks := hks.mono leFs
    rw [eS (l := [(6, (.bool (decide (¬((endM f ns) = g))) : Value)), (8, undef)]) ⟨(hpZ 6 (by decide)), (hpZ 8 (by decide)), trivial⟩]
    exact XG.no (t := 16) rfl (vT h1) ⟨rfl, rfl⟩
   refine stepsG.cons (fun vals Fs R leFs hpZ => ?_) ?_
   ·rw [eS (l := [(6, (.bool (decide (¬((endM f ns) = g))) : Value))]) ⟨(hpZ 6 (by decide)), trivial⟩]
    exact XG.no (t := 16) rfl (vT h1) ⟨rfl, rfl⟩
   refine stepsG.cons (fun vals Fs R leFs hpZ => ?_) ?_
   ·replace hf := hf.mono leFs
    replace hns := hns.mono leFs
    replace hg := hg.mono leFs
    replace hks := hks.mono leFs
    rw [eS (l := [(6, (.bool (decide (¬((endM f ns) = g))) : Value)), (10, undef)]) ⟨(hpZ 6 (by decide)), (hpZ 10 (by decide)), trivial⟩]
    exact XG.no (t := 16) rfl (vT h1) ⟨rfl, rfl⟩
   refine stepsG.cons (fun vals Fs R leFs hpZ => ?_) ?_
   ·replace hf := hf.mono leFs
    replace hns := hns.mono leFs
    replace hg := hg.mono leFs
    replace hks := hks.mono leFs
    rw [eS (l := [(6, (.bool (decide (¬((endM f ns) = g))) : Value)), (11, undef)]) ⟨(hpZ 6 (by decide)), (hpZ 11 (by decide)), trivial⟩]
    exact XG.no (t := 16) rfl (vT h1) ⟨rfl, rfl⟩
   exact stepsG.nil
  ·intro vals F4 le4 hphi
   obtain ⟨e1, f1_2hr⟩ := hphi 1 (by decide)
   generalize hu1 : ((vals 1)) = u1 at e1 f1_2hr
   rw [eS (l := [(0, (.agg #[fv, nsv] : Value)), (1, u1), (2, ptr b2 0), (3, gv), (4, (.bool (decide ((endM f ns) = g)) : Value)), (5, (.bool (decide (¬((endM f ns) = g))) : Value)), (6, (.bool (decide (¬((endM f ns) = g))) : Value)), (7, undef), (8, undef), (9, undef), (10, undef), (11, undef), (12, undef)]) ⟨(hphi 0 (by decide)), hu1, (hphi 2 (by decide)), (hphi 3 (by decide)), (hphi 4 (by decide)), (hphi 5 (by decide)), (hphi 6 (by decide)), (hphi 7 (by decide)), (hphi 8 (by decide)), (hphi 9 (by decide)), (hphi 10 (by decide)), (hphi 11 (by decide)), (hphi 12 (by decide)), trivial⟩]
   replace hf := hf.mono le4
   replace hns := hns.mono le4
   replace hg := hg.mono le4
   replace hks := hks.mono le4
   show XL _ _ _ _ _ _ _ (cellsH b3 [(.slice none 0 0), (.slice none 0 0)] 88 :: cellsH b2 [gv, ksv] 88 :: cellsH b1 [fv, nsv] 88 :: L)
   refine XL.no (t := 16) rfl (vT h1) ?_
   refine XL.no (t := 16) rfl (vT h1) ?_
   refine XL.cons (XOp.pickT (.bool (true)) (vT h1) rfl ?_)
   refine XL.nil ?_
   refine X.condT rfl ?_
   refine X.seq (X.region ?_)
   refine XL.cons (XOp.build [(.slice none 0 0), (.slice none 0 0)] [(.slice none 0 0), (.slice none 0 0)] [(0, 1), (1, 1)] [] Tryz.runUnderlying88 Tryz.zeroValue88 rfl (.cons rfl Tryz.sizeOf22 (.cons rfl Tryz.sizeOf86 PlacesAre.nil)) rfl CellsAre.nil ?_)
   refine XL.cons (XOp.storeN (vs := [(.slice none 0 0), (.slice none 0 0)]) [] _ [(.slice none 0 0), (.slice none 0 0)] Tryz.sizeOf88 rfl rfl rfl (ones_cons rfl (ones_cons rfl ones_nil)) rfl rfl rfl ?_)
   refine XL.as (.bool (false)) rfl ?_
   refine XL.nil ?_
   refine X.ret (thenQ_ret (retEnd (L' := L) [.agg #[(.slice none 0 0), (.slice none 0 0)], .bool (false)] (.tuple #[.agg #[(.slice none 0 0), (.slice none 0 0)], .bool (false)]) (.cell rfl (loadNV [(.slice none 0 0), (.slice none 0 0)] Tryz.isAgg88 Tryz.sizeOf88 rfl (Rd.ownN [] rfl rfl)) (.tmp rfl .nil)) rfl le4 rF (Sub.drop (Sub.drop (Sub.drop sR))) ?_))
   have e : joinG f ns g ks = ([], [], false) := by first | exact joinG_no hjoin | exact joinG_long (by omega)
   exact ⟨_, _, by rw [e], by rw [e]; exact IntsF.nilV, by rw [e]; exact SlOf.nilV, by rw [e]; exact Fresh.empty nilChain, rfl⟩
 ·have hjoin : endM f ns = g := by simpa using h1
  refine X.drawG [cellsH b3 [(.slice none 0 0), (.slice none 0 0)] 88, cellsH b2 [gv, ksv] 88, cellsH b1 [fv, nsv] 88] L 13 [[], [], [], [], [], [], [], [], [], [], [], [], []] [[], [0], [], [2], [1, 3], [4], [5], [6], [6, 7], [6, 8], [6], [6, 10], [6, 11]] [[], [], [], [], [], [], [], [], [], [], [], [], []] (phiG [fun FF us v => v = (.agg #[fv, nsv] : Value), fun FF us v => ((v) : Value) = v ∧ (IntsF FF (v) (endM f ns)), fun FF us v => v = ptr b2 0, fun FF us v => v = gv, fun FF us v => v = (.bool (decide ((endM f ns) = g)) : Value), fun FF us v => v = (.bool (decide (¬((endM f ns) = g))) : Value), fun FF us v => v = (.bool (decide (¬((endM f ns) = g))) : Value), fun FF us v => v = ptr b1 1, fun FF us v => v = nsv, fun FF us v => v = (.int .i64 ((ns.length : Int)) : Value), fun FF us v => v = ptr b2 1, fun FF us v => v = ksv, fun FF us v => v = (.int .i64 ((ks.length : Int)) : Value)]) (ownL [fun us v => [], fun us v => [], fun us v => [], fun us v => [], fun us v => [], fun us v => [], fun us v => [], fun us v => [], fun us v => [], fun us v => [], fun us v => [], fun us v => [], fun us v => []]) mixed rfl rfl (by kernel_rfl) (by kernel_rfl) (MonoG.get (MonoG.cons (fun le h => h) (MonoG.cons (fun le h => ⟨h.1, h.2.mono le⟩) (MonoG.cons (fun le h => h) (MonoG.cons (fun le h => h) (MonoG.cons (fun le h => h) (MonoG.cons (fun le h => h) (MonoG.cons (fun le h => h) (MonoG.cons (fun le h => h) (MonoG.cons (fun le h => h) (MonoG.cons (fun le h => h) (MonoG.cons (fun le h => h) (MonoG.cons (fun le h => h) (MonoG.cons (fun le h => h) MonoG.nil)))))))))))))) ?_ ?_
  ·refine stepsG.cons (fun vals Fs R leFs hpZ => ?_) ?_
   ·replace hf := hf.mono leFs
    replace hns := hns.mono leFs
    replace hg := hg.mono leFs
    replace hks := hks.mono leFs
    refine XG.op (XOp.loadN [fv, nsv] Tryz.isAgg88 Tryz.sizeOf88 rfl rfl (Rd.ownN [_, _] rfl rfl) ?_)
    exact ⟨rfl, rfl⟩
   refine stepsG.cons (fun vals Fs R leFs hpZ => ?_) ?_
   ·replace hf := hf.mono leFs
    replace hns := hns.mono leFs
    replace hg := hg.mono leFs
    replace hks := hks.mono leFs
    rw [eS (l := [(0, (.agg #[fv, nsv] : Value))]) ⟨(hpZ 0 (by decide)), trivial⟩]
    refine XG.op (XOp.call (args := [.agg #[fv, nsv]]) Tryz.call164 rfl (chainEnd_spec hf hns (hlss := (by first | assumption | rfl | omega | simp))) ?_)
    rintro _ _ _ _ ⟨rfl, x5, rfl, hr5, rfl⟩
    exact ⟨⟨rfl, hr5⟩, rfl⟩
   refine stepsG.cons (fun vals Fs R leFs hpZ => ?_) ?_
   ·refine XG.op (XOp.fieldP (b := b2) (0) Tryz.runUnderlying88 rfl Tryz.sizeOf22 (by decide) rfl rfl ?_)
    exact ⟨rfl, rfl⟩
   refine stepsG.cons (fun vals Fs R leFs hpZ => ?_) ?_
   ·replace hf := hf.mono leFs
    replace hns := hns.mono leFs
    replace hg := hg.mono leFs
    replace hks := hks.mono leFs
    rw [eS (l := [(2, ptr b2 0)]) ⟨(hpZ 2 (by decide)), trivial⟩]
    refine XG.op (XOp.load1 (v := gv) Tryz.isAgg22 rfl (Rd.own [_] rfl rfl) ?_)
    exact ⟨rfl, rfl⟩
   refine stepsG.cons (fun vals Fs R leFs hpZ => ?_) ?_
   ·obtain ⟨e1, f1_3hr⟩ := hpZ 1 (by decide)
    replace hf := hf.mono leFs
    replace hns := hns.mono leFs
    replace hg := hg.mono leFs
    replace hks := hks.mono leFs
    rw [eS (l := [(1, ((vals 1))), (3, gv)]) ⟨(e1).symm, (hpZ 3 (by decide)), trivial⟩]
    refine XG.op (XOp.call (args := [((vals 1)), gv]) Tryz.call163 rfl (Equal_spec f1_3hr hg (hbd := (by first | assumption | rfl | omega | (left; simp; done) | (right; simp; done)))) ?_)
    rintro _ _ _ _ ⟨rfl, rfl, rfl⟩
    exact ⟨rfl, rfl⟩
   refine stepsG.cons (fun vals Fs R leFs hpZ => ?_) ?_
   ·rw [eS (l := [(4, (.bool (decide ((endM f ns) = g)) : Value))]) ⟨(hpZ 4 (by decide)), trivial⟩]
    refine XG.op (XOp.notD (p := (endM f ns) = g) rfl ?_)
    exact ⟨rfl, rfl⟩
   refine stepsG.cons (fun vals Fs R leFs hpZ => ?_) ?_
   ·rw [eS (l := [(5, (.bool (decide (¬((endM f ns) = g))) : Value))]) ⟨(hpZ 5 (by decide)), trivial⟩]
    refine XG.op (XOp.move (.bool (decide (¬((endM f ns) = g)))) rfl ?_)
    exact ⟨rfl, rfl⟩
   refine stepsG.cons (fun vals Fs R leFs hpZ => ?_) ?_
   ·rw [eS (l := [(6, (.bool (decide (¬((endM f ns) = g))) : Value))]) ⟨(hpZ 6 (by decide)), trivial⟩]
    refine XG.yes (t := 16) rfl (vF h1) (XOp.fieldP (b := b1) (1) Tryz.runUnderlying88 rfl Tryz.sizeOf86 (by decide) rfl rfl ?_)
    exact ⟨rfl, rfl⟩
   refine stepsG.cons (fun vals Fs R leFs hpZ => ?_) ?_
   ·replace hf := hf.mono leFs
    replace hns := hns.mono leFs
    replace hg := hg.mono leFs
    replace hks := hks.mono leFs
    rw [eS (l := [(6, (.bool (decide (¬((endM f ns) = g))) : Value)), (7, ptr b1 1)]) ⟨(hpZ 6 (by decide)), (hpZ 7 (by decide)), trivial⟩]
    refine XG.yes (t := 16) rfl (vF h1) (XOp.load1 (v := nsv) Tryz.isAgg86 rfl (Rd.own [_, _] rfl rfl) ?_)
    exact ⟨rfl, rfl⟩
   refine stepsG.cons (fun vals Fs R leFs hpZ => ?_) ?_
   ·replace hf := hf.mono leFs
    replace hns := hns.mono leFs
    replace hg := hg.mono leFs
    replace hks := hks.mono leFs
    rw [eS (l := [(6, (.bool (decide (¬((endM f ns) = g))) : Value)), (8, nsv)]) ⟨(hpZ 6 (by decide)), (hpZ 8 (by decide)), trivial⟩]
    refine XG.yes (t := 16) rfl (vF h1) (XOp.lenS (v := nsv) (n := (ns).length) Tryz.runUnderlying86 rfl hns.slv ?_)
    exact ⟨rfl, rfl⟩
   refine stepsG.cons (fun vals Fs R leFs hpZ => ?_) ?_
   ·rw [eS (l := [(6, (.bool (decide (¬((endM f ns) = g))) : Value))]) ⟨(hpZ 6 (by decide)), trivial⟩]
    refine XG.yes (t := 16) rfl (vF h1) (XOp.fieldP (b := b2) (1) Tryz.runUnderlying88 rfl Tryz.sizeOf86 (by decide) rfl rfl ?_)
    exact ⟨rfl, rfl⟩
   refine stepsG.cons (fun vals Fs R leFs hpZ => ?_) ?_
   ·replace hf := hf.mono leFs
    replace hns := hns.mono leFs
    replace hg := hg.mono leFs
    replace hks := hks.mono leFs
    rw [eS (l := [(6, (.bool (decide (¬((endM f ns) = g))) : Value)), (10, ptr b2 1)]) ⟨(hpZ 6 (by decide)), (hpZ 10 (by decide)), trivial⟩]
    refine XG.yes (t := 16) rfl (vF h1) (XOp.load1 (v := ksv) Tryz.isAgg86 rfl (Rd.own [_] rfl rfl) ?_)
    exact ⟨rfl, rfl⟩
   refine stepsG.cons (fun vals Fs R leFs hpZ => ?_) ?_
   ·replace hf := hf.mono leFs
    replace hns := hns.mono leFs
    replace hg := hg.mono leFs
    replace hks := hks.mono leFs
    rw [eS (l := [(6, (.bool (decide (¬((endM f ns) = g))) : Value)), (11, ksv)]) ⟨(hpZ 6 (by decide)), (hpZ 11 (by decide)), trivial⟩]
    refine XG.yes (t := 16) rfl (vF h1) (XOp.lenS (v := ksv) (n := (ks).length) Tryz.runUnderlying86 rfl hks.slv ?_)
    exact ⟨rfl, rfl⟩
   exact stepsG.nil
  ·intro vals F7 le7 hphi
   obtain ⟨e1, f1_3hr⟩ := hphi 1 (by decide)
   generalize hu2 : ((vals 1)) = u2 at e1 f1_3hr
   rw [eS (l := [(0, (.agg #[fv, nsv] : Value)), (1, u2), (2, ptr b2 0), (3, gv), (4, (.bool (decide ((endM f ns) = g)) : Value)), (5, (.bool (decide (¬((endM f ns) = g))) : Value)), (6, (.bool (decide (¬((endM f ns) = g))) : Value)), (7, ptr b1 1), (8, nsv), (9, (.int .i64 ((ns.length : Int)) : Value)), (10, ptr b2 1), (11, ksv), (12, (.int .i64 ((ks.length : Int)) : Value))]) ⟨(hphi 0 (by decide)), hu2, (hphi 2 (by decide)), (hphi 3 (by decide)), (hphi 4 (by decide)), (hphi 5 (by decide)), (hphi 6 (by decide)), (hphi 7 (by decide)), (hphi 8 (by decide)), (hphi 9 (by decide)), (hphi 10 (by decide)), (hphi 11 (by decide)), (hphi 12 (by decide)), trivial⟩]
   replace hf := hf.mono le7
   replace hns := hns.mono le7
   replace hg := hg.mono le7
   replace hks := hks.mono le7
   show XL _ _ _ _ _ _ _ (cellsH b3 [(.slice none 0 0), (.slice none 0 0)] 88 :: cellsH b2 [gv, ksv] 88 :: cellsH b1 [fv, nsv] 88 :: L)
   refine XL.yes (t := 16) rfl (vF h1) (XOp.addR (a := (ns.length : Int)) (b := (ks.length : Int)) (((((ns).length) + ((ks).length) : Nat) : Int)) rfl rfl (by omega) (by omega) ?_)
   refine XL.yes (t := 16) rfl (vF h1) (XOp.gtr (a := ((((ns).length) + ((ks).length) : Nat) : Int)) (b := 60) rfl rfl ?_)
   refine XL.cons (XOp.pickF (.bool (decide ((((((ns).length) + ((ks).length) : Nat) : Int) : Int) > 60))) (vF h1) rfl ?_)
   refine XL.nil ?_
   refine X.condD (p := (((((ns).length) + ((ks).length) : Nat) : Int) : Int) > 60) rfl (fun h2 => ?_) (fun h2 => ?_)
   ·refine X.seq (X.region ?_)
    refine XL.cons (XOp.build [(.slice none 0 0), (.slice none 0 0)] [(.slice none 0 0), (.slice none 0 0)] [(0, 1), (1, 1)] [] Tryz.runUnderlying88 Tryz.zeroValue88 rfl (.cons rfl Tryz.sizeOf22 (.cons rfl Tryz.sizeOf86 PlacesAre.nil)) rfl CellsAre.nil ?_)
    refine XL.cons (XOp.storeN (vs := [(.slice none 0 0), (.slice none 0 0)]) [] _ [(.slice none 0 0), (.slice none 0 0)] Tryz.sizeOf88 rfl rfl rfl (ones_cons rfl (ones_cons rfl ones_nil)) rfl rfl rfl ?_)
    refine XL.as (.bool (false)) rfl ?_
    refine XL.nil ?_
    refine X.ret (thenQ_ret (retEnd (L' := L) [.agg #[(.slice none 0 0), (.slice none 0 0)], .bool (false)] (.tuple #[.agg #[(.slice none 0 0), (.slice none 0 0)], .bool (false)]) (.cell rfl (loadNV [(.slice none 0 0), (.slice none 0 0)] Tryz.isAgg88 Tryz.sizeOf88 rfl (Rd.ownN [] rfl rfl)) (.tmp rfl .nil)) rfl le7 rF (Sub.drop (Sub.drop (Sub.drop sR))) ?_))
    have e : joinG f ns g ks = ([], [], false) := by first | exact joinG_no hjoin | exact joinG_long (by omega)
    exact ⟨_, _, by rw [e], by rw [e]; exact IntsF.nilV, by rw [e]; exact SlOf.nilV, by rw [e]; exact Fresh.empty nilChain, rfl⟩
   ·refine X.skip (X.seq (X.region ?_))
    refine XL.cons (XOp.fieldP (b := b1) (0) Tryz.runUnderlying88 rfl Tryz.sizeOf22 (by decide) rfl rfl ?_)
    refine XL.cons (XOp.load1 (v := fv) Tryz.isAgg22 rfl (Rd.own [_, _] rfl rfl) ?_)
    refine XL.cons (XOp.frzF <| XOp.call (args := [fv]) Tryz.call78 rfl (Clone_spec hf (hlt := (by first | assumption | rfl | omega | simp))) ?_)
    rintro v1 _ _ _ ⟨rfl, hs1, rfl⟩
    refine ⟨_, _, rfl, fun F8 le8 hz1 => ?_⟩
    replace hf := hf.mono le8
    replace hns := hns.mono le8
    replace hg := hg.mono le8
    replace hks := hks.mono le8
    replace f1_3hr := f1_3hr.mono le8
    have hf1 : IntsF F8 v1 ((f)) := intsH.fz (xs := (f)) hz1.fz
    refine XL.cons (XOp.build [v1, (.slice none 0 0)] [(.slice none 0 0), (.slice none 0 0)] [(0, 1), (1, 1)] [(0, [v1])] Tryz.runUnderlying88 Tryz.zeroValue88 rfl (.cons rfl Tryz.sizeOf22 (.cons rfl Tryz.sizeOf86 PlacesAre.nil)) rfl (.cons (cells_one (IntsF.isSl hf1)) CellsAre.nil) ?_)
    refine XL.cons (XOp.alloc [(.slice none 0 0), (.slice none 0 0)] Tryz.zeroValue88 rfl ?_)
    intro b4
    refine XL.cons (XOp.storeN (vs := [v1, (.slice none 0 0)]) [] _ [v1, (.slice none 0 0)] Tryz.sizeOf88 rfl rfl rfl (ones_cons (one_sl (IntsF.isSl hf1)) (ones_cons rfl ones_nil)) rfl rfl rfl ?_)
    refine XL.nil (X.seq (X.region ?_))
    refine XL.cons (XOp.fieldP (b := b1) (1) Tryz.runUnderlying88 rfl Tryz.sizeOf86 (by decide) rfl rfl ?_)
    refine XL.cons (XOp.load1 (v := nsv) Tryz.isAgg86 rfl (Rd.own [_, _, _] rfl rfl) ?_)
    refine XL.cons (XOp.lenS (v := nsv) (n := (ns).length) Tryz.runUnderlying86 rfl hns.slv ?_)
    refine XL.as (.int .i64 ((ns.length : Int))) rfl ?_
    refine XL.nil (X.seq (X.seq ?_))
    refine X.drawG [cellsH b4 [v1, (.slice none 0 0)] 88, cellsH b3 [(.slice none 0 0), (.slice none 0 0)] 88, cellsH b2 [gv, ksv] 88, cellsH b1 [fv, nsv] 88] L 10 [[], [], [], [], [], [], [], [], [], []] [[], [0], [], [], [1, 2, 3], [], [5], [4, 6], [7], []] [[], [], [], [], [], [], [], [], [], []] (phiG [fun FF us v => v = ptr b1 1, fun FF us v => v = nsv, fun FF us v => v = (.int .i64 ((ns.length : Int)) : Value), fun FF us v => v = (.int .i64 ((ns.length : Int)) : Value), fun FF us v => (v : Value) = v ∧ (MovesF FF v ns) ∧ (FullN ((ns).length) v), fun FF us v => v = ptr b2 1, fun FF us v => v = ksv, fun FF us v => (v : Value) = v ∧ (MovesF FF v ((ns ++ ks))), fun FF us v => v = (.int .i64 (((((ns ++ ks)).length : Nat) : Int)) : Value), fun FF us v => v = (.int .i64 (0) : Value)]) (ownL [fun us v => [], fun us v => [], fun us v => [], fun us v => [], fun us v => [], fun us v => [], fun us v => [], fun us v => [], fun us v => [], fun us v => []]) mixed rfl rfl (by kernel_rfl) (by kernel_rfl) (MonoG.get (MonoG.cons (fun le h => h) (MonoG.cons (fun le h => h) (MonoG.cons (fun le h => h) (MonoG.cons (fun le h => h) (MonoG.cons (fun le h => ⟨h.1, h.2.1.mono le, h.2.2⟩) (MonoG.cons (fun le h => h) (MonoG.cons (fun le h => h) (MonoG.cons (fun le h => ⟨h.1, h.2.mono le⟩) (MonoG.cons (fun le h => h) (MonoG.cons (fun le h => h) MonoG.nil))))))))))) ?_ ?_
    ·refine stepsG.cons (fun vals Fs R leFs hpZ => ?_) ?_
     ·refine XG.op (XOp.fieldP (b := b1) (1) Tryz.runUnderlying88 rfl Tryz.sizeOf86 (by decide) rfl rfl ?_)
      exact ⟨rfl, rfl⟩
     refine stepsG.cons (fun vals Fs R leFs hpZ => ?_) ?_
     ·replace hf := hf.mono leFs
      replace hns := hns.mono leFs
      replace hg := hg.mono leFs
      replace hks := hks.mono leFs
      replace f1_3hr := f1_3hr.mono leFs
      replace hf1 := hf1.mono leFs
      rw [eS (l := [(0, ptr b1 1)]) ⟨(hpZ 0 (by decide)), trivial⟩]
      refine XG.op (XOp.load1 (v := nsv) Tryz.isAgg86 rfl (Rd.own [_, _, _] rfl rfl) ?_)
      exact ⟨rfl, rfl⟩
     refine stepsG.cons (fun vals Fs R leFs hpZ => ?_) ?_
     ·refine XG.op (XOp.move (.int .i64 ((ns.length : Int))) rfl ?_)
      exact ⟨rfl, rfl⟩
     refine stepsG.cons (fun vals Fs R leFs hpZ => ?_) ?_
     ·refine XG.op (XOp.move (.int .i64 ((ns.length : Int))) rfl ?_)
      exact ⟨rfl, rfl⟩
     refine stepsG.cons (fun vals Fs R leFs hpZ => ?_) ?_
     ·replace hf := hf.mono leFs
      replace hns := hns.mono leFs
      replace hg := hg.mono leFs
      replace hks := hks.mono leFs
      replace f1_3hr := f1_3hr.mono leFs
      replace hf1 := hf1.mono leFs
      rw [eS (l := [(1, nsv), (2, (.int .i64 ((ns.length : Int)) : Value)), (3, (.int .i64 ((ns.length : Int)) : Value))]) ⟨(hpZ 1 (by decide)), (hpZ 2 (by decide)), (hpZ 3 (by decide)), trivial⟩]
      refine XG.op (XOp.slice3 Tryz.runUnderlying86 Tryz.sizeOf195 rfl hns rfl rfl ?_)
      intro v4 hv3 hn2
      replace hv3 : MovesF Fs v4 ns := hv3
      exact ⟨⟨rfl, hv3, hn2⟩, rfl⟩
     refine stepsG.cons (fun vals Fs R leFs hpZ => ?_) ?_
     ·refine XG.op (XOp.fieldP (b := b2) (1) Tryz.runUnderlying88 rfl Tryz.sizeOf86 (by decide) rfl rfl ?_)
      exact ⟨rfl, rfl⟩
     refine stepsG.cons (fun vals Fs R leFs hpZ => ?_) ?_
     ·replace hf := hf.mono leFs
      replace hns := hns.mono leFs
      replace hg := hg.mono leFs
      replace hks := hks.mono leFs
      replace f1_3hr := f1_3hr.mono leFs
      replace hf1 := hf1.mono leFs
      rw [eS (l := [(5, ptr b2 1)]) ⟨(hpZ 5 (by decide)), trivial⟩]
      refine XG.op (XOp.load1 (v := ksv) Tryz.isAgg86 rfl (Rd.own [_, _] rfl rfl) ?_)
      exact ⟨rfl, rfl⟩
     refine stepsG.cons (fun vals Fs R leFs hpZ => ?_) ?_
     ·obtain ⟨e4, f4_4hv, f4_4hn⟩ := hpZ 4 (by decide)
      replace hf := hf.mono leFs
      replace hns := hns.mono leFs
      replace hg := hg.mono leFs
      replace hks := hks.mono leFs
      replace f1_3hr := f1_3hr.mono leFs
      replace hf1 := hf1.mono leFs
      rw [eS (l := [(4, (vals 4)), (6, ksv)]) ⟨(e4).symm, (hpZ 6 (by decide)), trivial⟩]
      refine XG.op (XOp.appendFull (bytes := 48) (fun _ _ es x le h => MoveF.mono le es x h) Tryz.runUnderlying86 Tryz.typeInfo195 rfl rfl rfl rfl rfl rfl f4_4hv f4_4hn hks (by omega) (by omega) ?_)
      intro v5 F10 le10 hv4
      replace hf := hf.mono le10
      replace hns := hns.mono le10
      replace hg := hg.mono le10
      replace hks := hks.mono le10
      replace f1_3hr := f1_3hr.mono le10
      replace hf1 := hf1.mono le10
      replace f4_4hv := f4_4hv.mono le10
      replace hv4 : MovesF F10 v5 (ns ++ ks) := hv4
      exact ⟨⟨rfl, hv4⟩, rfl⟩
     refine stepsG.cons (fun vals Fs R leFs hpZ => ?_) ?_
     ·obtain ⟨e7, f7_4hv⟩ := hpZ 7 (by decide)
      replace hf := hf.mono leFs
      replace hns := hns.mono leFs
      replace hg := hg.mono leFs
      replace hks := hks.mono leFs
      replace f1_3hr := f1_3hr.mono leFs
      replace hf1 := hf1.mono leFs
      rw [eS (l := [(7, (vals 7))]) ⟨(e7).symm, trivial⟩]
      refine XG.op (XOp.lenS (v := (vals 7)) (n := ((ns ++ ks)).length) Tryz.runUnderlying86 rfl f7_4hv.slv ?_)
      exact ⟨rfl, rfl⟩
     refine stepsG.cons (fun vals Fs R leFs hpZ => ?_) ?_
     ·refine XG.op (XOp.move (.int .i64 (0)) rfl ?_)
      exact ⟨rfl, rfl⟩
     exact stepsG.nil
    ·intro vals F11 le11 hphi
     obtain ⟨e4, f4_4hv, f4_4hn⟩ := hphi 4 (by decide)
     obtain ⟨e7, f7_4hv⟩ := hphi 7 (by decide)
     generalize hu3 : (vals 4) = u3 at e4 f4_4hv f4_4hn e7 f7_4hv
     generalize hu4 : (vals 7) = u4 at e4 f4_4hv f4_4hn e7 f7_4hv
     rw [eS (l := [(0, ptr b1 1), (1, nsv), (2, (.int .i64 ((ns.length : Int)) : Value)), (3, (.int .i64 ((ns.length : Int)) : Value)), (4, u3), (5, ptr b2 1), (6, ksv), (7, u4), (8, (.int .i64 (((((ns ++ ks)).length : Nat) : Int)) : Value)), (9, (.int .i64 (0) : Value))]) ⟨(hphi 0 (by decide)), (hphi 1 (by decide)), (hphi 2 (by decide)), (hphi 3 (by decide)), hu3, (hphi 5 (by decide)), (hphi 6 (by decide)), hu4, (hphi 8 (by decide)), (hphi 9 (by decide)), trivial⟩]
     replace hf := hf.mono le11
     replace hns := hns.mono le11
     replace hg := hg.mono le11
     replace hks := hks.mono le11
     replace f1_3hr := f1_3hr.mono le11
     replace hf1 := hf1.mono le11
     show XL _ _ _ _ _ _ _ (cellsH b4 [v1, (.slice none 0 0)] 88 :: cellsH b3 [(.slice none 0 0), (.slice none 0 0)] 88 :: cellsH b2 [gv, ksv] 88 :: cellsH b1 [fv, nsv] 88 :: L)
     refine XL.nil (X.block ?_)
     refine X.loop (α := Nat × Value × List MoveT × List Value × List HP × Nat × FH) (fun xQ => [(4, ptr b3 0), (6, ptr b4 0), (41, u4), (42, .int .i64 (((((ns ++ ks)).length : Nat) : Int))), (43, .int .i64 (((xQ.1 : Nat) : Int)))]) (fun xQ => slH 195 4 xQ.2.1 xQ.2.2.2.2.2.1 xQ.2.2.2.1 :: cellsH b4 [v1, xQ.2.1] 88 :: cellsH b3 [(.slice none 0 0), (.slice none 0 0)] 88 :: cellsH b2 [gv, ksv] 88 :: cellsH b1 [fv, nsv] 88 :: L) (fun xQ F' => xQ.2.2.2.2.2.2 = F' ∧ F11 ≤ xQ.2.2.2.2.2.2 ∧ (xQ.1 ≤ (ns ++ ks).length) ∧ (IsSl xQ.2.1) ∧ (MovesC xQ.2.2.2.2.2.2 xQ.2.2.2.1 xQ.2.2.1) ∧ (xQ.2.2.2.2.2.1 = xQ.2.2.1.length) ∧ (DeepL 4 (MoveO 2) xQ.2.2.2.1 xQ.2.2.1 xQ.2.2.2.2.1) ∧ (Fresh F11 xQ.2.2.2.2.2.2 (star xQ.2.2.2.2.1)) ∧ (xQ.2.2.1 = (ns ++ ks).take xQ.1)) (fun xQ => (ns ++ ks).length - xQ.1) (0, (.slice none 0 0), [], [], [], 0, F11) ⟨rfl, rfl, rfl, rfl, rfl, trivial⟩ (Sub.trans (Sub.addNil 195 4 _ _) (Sub.cons (Sub.cons (Sub.cons (Sub.cons (Sub.cons sR)))))) ⟨rfl, FLe.refl _, (by (try dsimp only) <;> omega), (⟨_, _, _, rfl⟩), (CO.nil), (rfl), (DeepL.nil), (Fresh.nilL), (rfl)⟩ ?_
     rintro ⟨k, sv, ms, cs, Ls, m, G1⟩ rE _ _ ⟨rfl, leG, hk, hsv, hC, hm, hD, hZ, hms⟩
     show X _ _ _ _ (envs [(4, ptr b3 0), (6, ptr b4 0), (41, u4), (42, .int .i64 (((((ns ++ ks)).length : Nat) : Int))), (43, .int .i64 ((k : Int)))] rE) _ (slH 195 4 sv m cs :: cellsH b4 [v1, sv] 88 :: cellsH b3 [(.slice none 0 0), (.slice none 0 0)] 88 :: cellsH b2 [gv, ksv] 88 :: cellsH b1 [fv, nsv] 88 :: L)
     replace leG : F11 ≤ G1 := leG
     dsimp only at hk hsv hC hm hD hZ hms
     have hxk := hab k
     have hml : ms.length = k := by rw [hms, List.length_take]; omega
     have leG1 := leG
     replace hf := hf.mono leG1
     replace hns := hns.mono leG1
     replace hg := hg.mono leG1
     replace hks := hks.mono leG1
     replace f1_3hr := f1_3hr.mono leG1
     replace hf1 := hf1.mono leG1
     replace f4_4hv := f4_4hv.mono leG1
     replace f7_4hv := f7_4hv.mono leG1
     refine X.seq (X.region ?_)
     refine XL.cons (XOp.lss (a := (k : Int)) (b := ((((ns ++ ks)).length : Nat) : Int)) rfl rfl ?_)
     refine XL.nil (X.seq ?_)
     refine X.condD (p := (k : Int) < ((((ns ++ ks)).length : Nat) : Int)) rfl (fun h3 => ?_) (fun h3 => ?_)
     ·refine X.skip (X.seq (X.block (X.seq (X.region ?_))))
      refine XL.cons (XOp.indexS (v := u4) (i := (k : Int)) (n := ((ns ++ ks)).length) k Tryz.runUnderlying86 Tryz.sizeOf195 rfl rfl rfl f7_4hv.slv (by omega) rfl ?_)
      obtain ⟨a1, ha1, hrg1, hq1⟩ := f7_4hv.rd (i := k) (by omega)
      refine XL.cons (XOp.loadN [.int .i64 ((((ns ++ ks)).getD k (0, 0, false, [])).1), .int .i64 ((((ns ++ ks)).getD k (0, 0, false, [])).2.1), .bool ((((ns ++ ks)).getD k (0, 0, false, [])).2.2.1), a1] Tryz.isAgg195 Tryz.sizeOf195 rfl rfl (Rd.all (hrg1 _)) ?_)
      refine XL.cons (XOp.alloc [.int .i64 (0), .int .i64 (0), .bool (false), (.slice none 0 0)] Tryz.zeroValue195 rfl ?_)
      intro b5
      refine XL.cons (XOp.storeN (vs := [.int .i64 ((((ns ++ ks)).getD k (0, 0, false, [])).1), .int .i64 ((((ns ++ ks)).getD k (0, 0, false, [])).2.1), .bool ((((ns ++ ks)).getD k (0, 0, false, [])).2.2.1), a1]) [] _ [.int .i64 ((((ns ++ ks)).getD k (0, 0, false, [])).1), .int .i64 ((((ns ++ ks)).getD k (0, 0, false, [])).2.1), .bool ((((ns ++ ks)).getD k (0, 0, false, [])).2.2.1), a1] Tryz.sizeOf195 rfl rfl rfl (ones_cons rfl (ones_cons rfl (ones_cons rfl (ones_cons (one_sl (IntsF.isSl ha1)) ones_nil)))) rfl rfl rfl ?_)
      refine XL.nil (X.region ?_)
      refine XL.cons (XOp.loadN [.int .i64 ((((ns ++ ks)).getD k (0, 0, false, [])).1), .int .i64 ((((ns ++ ks)).getD k (0, 0, false, [])).2.1), .bool ((((ns ++ ks)).getD k (0, 0, false, [])).2.2.1), a1] Tryz.isAgg195 Tryz.sizeOf195 rfl rfl (Rd.ownN [] rfl rfl) ?_)
      refine XL.weaken (Sub.front (A := [_])) ?_
      show XL _ _ _ _ _ _ _ (slH 195 4 sv m cs :: cellsH b5 [.int .i64 ((((ns ++ ks)).getD k (0, 0, false, [])).1), .int .i64 ((((ns ++ ks)).getD k (0, 0, false, [])).2.1), .bool ((((ns ++ ks)).getD k (0, 0, false, [])).2.2.1), a1] 195 :: cellsH b4 [v1, sv] 88 :: cellsH b3 [(.slice none 0 0), (.slice none 0 0)] 88 :: cellsH b2 [gv, ksv] 88 :: cellsH b1 [fv, nsv] 88 :: L)
      refine XL.weaken (Sub.front (A := [_, _])) ?_
      show XL _ _ _ _ _ _ _ (cellsH b4 [v1, sv] 88 :: slH 195 4 sv m cs :: cellsH b5 [.int .i64 ((((ns ++ ks)).getD k (0, 0, false, [])).1), .int .i64 ((((ns ++ ks)).getD k (0, 0, false, [])).2.1), .bool ((((ns ++ ks)).getD k (0, 0, false, [])).2.2.1), a1] 195 :: cellsH b3 [(.slice none 0 0), (.slice none 0 0)] 88 :: cellsH b2 [gv, ksv] 88 :: cellsH b1 [fv, nsv] 88 :: L)
      refine XL.cons (XOp.call (args := [ptr b4 0, .agg #[.int .i64 ((((ns ++ ks)).getD k (0, 0, false, [])).1), .int .i64 ((((ns ++ ks)).getD k (0, 0, false, [])).2.1), .bool ((((ns ++ ks)).getD k (0, 0, false, [])).2.2.1), a1]]) Tryz.call165 rfl (chainAdd_spec ha1 hsv hC (by first | rfl | assumption | omega) (by omega) (by omega)) ?_)
      rintro _ F12 _ le12 ⟨sw1, cw1, hs2, hw1, hf2, rfl⟩
      replace hf := hf.mono le12
      replace hns := hns.mono le12
      replace hg := hg.mono le12
      replace hks := hks.mono le12
      replace f1_3hr := f1_3hr.mono le12
      replace hf1 := hf1.mono le12
      replace f4_4hv := f4_4hv.mono le12
      replace f7_4hv := f7_4hv.mono le12
      replace hC := hC.mono le12
      replace ha1 := ha1.mono le12
      replace hrg1 := fun L9 j9 u9 h9 => Rd.mono (hrg1 L9 j9 u9 h9) le12
      have hc1 := MovesC.snoc hC (y0 := (((ns ++ ks)).getD k (0, 0, false, [])).1) (y1 := (((ns ++ ks)).getD k (0, 0, false, [])).2.1) (y2 := (((ns ++ ks)).getD k (0, 0, false, [])).2.2.1) hw1
      show XL _ _ _ _ _ _ _ (cellsH b4 [v1, sw1] 88 :: slH 195 4 sw1 ((m) + 1) ((cs ++ [.int .i64 ((((ns ++ ks)).getD k (0, 0, false, [])).1), .int .i64 ((((ns ++ ks)).getD k (0, 0, false, [])).2.1), .bool ((((ns ++ ks)).getD k (0, 0, false, [])).2.2.1), cw1])) :: cellsH b5 [.int .i64 ((((ns ++ ks)).getD k (0, 0, false, [])).1), .int .i64 ((((ns ++ ks)).getD k (0, 0, false, [])).2.1), .bool ((((ns ++ ks)).getD k (0, 0, false, [])).2.2.1), a1] 195 :: cellsH b3 [(.slice none 0 0), (.slice none 0 0)] 88 :: cellsH b2 [gv, ksv] 88 :: cellsH b1 [fv, nsv] 88 :: L)
      refine XL.nil (X.region ?_)
      refine XL.cons (XOp.addR (a := (k : Int)) (b := 1) (((k + 1 : Nat) : Int)) rfl rfl (by omega) (by omega) ?_)
      refine XL.mv (.int .i64 (((k + 1 : Nat) : Int))) rfl ?_
      refine XL.nil ?_
      exact ⟨(k + 1, sw1, (ms ++ [((((ns ++ ks)).getD k (0, 0, false, [])).1, (((ns ++ ks)).getD k (0, 0, false, [])).2.1, (((ns ++ ks)).getD k (0, 0, false, [])).2.2.1, (((ns ++ ks)).getD k (0, 0, false, [])).2.2.2)]), (cs ++ [.int .i64 ((((ns ++ ks)).getD k (0, 0, false, [])).1), .int .i64 ((((ns ++ ks)).getD k (0, 0, false, [])).2.1), .bool ((((ns ++ ks)).getD k (0, 0, false, [])).2.2.1), cw1]), Ls ++ [intsH 2 cw1 ((((ns ++ ks)).getD k (0, 0, false, [])).2.2.2)], (m) + 1, F12), _, (FLe.trans leG1 le12), rF, ⟨rfl, rfl, rfl, rfl, rfl, trivial⟩, (Sub.trans (Sub.front (A := [_, _, _, _, _])) (Sub.trans (Sub.front (A := [_, _, _, _, _])) (Sub.trans (Sub.front (A := [_, _, _, _, _])) (Sub.trans (Sub.front (A := [_, _, _])) (Sub.trans (Sub.front (A := [_, _, _, _])) (Sub.cons (Sub.cons (Sub.cons (Sub.cons (Sub.cons (Sub.drop sR))))))))))), ⟨rfl, (FLe.trans leG1 le12), (by (try dsimp only) <;> omega), (hs2), (hc1), (by (try dsimp only); rw [List.length_append]; simp only [List.length_singleton]; omega), (DeepL.snoc hD rfl ⟨_, rfl, rfl⟩), ((Fresh.app hZ leG1 (Fresh.one hf2) le12)), (by (try dsimp only); rw [take_succ_getD (0, 0, false, []) (by omega), ← hms])⟩, (by omega)⟩
     ·refine X.exit (thenQ_exit (thenQ_exit (blockQ_exit ?_)))
      refine X.seq (X.region ?_)
      refine XL.cons (XOp.loadN [v1, sv] Tryz.isAgg88 Tryz.sizeOf88 rfl rfl (Rd.ownN [_] rfl rfl) ?_)
      refine XL.cons (XOp.storeN (vs := [v1, sv]) [_, _] _ [v1, sv] Tryz.sizeOf88 rfl rfl rfl (ones_cons (one_sl (IntsF.isSl hf1)) (ones_cons (one_sl hsv) ones_nil)) rfl rfl rfl ?_)
      refine XL.as (.bool (true)) rfl ?_
      refine XL.nil ?_
      refine X.freezeF [] _ _ rfl (fun F13 le13 hz2 => ?_)
      replace hf := hf.mono le13
      replace hns := hns.mono le13
      replace hg := hg.mono le13
      replace hks := hks.mono le13
      replace f1_3hr := f1_3hr.mono le13
      replace hf1 := hf1.mono le13
      replace f4_4hv := f4_4hv.mono le13
      replace f7_4hv := f7_4hv.mono le13
      replace hC := hC.mono le13
      have hf3 : MovesF F13 sv ms := CO.fz hC (by first | rfl | simp | omega) hz2.fz
      refine X.ret (retEnd (L' := L) [.agg #[v1, sv], .bool (true)] (.tuple #[.agg #[v1, sv], .bool (true)]) (.cell rfl (loadNV [v1, sv] Tryz.isAgg88 Tryz.sizeOf88 rfl (Rd.ownN [_] rfl rfl)) (.tmp rfl .nil)) rfl (FLe.trans (FLe.trans (FLe.trans (FLe.trans le7 le8) le11) leG1) le13) rF (Sub.drop (Sub.drop (Sub.drop (Sub.drop sR)))) ?_)
      have e9 : ms = (ns ++ ks) := by rw [hms, List.take_of_length_le (by omega)]
      have e : joinG f ns g ks = (f, ms, true) := by rw [e9]; exact joinG_yes hjoin (by omega)
      exact ⟨_, _, by rw [e], by rw [e]; exact hf1, by rw [e]; exact hf3, by rw [e]; exact (Fresh.app (((Fresh.one hz1).base le7).mono le11) (FLe.trans (FLe.trans le7 le8) le11) (Fresh.one (Fresh.deep hD hZ leG1 hz2 (by omega) le13)) (FLe.trans leG1 le13)), rfl⟩
end Go.Proofs.YtnloeeaidknblaaGreat
set_option linter.unusedSimpArgs false
set_option linter.unusedVariables false
namespace Go.Proofs.YtnloeeaidknblaaGreat
open Go X M
end Go.Proofs.YtnloeeaidknblaaGreat
