/-
  Walks, one after the other (part 3).
-/
import Derived.Test.YtnloeeaidknblaaQzL1
import Derived.Test.YtnloeeaidknblaaQzB1
set_option linter.unusedSimpArgs false
set_option linter.unusedVariables false
namespace Go.Proofs.Ytnloeeaidknblaa
open Go X M

/- laws.markInt64S -/
theorem markInt64S_spec {F : FH} {L : List HP} {xv : Value} {x : List Int} {z : Int} (hz : 0 ≤ z ∧ z + (((x)).length : Int) ≤ 9000000000) :
    Does Try.prog 27 [xv, .int .i64 (z)] F (intsH 2 xv x :: L) (fun v F' L' => ∃ x' : List Int, ((x')) = iota z ((x)).length ∧ (.int .i64 (z + (((x)).length : Int)) : Value) = v ∧ F = F' ∧ intsH 2 xv x' :: L = L') := by
 refine Does.of_X Try.func27 rfl rfl rfl ?_
 refine X.seq (X.region ?_)
 refine XL.as (.int .i64 (0)) rfl ?_
 refine XL.nil (X.seq (X.seq (X.region ?_)))
 refine XL.as (.int .i64 (0)) rfl ?_
 refine XL.nil (X.block ?_)
 refine X.loop (α := Nat × List Int) (fun xQ => [(0, xv), (1, .int .i64 (z + ((xQ.1 : Nat) : Int))), (5, .int .i64 (((xQ.1 : Nat) : Int)))]) (fun xQ => intsH 2 xv xQ.2 :: L) (fun xQ F' => F = F' ∧ (xQ.1 ≤ x.length) ∧ (xQ.2 = iota z xQ.1 ++ x.drop xQ.1) ∧ (xQ.2.length = x.length)) (fun xQ => x.length - xQ.1) (0, x) ⟨rfl, (show Value.int .i64 z = .int .i64 (z + ((0 : Nat) : Int)) from congrArg (Value.int .i64) (by omega)), rfl, trivial⟩ (Sub.cons sR) ⟨rfl, (by (try dsimp only) <;> omega), (by rw [iota_zero]; rfl), (rfl)⟩ ?_
 rintro ⟨k, os⟩ rE _ _ ⟨rfl, hk, hos, hol⟩
 show X _ _ _ _ (envs [(0, xv), (1, .int .i64 (z + (k : Int))), (5, .int .i64 ((k : Int)))] rE) _ (intsH 2 xv os :: L)
 dsimp only at hk hos hol
 refine X.seq (X.seq (X.region ?_))
 refine XL.mv (.int .i64 ((k : Int))) rfl ?_
 refine XL.mv (xv) rfl ?_
 refine XL.cons (XOp.lenS (v := xv) (n := os.length) Try.runUnderlying22 rfl (intsH.slv [] rfl) ?_)
 refine XL.cons (XOp.lss (a := (k : Int)) (b := (os.length : Int)) rfl rfl ?_)
 refine XL.nil ?_
 refine X.condD (p := (k : Int) < (os.length : Int)) rfl (fun h1 => ?_) (fun h1 => ?_)
 ·refine X.skip (X.seq (X.block (X.seq (X.region ?_))))
  refine XL.mv (xv) rfl ?_
  refine XL.mv (.int .i64 ((k : Int))) rfl ?_
  refine XL.mv (.int .i64 (z + (k : Int))) rfl ?_
  refine XL.cons (XOp.indexS (v := xv) (i := (k : Int)) (n := os.length) k Try.runUnderlying22 Try.sizeOf2 rfl rfl rfl (intsH.slv [] rfl) (by omega) (Nat.mul_one _) ?_)
  refine XL.cons (intsH.storeX (i := k) (v := xv) [] _ (os.set k (z + (k : Int))) Try.sizeOf2 rfl rfl rfl (by omega) rfl ?_)
  refine XL.nil (X.region ?_)
  refine XL.mv (.int .i64 (z + (k : Int))) rfl ?_
  refine XL.cons (XOp.addR (a := z + (k : Int)) (b := 1) ((z + (k : Int)) + 1) rfl rfl (by omega) (by omega) ?_)
  refine XL.as (.int .i64 ((z + (k : Int)) + 1)) rfl ?_
  refine XL.nil (X.region ?_)
  refine XL.mv (.int .i64 ((k : Int))) rfl ?_
  refine XL.cons (XOp.addR (a := (k : Int)) (b := 1) (((k + 1 : Nat) : Int)) rfl rfl (by omega) (by omega) ?_)
  refine XL.as (.int .i64 (((k + 1 : Nat) : Int))) rfl ?_
  refine XL.nil ?_
  exact ⟨(k + 1, (os.set k (z + (k : Int)))), _, FLe.refl _, rF, ⟨rfl, (vI (by omega)), rfl, trivial⟩, (Sub.cons sR), ⟨rfl, (by (try dsimp only) <;> omega), (by dsimp only; rw [hos]; exact iota_set (by omega)), (by dsimp only; rw [List.length_set]; exact hol)⟩, (by omega)⟩
 ·refine X.exit (thenQ_exit (thenQ_exit (blockQ_exit ?_)))
  refine X.seq (X.region ?_)
  refine XL.mv (.int .i64 (z + (k : Int))) rfl ?_
  refine XL.as (.int .i64 (z + (k : Int))) rfl ?_
  refine XL.nil ?_
  refine X.ret (retEnd (L' := intsH 2 xv os :: L) [.int .i64 (z + (k : Int))] (.int .i64 (z + (k : Int))) (.tmp rfl .nil) rfl rF rF (Sub.cons sR) ?_)
  have hkl : k = x.length := by omega
  subst hkl
  exact ⟨os, by rw [hos, List.drop_eq_nil_of_le (Nat.le_refl _), List.append_nil], rfl, rfl, rfl⟩

/- laws.heldInt64S -/
theorem heldInt64S_spec {F : FH} {L : List HP} {xv : Value} {x : List Int} (hx : IntsF F xv x) {z : Int} (hzb : 0 ≤ z ∧ z + (x.length : Int) ≤ 9000000000) :
    Does Try.prog 45 [xv, .int .i64 (z)] F (L) (fun v F' L' => (.int .i64 (heldF x z) : Value) = v ∧ F = F' ∧ L = L') := by
 refine Does.of_X Try.func45 rfl rfl rfl ?_
 refine X.seq (X.region ?_)
 refine XL.as (.int .i64 (0)) rfl ?_
 refine XL.nil (X.seq (X.seq (X.region ?_)))
 refine XL.as (.int .i64 (0)) rfl ?_
 refine XL.nil (X.block ?_)
 refine X.loop (α := Nat) (fun k => [(0, xv), (1, .int .i64 (z + (k : Int))), (5, .int .i64 ((k : Int)))]) (fun k => L) (fun k F' => F = F' ∧ (k ≤ x.length) ∧ (x.take k = iota z k)) (fun k => x.length - k) 0 ⟨rfl, (show Value.int .i64 z = .int .i64 (z + ((0 : Nat) : Int)) from congrArg (Value.int .i64) (by omega)), rfl, trivial⟩ sR ⟨rfl, (by (try dsimp only) <;> omega), (rfl)⟩ ?_
 rintro k rE _ _ ⟨rfl, hk, hos⟩
 show X _ _ _ _ (envs [(0, xv), (1, .int .i64 (z + (k : Int))), (5, .int .i64 ((k : Int)))] rE) _ (L)
 refine X.seq (X.seq (X.region ?_))
 refine XL.mv (.int .i64 ((k : Int))) rfl ?_
 refine XL.mv (xv) rfl ?_
 refine XL.cons (XOp.lenS (v := xv) (n := (x).length) Try.runUnderlying22 rfl hx.slv ?_)
 refine XL.cons (XOp.lss (a := (k : Int)) (b := (x.length : Int)) rfl rfl ?_)
 refine XL.nil ?_
 refine X.condD (p := (k : Int) < (x.length : Int)) rfl (fun h1 => ?_) (fun h1 => ?_)
 ·refine X.skip (X.seq (X.block (X.seq (X.seq (X.region ?_)))))
  refine XL.mv (xv) rfl ?_
  refine XL.mv (.int .i64 ((k : Int))) rfl ?_
  refine XL.cons (XOp.indexS (v := xv) (i := (k : Int)) (n := (x).length) k Try.runUnderlying22 Try.sizeOf2 rfl rfl rfl hx.slv (by omega) (Nat.mul_one _) ?_)
  refine XL.cons (XOp.load1 (v := .int .i64 (x.getD k 0)) Try.isAgg2 rfl (hx.rd (by omega)) ?_)
  refine XL.mv (.int .i64 (z + (k : Int))) rfl ?_
  refine XL.cons (XOp.neq (a := x.getD k 0) (b := z + (k : Int)) rfl rfl ?_)
  refine XL.nil ?_
  refine X.condD (p := (x.getD k 0 : Int) ≠ z + (k : Int)) rfl (fun h2 => ?_) (fun h2 => ?_)
  ·refine X.seq (X.region ?_)
   refine XL.as (.int .i64 (-1)) rfl ?_
   refine XL.nil ?_
   refine X.ret (thenQ_ret (blockQ_ret (thenQ_ret (thenQ_ret (blockQ_ret (thenQ_ret (retEnd (L' := L) [.int .i64 (-1)] (.int .i64 (-1)) (.tmp rfl .nil) rfl rF rF sR ?_)))))))
   exact ⟨(vI (heldF_snoc_no (i := k) (by omega) (by assumption))), rfl, rfl⟩
  ·refine X.skip (X.region ?_)
   refine XL.mv (.int .i64 (z + (k : Int))) rfl ?_
   refine XL.cons (XOp.addR (a := z + (k : Int)) (b := 1) ((z + (k : Int)) + 1) rfl rfl (by omega) (by omega) ?_)
   refine XL.as (.int .i64 ((z + (k : Int)) + 1)) rfl ?_
   refine XL.nil (X.region ?_)
   refine XL.mv (.int .i64 ((k : Int))) rfl ?_
   refine XL.cons (XOp.addR (a := (k : Int)) (b := 1) (((k + 1 : Nat) : Int)) rfl rfl (by omega) (by omega) ?_)
   refine XL.as (.int .i64 (((k + 1 : Nat) : Int))) rfl ?_
   refine XL.nil ?_
   exact ⟨k + 1, _, FLe.refl _, rF, ⟨rfl, (vI (by omega)), rfl, trivial⟩, sR, ⟨rfl, (by (try dsimp only) <;> omega), (by (try dsimp only); rw [take_succ_getD 0 (by omega), hos, iota_succ]; congr 2; first | assumption | exact Classical.not_not.1 (by assumption) | omega)⟩, (by omega)⟩
 ·refine X.exit (thenQ_exit (thenQ_exit (blockQ_exit ?_)))
  refine X.seq (X.region ?_)
  refine XL.mv (.int .i64 (z + (k : Int))) rfl ?_
  refine XL.as (.int .i64 (z + (k : Int))) rfl ?_
  refine XL.nil ?_
  refine X.ret (retEnd (L' := L) [.int .i64 (z + (k : Int))] (.int .i64 (z + (k : Int))) (.tmp rfl .nil) rfl rF rF sR ?_)
  exact ⟨(vI (held_all (by omega) hos)), rfl, rfl⟩

/- laws.markSig -/
theorem markSig_spec {F : FH} {L : List HP} {xv : Value} {x : List Int} {z : Int} (hz : 0 ≤ z ∧ z + (((x)).length : Int) ≤ 9000000000) :
    Does Try.prog 76 [.agg #[xv], .int .i64 (z)] F (intsH 2 xv x :: L) (fun v F' L' => ∃ x' : List Int, ((x')) = iota z ((x)).length ∧ (.int .i64 (z + (((x)).length : Int)) : Value) = v ∧ F = F' ∧ intsH 2 xv x' :: L = L') := by
 refine Does.of_X Try.func76 rfl rfl rfl ?_
 refine X.seq (X.region ?_)
 refine XL.cons (XOp.box [xv] rfl rfl ?_)
 intro b1
 refine XL.as (.int .i64 (0)) rfl ?_
 refine XL.nil (X.seq (X.region ?_))
 refine XL.cons (XOp.fieldP (b := b1) (0) Try.runUnderlying33 rfl Try.sizeOf22 (by decide) rfl rfl ?_)
 refine XL.cons (XOp.load1 (v := xv) Try.isAgg22 rfl (Rd.own [] rfl rfl) ?_)
 refine XL.mv (.int .i64 (z)) rfl ?_
 refine XL.weaken (Sub.front (A := [_])) ?_
 show XL _ _ _ _ _ _ _ (intsH 2 xv x :: cellsH b1 [xv] 33 :: L)
 refine XL.cons (XOp.call (args := [xv, .int .i64 (z)]) Try.call27 rfl (markInt64S_spec (by omega)) ?_)
 rintro _ _ _ _ ⟨m1, hm1, rfl, rfl, rfl⟩
 have hml1 := congrArg List.length hm1
 rw [iota_len] at hml1
 try simp only [List.length_append] at hml1
 refine XL.as (.int .i64 (z + (((x)).length : Int))) rfl ?_
 refine XL.nil (X.seq (X.region ?_))
 refine XL.mv (.int .i64 (z + (((x)).length : Int))) rfl ?_
 refine XL.as (.int .i64 (z + (((x)).length : Int))) rfl ?_
 refine XL.nil ?_
 refine X.ret (retEnd (L' := intsH 2 xv m1 :: L) [.int .i64 (z + (((x)).length : Int))] (.int .i64 (z + (((x)).length : Int))) (.tmp rfl .nil) rfl rF rF (Sub.cons (Sub.drop sR)) ?_)
 exact ⟨m1, hm1, congrArg (Value.int .i64) (by first | rfl | (simp only [List.length_append]; omega)), rfl, rfl⟩

/- laws.markRuleS -/
theorem markRuleS_spec {F : FH} {L : List HP} {xv : Value} {x : List (List Int × List Int)} {z : Int} (hz : 0 ≤ z ∧ z + (((x.flatMap flatPair)).length : Int) ≤ 9000000000) (hnx : x.length ≤ 4000000) :
    Does Try.prog 77 [xv, .int .i64 (z)] F (pairsD 2 98 xv x :: L) (fun v F' L' => ∃ x' : List (List Int × List Int), ((x'.flatMap flatPair)) = iota z ((x.flatMap flatPair)).length ∧ x'.length = x.length ∧ (.int .i64 (z + (((x.flatMap flatPair)).length : Int)) : Value) = v ∧ F = F' ∧ pairsD 2 98 xv x' :: L = L') := by
 refine Does.of_X Try.func77 rfl rfl rfl ?_
 refine X.openDeep (fun cs Ls hd => ?_)
 refine X.weaken (Sub.front (A := [_])) ?_
 show X _ _ _ _ _ _ (star Ls :: slH 98 2 xv x.length cs :: L)
 refine X.seq (X.region ?_)
 refine XL.as (.int .i64 (0)) rfl ?_
 refine XL.nil (X.seq (X.seq (X.region ?_)))
 refine XL.as (.int .i64 (0)) rfl ?_
 refine XL.nil (X.block ?_)
 refine X.loop (α := Nat × List (List Int × List Int) × List HP) (fun xQ => [(0, xv), (1, .int .i64 (z + ((((x.take xQ.1).flatMap flatPair).length : Nat) : Int))), (5, .int .i64 (((xQ.1 : Nat) : Int)))]) (fun xQ => star xQ.2.2 :: slH 98 2 xv x.length cs :: L) (fun xQ F' => F = F' ∧ (DeepL 2 (PairO 2) cs (xQ.2.1 ++ x.drop xQ.1) xQ.2.2) ∧ (xQ.1 ≤ x.length) ∧ (xQ.2.1.length = xQ.1) ∧ (xQ.2.1.flatMap flatPair = iota z ((x.take xQ.1).flatMap flatPair).length)) (fun xQ => x.length - xQ.1) (0, [], Ls) ⟨rfl, (show Value.int .i64 z = .int .i64 (z + ((((x.take 0).flatMap flatPair).length : Nat) : Int)) from congrArg (Value.int .i64) (by simp)), rfl, trivial⟩ (Sub.cons (Sub.cons sR)) ⟨rfl, (hd), (by (try dsimp only) <;> omega), (rfl), (rfl)⟩ ?_
 rintro ⟨k, os, Ls⟩ rE _ _ ⟨rfl, hd, hk, hol, hfl⟩
 show X _ _ _ _ (envs [(0, xv), (1, .int .i64 (z + ((((x.take k).flatMap flatPair).length : Nat) : Int))), (5, .int .i64 ((k : Int)))] rE) _ (star Ls :: slH 98 2 xv x.length cs :: L)
 dsimp only at hd hk hol hfl
 have htl := fun (h : k < x.length) => flat_take_le (f := flatPair) (l := x) ([], []) h
 have hlen : (os ++ x.drop k).length = x.length := by rw [List.length_append, List.length_drop]; omega
 refine X.seq (X.seq (X.region ?_))
 refine XL.mv (.int .i64 ((k : Int))) rfl ?_
 refine XL.mv (xv) rfl ?_
 refine XL.cons (XOp.lenS (v := xv) (n := x.length) Try.runUnderlying34 rfl (SlV.own [_] rfl) ?_)
 refine XL.cons (XOp.lss (a := (k : Int)) (b := (x.length : Int)) rfl rfl ?_)
 refine XL.nil ?_
 refine X.condD (p := (k : Int) < (x.length : Int)) rfl (fun h1 => ?_) (fun h1 => ?_)
 ·refine X.skip (X.seq (X.block (X.seq (X.region ?_))))
  have hkx : k < x.length := by omega
  have htl2 := htl hkx
  obtain ⟨A, K, B, es, hLs, hel, hR, hg, hput⟩ := hd.at (d := ([], [])) (k := k) (by omega)
  rw [app_getD hol] at hR
  have hself := splice_self hel hg (hd.bound (k := k) (by omega))
  obtain ⟨a, b, he, hK⟩ := hR
  subst he hK
  have hfp : (flatPair (x.getD k ([], []))).length = (x.getD k ([], [])).1.length + (x.getD k ([], [])).2.length := by unfold flatPair; rw [List.length_append]
  subst hLs
  refine XL.weaken (Sub.pull (A := A)) ?_
  show XL _ _ _ _ _ _ _ (intsH 2 a ((x.getD k ([], [])).1) :: intsH 2 b ((x.getD k ([], [])).2) :: star (A ++ B) :: slH 98 2 xv x.length cs :: L)
  skip
  refine XL.mv (xv) rfl ?_
  refine XL.mv (.int .i64 ((k : Int))) rfl ?_
  refine XL.cons (XOp.indexS (v := xv) (i := (k : Int)) (n := x.length) k Try.runUnderlying34 Try.sizeOf98 rfl rfl rfl (SlV.own [_, _, _] rfl) (by omega) rfl ?_)
  refine XL.cons (XOp.fieldE (v := xv) (k * 2) Try.runUnderlying98 rfl Try.sizeOf22 (by decide) rfl rfl ?_)
  refine XL.cons (XOp.load1 (v := a) Try.isAgg22 rfl (Rd.sl [_, _, _] rfl (hg 0 _ rfl)) ?_)
  refine XL.mv (.int .i64 (z + ((((x.take k).flatMap flatPair).length : Nat) : Int))) rfl ?_
  refine XL.cons (XOp.call (args := [a, .int .i64 (z + ((((x.take k).flatMap flatPair).length : Nat) : Int))]) Try.call27 rfl (markInt64S_spec (by omega)) ?_)
  rintro _ _ _ _ ⟨m1, hm1, rfl, rfl, rfl⟩
  have hml1 := congrArg List.length hm1
  rw [iota_len] at hml1
  try simp only [List.length_append] at hml1
  refine XL.as (.int .i64 ((z + ((((x.take k).flatMap flatPair).length : Nat) : Int)) + (((((x.getD k ([], [])).1))).length : Int))) rfl ?_
  refine XL.nil (X.region ?_)
  refine XL.mv (xv) rfl ?_
  refine XL.mv (.int .i64 ((k : Int))) rfl ?_
  refine XL.cons (XOp.indexS (v := xv) (i := (k : Int)) (n := x.length) k Try.runUnderlying34 Try.sizeOf98 rfl rfl rfl (SlV.own [_, _, _] rfl) (by omega) rfl ?_)
  refine XL.cons (XOp.fieldE (v := xv) (k * 2 + 1) Try.runUnderlying98 rfl Try.sizeOf22 (by decide) rfl rfl ?_)
  refine XL.cons (XOp.load1 (v := b) Try.isAgg22 rfl (Rd.sl [_, _, _] rfl (hg 1 _ rfl)) ?_)
  refine XL.mv (.int .i64 ((z + ((((x.take k).flatMap flatPair).length : Nat) : Int)) + (((((x.getD k ([], [])).1))).length : Int))) rfl ?_
  refine XL.weaken (Sub.front (A := [_])) ?_
  show XL _ _ _ _ _ _ _ (intsH 2 b ((x.getD k ([], [])).2) :: intsH 2 a m1 :: star (A ++ B) :: slH 98 2 xv x.length cs :: L)
  refine XL.cons (XOp.call (args := [b, .int .i64 ((z + ((((x.take k).flatMap flatPair).length : Nat) : Int)) + (((((x.getD k ([], [])).1))).length : Int))]) Try.call27 rfl (markInt64S_spec (by omega)) ?_)
  rintro _ _ _ _ ⟨m2, hm2, rfl, rfl, rfl⟩
  have hml2 := congrArg List.length hm2
  rw [iota_len] at hml2
  try simp only [List.length_append] at hml2
  refine XL.as (.int .i64 (((z + ((((x.take k).flatMap flatPair).length : Nat) : Int)) + (((((x.getD k ([], [])).1))).length : Int)) + (((((x.getD k ([], [])).2))).length : Int))) rfl ?_
  refine XL.nil (X.region ?_)
  refine XL.weaken (Sub.trans (Sub.front (A := [_, _, _])) (Sub.trans (Sub.front (A := [_, _, _])) (Sub.trans (Sub.front (A := [_, _])) (Sub.trans (Sub.front (A := [_, _, _])) (Sub.cons (Sub.cons (Sub.cons (Sub.cons sR)))))))) ?_
  refine XL.weaken (Sub.push (A := A) (K := [intsH 2 a m1, intsH 2 b m2]) (B := B)) ?_
  show XL _ _ _ _ _ _ _ (star (A ++ ([intsH 2 a m1, intsH 2 b m2] ++ B)) :: slH 98 2 xv x.length cs :: L)
  have hdn := hput [a, b] (m1, m2) _ rfl ⟨a, b, rfl, rfl⟩
  rw [hself, app_set hol hkx] at hdn
  have hfx : flatPair (m1, m2) = iota (z + ((((x.take k).flatMap flatPair).length : Nat) : Int)) (flatPair (x.getD k ([], []))).length := by rw [hfp, iota_add]; show m1 ++ m2 = _; rw [hm1, hm2]
  have hnext : (z + ((((x.take k).flatMap flatPair).length : Nat) : Int)) + ((x.getD k ([], [])).1.length : Int) + ((x.getD k ([], [])).2.length : Int) = z + ((((x.take (k + 1)).flatMap flatPair).length : Nat) : Int) := by rw [flatMap_take_succ flatPair ([], []) hkx, List.length_append, hfp]; omega
  skip
  refine XL.mv (.int .i64 ((k : Int))) rfl ?_
  refine XL.cons (XOp.addR (a := (k : Int)) (b := 1) (((k + 1 : Nat) : Int)) rfl rfl (by omega) (by omega) ?_)
  refine XL.as (.int .i64 (((k + 1 : Nat) : Int))) rfl ?_
  refine XL.nil ?_
  exact ⟨(k + 1, os ++ [(m1, m2)], A ++ ([intsH 2 a m1, intsH 2 b m2] ++ B)), _, FLe.refl _, rF, ⟨rfl, (vI hnext), rfl, trivial⟩, (Sub.cons (Sub.cons sR)), ⟨rfl, (hdn), (by (try dsimp only) <;> omega), (by simp [hol]), (marked (d := ([], [])) (by omega) hfl hfx)⟩, (by omega)⟩
 ·refine X.exit (thenQ_exit (thenQ_exit (blockQ_exit ?_)))
  refine X.seq (X.region ?_)
  refine XL.mv (.int .i64 (z + ((((x.take k).flatMap flatPair).length : Nat) : Int))) rfl ?_
  refine XL.as (.int .i64 (z + ((((x.take k).flatMap flatPair).length : Nat) : Int))) rfl ?_
  refine XL.nil ?_
  refine X.ret (retEnd (L' := pairsD 2 98 xv os :: L) [.int .i64 (z + ((((x.take k).flatMap flatPair).length : Nat) : Int))] (.int .i64 (z + ((((x.take k).flatMap flatPair).length : Nat) : Int))) (.tmp rfl .nil) rfl rF rF (Sub.trans (Sub.front (A := [_])) (Sub.closeDeep (by rw [app_all (by omega)] at hd; exact hd) (by omega))) ?_)
  rw [app_all (by omega)] at hd
  have hkl : k = x.length := by omega
  exact ⟨os, by rw [hfl, hkl, List.take_length], by omega, by rw [hkl, List.take_length], rfl, rfl⟩

/- laws.markStepS -/
theorem markStepS_spec {F : FH} {L : List HP} {xv : Value} {x : List StepT} {z : Int} (hz : 0 ≤ z ∧ z + (((x.flatMap flatStep)).length : Int) ≤ 9000000000) (hnx : x.length ≤ 4000000) :
    Does Try.prog 94 [xv, .int .i64 (z)] F (stepsD 2 119 xv x :: L) (fun v F' L' => ∃ x' : List StepT, ((x'.flatMap flatStep)) = iota z ((x.flatMap flatStep)).length ∧ x'.length = x.length ∧ (.int .i64 (z + (((x.flatMap flatStep)).length : Int)) : Value) = v ∧ F = F' ∧ stepsD 2 119 xv x' :: L = L') := by
 refine Does.of_X Try.func94 rfl rfl rfl ?_
 refine X.openDeep (fun cs Ls hd => ?_)
 refine X.weaken (Sub.front (A := [_])) ?_
 show X _ _ _ _ _ _ (star Ls :: slH 119 3 xv x.length cs :: L)
 refine X.seq (X.region ?_)
 refine XL.as (.int .i64 (0)) rfl ?_
 refine XL.nil (X.seq (X.seq (X.region ?_)))
 refine XL.as (.int .i64 (0)) rfl ?_
 refine XL.nil (X.block ?_)
 refine X.loop (α := Nat × List StepT × List HP × List Value) (fun xQ => [(0, xv), (1, .int .i64 (z + ((((x.take xQ.1).flatMap flatStep).length : Nat) : Int))), (5, .int .i64 (((xQ.1 : Nat) : Int)))]) (fun xQ => star xQ.2.2.1 :: slH 119 3 xv x.length xQ.2.2.2 :: L) (fun xQ F' => F = F' ∧ (DeepL 3 (StepO 2) xQ.2.2.2 (xQ.2.1 ++ x.drop xQ.1) xQ.2.2.1) ∧ (xQ.1 ≤ x.length) ∧ (xQ.2.1.length = xQ.1) ∧ (xQ.2.1.flatMap flatStep = iota z ((x.take xQ.1).flatMap flatStep).length)) (fun xQ => x.length - xQ.1) (0, [], Ls, cs) ⟨rfl, (show Value.int .i64 z = .int .i64 (z + ((((x.take 0).flatMap flatStep).length : Nat) : Int)) from congrArg (Value.int .i64) (by simp)), rfl, trivial⟩ (Sub.cons (Sub.cons sR)) ⟨rfl, (hd), (by (try dsimp only) <;> omega), (rfl), (rfl)⟩ ?_
 rintro ⟨k, os, Ls, cs⟩ rE _ _ ⟨rfl, hd, hk, hol, hfl⟩
 show X _ _ _ _ (envs [(0, xv), (1, .int .i64 (z + ((((x.take k).flatMap flatStep).length : Nat) : Int))), (5, .int .i64 ((k : Int)))] rE) _ (star Ls :: slH 119 3 xv x.length cs :: L)
 dsimp only at hd hk hol hfl
 have htl := fun (h : k < x.length) => flat_take_le (f := flatStep) (l := x) ((0 : Int), (0 : Int), ([] : List Int)) h
 have hlen : (os ++ x.drop k).length = x.length := by rw [List.length_append, List.length_drop]; omega
 refine X.seq (X.seq (X.region ?_))
 refine XL.mv (.int .i64 ((k : Int))) rfl ?_
 refine XL.mv (xv) rfl ?_
 refine XL.cons (XOp.lenS (v := xv) (n := x.length) Try.runUnderlying71 rfl (SlV.own [_] rfl) ?_)
 refine XL.cons (XOp.lss (a := (k : Int)) (b := (x.length : Int)) rfl rfl ?_)
 refine XL.nil ?_
 refine X.condD (p := (k : Int) < (x.length : Int)) rfl (fun h1 => ?_) (fun h1 => ?_)
 ·refine X.skip (X.seq (X.block (X.seq (X.region ?_))))
  have hkx : k < x.length := by omega
  have htl2 := htl hkx
  obtain ⟨A, K, B, es, hLs, hel, hR, hg, hput⟩ := hd.at (d := ((0 : Int), (0 : Int), ([] : List Int))) (k := k) (by omega)
  rw [app_getD hol] at hR
  have hself := splice_self hel hg (hd.bound (k := k) (by omega))
  obtain ⟨c, he, hK⟩ := hR
  subst he hK
  have hfp : (flatStep (x.getD k (0, 0, []))).length = (x.getD k (0, 0, [])).2.2.length + 1 + 1 := rfl
  have hbd := hd.bound (k := k) (by omega)
  subst hLs
  refine XL.weaken (Sub.pull (A := A)) ?_
  show XL _ _ _ _ _ _ _ (intsH 2 c ((x.getD k (0, 0, [])).2.2) :: star (A ++ B) :: slH 119 3 xv x.length cs :: L)
  skip
  refine XL.mv (xv) rfl ?_
  refine XL.mv (.int .i64 ((k : Int))) rfl ?_
  refine XL.mv (.int .i64 (z + ((((x.take k).flatMap flatStep).length : Nat) : Int))) rfl ?_
  refine XL.cons (XOp.indexS (v := xv) (i := (k : Int)) (n := x.length) k Try.runUnderlying71 Try.sizeOf119 rfl rfl rfl (SlV.own [_, _] rfl) (by omega) rfl ?_)
  refine XL.cons (XOp.fieldE (v := xv) (k * 3) Try.runUnderlying119 rfl Try.sizeOf2 (by decide) rfl rfl ?_)
  refine XL.cons (XOp.storeS (i := k * 3) (cs := cs) [_, _] _ Try.sizeOf2 rfl rfl rfl rfl (by (try simp only [List.length_set]); omega) ?_)
  refine XL.nil (X.seq (X.region ?_))
  refine XL.mv (.int .i64 (z + ((((x.take k).flatMap flatStep).length : Nat) : Int))) rfl ?_
  refine XL.cons (XOp.addR (a := z + ((((x.take k).flatMap flatStep).length : Nat) : Int)) (b := 1) ((z + ((((x.take k).flatMap flatStep).length : Nat) : Int)) + 1) rfl rfl (by omega) (by omega) ?_)
  refine XL.as (.int .i64 ((z + ((((x.take k).flatMap flatStep).length : Nat) : Int)) + 1)) rfl ?_
  refine XL.nil (X.seq (X.region ?_))
  refine XL.mv (xv) rfl ?_
  refine XL.mv (.int .i64 ((k : Int))) rfl ?_
  refine XL.mv (.int .i64 ((z + ((((x.take k).flatMap flatStep).length : Nat) : Int)) + 1)) rfl ?_
  refine XL.cons (XOp.indexS (v := xv) (i := (k : Int)) (n := x.length) k Try.runUnderlying71 Try.sizeOf119 rfl rfl rfl (SlV.own [_, _] rfl) (by omega) rfl ?_)
  refine XL.cons (XOp.fieldE (v := xv) (k * 3 + 1) Try.runUnderlying119 rfl Try.sizeOf2 (by decide) rfl rfl ?_)
  refine XL.cons (XOp.storeS (i := k * 3 + 1) (cs := (cs.set (k * 3) (.int .i64 (z + ((((x.take k).flatMap flatStep).length : Nat) : Int))))) [_, _] _ Try.sizeOf2 rfl rfl rfl rfl (by (try simp only [List.length_set]); omega) ?_)
  refine XL.nil (X.seq (X.region ?_))
  refine XL.mv (.int .i64 ((z + ((((x.take k).flatMap flatStep).length : Nat) : Int)) + 1)) rfl ?_
  refine XL.cons (XOp.addR (a := (z + ((((x.take k).flatMap flatStep).length : Nat) : Int)) + 1) (b := 1) (((z + ((((x.take k).flatMap flatStep).length : Nat) : Int)) + 1) + 1) rfl rfl (by omega) (by omega) ?_)
  refine XL.as (.int .i64 (((z + ((((x.take k).flatMap flatStep).length : Nat) : Int)) + 1) + 1)) rfl ?_
  refine XL.nil (X.region ?_)
  refine XL.mv (xv) rfl ?_
  refine XL.mv (.int .i64 ((k : Int))) rfl ?_
  refine XL.cons (XOp.indexS (v := xv) (i := (k : Int)) (n := x.length) k Try.runUnderlying71 Try.sizeOf119 rfl rfl rfl (SlV.own [_, _] rfl) (by omega) rfl ?_)
  refine XL.cons (XOp.fieldE (v := xv) (k * 3 + 2) Try.runUnderlying119 rfl Try.sizeOf22 (by decide) rfl rfl ?_)
  refine XL.cons (XOp.load1 (v := c) Try.isAgg22 rfl (Rd.sl [_, _] rfl (by rw [List.getElem?_set_ne (by omega), List.getElem?_set_ne (by omega)]; exact hg 2 _ rfl)) ?_)
  refine XL.mv (.int .i64 (((z + ((((x.take k).flatMap flatStep).length : Nat) : Int)) + 1) + 1)) rfl ?_
  refine XL.cons (XOp.call (args := [c, .int .i64 (((z + ((((x.take k).flatMap flatStep).length : Nat) : Int)) + 1) + 1)]) Try.call27 rfl (markInt64S_spec (by omega)) ?_)
  rintro _ _ _ _ ⟨m1, hm1, rfl, rfl, rfl⟩
  have hml1 := congrArg List.length hm1
  rw [iota_len] at hml1
  try simp only [List.length_append] at hml1
  refine XL.as (.int .i64 ((((z + ((((x.take k).flatMap flatStep).length : Nat) : Int)) + 1) + 1) + (((((x.getD k (0, 0, [])).2.2))).length : Int))) rfl ?_
  refine XL.nil (X.region ?_)
  refine XL.weaken (Sub.cons (Sub.cons (Sub.cons sR))) ?_
  refine XL.weaken (Sub.push (A := A) (K := [intsH 2 c m1]) (B := B)) ?_
  show XL _ _ _ _ _ _ _ (star (A ++ ([intsH 2 c m1] ++ B)) :: slH 119 3 xv x.length ((((cs.set (k * 3) (.int .i64 (z + ((((x.take k).flatMap flatStep).length : Nat) : Int))))).set (k * 3 + 1) (.int .i64 ((z + ((((x.take k).flatMap flatStep).length : Nat) : Int)) + 1)))) :: L)
  have hdn := hput [.int .i64 (z + ((((x.take k).flatMap flatStep).length : Nat) : Int)), .int .i64 ((z + ((((x.take k).flatMap flatStep).length : Nat) : Int)) + 1), c] ((z + ((((x.take k).flatMap flatStep).length : Nat) : Int)), (z + ((((x.take k).flatMap flatStep).length : Nat) : Int)) + 1, m1) _ rfl ⟨c, rfl, rfl⟩
  rw [← set_three (hg 0 _ rfl) (hg 1 _ rfl) (hg 2 _ rfl), app_set hol hkx] at hdn
  have hfx : flatStep ((z + ((((x.take k).flatMap flatStep).length : Nat) : Int)), (z + ((((x.take k).flatMap flatStep).length : Nat) : Int)) + 1, m1) = iota (z + ((((x.take k).flatMap flatStep).length : Nat) : Int)) (flatStep (x.getD k (0, 0, []))).length := by rw [hfp, iota_cons, iota_cons]; show _ :: _ :: m1 = _; rw [hm1]
  have hnext : (z + ((((x.take k).flatMap flatStep).length : Nat) : Int)) + 1 + 1 + ((x.getD k (0, 0, [])).2.2.length : Int) = z + ((((x.take (k + 1)).flatMap flatStep).length : Nat) : Int) := by rw [flatMap_take_succ flatStep (0, 0, []) hkx, List.length_append, hfp]; omega
  skip
  refine XL.mv (.int .i64 ((k : Int))) rfl ?_
  refine XL.cons (XOp.addR (a := (k : Int)) (b := 1) (((k + 1 : Nat) : Int)) rfl rfl (by omega) (by omega) ?_)
  refine XL.as (.int .i64 (((k + 1 : Nat) : Int))) rfl ?_
  refine XL.nil ?_
  exact ⟨(k + 1, os ++ [((z + ((((x.take k).flatMap flatStep).length : Nat) : Int)), (z + ((((x.take k).flatMap flatStep).length : Nat) : Int)) + 1, m1)], A ++ ([intsH 2 c m1] ++ B), (((cs.set (k * 3) (.int .i64 (z + ((((x.take k).flatMap flatStep).length : Nat) : Int))))).set (k * 3 + 1) (.int .i64 ((z + ((((x.take k).flatMap flatStep).length : Nat) : Int)) + 1)))), _, FLe.refl _, rF, ⟨rfl, (vI hnext), rfl, trivial⟩, (Sub.cons (Sub.cons sR)), ⟨rfl, (hdn), (by (try dsimp only) <;> omega), (by simp [hol]), (marked (d := ((0 : Int), (0 : Int), ([] : List Int))) (by omega) hfl hfx)⟩, (by omega)⟩
 ·refine X.exit (thenQ_exit (thenQ_exit (blockQ_exit ?_)))
  refine X.seq (X.region ?_)
  refine XL.mv (.int .i64 (z + ((((x.take k).flatMap flatStep).length : Nat) : Int))) rfl ?_
  refine XL.as (.int .i64 (z + ((((x.take k).flatMap flatStep).length : Nat) : Int))) rfl ?_
  refine XL.nil ?_
  refine X.ret (retEnd (L' := stepsD 2 119 xv os :: L) [.int .i64 (z + ((((x.take k).flatMap flatStep).length : Nat) : Int))] (.int .i64 (z + ((((x.take k).flatMap flatStep).length : Nat) : Int))) (.tmp rfl .nil) rfl rF rF (Sub.trans (Sub.front (A := [_])) (Sub.closeDeep (by rw [app_all (by omega)] at hd; exact hd) (by omega))) ?_)
  rw [app_all (by omega)] at hd
  have hkl : k = x.length := by omega
  exact ⟨os, by rw [hfl, hkl, List.take_length], by omega, by rw [hkl, List.take_length], rfl, rfl⟩

/- laws.markSystem -/
theorem markSystem_spec {F : FH} {L : List HP} {xv : Value} {x : List Int} {yv : Value} {y : List (List Int × List Int)} {z : Int} (hz : 0 ≤ z ∧ z + (((x) ++ (y.flatMap flatPair)).length : Int) ≤ 9000000000) (hny : y.length ≤ 4000000) :
    Does Try.prog 26 [.agg #[xv, yv], .int .i64 (z)] F (intsH 2 xv x :: pairsD 2 98 yv y :: L) (fun v F' L' => ∃ x' : List Int, ∃ y' : List (List Int × List Int), ((x') ++ (y'.flatMap flatPair)) = iota z ((x) ++ (y.flatMap flatPair)).length ∧ y'.length = y.length ∧ (.int .i64 (z + (((x) ++ (y.flatMap flatPair)).length : Int)) : Value) = v ∧ F = F' ∧ intsH 2 xv x' :: pairsD 2 98 yv y' :: L = L') := by
 refine Does.of_X Try.func26 rfl rfl rfl ?_
 have hlx : ((x) ++ (y.flatMap flatPair)).length = x.length + (y.flatMap flatPair).length := List.length_append
 refine X.seq (X.region ?_)
 refine XL.cons (XOp.box [xv, yv] rfl rfl ?_)
 intro b1
 refine XL.as (.int .i64 (0)) rfl ?_
 refine XL.nil (X.seq (X.region ?_))
 refine XL.cons (XOp.fieldP (b := b1) (0) Try.runUnderlying36 rfl Try.sizeOf33 (by decide) rfl rfl ?_)
 refine XL.cons (XOp.loadN [xv] Try.isAgg33 Try.sizeOf33 rfl rfl (Rd.ownN [] rfl rfl) ?_)
 refine XL.mv (.int .i64 (z)) rfl ?_
 refine XL.weaken (Sub.front (A := [_])) ?_
 show XL _ _ _ _ _ _ _ (intsH 2 xv x :: cellsH b1 [xv, yv] 36 :: pairsD 2 98 yv y :: L)
 refine XL.cons (XOp.call (args := [.agg #[xv], .int .i64 (z)]) Try.call76 rfl (markSig_spec (by omega)) ?_)
 rintro _ _ _ _ ⟨m1, hm1, rfl, rfl, rfl⟩
 have hml1 := congrArg List.length hm1
 rw [iota_len] at hml1
 try simp only [List.length_append] at hml1
 refine XL.as (.int .i64 (z + (((x)).length : Int))) rfl ?_
 refine XL.nil (X.seq (X.region ?_))
 refine XL.cons (XOp.fieldP (b := b1) (1) Try.runUnderlying36 rfl Try.sizeOf34 (by decide) rfl rfl ?_)
 refine XL.cons (XOp.load1 (v := yv) Try.isAgg34 rfl (Rd.own [_] rfl rfl) ?_)
 refine XL.mv (.int .i64 (z + (((x)).length : Int))) rfl ?_
 refine XL.weaken (Sub.front (A := [_, _])) ?_
 show XL _ _ _ _ _ _ _ (pairsD 2 98 yv y :: intsH 2 xv m1 :: cellsH b1 [xv, yv] 36 :: L)
 refine XL.cons (XOp.call (args := [yv, .int .i64 (z + (((x)).length : Int))]) Try.call77 rfl (markRuleS_spec (by omega) (by omega)) ?_)
 rintro _ _ _ _ ⟨m2, hm2, hk1, rfl, rfl, rfl⟩
 have hml2 := congrArg List.length hm2
 rw [iota_len] at hml2
 try simp only [List.length_append] at hml2
 refine XL.as (.int .i64 ((z + (((x)).length : Int)) + (((y.flatMap flatPair)).length : Int))) rfl ?_
 refine XL.nil (X.seq (X.region ?_))
 refine XL.mv (.int .i64 ((z + (((x)).length : Int)) + (((y.flatMap flatPair)).length : Int))) rfl ?_
 refine XL.as (.int .i64 ((z + (((x)).length : Int)) + (((y.flatMap flatPair)).length : Int))) rfl ?_
 refine XL.nil ?_
 refine X.ret (retEnd (L' := intsH 2 xv m1 :: pairsD 2 98 yv m2 :: L) [.int .i64 ((z + (((x)).length : Int)) + (((y.flatMap flatPair)).length : Int))] (.int .i64 ((z + (((x)).length : Int)) + (((y.flatMap flatPair)).length : Int))) (.tmp rfl .nil) rfl rF rF (Sub.trans (Sub.front (A := [_])) (Sub.cons (Sub.cons (Sub.drop sR)))) ?_)
 exact ⟨m1, m2, by rw [List.length_append, iota_add, hm1, hm2], (by assumption), congrArg (Value.int .i64) (by first | rfl | (simp only [List.length_append]; omega)), rfl, rfl⟩

/- laws.markWalk -/
theorem markWalk_spec {F : FH} {L : List HP} {xv : Value} {x : List Int} {yv : Value} {y : List StepT} {z : Int} (hz : 0 ≤ z ∧ z + (((x) ++ (y.flatMap flatStep)).length : Int) ≤ 9000000000) (hny : y.length ≤ 4000000) :
    Does Try.prog 40 [.agg #[xv, yv], .int .i64 (z)] F (intsH 2 xv x :: stepsD 2 119 yv y :: L) (fun v F' L' => ∃ x' : List Int, ∃ y' : List StepT, ((x') ++ (y'.flatMap flatStep)) = iota z ((x) ++ (y.flatMap flatStep)).length ∧ y'.length = y.length ∧ (.int .i64 (z + (((x) ++ (y.flatMap flatStep)).length : Int)) : Value) = v ∧ F = F' ∧ intsH 2 xv x' :: stepsD 2 119 yv y' :: L = L') := by
 refine Does.of_X Try.func40 rfl rfl rfl ?_
 have hlx : ((x) ++ (y.flatMap flatStep)).length = x.length + (y.flatMap flatStep).length := List.length_append
 refine X.seq (X.region ?_)
 refine XL.cons (XOp.box [xv, yv] rfl rfl ?_)
 intro b1
 refine XL.as (.int .i64 (0)) rfl ?_
 refine XL.nil (X.seq (X.region ?_))
 refine XL.cons (XOp.fieldP (b := b1) (0) Try.runUnderlying73 rfl Try.sizeOf22 (by decide) rfl rfl ?_)
 refine XL.cons (XOp.load1 (v := xv) Try.isAgg22 rfl (Rd.own [] rfl rfl) ?_)
 refine XL.mv (.int .i64 (z)) rfl ?_
 refine XL.weaken (Sub.front (A := [_])) ?_
 show XL _ _ _ _ _ _ _ (intsH 2 xv x :: cellsH b1 [xv, yv] 73 :: stepsD 2 119 yv y :: L)
 refine XL.cons (XOp.call (args := [xv, .int .i64 (z)]) Try.call27 rfl (markInt64S_spec (by omega)) ?_)
 rintro _ _ _ _ ⟨m1, hm1, rfl, rfl, rfl⟩
 have hml1 := congrArg List.length hm1
 rw [iota_len] at hml1
 try simp only [List.length_append] at hml1
 refine XL.as (.int .i64 (z + (((x)).length : Int))) rfl ?_
 refine XL.nil (X.seq (X.region ?_))
 refine XL.cons (XOp.fieldP (b := b1) (1) Try.runUnderlying73 rfl Try.sizeOf71 (by decide) rfl rfl ?_)
 refine XL.cons (XOp.load1 (v := yv) Try.isAgg71 rfl (Rd.own [_] rfl rfl) ?_)
 refine XL.mv (.int .i64 (z + (((x)).length : Int))) rfl ?_
 refine XL.weaken (Sub.front (A := [_, _])) ?_
 show XL _ _ _ _ _ _ _ (stepsD 2 119 yv y :: intsH 2 xv m1 :: cellsH b1 [xv, yv] 73 :: L)
 refine XL.cons (XOp.call (args := [yv, .int .i64 (z + (((x)).length : Int))]) Try.call94 rfl (markStepS_spec (by omega) (by omega)) ?_)
 rintro _ _ _ _ ⟨m2, hm2, hk1, rfl, rfl, rfl⟩
 have hml2 := congrArg List.length hm2
 rw [iota_len] at hml2
 try simp only [List.length_append] at hml2
 refine XL.as (.int .i64 ((z + (((x)).length : Int)) + (((y.flatMap flatStep)).length : Int))) rfl ?_
 refine XL.nil (X.seq (X.region ?_))
 refine XL.mv (.int .i64 ((z + (((x)).length : Int)) + (((y.flatMap flatStep)).length : Int))) rfl ?_
 refine XL.as (.int .i64 ((z + (((x)).length : Int)) + (((y.flatMap flatStep)).length : Int))) rfl ?_
 refine XL.nil ?_
 refine X.ret (retEnd (L' := intsH 2 xv m1 :: stepsD 2 119 yv m2 :: L) [.int .i64 ((z + (((x)).length : Int)) + (((y.flatMap flatStep)).length : Int))] (.int .i64 ((z + (((x)).length : Int)) + (((y.flatMap flatStep)).length : Int))) (.tmp rfl .nil) rfl rF rF (Sub.trans (Sub.front (A := [_])) (Sub.cons (Sub.cons (Sub.drop sR)))) ?_)
 exact ⟨m1, m2, by rw [List.length_append, iota_add, hm1, hm2], (by assumption), congrArg (Value.int .i64) (by first | rfl | (simp only [List.length_append]; omega)), rfl, rfl⟩
end Go.Proofs.Ytnloeeaidknblaa
set_option linter.unusedSimpArgs false
set_option linter.unusedVariables false
namespace Go.Proofs.Ytnloeeaidknblaa
open Go X M

/- laws.szStep -/
theorem szStep_spec {F : FH} {L : List HP} {i : Int} {j : Int} {lv : Value} {l : List Int} (hl : IntsF F lv l) {z : Int} (hz : 0 ≤ z ∧ z ≤ 4000000) (hll : l.length ≤ 9223372036854775807) :
    Does Try.prog 141 [.agg #[.int .i64 (i), .int .i64 (j), lv], .int .i64 (z)] F (L) (fun v F' L' => (.int .i64 (dec z l.length) : Value) = v ∧ F = F' ∧ L = L') := by
 refine Does.of_X Try.func141 rfl rfl rfl ?_
 have hdr := dec_range z l.length
 refine X.seq (X.region ?_)
 refine XL.cons (XOp.box [.int .i64 (i), .int .i64 (j), lv] rfl rfl ?_)
 intro b1
 refine XL.as (.int .i64 (0)) rfl ?_
 refine XL.nil (X.seq (X.region ?_))
 refine XL.cons (XOp.fieldP (b := b1) (2) Try.runUnderlying175 rfl Try.sizeOf22 (by decide) rfl rfl ?_)
 refine XL.cons (XOp.load1 (v := lv) Try.isAgg22 rfl (Rd.own [] rfl rfl) ?_)
 refine XL.mv (.int .i64 (z)) rfl ?_
 refine XL.cons (XOp.call (args := [lv, .int .i64 (z)]) Try.call55 rfl (szInt64S_spec (z := z) hl (hz := (by first | assumption | rfl | omega | simp)) (hlx := (by first | assumption | rfl | omega | simp))) ?_)
 rintro _ _ _ _ ⟨rfl, rfl, rfl⟩
 refine XL.as (.int .i64 (dec z l.length)) rfl ?_
 refine XL.nil (X.seq (X.seq (X.region ?_)))
 refine XL.mv (.int .i64 (dec z l.length)) rfl ?_
 refine XL.cons (XOp.lss (a := dec z l.length) (b := 0) rfl rfl ?_)
 refine XL.nil ?_
 refine X.condD (p := (dec z l.length : Int) < 0) rfl (fun h1 => ?_) (fun h1 => ?_)
 ·refine X.seq (X.region ?_)
  refine XL.as (.int .i64 (-1)) rfl ?_
  refine XL.nil ?_
  refine X.ret (thenQ_ret (retEnd (L' := L) [.int .i64 (-1)] (.int .i64 (-1)) (.tmp rfl .nil) rfl rF rF (Sub.drop sR) ?_))
  exact ⟨(vI (by omega)), rfl, rfl⟩
 ·refine X.skip (X.seq (X.region ?_))
  refine XL.mv (.int .i64 (dec z l.length)) rfl ?_
  refine XL.as (.int .i64 (dec z l.length)) rfl ?_
  refine XL.nil ?_
  refine X.ret (retEnd (L' := L) [.int .i64 (dec z l.length)] (.int .i64 (dec z l.length)) (.tmp rfl .nil) rfl rF rF (Sub.drop sR) ?_)
  exact ⟨rfl, rfl, rfl⟩

/- laws.szStepS -/
theorem szStepS_spec {F : FH} {L : List HP} {rsv : Value} {rs : List StepT} (hrs : StepsF F rsv rs) {z : Int} (hz : 0 ≤ z ∧ z ≤ 4000000) (hrl : rs.length ≤ 9223372036854775807) (hrb : ∀ i, i < rs.length → (rs.getD i (0, 0, [])).2.2.length ≤ 9223372036854775807) :
    Does Try.prog 85 [rsv, .int .i64 (z)] F (L) (fun v F' L' => (.int .i64 (dec z (szG lenS rs)) : Value) = v ∧ F = F' ∧ L = L') := by
 refine Does.of_X Try.func85 rfl rfl rfl ?_
 refine X.seq (X.region ?_)
 refine XL.as (.int .i64 (0)) rfl ?_
 refine XL.nil (X.seq (X.region ?_))
 refine XL.mv (.int .i64 (z)) rfl ?_
 refine XL.mv (rsv) rfl ?_
 refine XL.cons (XOp.lenS (v := rsv) (n := (rs).length) Try.runUnderlying67 rfl hrs.slv ?_)
 refine XL.cons (XOp.subR (a := z) (b := (rs.length : Int)) (z - ((rs.length : Int))) rfl rfl (by omega) (by omega) ?_)
 refine XL.as (.int .i64 (z - ((rs.length : Int)))) rfl ?_
 refine XL.nil (X.seq (X.seq (X.region ?_)))
 refine XL.mv (.int .i64 (z - ((rs.length : Int)))) rfl ?_
 refine XL.cons (XOp.lss (a := z - ((rs.length : Int))) (b := 0) rfl rfl ?_)
 refine XL.nil ?_
 refine X.condD (p := (z - ((rs.length : Int)) : Int) < 0) rfl (fun h1 => ?_) (fun h1 => ?_)
 ·refine X.seq (X.region ?_)
  refine XL.as (.int .i64 (-1)) rfl ?_
  refine XL.nil ?_
  refine X.ret (thenQ_ret (retEnd (L' := L) [.int .i64 (-1)] (.int .i64 (-1)) (.tmp rfl .nil) rfl rF rF sR ?_))
  exact ⟨(vI (dec_mono (n := rs.length) (by rw [dec_neg (by omega)]; omega) (by unfold szG; omega))), rfl, rfl⟩
 ·refine X.skip (X.seq (X.seq (X.region ?_)))
  refine XL.as (.int .i64 (0)) rfl ?_
  refine XL.nil (X.block ?_)
  refine X.loop (α := Nat) (fun k => [(0, rsv), (1, .int .i64 (dec z (rs.length + gTo lenS rs k))), (5, .int .i64 ((k : Int)))]) (fun k => L) (fun k F' => F = F' ∧ (k ≤ rs.length) ∧ (0 ≤ dec z (rs.length + gTo lenS rs k))) (fun k => rs.length - k) 0 ⟨rfl, (vI (by show z - rs.length = dec z (rs.length + 0); rw [Nat.add_zero, dec_pos (by omega)])), rfl, trivial⟩ sR ⟨rfl, (by (try dsimp only) <;> omega), (by show 0 ≤ dec z (rs.length + 0); rw [Nat.add_zero, dec_pos (by omega)]; omega)⟩ ?_
  rintro k rE _ _ ⟨rfl, hk, hnn⟩
  show X _ _ _ _ (envs [(0, rsv), (1, .int .i64 (dec z (rs.length + gTo lenS rs k))), (5, .int .i64 ((k : Int)))] rE) _ (L)
  have hdr := dec_range z (rs.length + gTo lenS rs k)
  have hrk := hrb k
  have hgk : lenS (rs.getD k (0, 0, [])) = (rs.getD k (0, 0, [])).2.2.length := rfl
  refine X.seq (X.seq (X.region ?_))
  refine XL.mv (.int .i64 ((k : Int))) rfl ?_
  refine XL.mv (rsv) rfl ?_
  refine XL.cons (XOp.lenS (v := rsv) (n := (rs).length) Try.runUnderlying67 rfl hrs.slv ?_)
  refine XL.cons (XOp.lss (a := (k : Int)) (b := (rs.length : Int)) rfl rfl ?_)
  refine XL.nil ?_
  refine X.condD (p := (k : Int) < (rs.length : Int)) rfl (fun h2 => ?_) (fun h2 => ?_)
  ·refine X.skip (X.seq (X.block (X.seq (X.region ?_))))
   refine XL.mv (rsv) rfl ?_
   refine XL.mv (.int .i64 ((k : Int))) rfl ?_
   refine XL.cons (XOp.indexS (v := rsv) (i := (k : Int)) (n := (rs).length) k Try.runUnderlying67 Try.sizeOf175 rfl rfl rfl hrs.slv (by omega) rfl ?_)
   obtain ⟨a1, ha1, hr1, hr2, hr3⟩ := hrs.rd (i := k) (by omega)
   refine XL.cons (XOp.loadN [.int .i64 ((rs.getD k (0, 0, [])).1), .int .i64 ((rs.getD k (0, 0, [])).2.1), a1] Try.isAgg175 Try.sizeOf175 rfl rfl (Rd.three (hr1 _) (hr2 _) (hr3 _)) ?_)
   refine XL.mv (.int .i64 (dec z (rs.length + gTo lenS rs k))) rfl ?_
   refine XL.cons (XOp.call (args := [.agg #[.int .i64 ((rs.getD k (0, 0, [])).1), .int .i64 ((rs.getD k (0, 0, [])).2.1), a1], .int .i64 (dec z (rs.length + gTo lenS rs k))]) Try.call141 rfl (szStep_spec (z := dec z (rs.length + gTo lenS rs k)) ha1 (hz := (by first | assumption | rfl | omega | simp)) (hll := (by first | assumption | rfl | omega | simp))) ?_)
   rintro _ _ _ _ ⟨rfl, rfl, rfl⟩
   refine XL.as (.int .i64 (dec (dec z (rs.length + gTo lenS rs k)) ((rs.getD k (0, 0, [])).2.2).length)) rfl ?_
   refine XL.nil (X.seq (X.region ?_))
   refine XL.mv (.int .i64 (dec (dec z (rs.length + gTo lenS rs k)) ((rs.getD k (0, 0, [])).2.2).length)) rfl ?_
   refine XL.cons (XOp.lss (a := dec (dec z (rs.length + gTo lenS rs k)) ((rs.getD k (0, 0, [])).2.2).length) (b := 0) rfl rfl ?_)
   refine XL.nil ?_
   refine X.condD (p := (dec (dec z (rs.length + gTo lenS rs k)) ((rs.getD k (0, 0, [])).2.2).length : Int) < 0) rfl (fun h3 => ?_) (fun h3 => ?_)
   ·refine X.seq (X.region ?_)
    refine XL.as (.int .i64 (-1)) rfl ?_
    refine XL.nil ?_
    refine X.ret (blockQ_ret (thenQ_ret (thenQ_ret (blockQ_ret (thenQ_ret (retEnd (L' := L) [.int .i64 (-1)] (.int .i64 (-1)) (.tmp rfl .nil) rfl rF rF sR ?_))))))
    exact ⟨(vI (by have h9 := gTo_le (f := lenS) (l := rs) ((0 : Int), (0 : Int), ([] : List Int)) (k + 1) rs.length (by omega) (Nat.le_refl _); refine dec_mono (n := rs.length + gTo lenS rs (k + 1)) ?_ (by unfold szG; omega); rw [← gTo_succ ((0 : Int), (0 : Int), ([] : List Int)) (by omega), ← Nat.add_assoc, ← dec_dec (by omega)]; assumption)), rfl, rfl⟩
   ·refine X.skip (X.region ?_)
    refine XL.mv (.int .i64 ((k : Int))) rfl ?_
    refine XL.cons (XOp.addR (a := (k : Int)) (b := 1) (((k + 1 : Nat) : Int)) rfl rfl (by omega) (by omega) ?_)
    refine XL.as (.int .i64 (((k + 1 : Nat) : Int))) rfl ?_
    refine XL.nil ?_
    exact ⟨k + 1, _, FLe.refl _, rF, ⟨rfl, (vI (by rw [dec_dec (by omega), Nat.add_assoc, ← gTo_succ ((0 : Int), (0 : Int), ([] : List Int)) (by omega)]; rfl)), rfl, trivial⟩, sR, ⟨rfl, (by (try dsimp only) <;> omega), (by (try dsimp only); rw [← gTo_succ ((0 : Int), (0 : Int), ([] : List Int)) (by omega), ← Nat.add_assoc, ← dec_dec (by omega)]; exact Int.not_lt.1 (by assumption))⟩, (by omega)⟩
  ·refine X.exit (thenQ_exit (thenQ_exit (blockQ_exit ?_)))
   refine X.seq (X.region ?_)
   refine XL.mv (.int .i64 (dec z (rs.length + gTo lenS rs k))) rfl ?_
   refine XL.as (.int .i64 (dec z (rs.length + gTo lenS rs k))) rfl ?_
   refine XL.nil ?_
   refine X.ret (retEnd (L' := L) [.int .i64 (dec z (rs.length + gTo lenS rs k))] (.int .i64 (dec z (rs.length + gTo lenS rs k))) (.tmp rfl .nil) rfl rF rF sR ?_)
   exact ⟨(vI (by rw [szG, show k = rs.length from by omega])), rfl, rfl⟩

/- laws.szWalk -/
theorem szWalk_spec {F : FH} {L : List HP} {fv : Value} {f : List Int} (hf : IntsF F fv f) {rsv : Value} {rs : List StepT} (hrs : StepsF F rsv rs) {z : Int} (hz : 0 ≤ z ∧ z ≤ 4000000) (hal : f.length ≤ 9223372036854775807) (hrl : rs.length ≤ 9223372036854775807) (hrb : ∀ i, i < rs.length → (rs.getD i (0, 0, [])).2.2.length ≤ 9223372036854775807) :
    Does Try.prog 35 [.agg #[fv, rsv], .int .i64 (z)] F (L) (fun v F' L' => (.int .i64 (dec z (f.length + szG lenS rs)) : Value) = v ∧ F = F' ∧ L = L') := by
 refine Does.of_X Try.func35 rfl rfl rfl ?_
 have hdr := dec_range z f.length
 refine X.seq (X.region ?_)
 refine XL.cons (XOp.box [fv, rsv] rfl rfl ?_)
 intro b1
 refine XL.as (.int .i64 (0)) rfl ?_
 refine XL.nil (X.seq (X.region ?_))
 refine XL.cons (XOp.fieldP (b := b1) (0) Try.runUnderlying69 rfl Try.sizeOf22 (by decide) rfl rfl ?_)
 refine XL.cons (XOp.load1 (v := fv) Try.isAgg22 rfl (Rd.own [] rfl rfl) ?_)
 refine XL.mv (.int .i64 (z)) rfl ?_
 refine XL.cons (XOp.call (args := [fv, .int .i64 (z)]) Try.call55 rfl (szInt64S_spec (z := z) hf (hz := (by first | assumption | rfl | omega | simp)) (hlx := (by first | assumption | rfl | omega | simp))) ?_)
 rintro _ _ _ _ ⟨rfl, rfl, rfl⟩
 refine XL.as (.int .i64 (dec z f.length)) rfl ?_
 refine XL.nil (X.seq (X.seq (X.region ?_)))
 refine XL.mv (.int .i64 (dec z f.length)) rfl ?_
 refine XL.cons (XOp.lss (a := dec z f.length) (b := 0) rfl rfl ?_)
 refine XL.nil ?_
 refine X.condD (p := (dec z f.length : Int) < 0) rfl (fun h1 => ?_) (fun h1 => ?_)
 ·refine X.seq (X.region ?_)
  refine XL.as (.int .i64 (-1)) rfl ?_
  refine XL.nil ?_
  refine X.ret (thenQ_ret (retEnd (L' := L) [.int .i64 (-1)] (.int .i64 (-1)) (.tmp rfl .nil) rfl rF rF (Sub.drop sR) ?_))
  exact ⟨(vI (dec_out (by omega))), rfl, rfl⟩
 ·refine X.skip (X.seq (X.region ?_))
  refine XL.cons (XOp.fieldP (b := b1) (1) Try.runUnderlying69 rfl Try.sizeOf67 (by decide) rfl rfl ?_)
  refine XL.cons (XOp.load1 (v := rsv) Try.isAgg67 rfl (Rd.own [] rfl rfl) ?_)
  refine XL.mv (.int .i64 (dec z f.length)) rfl ?_
  refine XL.cons (XOp.call (args := [rsv, .int .i64 (dec z f.length)]) Try.call85 rfl (szStepS_spec (z := dec z f.length) hrs (hz := (by first | assumption | rfl | omega | simp)) (hrl := (by first | assumption | rfl | omega | simp)) (hrb := (by first | assumption | rfl | omega | simp))) ?_)
  rintro _ _ _ _ ⟨rfl, rfl, rfl⟩
  refine XL.as (.int .i64 (dec (dec z f.length) (szG lenS rs))) rfl ?_
  refine XL.nil (X.seq (X.seq (X.region ?_)))
  refine XL.mv (.int .i64 (dec (dec z f.length) (szG lenS rs))) rfl ?_
  refine XL.cons (XOp.lss (a := dec (dec z f.length) (szG lenS rs)) (b := 0) rfl rfl ?_)
  refine XL.nil ?_
  refine X.condD (p := (dec (dec z f.length) (szG lenS rs) : Int) < 0) rfl (fun h2 => ?_) (fun h2 => ?_)
  ·refine X.seq (X.region ?_)
   refine XL.as (.int .i64 (-1)) rfl ?_
   refine XL.nil ?_
   refine X.ret (thenQ_ret (retEnd (L' := L) [.int .i64 (-1)] (.int .i64 (-1)) (.tmp rfl .nil) rfl rF rF (Sub.drop sR) ?_))
   exact ⟨(vI (by rw [← dec_dec (by omega)]; have := (dec_range (dec z f.length) (szG lenS rs)).1; omega)), rfl, rfl⟩
  ·refine X.skip (X.seq (X.region ?_))
   refine XL.mv (.int .i64 (dec (dec z f.length) (szG lenS rs))) rfl ?_
   refine XL.as (.int .i64 (dec (dec z f.length) (szG lenS rs))) rfl ?_
   refine XL.nil ?_
   refine X.ret (retEnd (L' := L) [.int .i64 (dec (dec z f.length) (szG lenS rs))] (.int .i64 (dec (dec z f.length) (szG lenS rs))) (.tmp rfl .nil) rfl rF rF (Sub.drop sR) ?_)
   exact ⟨(vI ((dec_dec (by omega)).symm)), rfl, rfl⟩

/- laws.eqStep -/
theorem eqStep_spec {F : FH} {L : List HP} {i : Int} {j : Int} {av : Value} {a : List Int} (ha : IntsF F av a) {p : Int} {q : Int} {bv : Value} {b : List Int} (hb : IntsF F bv b) (hbd : a.length ≤ 9223372036854775807 ∨ b.length ≤ 9223372036854775807) :
    Does Try.prog 147 [.agg #[.int .i64 (i), .int .i64 (j), av], .agg #[.int .i64 (p), .int .i64 (q), bv]] F (L) (fun v F' L' => (.bool (decide ((i, j, a) = (p, q, b))) : Value) = v ∧ F = F' ∧ L = L') := by
 refine Does.of_X Try.func147 rfl rfl rfl ?_
 refine X.seq (X.region ?_)
 refine XL.cons (XOp.box [.int .i64 (i), .int .i64 (j), av] rfl rfl ?_)
 intro b1
 refine XL.cons (XOp.box [.int .i64 (p), .int .i64 (q), bv] rfl rfl ?_)
 intro b2
 refine XL.as (.bool (false)) rfl ?_
 refine XL.nil (X.seq (X.seq (X.region ?_)))
 refine XL.cons (XOp.fieldP (b := b1) (0) Try.runUnderlying119 rfl Try.sizeOf2 (by decide) rfl rfl ?_)
 refine XL.cons (XOp.load1 (v := .int .i64 (i)) Try.isAgg2 rfl (Rd.own [_] rfl rfl) ?_)
 refine XL.cons (XOp.fieldP (b := b2) (0) Try.runUnderlying119 rfl Try.sizeOf2 (by decide) rfl rfl ?_)
 refine XL.cons (XOp.load1 (v := .int .i64 (p)) Try.isAgg2 rfl (Rd.own [] rfl rfl) ?_)
 refine XL.cons (XOp.neq (a := i) (b := p) rfl rfl ?_)
 refine XL.nil ?_
 refine X.condD (p := (i : Int) ≠ p) rfl (fun h1 => ?_) (fun h1 => ?_)
 ·refine X.seq (X.region ?_)
  refine XL.as (.bool (false)) rfl ?_
  refine XL.nil ?_
  refine X.ret (thenQ_ret (retEnd (L' := L) [.bool (false)] (.bool (false)) (.tmp rfl .nil) rfl rF rF (Sub.drop (Sub.drop sR)) ?_))
  exact ⟨(vB (decide_eq_false (by intro e; simp_all))), rfl, rfl⟩
 ·refine X.skip (X.seq (X.seq (X.region ?_)))
  refine XL.cons (XOp.fieldP (b := b1) (1) Try.runUnderlying119 rfl Try.sizeOf2 (by decide) rfl rfl ?_)
  refine XL.cons (XOp.load1 (v := .int .i64 (j)) Try.isAgg2 rfl (Rd.own [_] rfl rfl) ?_)
  refine XL.cons (XOp.fieldP (b := b2) (1) Try.runUnderlying119 rfl Try.sizeOf2 (by decide) rfl rfl ?_)
  refine XL.cons (XOp.load1 (v := .int .i64 (q)) Try.isAgg2 rfl (Rd.own [] rfl rfl) ?_)
  refine XL.cons (XOp.neq (a := j) (b := q) rfl rfl ?_)
  refine XL.nil ?_
  refine X.condD (p := (j : Int) ≠ q) rfl (fun h2 => ?_) (fun h2 => ?_)
  ·refine X.seq (X.region ?_)
   refine XL.as (.bool (false)) rfl ?_
   refine XL.nil ?_
   refine X.ret (thenQ_ret (retEnd (L' := L) [.bool (false)] (.bool (false)) (.tmp rfl .nil) rfl rF rF (Sub.drop (Sub.drop sR)) ?_))
   exact ⟨(vB (decide_eq_false (by intro e; simp_all))), rfl, rfl⟩
  ·refine X.skip (X.seq (X.seq (X.region ?_)))
   refine XL.cons (XOp.fieldP (b := b1) (2) Try.runUnderlying119 rfl Try.sizeOf22 (by decide) rfl rfl ?_)
   refine XL.cons (XOp.load1 (v := av) Try.isAgg22 rfl (Rd.own [_] rfl rfl) ?_)
   refine XL.cons (XOp.fieldP (b := b2) (2) Try.runUnderlying119 rfl Try.sizeOf22 (by decide) rfl rfl ?_)
   refine XL.cons (XOp.load1 (v := bv) Try.isAgg22 rfl (Rd.own [] rfl rfl) ?_)
   refine XL.cons (XOp.call (args := [av, bv]) Try.call22 rfl (eqInt64S_spec ha hb (hbd := (by first | assumption | rfl | omega | (left; simp; done) | (right; simp; done)))) ?_)
   rintro _ _ _ _ ⟨rfl, rfl, rfl⟩
   refine XL.cons (XOp.notD (p := a = b) rfl ?_)
   refine XL.nil ?_
   refine X.condD (p := ¬(a = b)) rfl (fun h3 => ?_) (fun h3 => ?_)
   ·refine X.seq (X.region ?_)
    refine XL.as (.bool (false)) rfl ?_
    refine XL.nil ?_
    refine X.ret (thenQ_ret (retEnd (L' := L) [.bool (false)] (.bool (false)) (.tmp rfl .nil) rfl rF rF (Sub.drop (Sub.drop sR)) ?_))
    exact ⟨(vB (decide_eq_false (by intro e; simp_all))), rfl, rfl⟩
   ·refine X.skip (X.seq (X.region ?_))
    refine XL.as (.bool (true)) rfl ?_
    refine XL.nil ?_
    refine X.ret (retEnd (L' := L) [.bool (true)] (.bool (true)) (.tmp rfl .nil) rfl rF rF (Sub.drop (Sub.drop sR)) ?_)
    exact ⟨(vB (decide_eq_true (by simp_all))), rfl, rfl⟩

/- laws.eqStepS -/
theorem eqStepS_spec {F : FH} {L : List HP} {av : Value} {a : List StepT} (ha : StepsF F av a) {bv : Value} {b : List StepT} (hb : StepsF F bv b) (hal : a.length ≤ 9223372036854775807) (hbd : ∀ i, i < a.length → (a.getD i (0, 0, [])).2.2.length ≤ 9223372036854775807) :
    Does Try.prog 93 [av, bv] F (L) (fun v F' L' => (.bool (decide (a = b)) : Value) = v ∧ F = F' ∧ L = L') := by
 refine Does.of_X Try.func93 rfl rfl rfl ?_
 refine X.seq (X.region ?_)
 refine XL.as (.bool (false)) rfl ?_
 refine XL.nil (X.seq (X.seq (X.region ?_)))
 refine XL.mv (av) rfl ?_
 refine XL.cons (XOp.lenS (v := av) (n := (a).length) Try.runUnderlying71 rfl ha.slv ?_)
 refine XL.mv (bv) rfl ?_
 refine XL.cons (XOp.lenS (v := bv) (n := (b).length) Try.runUnderlying71 rfl hb.slv ?_)
 refine XL.cons (XOp.neq (a := (a.length : Int)) (b := (b.length : Int)) rfl rfl ?_)
 refine XL.nil ?_
 refine X.condD (p := ((a.length : Int) : Int) ≠ (b.length : Int)) rfl (fun h1 => ?_) (fun h1 => ?_)
 ·refine X.seq (X.region ?_)
  refine XL.as (.bool (false)) rfl ?_
  refine XL.nil ?_
  refine X.ret (thenQ_ret (retEnd (L' := L) [.bool (false)] (.bool (false)) (.tmp rfl .nil) rfl rF rF sR ?_))
  exact ⟨(vB (decide_eq_false (fun e => by rw [e] at h1; omega))), rfl, rfl⟩
 ·refine X.skip (X.seq (X.seq (X.region ?_)))
  refine XL.as (.int .i64 (0)) rfl ?_
  refine XL.nil (X.block ?_)
  refine X.loop (α := Nat) (fun k => [(0, av), (1, bv), (5, .int .i64 ((k : Int)))]) (fun k => L) (fun k F' => F = F' ∧ (k ≤ a.length) ∧ (∀ i, i < k → a.getD i ((0 : Int), (0 : Int), ([] : List Int)) = b.getD i ((0 : Int), (0 : Int), ([] : List Int)))) (fun k => a.length - k) 0 ⟨rfl, rfl, rfl, trivial⟩ sR ⟨rfl, (by (try dsimp only) <;> omega), (fun i hi => absurd hi (by omega))⟩ ?_
  rintro k rE _ _ ⟨rfl, hk, hall⟩
  show X _ _ _ _ (envs [(0, av), (1, bv), (5, .int .i64 ((k : Int)))] rE) _ (L)
  have hbk := hbd k
  refine X.seq (X.seq (X.region ?_))
  refine XL.mv (.int .i64 ((k : Int))) rfl ?_
  refine XL.mv (av) rfl ?_
  refine XL.cons (XOp.lenS (v := av) (n := (a).length) Try.runUnderlying71 rfl ha.slv ?_)
  refine XL.cons (XOp.lss (a := (k : Int)) (b := (a.length : Int)) rfl rfl ?_)
  refine XL.nil ?_
  refine X.condD (p := (k : Int) < (a.length : Int)) rfl (fun h2 => ?_) (fun h2 => ?_)
  ·refine X.skip (X.seq (X.block (X.seq ?_)))
   obtain ⟨a1, ha1, hr1, hr2, hr3⟩ := ha.rd (i := k) (by omega)
   obtain ⟨a2, ha2, hr4, hr5, hr6⟩ := hb.rd (i := k) (by omega)
   refine X.draw [] L 8 [[], [], [], [], [], [], [], []] [[], [], [0, 1], [2], [], [], [4, 5], [6]] (phiL [fun us v => v = av, fun us v => v = (.int .i64 ((k : Int)) : Value), fun us v => v = (.pointer (some (elemA av (k * 3))) : Value), fun us v => v = (.agg #[.int .i64 ((a.getD k (0, 0, [])).1), .int .i64 ((a.getD k (0, 0, [])).2.1), a1] : Value), fun us v => v = bv, fun us v => v = (.int .i64 ((k : Int)) : Value), fun us v => v = (.pointer (some (elemA bv (k * 3))) : Value), fun us v => v = (.agg #[.int .i64 ((b.getD k (0, 0, [])).1), .int .i64 ((b.getD k (0, 0, [])).2.1), a2] : Value)]) (ownL [fun us v => [], fun us v => [], fun us v => [], fun us v => [], fun us v => [], fun us v => [], fun us v => [], fun us v => []]) mixed rfl rfl (by kernel_rfl) ?_ ?_
   ·refine stepsP.cons (fun vals R hpZ => ?_) ?_
    ·refine XG.op (XOp.move (av) rfl ?_)
     exact ⟨rfl, rfl, rfl⟩
    refine stepsP.cons (fun vals R hpZ => ?_) ?_
    ·refine XG.op (XOp.move (.int .i64 ((k : Int))) rfl ?_)
     exact ⟨rfl, rfl, rfl⟩
    refine stepsP.cons (fun vals R hpZ => ?_) ?_
    ·rw [eS (l := [(0, av), (1, (.int .i64 ((k : Int)) : Value))]) ⟨hpZ 0 (by decide), hpZ 1 (by decide), trivial⟩]
     refine XG.op (XOp.indexS (v := av) (i := (k : Int)) (n := (a).length) k Try.runUnderlying71 Try.sizeOf119 rfl rfl rfl ha.slv (by omega) rfl ?_)
     exact ⟨rfl, rfl, rfl⟩
    refine stepsP.cons (fun vals R hpZ => ?_) ?_
    ·rw [eS (l := [(2, (.pointer (some (elemA av (k * 3))) : Value))]) ⟨hpZ 2 (by decide), trivial⟩]
     refine XG.op (XOp.loadN [.int .i64 ((a.getD k (0, 0, [])).1), .int .i64 ((a.getD k (0, 0, [])).2.1), a1] Try.isAgg119 Try.sizeOf119 rfl rfl (Rd.three (hr1 _) (hr2 _) (hr3 _)) ?_)
     exact ⟨rfl, rfl, rfl⟩
    refine stepsP.cons (fun vals R hpZ => ?_) ?_
    ·refine XG.op (XOp.move (bv) rfl ?_)
     exact ⟨rfl, rfl, rfl⟩
    refine stepsP.cons (fun vals R hpZ => ?_) ?_
    ·refine XG.op (XOp.move (.int .i64 ((k : Int))) rfl ?_)
     exact ⟨rfl, rfl, rfl⟩
    refine stepsP.cons (fun vals R hpZ => ?_) ?_
    ·rw [eS (l := [(4, bv), (5, (.int .i64 ((k : Int)) : Value))]) ⟨hpZ 4 (by decide), hpZ 5 (by decide), trivial⟩]
     refine XG.op (XOp.indexS (v := bv) (i := (k : Int)) (n := (b).length) k Try.runUnderlying71 Try.sizeOf119 rfl rfl rfl hb.slv (by omega) rfl ?_)
     exact ⟨rfl, rfl, rfl⟩
    refine stepsP.cons (fun vals R hpZ => ?_) ?_
    ·rw [eS (l := [(6, (.pointer (some (elemA bv (k * 3))) : Value))]) ⟨hpZ 6 (by decide), trivial⟩]
     refine XG.op (XOp.loadN [.int .i64 ((b.getD k (0, 0, [])).1), .int .i64 ((b.getD k (0, 0, [])).2.1), a2] Try.isAgg119 Try.sizeOf119 rfl rfl (Rd.three (hr4 _) (hr5 _) (hr6 _)) ?_)
     exact ⟨rfl, rfl, rfl⟩
    exact stepsP.nil
   ·intro vals hphi
    rw [eS (l := [(0, av), (1, (.int .i64 ((k : Int)) : Value)), (2, (.pointer (some (elemA av (k * 3))) : Value)), (3, (.agg #[.int .i64 ((a.getD k (0, 0, [])).1), .int .i64 ((a.getD k (0, 0, [])).2.1), a1] : Value)), (4, bv), (5, (.int .i64 ((k : Int)) : Value)), (6, (.pointer (some (elemA bv (k * 3))) : Value)), (7, (.agg #[.int .i64 ((b.getD k (0, 0, [])).1), .int .i64 ((b.getD k (0, 0, [])).2.1), a2] : Value))]) ⟨(hphi 0 (by decide)), (hphi 1 (by decide)), (hphi 2 (by decide)), (hphi 3 (by decide)), (hphi 4 (by decide)), (hphi 5 (by decide)), (hphi 6 (by decide)), (hphi 7 (by decide)), trivial⟩]
    show XL _ _ _ _ _ _ _ (L)
    refine XL.cons (XOp.call (args := [.agg #[.int .i64 ((a.getD k (0, 0, [])).1), .int .i64 ((a.getD k (0, 0, [])).2.1), a1], .agg #[.int .i64 ((b.getD k (0, 0, [])).1), .int .i64 ((b.getD k (0, 0, [])).2.1), a2]]) Try.call147 rfl (eqStep_spec ha1 ha2 (hbd := (.inl (hbk (by omega))))) ?_)
    rintro _ _ _ _ ⟨rfl, rfl, rfl⟩
    refine XL.cons (XOp.notD (p := (((a.getD k (0, 0, [])).1), ((a.getD k (0, 0, [])).2.1), ((a.getD k (0, 0, [])).2.2)) = (((b.getD k (0, 0, [])).1), ((b.getD k (0, 0, [])).2.1), ((b.getD k (0, 0, [])).2.2))) rfl ?_)
    refine XL.nil ?_
    refine X.condD (p := ¬((((a.getD k (0, 0, [])).1), ((a.getD k (0, 0, [])).2.1), ((a.getD k (0, 0, [])).2.2)) = (((b.getD k (0, 0, [])).1), ((b.getD k (0, 0, [])).2.1), ((b.getD k (0, 0, [])).2.2)))) rfl (fun h3 => ?_) (fun h3 => ?_)
    ·refine X.seq (X.region ?_)
     refine XL.as (.bool (false)) rfl ?_
     refine XL.nil ?_
     refine X.ret (blockQ_ret (thenQ_ret (thenQ_ret (blockQ_ret (thenQ_ret (retEnd (L' := L) [.bool (false)] (.bool (false)) (.tmp rfl .nil) rfl rF rF sR ?_))))))
     exact ⟨(vB (decide_eq_false (fun e => by subst e; simp at *))), rfl, rfl⟩
    ·refine X.skip (X.region ?_)
     refine XL.mv (.int .i64 ((k : Int))) rfl ?_
     refine XL.cons (XOp.addR (a := (k : Int)) (b := 1) (((k + 1 : Nat) : Int)) rfl rfl (by omega) (by omega) ?_)
     refine XL.as (.int .i64 (((k + 1 : Nat) : Int))) rfl ?_
     refine XL.nil ?_
     exact ⟨k + 1, _, FLe.refl _, rF, ⟨rfl, rfl, rfl, trivial⟩, sR, ⟨rfl, (by (try dsimp only) <;> omega), (fun i hi => (Nat.lt_or_ge i k).elim (fun h => hall i h) (fun h => by obtain rfl : i = k := (by omega); first | assumption | exact Classical.not_not.1 (by assumption)))⟩, (by omega)⟩
  ·refine X.exit (thenQ_exit (thenQ_exit (blockQ_exit ?_)))
   refine X.seq (X.region ?_)
   refine XL.as (.bool (true)) rfl ?_
   refine XL.nil ?_
   refine X.ret (retEnd (L' := L) [.bool (true)] (.bool (true)) (.tmp rfl .nil) rfl rF rF sR ?_)
   exact ⟨(vB (decide_eq_true (ext_any ((0 : Int), (0 : Int), ([] : List Int)) (by omega) (fun i hi => hall i (by omega))))), rfl, rfl⟩

/- laws.eqWalk -/
theorem eqWalk_spec {F : FH} {L : List HP} {fv : Value} {f : List Int} (hf : IntsF F fv f) {av : Value} {a : List StepT} (ha : StepsF F av a) {gv : Value} {g : List Int} (hg : IntsF F gv g) {bv : Value} {b : List StepT} (hb : StepsF F bv b) (hfl : f.length ≤ 9223372036854775807) (hal : a.length ≤ 9223372036854775807) (hbd : ∀ i, i < a.length → (a.getD i (0, 0, [])).2.2.length ≤ 9223372036854775807) :
    Does Try.prog 39 [.agg #[fv, av], .agg #[gv, bv]] F (L) (fun v F' L' => (.bool (decide (f = g ∧ a = b)) : Value) = v ∧ F = F' ∧ L = L') := by
 refine Does.of_X Try.func39 rfl rfl rfl ?_
 refine X.seq (X.region ?_)
 refine XL.cons (XOp.box [fv, av] rfl rfl ?_)
 intro b1
 refine XL.cons (XOp.box [gv, bv] rfl rfl ?_)
 intro b2
 refine XL.as (.bool (false)) rfl ?_
 refine XL.nil (X.seq (X.seq (X.region ?_)))
 refine XL.cons (XOp.fieldP (b := b1) (0) Try.runUnderlying73 rfl Try.sizeOf22 (by decide) rfl rfl ?_)
 refine XL.cons (XOp.load1 (v := fv) Try.isAgg22 rfl (Rd.own [_] rfl rfl) ?_)
 refine XL.cons (XOp.fieldP (b := b2) (0) Try.runUnderlying73 rfl Try.sizeOf22 (by decide) rfl rfl ?_)
 refine XL.cons (XOp.load1 (v := gv) Try.isAgg22 rfl (Rd.own [] rfl rfl) ?_)
 refine XL.cons (XOp.call (args := [fv, gv]) Try.call22 rfl (eqInt64S_spec hf hg (hbd := (.inl hfl))) ?_)
 rintro _ _ _ _ ⟨rfl, rfl, rfl⟩
 refine XL.cons (XOp.notD (p := f = g) rfl ?_)
 refine XL.nil ?_
 refine X.condD (p := ¬(f = g)) rfl (fun h1 => ?_) (fun h1 => ?_)
 ·refine X.seq (X.region ?_)
  refine XL.as (.bool (false)) rfl ?_
  refine XL.nil ?_
  refine X.ret (thenQ_ret (retEnd (L' := L) [.bool (false)] (.bool (false)) (.tmp rfl .nil) rfl rF rF (Sub.drop (Sub.drop sR)) ?_))
  exact ⟨(vB (decide_eq_false (by intro e; simp_all))), rfl, rfl⟩
 ·refine X.skip (X.seq (X.seq (X.region ?_)))
  refine XL.cons (XOp.fieldP (b := b1) (1) Try.runUnderlying73 rfl Try.sizeOf71 (by decide) rfl rfl ?_)
  refine XL.cons (XOp.load1 (v := av) Try.isAgg71 rfl (Rd.own [_] rfl rfl) ?_)
  refine XL.cons (XOp.fieldP (b := b2) (1) Try.runUnderlying73 rfl Try.sizeOf71 (by decide) rfl rfl ?_)
  refine XL.cons (XOp.load1 (v := bv) Try.isAgg71 rfl (Rd.own [] rfl rfl) ?_)
  refine XL.cons (XOp.call (args := [av, bv]) Try.call93 rfl (eqStepS_spec ha hb (hal := (by first | assumption | rfl | omega | simp)) (hbd := (by first | assumption | rfl | omega | simp))) ?_)
  rintro _ _ _ _ ⟨rfl, rfl, rfl⟩
  refine XL.cons (XOp.notD (p := a = b) rfl ?_)
  refine XL.nil ?_
  refine X.condD (p := ¬(a = b)) rfl (fun h2 => ?_) (fun h2 => ?_)
  ·refine X.seq (X.region ?_)
   refine XL.as (.bool (false)) rfl ?_
   refine XL.nil ?_
   refine X.ret (thenQ_ret (retEnd (L' := L) [.bool (false)] (.bool (false)) (.tmp rfl .nil) rfl rF rF (Sub.drop (Sub.drop sR)) ?_))
   exact ⟨(vB (decide_eq_false (by intro e; simp_all))), rfl, rfl⟩
  ·refine X.skip (X.seq (X.region ?_))
   refine XL.as (.bool (true)) rfl ?_
   refine XL.nil ?_
   refine X.ret (retEnd (L' := L) [.bool (true)] (.bool (true)) (.tmp rfl .nil) rfl rF rF (Sub.drop (Sub.drop sR)) ?_)
   exact ⟨(vB (decide_eq_true (by simp_all))), rfl, rfl⟩

/- impl.stepArgs -/
theorem stepArgs_spec {F : FH} {L : List HP} {arv : Value} {ar : List Int} (har : IntsF F arv ar) {rsv : Value} {rs : List (List Int × List Int)} (hrs : PairsF F rsv rs) {tv : Value} {t : List Int} (ht : IntsF F tv t) {p : Int} {r : Int} :
    Does Try.prog 166 [.agg #[arv, rsv], tv, .int .i64 (p), .int .i64 (r)] F (L) (fun v F' L' => (.bool (stepAtOk ar rs t p r) : Value) = v ∧ F = F' ∧ L = L') := by
 refine Does.of_X Try.func166 rfl rfl rfl ?_
 refine X.seq (X.region ?_)
 refine XL.cons (XOp.box [arv, rsv] rfl rfl ?_)
 intro b1
 refine XL.as (.bool (false)) rfl ?_
 refine XL.nil (X.seq (X.region ?_))
 refine XL.cons (XOp.loadN [arv, rsv] Try.isAgg36 Try.sizeOf36 rfl rfl (Rd.ownN [] rfl rfl) ?_)
 refine XL.cons (XOp.call (args := [.agg #[arv, rsv]]) Try.call65 rfl (SystemOk_spec har hrs) ?_)
 rintro _ _ _ _ ⟨rfl, rfl, rfl⟩
 refine XL.mv (.bool (sysOk ar rs)) rfl ?_
 by_cases h1 : (sysOk ar rs) = true
 ·refine XL.yes (t := 11) rfl (vB h1) (XOp.fieldP (b := b1) (0) Try.runUnderlying36 rfl Try.sizeOf33 (by decide) rfl rfl ?_)
  refine XL.yes (t := 11) rfl (vB h1) (XOp.loadN [arv] Try.isAgg33 Try.sizeOf33 rfl rfl (Rd.ownN [] rfl rfl) ?_)
  refine XL.yes (t := 11) rfl (vB h1) (XOp.move (tv) rfl ?_)
  refine XL.yes (t := 11) rfl (vB h1) (XOp.move (.int .i64 (p)) rfl ?_)
  refine XL.yes (t := 11) rfl (vB h1) (XOp.call (args := [.agg #[arv], tv, .int .i64 (p)]) Try.call189 rfl (posOk_spec (n := p) har ht) ?_)
  rintro _ _ _ _ ⟨rfl, rfl, rfl⟩
  refine XL.cons (XOp.pickT (.bool (posOk ar t p)) (vB h1) rfl ?_)
  refine XL.mv (.bool (posOk ar t p)) rfl ?_
  by_cases h2 : (posOk ar t p) = true
  ·refine XL.yes (t := 18) rfl (vB h2) (XOp.move (.int .i64 (r)) rfl ?_)
   refine XL.yes (t := 18) rfl (vB h2) (XOp.geq (a := r) (b := 0) rfl rfl ?_)
   refine XL.cons (XOp.pickT (.bool (decide ((r : Int) ≥ 0))) (vB h2) rfl ?_)
   refine XL.mv (.bool (decide ((r : Int) ≥ 0))) rfl ?_
   by_cases h3 : (r : Int) ≥ 0
   ·refine XL.yes (t := 22) rfl (vT h3) (XOp.move (.int .i64 (r)) rfl ?_)
    refine XL.yes (t := 22) rfl (vT h3) (XOp.fieldP (b := b1) (1) Try.runUnderlying36 rfl Try.sizeOf34 (by decide) rfl rfl ?_)
    refine XL.yes (t := 22) rfl (vT h3) (XOp.load1 (v := rsv) Try.isAgg34 rfl (Rd.own [] rfl rfl) ?_)
    refine XL.yes (t := 22) rfl (vT h3) (XOp.lenS (v := rsv) (n := (rs).length) Try.runUnderlying34 rfl hrs.slv ?_)
    refine XL.yes (t := 22) rfl (vT h3) (XOp.lss (a := r) (b := (rs.length : Int)) rfl rfl ?_)
    refine XL.cons (XOp.pickT (.bool (decide ((r : Int) < (rs.length : Int)))) (vT h3) rfl ?_)
    refine XL.as (.bool (decide ((r : Int) < (rs.length : Int)))) rfl ?_
    refine XL.nil ?_
    refine X.ret (retEnd (L' := L) [.bool (decide ((r : Int) < (rs.length : Int)))] (.bool (decide ((r : Int) < (rs.length : Int)))) (.tmp rfl .nil) rfl rF rF (Sub.drop sR) ?_)
    exact ⟨(vB (by unfold stepAtOk rightB; cases hA : sysOk ar rs <;> cases hB : termOk ar t <;> simp_all [posOk] <;> omega)), rfl, rfl⟩
   ·refine XL.no (t := 22) rfl (vF h3) ?_
    refine XL.no (t := 22) rfl (vF h3) ?_
    refine XL.no (t := 22) rfl (vF h3) ?_
    refine XL.no (t := 22) rfl (vF h3) ?_
    refine XL.no (t := 22) rfl (vF h3) ?_
    refine XL.cons (XOp.pickF (.bool (false)) (vF h3) rfl ?_)
    refine XL.as (.bool (false)) rfl ?_
    refine XL.nil ?_
    refine X.ret (retEnd (L' := L) [.bool (false)] (.bool (false)) (.tmp rfl .nil) rfl rF rF (Sub.drop sR) ?_)
    exact ⟨(vB (by unfold stepAtOk rightB; cases hA : sysOk ar rs <;> cases hB : termOk ar t <;> simp_all [posOk] <;> omega)), rfl, rfl⟩
  ·rw [Bool.not_eq_true] at h2
   refine XL.no (t := 18) rfl (vB h2) ?_
   refine XL.no (t := 18) rfl (vB h2) ?_
   refine XL.cons (XOp.pickF (.bool (false)) (vB h2) rfl ?_)
   refine XL.mv (.bool (false)) rfl ?_
   refine XL.no (t := 22) rfl rfl ?_
   refine XL.no (t := 22) rfl rfl ?_
   refine XL.no (t := 22) rfl rfl ?_
   refine XL.no (t := 22) rfl rfl ?_
   refine XL.no (t := 22) rfl rfl ?_
   refine XL.cons (XOp.pickF (.bool (false)) rfl rfl ?_)
   refine XL.as (.bool (false)) rfl ?_
   refine XL.nil ?_
   refine X.ret (retEnd (L' := L) [.bool (false)] (.bool (false)) (.tmp rfl .nil) rfl rF rF (Sub.drop sR) ?_)
   exact ⟨(vB (by unfold stepAtOk rightB; cases hA : sysOk ar rs <;> cases hB : termOk ar t <;> simp_all [posOk] <;> omega)), rfl, rfl⟩
 ·rw [Bool.not_eq_true] at h1
  refine XL.no (t := 11) rfl (vB h1) ?_
  refine XL.no (t := 11) rfl (vB h1) ?_
  refine XL.no (t := 11) rfl (vB h1) ?_
  refine XL.no (t := 11) rfl (vB h1) ?_
  refine XL.no (t := 11) rfl (vB h1) ?_
  refine XL.cons (XOp.pickF (.bool (false)) (vB h1) rfl ?_)
  refine XL.mv (.bool (false)) rfl ?_
  refine XL.no (t := 18) rfl rfl ?_
  refine XL.no (t := 18) rfl rfl ?_
  refine XL.cons (XOp.pickF (.bool (false)) rfl rfl ?_)
  refine XL.mv (.bool (false)) rfl ?_
  refine XL.no (t := 22) rfl rfl ?_
  refine XL.no (t := 22) rfl rfl ?_
  refine XL.no (t := 22) rfl rfl ?_
  refine XL.no (t := 22) rfl rfl ?_
  refine XL.no (t := 22) rfl rfl ?_
  refine XL.cons (XOp.pickF (.bool (false)) rfl rfl ?_)
  refine XL.as (.bool (false)) rfl ?_
  refine XL.nil ?_
  refine X.ret (retEnd (L' := L) [.bool (false)] (.bool (false)) (.tmp rfl .nil) rfl rF rF (Sub.drop sR) ?_)
  exact ⟨(vB (by unfold stepAtOk rightB; cases hA : sysOk ar rs <;> cases hB : termOk ar t <;> simp_all [posOk] <;> omega)), rfl, rfl⟩

/- impl.StepAt -/
theorem StepAt_spec {F : FH} {L : List HP} {arv : Value} {ar : List Int} (har : IntsF F arv ar) {rsv : Value} {rs : List (List Int × List Int)} (hrs : PairsF F rsv rs) {tv : Value} {t : List Int} (ht : IntsF F tv t) {p : Int} {r : Int} :
    Does Try.prog 121 [.agg #[arv, rsv], tv, .int .i64 (p), .int .i64 (r)] F (L) (fun v F' L' => ∃ (a : Value), (.tuple #[a, .bool ((stepAtL ar rs t p r).isSome)] : Value) = v ∧ (IntsF F' a ((stepAtL ar rs t p r).getD [])) ∧ (Fresh F F' (intsH 2 a ((stepAtL ar rs t p r).getD []))) ∧ L = L') := by
 refine Does.of_X Try.func121 rfl rfl rfl ?_
 refine X.seq (X.region ?_)
 refine XL.cons (XOp.box [arv, rsv] rfl rfl ?_)
 intro b1
 refine XL.as ((.slice none 0 0)) rfl ?_
 refine XL.as (.bool (false)) rfl ?_
 refine XL.nil (X.seq (X.seq (X.region ?_)))
 refine XL.cons (XOp.loadN [arv, rsv] Try.isAgg36 Try.sizeOf36 rfl rfl (Rd.ownN [] rfl rfl) ?_)
 refine XL.mv (tv) rfl ?_
 refine XL.mv (.int .i64 (p)) rfl ?_
 refine XL.mv (.int .i64 (r)) rfl ?_
 refine XL.cons (XOp.call (args := [.agg #[arv, rsv], tv, .int .i64 (p), .int .i64 (r)]) Try.call166 rfl (stepArgs_spec (p := p) (r := r) har hrs ht) ?_)
 rintro _ _ _ _ ⟨rfl, rfl, rfl⟩
 refine XL.cons (XOp.notB (b := stepAtOk ar rs t p r) rfl ?_)
 refine XL.nil ?_
 refine X.cond (t := !(stepAtOk ar rs t p r)) rfl (fun h1 => ?_) (fun h1 => ?_)
 ·have hz0 : stepAtL ar rs t p r = none := by rw [stepAtL, if_neg (by simpa using h1)]
  refine X.seq (X.region ?_)
  refine XL.as ((.slice none 0 0)) rfl ?_
  refine XL.as (.bool (false)) rfl ?_
  refine XL.nil ?_
  refine X.ret (thenQ_ret (retEnd (L' := L) [(.slice none 0 0), .bool (false)] (.tuple #[(.slice none 0 0), .bool (false)]) (.tmp rfl (.tmp rfl .nil)) rfl rF rF (Sub.drop sR) ?_))
  exact ⟨_, by rw [hz0]; rfl, by rw [hz0]; exact IntsF.nilV, by rw [hz0]; exact Fresh.ofNil _, rfl⟩
 ·have hok : stepAtOk ar rs t p r = true := by simpa using h1
  have hok2 := hok
  unfold stepAtOk rightB at hok2
  simp only [Bool.and_eq_true, decide_eq_true_eq] at hok2
  obtain ⟨⟨⟨hsys, ho⟩, hp1⟩, hr1⟩ := hok2
  refine X.skip (X.seq (X.region ?_))
  refine XL.cons (XOp.loadN [arv, rsv] Try.isAgg36 Try.sizeOf36 rfl rfl (Rd.ownN [] rfl rfl) ?_)
  refine XL.mv (tv) rfl ?_
  refine XL.mv (.int .i64 (p)) rfl ?_
  refine XL.mv (.int .i64 (r)) rfl ?_
  refine XL.cons (XOp.call (args := [.agg #[arv, rsv], tv, .int .i64 (((p).toNat : Nat) : Int), .int .i64 (((r).toNat : Nat) : Int)]) Try.call167 (by rw [show (((p).toNat : Nat) : Int) = p from by omega, show (((r).toNat : Nat) : Int) = r from by omega]; rfl) (step_spec (p := (p).toNat) (r := (r).toNat) har hrs ht (hsys := (by first | assumption | rfl | omega | simp)) (ho := (by first | assumption | rfl | omega | simp)) (hp := (by first | assumption | rfl | omega | simp)) (hr := (by first | assumption | rfl | omega | simp))) ?_)
  rintro _ F1 _ le1 ⟨x1, rfl, hr1, hr2, hr3, rfl⟩
  replace har := har.mono le1
  replace hrs := hrs.mono le1
  replace ht := ht.mono le1
  refine XL.cons (XOp.extract (x1) rfl rfl ?_)
  refine XL.cons (XOp.extract (.bool ((stepL ar rs t ((p).toNat) ((r).toNat)).isSome)) rfl rfl ?_)
  refine XL.as (x1) rfl ?_
  refine XL.as (.bool ((stepL ar rs t ((p).toNat) ((r).toNat)).isSome)) rfl ?_
  refine XL.nil ?_
  refine X.ret (retEnd (L' := L) [x1, .bool ((stepL ar rs t ((p).toNat) ((r).toNat)).isSome)] (.tuple #[x1, .bool ((stepL ar rs t ((p).toNat) ((r).toNat)).isSome)]) (.tmp rfl (.tmp rfl .nil)) rfl le1 rF (Sub.drop sR) ?_)
  have e := show stepAtL ar rs t p r = stepL ar rs t p.toNat r.toNat from by rw [stepAtL, if_pos hok]
  exact ⟨_, by rw [e], by rw [e]; exact hr1, by rw [e]; exact hr3, rfl⟩
end Go.Proofs.Ytnloeeaidknblaa
set_option linter.unusedSimpArgs false
set_option linter.unusedVariables false
namespace Go.Proofs.Ytnloeeaidknblaa
open Go X M

/- impl.walkOk -/
theorem walkOk_spec {F : FH} {L : List HP} {arv : Value} {ar : List Int} (har : IntsF F arv ar) {rsv : Value} {rs : List (List Int × List Int)} (hrs : PairsF F rsv rs) {fv : Value} {f : List Int} (hf : IntsF F fv f) {ssv : Value} {ss : List StepT} (hss : StepsF F ssv ss) (hlf : f.length ≤ 4000000) (hsb : ∀ i, i < ss.length → (ss.getD i (0, 0, [])).2.2.length ≤ 4000000) :
    Does Try.prog 143 [.agg #[arv, rsv], .agg #[fv, ssv]] F (L) (fun v F' L' => (.bool (((termOk ar f && decide (ss.length ≤ 60)) && goOk ar rs f ss)) : Value) = v ∧ F = F' ∧ L = L') := by
 refine Does.of_X Try.func143 rfl rfl rfl ?_
 refine X.seq (X.region ?_)
 refine XL.cons (XOp.box [arv, rsv] rfl rfl ?_)
 intro b1
 refine XL.cons (XOp.box [fv, ssv] rfl rfl ?_)
 intro b2
 refine XL.as (.bool (false)) rfl ?_
 refine XL.nil (X.seq (X.seq (X.region ?_)))
 refine XL.cons (XOp.fieldP (b := b1) (0) Try.runUnderlying36 rfl Try.sizeOf33 (by decide) rfl rfl ?_)
 refine XL.cons (XOp.loadN [arv] Try.isAgg33 Try.sizeOf33 rfl rfl (Rd.ownN [_] rfl rfl) ?_)
 refine XL.cons (XOp.fieldP (b := b2) (0) Try.runUnderlying73 rfl Try.sizeOf22 (by decide) rfl rfl ?_)
 refine XL.cons (XOp.load1 (v := fv) Try.isAgg22 rfl (Rd.own [] rfl rfl) ?_)
 refine XL.cons (XOp.call (args := [.agg #[arv], fv]) Try.call130 rfl (TermOk_spec har hf) ?_)
 rintro _ _ _ _ ⟨rfl, rfl, rfl⟩
 refine XL.cons (XOp.notB (b := termOk ar f) rfl ?_)
 refine XL.mv (.bool (!(termOk ar f))) rfl ?_
 by_cases h1 : (!(termOk ar f)) = true
 ·refine XL.no (t := 16) rfl (vB h1) ?_
  refine XL.no (t := 16) rfl (vB h1) ?_
  refine XL.no (t := 16) rfl (vB h1) ?_
  refine XL.no (t := 16) rfl (vB h1) ?_
  refine XL.cons (XOp.pickT (.bool (true)) (vB h1) rfl ?_)
  refine XL.nil ?_
  refine X.condT rfl ?_
  refine X.seq (X.region ?_)
  refine XL.as (.bool (false)) rfl ?_
  refine XL.nil ?_
  refine X.ret (thenQ_ret (retEnd (L' := L) [.bool (false)] (.bool (false)) (.tmp rfl .nil) rfl rF rF (Sub.drop (Sub.drop sR)) ?_))
  exact ⟨(vB (by simp_all <;> omega)), rfl, rfl⟩
 ·rw [Bool.not_eq_true] at h1
  refine XL.yes (t := 16) rfl (vB h1) (XOp.fieldP (b := b2) (1) Try.runUnderlying73 rfl Try.sizeOf71 (by decide) rfl rfl ?_)
  refine XL.yes (t := 16) rfl (vB h1) (XOp.load1 (v := ssv) Try.isAgg71 rfl (Rd.own [] rfl rfl) ?_)
  refine XL.yes (t := 16) rfl (vB h1) (XOp.lenS (v := ssv) (n := (ss).length) Try.runUnderlying71 rfl hss.slv ?_)
  refine XL.yes (t := 16) rfl (vB h1) (XOp.gtr (a := (ss.length : Int)) (b := 60) rfl rfl ?_)
  refine XL.cons (XOp.pickF (.bool (decide (((ss.length : Int) : Int) > 60))) (vB h1) rfl ?_)
  refine XL.nil ?_
  refine X.condD (p := ((ss.length : Int) : Int) > 60) rfl (fun h2 => ?_) (fun h2 => ?_)
  ·refine X.seq (X.region ?_)
   refine XL.as (.bool (false)) rfl ?_
   refine XL.nil ?_
   refine X.ret (thenQ_ret (retEnd (L' := L) [.bool (false)] (.bool (false)) (.tmp rfl .nil) rfl rF rF (Sub.drop (Sub.drop sR)) ?_))
   exact ⟨(vB (by simp_all <;> omega)), rfl, rfl⟩
  ·refine X.skip (X.seq (X.region ?_))
   refine XL.cons (XOp.fieldP (b := b2) (0) Try.runUnderlying73 rfl Try.sizeOf22 (by decide) rfl rfl ?_)
   refine XL.cons (XOp.load1 (v := fv) Try.isAgg22 rfl (Rd.own [] rfl rfl) ?_)
   refine XL.as (fv) rfl ?_
   refine XL.nil (X.seq (X.seq (X.region ?_)))
   refine XL.cons (XOp.fieldP (b := b2) (1) Try.runUnderlying73 rfl Try.sizeOf71 (by decide) rfl rfl ?_)
   refine XL.cons (XOp.load1 (v := ssv) Try.isAgg71 rfl (Rd.own [] rfl rfl) ?_)
   refine XL.cons (XOp.lenS (v := ssv) (n := (ss).length) Try.runUnderlying71 rfl hss.slv ?_)
   refine XL.mv (.int .i64 (0)) rfl ?_
   refine XL.nil (X.block ?_)
   refine X.loop (α := Nat × Value × List Int × FH) (fun xQ => [(2, ptr b1 0), (5, xQ.2.1), (25, ssv), (26, .int .i64 ((ss.length : Int))), (27, .int .i64 (((xQ.1 : Nat) : Int)))]) (fun xQ => cellsH b2 [fv, ssv] 73 :: cellsH b1 [arv, rsv] 36 :: L) (fun xQ F' => xQ.2.2.2 = F' ∧ F ≤ xQ.2.2.2 ∧ (IntsF xQ.2.2.2 xQ.2.1 xQ.2.2.1) ∧ (xQ.1 ≤ ss.length) ∧ (goOk ar rs f ss = goOk ar rs xQ.2.2.1 (ss.drop xQ.1)) ∧ (xQ.2.2.1.length ≤ 4000000)) (fun xQ => ss.length - xQ.1) (0, fv, f, F) ⟨rfl, rfl, rfl, rfl, rfl, trivial⟩ (Sub.cons (Sub.cons sR)) ⟨rfl, FLe.refl _, (hf), (by (try dsimp only) <;> omega), (rfl), (hlf)⟩ ?_
   rintro ⟨k, cv, cur, G1⟩ rE _ _ ⟨rfl, leG, hcv, hk, hgo, hcl⟩
   show X _ _ _ _ (envs [(2, ptr b1 0), (5, cv), (25, ssv), (26, .int .i64 ((ss.length : Int))), (27, .int .i64 ((k : Int)))] rE) _ (cellsH b2 [fv, ssv] 73 :: cellsH b1 [arv, rsv] 36 :: L)
   replace leG : F ≤ G1 := leG
   dsimp only at hcv hk hgo hcl
   have hsk := hsb k
   have leG1 := leG
   replace har := har.mono leG1
   replace hrs := hrs.mono leG1
   replace hf := hf.mono leG1
   replace hss := hss.mono leG1
   refine X.seq (X.region ?_)
   refine XL.cons (XOp.lss (a := (k : Int)) (b := (ss.length : Int)) rfl rfl ?_)
   refine XL.nil (X.seq ?_)
   refine X.condD (p := (k : Int) < (ss.length : Int)) rfl (fun h3 => ?_) (fun h3 => ?_)
   ·refine X.skip (X.seq (X.block (X.seq (X.region ?_))))
    refine XL.cons (XOp.indexS (v := ssv) (i := (k : Int)) (n := (ss).length) k Try.runUnderlying71 Try.sizeOf119 rfl rfl rfl hss.slv (by omega) rfl ?_)
    obtain ⟨a1, ha1, hr1, hr2, hr3⟩ := hss.rd (i := k) (by omega)
    refine XL.cons (XOp.loadN [.int .i64 ((ss.getD k (0, 0, [])).1), .int .i64 ((ss.getD k (0, 0, [])).2.1), a1] Try.isAgg119 Try.sizeOf119 rfl rfl (Rd.three (hr1 _) (hr2 _) (hr3 _)) ?_)
    refine XL.cons (XOp.alloc [.int .i64 (0), .int .i64 (0), (.slice none 0 0)] Try.zeroValue119 rfl ?_)
    intro b3
    refine XL.cons (XOp.storeN (vs := [.int .i64 ((ss.getD k (0, 0, [])).1), .int .i64 ((ss.getD k (0, 0, [])).2.1), a1]) [] _ [.int .i64 ((ss.getD k (0, 0, [])).1), .int .i64 ((ss.getD k (0, 0, [])).2.1), a1] Try.sizeOf119 rfl rfl rfl (ones_cons rfl (ones_cons rfl (ones_cons (one_sl (IntsF.isSl ha1)) ones_nil))) rfl rfl rfl ?_)
    refine XL.nil (X.seq (X.region ?_))
    refine XL.cons (XOp.loadN [arv, rsv] Try.isAgg36 Try.sizeOf36 rfl rfl (Rd.ownN [_, _] rfl rfl) ?_)
    refine XL.mv (cv) rfl ?_
    refine XL.cons (XOp.fieldP (b := b3) (0) Try.runUnderlying119 rfl Try.sizeOf2 (by decide) rfl rfl ?_)
    refine XL.cons (XOp.load1 (v := .int .i64 ((ss.getD k (0, 0, [])).1)) Try.isAgg2 rfl (Rd.own [] rfl rfl) ?_)
    refine XL.cons (XOp.fieldP (b := b3) (1) Try.runUnderlying119 rfl Try.sizeOf2 (by decide) rfl rfl ?_)
    refine XL.cons (XOp.load1 (v := .int .i64 ((ss.getD k (0, 0, [])).2.1)) Try.isAgg2 rfl (Rd.own [] rfl rfl) ?_)
    refine XL.cons (XOp.call (args := [.agg #[arv, rsv], cv, .int .i64 ((ss.getD k (0, 0, [])).1), .int .i64 ((ss.getD k (0, 0, [])).2.1)]) Try.call121 rfl (StepAt_spec (p := (ss.getD k (0, 0, [])).1) (r := (ss.getD k (0, 0, [])).2.1) har hrs hcv) ?_)
    rintro _ F1 _ le1 ⟨x1, rfl, hr4, hr5, rfl⟩
    replace har := har.mono le1
    replace hrs := hrs.mono le1
    replace hf := hf.mono le1
    replace hss := hss.mono le1
    replace hcv := hcv.mono le1
    replace ha1 := ha1.mono le1
    replace hr1 := Rd.monoA hr1 le1
    replace hr2 := Rd.monoA hr2 le1
    replace hr3 := Rd.monoA hr3 le1
    refine XL.mv (.tuple #[x1, .bool ((stepAtL ar rs cur ((ss.getD k (0, 0, [])).1) ((ss.getD k (0, 0, [])).2.1)).isSome)]) rfl ?_
    refine XL.cons (XOp.extract (x1) rfl rfl ?_)
    refine XL.cons (XOp.extract (.bool ((stepAtL ar rs cur ((ss.getD k (0, 0, [])).1) ((ss.getD k (0, 0, [])).2.1)).isSome)) rfl rfl ?_)
    refine XL.as (x1) rfl ?_
    refine XL.as (.bool ((stepAtL ar rs cur ((ss.getD k (0, 0, [])).1) ((ss.getD k (0, 0, [])).2.1)).isSome)) rfl ?_
    refine XL.nil (X.seq (X.seq (X.region ?_)))
    refine XL.mv (.bool ((stepAtL ar rs cur ((ss.getD k (0, 0, [])).1) ((ss.getD k (0, 0, [])).2.1)).isSome)) rfl ?_
    refine XL.cons (XOp.notB (b := (stepAtL ar rs cur ((ss.getD k (0, 0, [])).1) ((ss.getD k (0, 0, [])).2.1)).isSome) rfl ?_)
    refine XL.mv (.bool (!((stepAtL ar rs cur ((ss.getD k (0, 0, [])).1) ((ss.getD k (0, 0, [])).2.1)).isSome))) rfl ?_
    by_cases h4 : (!((stepAtL ar rs cur ((ss.getD k (0, 0, [])).1) ((ss.getD k (0, 0, [])).2.1)).isSome)) = true
    ·have hu1 : (stepAtL ar rs cur (ss.getD k (0, 0, [])).1 (ss.getD k (0, 0, [])).2.1).isSome = false := by simpa using h4
     refine XL.no (t := 43) rfl (vB h4) ?_
     refine XL.no (t := 43) rfl (vB h4) ?_
     refine XL.no (t := 43) rfl (vB h4) ?_
     refine XL.no (t := 43) rfl (vB h4) ?_
     refine XL.no (t := 43) rfl (vB h4) ?_
     refine XL.cons (XOp.pickT (.bool (true)) (vB h4) rfl ?_)
     refine XL.nil ?_
     refine X.condT rfl ?_
     refine X.seq (X.region ?_)
     refine XL.as (.bool (false)) rfl ?_
     refine XL.nil ?_
     refine X.ret (thenQ_ret (blockQ_ret (thenQ_ret (thenQ_ret (blockQ_ret (thenQ_ret (retEnd (L' := L) [.bool (false)] (.bool (false)) (.tmp rfl .nil) rfl rF (FLe.trans leG1 le1) (Sub.drop (Sub.drop (Sub.drop sR))) ?_)))))))
     exact ⟨(vB (by have hz := goOk_fail (ar := ar) (rs := rs) (t := cur) (ss := ss) (k := k) (by omega) (by first | exact .inl hu1 | exact .inr hu2); rw [hgo, hz]; simp)), rfl, rfl⟩
    ·rw [Bool.not_eq_true] at h4
     have hu1 : (stepAtL ar rs cur (ss.getD k (0, 0, [])).1 (ss.getD k (0, 0, [])).2.1).isSome = true := by simpa using h4
     refine XL.yes (t := 43) rfl (vB h4) (XOp.move (x1) rfl ?_)
     refine XL.yes (t := 43) rfl (vB h4) (XOp.fieldP (b := b3) (2) Try.runUnderlying119 rfl Try.sizeOf22 (by decide) rfl rfl ?_)
     refine XL.yes (t := 43) rfl (vB h4) (XOp.load1 (v := a1) Try.isAgg22 rfl (Rd.own [] rfl rfl) ?_)
     refine XL.yes (t := 43) rfl (vB h4) (XOp.call (args := [x1, a1]) Try.call122 rfl (Equal_spec hr4 ha1 (hbd := (by first | assumption | rfl | omega | (left; simp; done) | (right; simp; done)))) ?_)
     rintro _ _ _ _ ⟨rfl, rfl, rfl⟩
     refine XL.yes (t := 43) rfl (vB h4) (XOp.notD (p := ((stepAtL ar rs cur ((ss.getD k (0, 0, [])).1) ((ss.getD k (0, 0, [])).2.1)).getD []) = ((ss.getD k (0, 0, [])).2.2)) rfl ?_)
     refine XL.cons (XOp.pickF (.bool (decide (¬(((stepAtL ar rs cur ((ss.getD k (0, 0, [])).1) ((ss.getD k (0, 0, [])).2.1)).getD []) = ((ss.getD k (0, 0, [])).2.2))))) (vB h4) rfl ?_)
     refine XL.nil ?_
     refine X.condD (p := ¬(((stepAtL ar rs cur ((ss.getD k (0, 0, [])).1) ((ss.getD k (0, 0, [])).2.1)).getD []) = ((ss.getD k (0, 0, [])).2.2))) rfl (fun h5 => ?_) (fun h5 => ?_)
     ·have hu2 : (stepAtL ar rs cur (ss.getD k (0, 0, [])).1 (ss.getD k (0, 0, [])).2.1).getD [] ≠ (ss.getD k (0, 0, [])).2.2 := h5
      refine X.seq (X.region ?_)
      refine XL.as (.bool (false)) rfl ?_
      refine XL.nil ?_
      refine X.ret (thenQ_ret (blockQ_ret (thenQ_ret (thenQ_ret (blockQ_ret (thenQ_ret (retEnd (L' := L) [.bool (false)] (.bool (false)) (.tmp rfl .nil) rfl rF (FLe.trans leG1 le1) (Sub.drop (Sub.drop (Sub.drop sR))) ?_)))))))
      exact ⟨(vB (by have hz := goOk_fail (ar := ar) (rs := rs) (t := cur) (ss := ss) (k := k) (by omega) (by first | exact .inl hu1 | exact .inr hu2); rw [hgo, hz]; simp)), rfl, rfl⟩
     ·have hu2 : (stepAtL ar rs cur (ss.getD k (0, 0, [])).1 (ss.getD k (0, 0, [])).2.1).getD [] = (ss.getD k (0, 0, [])).2.2 := Classical.not_not.1 h5
      refine X.skip (X.region ?_)
      refine XL.mv (x1) rfl ?_
      refine XL.as (x1) rfl ?_
      refine XL.nil (X.region ?_)
      refine XL.cons (XOp.addR (a := (k : Int)) (b := 1) (((k + 1 : Nat) : Int)) rfl rfl (by omega) (by omega) ?_)
      refine XL.mv (.int .i64 (((k + 1 : Nat) : Int))) rfl ?_
      refine XL.nil ?_
      exact ⟨(k + 1, x1, (stepAtL ar rs cur ((ss.getD k (0, 0, [])).1) ((ss.getD k (0, 0, [])).2.1)).getD [], F1), _, (FLe.trans leG1 le1), rF, ⟨rfl, rfl, rfl, rfl, rfl, trivial⟩, (Sub.drop (Sub.cons (Sub.cons sR))), ⟨rfl, (FLe.trans leG1 le1), (hr4), (by (try dsimp only) <;> omega), (by (try dsimp only); rw [hgo]; exact goOk_next (by omega) hu1 hu2), (by (try dsimp only); rw [hu2]; exact hsk (by omega))⟩, (by omega)⟩
   ·refine X.exit (thenQ_exit (thenQ_exit (blockQ_exit ?_)))
    refine X.seq (X.region ?_)
    refine XL.as (.bool (true)) rfl ?_
    refine XL.nil ?_
    refine X.ret (retEnd (L' := L) [.bool (true)] (.bool (true)) (.tmp rfl .nil) rfl rF leG1 (Sub.drop (Sub.drop sR)) ?_)
    exact ⟨(vB (by rw [hgo, goOk_end (by omega)]; simp_all <;> omega)), rfl, rfl⟩

/- impl.WalkOk -/
theorem WalkOk_spec {F : FH} {L : List HP} {arv : Value} {ar : List Int} (har : IntsF F arv ar) {rsv : Value} {rs : List (List Int × List Int)} (hrs : PairsF F rsv rs) {fv : Value} {f : List Int} (hf : IntsF F fv f) {ssv : Value} {ss : List StepT} (hss : StepsF F ssv ss) (hlf : f.length ≤ 4000000) (hsb : ∀ i, i < ss.length → (ss.getD i (0, 0, [])).2.2.length ≤ 4000000) :
    Does Try.prog 91 [.agg #[arv, rsv], .agg #[fv, ssv]] F (L) (fun v F' L' => (.bool (walkOkL ar rs f ss) : Value) = v ∧ F = F' ∧ L = L') := by
 refine Does.of_X Try.func91 rfl rfl rfl ?_
 refine X.seq (X.region ?_)
 refine XL.cons (XOp.box [arv, rsv] rfl rfl ?_)
 intro b1
 refine XL.cons (XOp.box [fv, ssv] rfl rfl ?_)
 intro b2
 refine XL.as (.bool (false)) rfl ?_
 refine XL.nil (X.seq (X.region ?_))
 refine XL.cons (XOp.loadN [arv, rsv] Try.isAgg36 Try.sizeOf36 rfl rfl (Rd.ownN [_] rfl rfl) ?_)
 refine XL.cons (XOp.call (args := [.agg #[arv, rsv]]) Try.call65 rfl (SystemOk_spec har hrs) ?_)
 rintro _ _ _ _ ⟨rfl, rfl, rfl⟩
 refine XL.mv (.bool (sysOk ar rs)) rfl ?_
 by_cases h1 : (sysOk ar rs) = true
 ·refine XL.yes (t := 7) rfl (vB h1) (XOp.loadN [arv, rsv] Try.isAgg36 Try.sizeOf36 rfl rfl (Rd.ownN [_] rfl rfl) ?_)
  refine XL.yes (t := 7) rfl (vB h1) (XOp.loadN [fv, ssv] Try.isAgg73 Try.sizeOf73 rfl rfl (Rd.ownN [] rfl rfl) ?_)
  refine XL.yes (t := 7) rfl (vB h1) (XOp.call (args := [.agg #[arv, rsv], .agg #[fv, ssv]]) Try.call143 rfl (walkOk_spec har hrs hf hss (hlf := (by first | assumption | rfl | omega | simp)) (hsb := (by first | assumption | rfl | omega | simp))) ?_)
  rintro _ _ _ _ ⟨rfl, rfl, rfl⟩
  refine XL.cons (XOp.pickT (.bool (((termOk ar f && decide (ss.length ≤ 60)) && goOk ar rs f ss))) (vB h1) rfl ?_)
  refine XL.as (.bool (((termOk ar f && decide (ss.length ≤ 60)) && goOk ar rs f ss))) rfl ?_
  refine XL.nil ?_
  refine X.ret (retEnd (L' := L) [.bool (((termOk ar f && decide (ss.length ≤ 60)) && goOk ar rs f ss))] (.bool (((termOk ar f && decide (ss.length ≤ 60)) && goOk ar rs f ss))) (.tmp rfl .nil) rfl rF rF (Sub.drop (Sub.drop sR)) ?_)
  exact ⟨(vB (by rw [walkOkL, rightB]; simp_all [Bool.and_assoc])), rfl, rfl⟩
 ·rw [Bool.not_eq_true] at h1
  refine XL.no (t := 7) rfl (vB h1) ?_
  refine XL.no (t := 7) rfl (vB h1) ?_
  refine XL.no (t := 7) rfl (vB h1) ?_
  refine XL.cons (XOp.pickF (.bool (false)) (vB h1) rfl ?_)
  refine XL.as (.bool (false)) rfl ?_
  refine XL.nil ?_
  refine X.ret (retEnd (L' := L) [.bool (false)] (.bool (false)) (.tmp rfl .nil) rfl rF rF (Sub.drop (Sub.drop sR)) ?_)
  exact ⟨(vB (by rw [walkOkL, rightB]; simp_all [Bool.and_assoc])), rfl, rfl⟩

/- spec.StepAt -/
theorem sStepAt_spec {F : FH} {L : List HP} {arv : Value} {ar : List Int} (har : IntsF F arv ar) {rsv : Value} {rs : List (List Int × List Int)} (hrs : PairsF F rsv rs) {tv : Value} {t : List Int} (ht : IntsF F tv t) {p : Int} {r : Int} (hla : ar.length ≤ 4000000) (hlr : rs.length ≤ 4000000) (hrb : ∀ i, i < rs.length → (rs.getD i ([], [])).1.length ≤ 4000000 ∧ (rs.getD i ([], [])).2.length ≤ 4000000) (hlt : t.length ≤ 4000000) :
    Does Try.prog 59 [.agg #[arv, rsv], tv, .int .i64 (p), .int .i64 (r)] F (L) (fun v F' L' => ∃ (a : Value), (.tuple #[a, .bool ((stepAtL ar rs t p r).isSome)] : Value) = v ∧ (IntsF F' a ((stepAtL ar rs t p r).getD [])) ∧ L = L') := by
 refine Does.of_X Try.func59 rfl rfl rfl ?_
 refine X.seq (X.region ?_)
 refine XL.cons (XOp.box [arv, rsv] rfl rfl ?_)
 intro b1
 refine XL.as ((.slice none 0 0)) rfl ?_
 refine XL.as (.bool (false)) rfl ?_
 refine XL.nil (X.seq (X.seq (X.region ?_)))
 refine XL.cons (XOp.loadN [arv, rsv] Try.isAgg36 Try.sizeOf36 rfl rfl (Rd.ownN [] rfl rfl) ?_)
 refine XL.mv (tv) rfl ?_
 refine XL.cons (XOp.call (args := [.agg #[arv, rsv], tv]) Try.call111 rfl (l7Right_spec har hrs ht (hla := (by first | assumption | rfl | omega | simp)) (hlr := (by first | assumption | rfl | omega | simp)) (hrb := (by first | assumption | rfl | omega | simp)) (hlt := (by first | assumption | rfl | omega | simp))) ?_)
 rintro _ _ _ _ ⟨rfl, rfl, rfl⟩
 refine XL.cons (XOp.notB (b := rightB ar rs t) rfl ?_)
 refine XL.mv (.bool (!(rightB ar rs t))) rfl ?_
 by_cases h1 : (!(rightB ar rs t)) = true
 ·refine XL.no (t := 14) rfl (vB h1) ?_
  refine XL.no (t := 14) rfl (vB h1) ?_
  refine XL.no (t := 14) rfl (vB h1) ?_
  refine XL.no (t := 14) rfl (vB h1) ?_
  refine XL.cons (XOp.pickT (.bool (true)) (vB h1) rfl ?_)
  refine XL.mv (.bool (true)) rfl ?_
  refine XL.no (t := 20) rfl rfl ?_
  refine XL.no (t := 20) rfl rfl ?_
  refine XL.no (t := 20) rfl rfl ?_
  refine XL.no (t := 20) rfl rfl ?_
  refine XL.no (t := 20) rfl rfl ?_
  refine XL.no (t := 20) rfl rfl ?_
  refine XL.no (t := 20) rfl rfl ?_
  refine XL.cons (XOp.pickT (.bool (true)) rfl rfl ?_)
  refine XL.nil ?_
  refine X.condT rfl ?_
  refine X.seq (X.region ?_)
  refine XL.cons (XOp.buildSlice (s := 1) [] [.int .i64 (0)] [] Try.runUnderlying22 Try.sizeOf2 Try.zeroValue2 rfl (by decide) rfl CellsAre.nil rfl ?_)
  intro v1 hv1
  refine XL.as (v1) rfl ?_
  refine XL.as (.bool (false)) rfl ?_
  refine XL.nil ?_
  show X _ _ _ _ _ _ (intsH 2 v1 ([] : List Int) :: cellsH b1 [arv, rsv] 36 :: L)
  refine X.freezeF [] _ _ rfl (fun F1 le1 hz1 => ?_)
  replace har := har.mono le1
  replace hrs := hrs.mono le1
  replace ht := ht.mono le1
  have hf1 : IntsF F1 v1 ([]) := intsH.fz (xs := []) hz1.fz
  refine X.ret (thenQ_ret (retEnd (L' := L) [v1, .bool (false)] (.tuple #[v1, .bool (false)]) (.tmp rfl (.tmp rfl .nil)) rfl le1 rF (Sub.drop sR) ?_))
  have hz0 : stepAtL ar rs t p r = none := by rw [stepAtL, if_neg (by unfold stepAtOk; cases hA : rightB ar rs t <;> simp_all <;> omega)]
  exact ⟨_, by rw [hz0]; rfl, by rw [hz0]; exact hf1, rfl⟩
 ·rw [Bool.not_eq_true] at h1
  refine XL.yes (t := 14) rfl (vB h1) (XOp.move (tv) rfl ?_)
  refine XL.yes (t := 14) rfl (vB h1) (XOp.move (.int .i64 (p)) rfl ?_)
  refine XL.yes (t := 14) rfl (vB h1) (XOp.call (args := [tv, .int .i64 (p)]) Try.call96 rfl (l1There_spec (n := p) ht (hbd := (by first | assumption | rfl | omega | simp))) ?_)
  rintro _ _ _ _ ⟨rfl, rfl, rfl⟩
  refine XL.yes (t := 14) rfl (vB h1) (XOp.notD (p := 0 ≤ p ∧ p < (t.length : Int)) rfl ?_)
  refine XL.cons (XOp.pickF (.bool (decide (¬(0 ≤ p ∧ p < (t.length : Int))))) (vB h1) rfl ?_)
  refine XL.mv (.bool (decide (¬(0 ≤ p ∧ p < (t.length : Int))))) rfl ?_
  by_cases h2 : ¬(0 ≤ p ∧ p < (t.length : Int))
  ·refine XL.no (t := 20) rfl (vT h2) ?_
   refine XL.no (t := 20) rfl (vT h2) ?_
   refine XL.no (t := 20) rfl (vT h2) ?_
   refine XL.no (t := 20) rfl (vT h2) ?_
   refine XL.no (t := 20) rfl (vT h2) ?_
   refine XL.no (t := 20) rfl (vT h2) ?_
   refine XL.no (t := 20) rfl (vT h2) ?_
   refine XL.cons (XOp.pickT (.bool (true)) (vT h2) rfl ?_)
   refine XL.nil ?_
   refine X.condT rfl ?_
   refine X.seq (X.region ?_)
   refine XL.cons (XOp.buildSlice (s := 1) [] [.int .i64 (0)] [] Try.runUnderlying22 Try.sizeOf2 Try.zeroValue2 rfl (by decide) rfl CellsAre.nil rfl ?_)
   intro v2 hv2
   refine XL.as (v2) rfl ?_
   refine XL.as (.bool (false)) rfl ?_
   refine XL.nil ?_
   show X _ _ _ _ _ _ (intsH 2 v2 ([] : List Int) :: cellsH b1 [arv, rsv] 36 :: L)
   refine X.freezeF [] _ _ rfl (fun F2 le2 hz2 => ?_)
   replace har := har.mono le2
   replace hrs := hrs.mono le2
   replace ht := ht.mono le2
   have hf2 : IntsF F2 v2 ([]) := intsH.fz (xs := []) hz2.fz
   refine X.ret (thenQ_ret (retEnd (L' := L) [v2, .bool (false)] (.tuple #[v2, .bool (false)]) (.tmp rfl (.tmp rfl .nil)) rfl le2 rF (Sub.drop sR) ?_))
   have hz0 : stepAtL ar rs t p r = none := by rw [stepAtL, if_neg (by unfold stepAtOk; cases hA : rightB ar rs t <;> simp_all <;> omega)]
   exact ⟨_, by rw [hz0]; rfl, by rw [hz0]; exact hf2, rfl⟩
  ·refine XL.yes (t := 20) rfl (vF h2) (XOp.move (.int .i64 (r)) rfl ?_)
   refine XL.yes (t := 20) rfl (vF h2) (XOp.fieldP (b := b1) (1) Try.runUnderlying36 rfl Try.sizeOf34 (by decide) rfl rfl ?_)
   refine XL.yes (t := 20) rfl (vF h2) (XOp.load1 (v := rsv) Try.isAgg34 rfl (Rd.own [] rfl rfl) ?_)
   refine XL.yes (t := 20) rfl (vF h2) (XOp.lenS (v := rsv) (n := (rs).length) Try.runUnderlying34 rfl hrs.slv ?_)
   refine XL.yes (t := 20) rfl (vF h2) (XOp.subR (a := (rs.length : Int)) (b := 1) (((rs.length : Int)) - 1) rfl rfl (by omega) (by omega) ?_)
   refine XL.yes (t := 20) rfl (vF h2) (XOp.call (args := [.int .i64 (r), .int .i64 (0), .int .i64 (((rs.length : Int)) - 1)]) Try.call58 rfl (l1In_spec (n := r) (a := 0) (b := ((rs.length : Int)) - 1)) ?_)
   rintro _ _ _ _ ⟨rfl, rfl, rfl⟩
   refine XL.yes (t := 20) rfl (vF h2) (XOp.notD (p := 0 ≤ r ∧ r ≤ (((rs.length : Int)) - 1)) rfl ?_)
   refine XL.cons (XOp.pickF (.bool (decide (¬(0 ≤ r ∧ r ≤ (((rs.length : Int)) - 1))))) (vF h2) rfl ?_)
   refine XL.nil ?_
   refine X.condD (p := ¬(0 ≤ r ∧ r ≤ (((rs.length : Int)) - 1))) rfl (fun h3 => ?_) (fun h3 => ?_)
   ·refine X.seq (X.region ?_)
    refine XL.cons (XOp.buildSlice (s := 1) [] [.int .i64 (0)] [] Try.runUnderlying22 Try.sizeOf2 Try.zeroValue2 rfl (by decide) rfl CellsAre.nil rfl ?_)
    intro v3 hv3
    refine XL.as (v3) rfl ?_
    refine XL.as (.bool (false)) rfl ?_
    refine XL.nil ?_
    show X _ _ _ _ _ _ (intsH 2 v3 ([] : List Int) :: cellsH b1 [arv, rsv] 36 :: L)
    refine X.freezeF [] _ _ rfl (fun F3 le3 hz3 => ?_)
    replace har := har.mono le3
    replace hrs := hrs.mono le3
    replace ht := ht.mono le3
    have hf3 : IntsF F3 v3 ([]) := intsH.fz (xs := []) hz3.fz
    refine X.ret (thenQ_ret (retEnd (L' := L) [v3, .bool (false)] (.tuple #[v3, .bool (false)]) (.tmp rfl (.tmp rfl .nil)) rfl le3 rF (Sub.drop sR) ?_))
    have hz0 : stepAtL ar rs t p r = none := by rw [stepAtL, if_neg (by unfold stepAtOk; cases hA : rightB ar rs t <;> simp_all <;> omega)]
    exact ⟨_, by rw [hz0]; rfl, by rw [hz0]; exact hf3, rfl⟩
   ·refine X.skip (X.seq (X.region ?_))
    have hok : stepAtOk ar rs t p r = true := by unfold stepAtOk; cases hA : rightB ar rs t <;> simp_all <;> omega
    have hok2 := hok
    unfold stepAtOk rightB at hok2
    simp only [Bool.and_eq_true, decide_eq_true_eq] at hok2
    obtain ⟨⟨⟨hsys, ho⟩, hp1⟩, hr1⟩ := hok2
    refine XL.cons (XOp.loadN [arv, rsv] Try.isAgg36 Try.sizeOf36 rfl rfl (Rd.ownN [] rfl rfl) ?_)
    refine XL.mv (tv) rfl ?_
    refine XL.mv (.int .i64 (p)) rfl ?_
    refine XL.mv (.int .i64 (r)) rfl ?_
    refine XL.cons (XOp.call (args := [.agg #[arv, rsv], tv, .int .i64 (((p).toNat : Nat) : Int), .int .i64 (((r).toNat : Nat) : Int)]) Try.call112 (by rw [show (((p).toNat : Nat) : Int) = p from by omega, show (((r).toNat : Nat) : Int) = r from by omega]; rfl) (l7Step_spec (p := (p).toNat) (r := (r).toNat) har hrs ht (hsys := (by first | assumption | rfl | omega | simp)) (ho := (by first | assumption | rfl | omega | simp)) (hp := (by first | assumption | rfl | omega | simp)) (hr := (by first | assumption | rfl | omega | simp))) ?_)
    rintro _ F4 _ le4 ⟨x1, rfl, hr1, rfl⟩
    replace har := har.mono le4
    replace hrs := hrs.mono le4
    replace ht := ht.mono le4
    refine XL.cons (XOp.extract (x1) rfl rfl ?_)
    refine XL.cons (XOp.extract (.bool ((stepL ar rs t ((p).toNat) ((r).toNat)).isSome)) rfl rfl ?_)
    refine XL.as (x1) rfl ?_
    refine XL.as (.bool ((stepL ar rs t ((p).toNat) ((r).toNat)).isSome)) rfl ?_
    refine XL.nil ?_
    refine X.ret (retEnd (L' := L) [x1, .bool ((stepL ar rs t ((p).toNat) ((r).toNat)).isSome)] (.tuple #[x1, .bool ((stepL ar rs t ((p).toNat) ((r).toNat)).isSome)]) (.tmp rfl (.tmp rfl .nil)) rfl le4 rF (Sub.drop sR) ?_)
    have e := show stepAtL ar rs t p r = stepL ar rs t p.toNat r.toNat from by rw [stepAtL, if_pos hok]
    exact ⟨_, by rw [e], by rw [e]; exact hr1, rfl⟩

/- spec.WalkOk -/
theorem sWalkOk_spec {F : FH} {L : List HP} {arv : Value} {ar : List Int} (har : IntsF F arv ar) {rsv : Value} {rs : List (List Int × List Int)} (hrs : PairsF F rsv rs) {fv : Value} {f : List Int} (hf : IntsF F fv f) {ssv : Value} {ss : List StepT} (hss : StepsF F ssv ss) (hla : ar.length ≤ 4000000) (hlr : rs.length ≤ 4000000) (hrb : ∀ i, i < rs.length → (rs.getD i ([], [])).1.length ≤ 4000000 ∧ (rs.getD i ([], [])).2.length ≤ 4000000) (hlf : f.length ≤ 4000000) (hlss : ss.length ≤ 4000000) (hsb : ∀ i, i < ss.length → (ss.getD i (0, 0, [])).2.2.length ≤ 4000000) :
    Does Try.prog 86 [.agg #[arv, rsv], .agg #[fv, ssv]] F (L) (fun v F' L' => (.bool (walkOkL ar rs f ss) : Value) = v ∧ F = F' ∧ L = L') := by
 refine Does.of_X Try.func86 rfl rfl rfl ?_
 refine X.seq (X.region ?_)
 refine XL.cons (XOp.box [arv, rsv] rfl rfl ?_)
 intro b1
 refine XL.cons (XOp.box [fv, ssv] rfl rfl ?_)
 intro b2
 refine XL.as (.bool (false)) rfl ?_
 refine XL.nil (X.seq (X.seq (X.region ?_)))
 refine XL.cons (XOp.loadN [arv, rsv] Try.isAgg36 Try.sizeOf36 rfl rfl (Rd.ownN [_] rfl rfl) ?_)
 refine XL.cons (XOp.fieldP (b := b2) (0) Try.runUnderlying73 rfl Try.sizeOf22 (by decide) rfl rfl ?_)
 refine XL.cons (XOp.load1 (v := fv) Try.isAgg22 rfl (Rd.own [] rfl rfl) ?_)
 refine XL.cons (XOp.call (args := [.agg #[arv, rsv], fv]) Try.call111 rfl (l7Right_spec har hrs hf (hla := (by first | assumption | rfl | omega | simp)) (hlr := (by first | assumption | rfl | omega | simp)) (hrb := (by first | assumption | rfl | omega | simp)) (hlt := (by first | assumption | rfl | omega | simp))) ?_)
 rintro _ _ _ _ ⟨rfl, rfl, rfl⟩
 refine XL.cons (XOp.notB (b := rightB ar rs f) rfl ?_)
 refine XL.mv (.bool (!(rightB ar rs f))) rfl ?_
 by_cases h1 : (!(rightB ar rs f)) = true
 ·refine XL.no (t := 14) rfl (vB h1) ?_
  refine XL.no (t := 14) rfl (vB h1) ?_
  refine XL.no (t := 14) rfl (vB h1) ?_
  refine XL.no (t := 14) rfl (vB h1) ?_
  refine XL.cons (XOp.pickT (.bool (true)) (vB h1) rfl ?_)
  refine XL.nil ?_
  refine X.condT rfl ?_
  refine X.seq (X.region ?_)
  refine XL.as (.bool (false)) rfl ?_
  refine XL.nil ?_
  refine X.ret (thenQ_ret (retEnd (L' := L) [.bool (false)] (.bool (false)) (.tmp rfl .nil) rfl rF rF (Sub.drop (Sub.drop sR)) ?_))
  exact ⟨(vB (by unfold walkOkL; simp_all <;> omega)), rfl, rfl⟩
 ·rw [Bool.not_eq_true] at h1
  refine XL.yes (t := 14) rfl (vB h1) (XOp.fieldP (b := b2) (1) Try.runUnderlying73 rfl Try.sizeOf71 (by decide) rfl rfl ?_)
  refine XL.yes (t := 14) rfl (vB h1) (XOp.load1 (v := ssv) Try.isAgg71 rfl (Rd.own [] rfl rfl) ?_)
  refine XL.yes (t := 14) rfl (vB h1) (XOp.lenS (v := ssv) (n := (ss).length) Try.runUnderlying71 rfl hss.slv ?_)
  refine XL.yes (t := 14) rfl (vB h1) (XOp.gtr (a := (ss.length : Int)) (b := 60) rfl rfl ?_)
  refine XL.cons (XOp.pickF (.bool (decide (((ss.length : Int) : Int) > 60))) (vB h1) rfl ?_)
  refine XL.nil ?_
  refine X.condD (p := ((ss.length : Int) : Int) > 60) rfl (fun h2 => ?_) (fun h2 => ?_)
  ·refine X.seq (X.region ?_)
   refine XL.as (.bool (false)) rfl ?_
   refine XL.nil ?_
   refine X.ret (thenQ_ret (retEnd (L' := L) [.bool (false)] (.bool (false)) (.tmp rfl .nil) rfl rF rF (Sub.drop (Sub.drop sR)) ?_))
   exact ⟨(vB (by unfold walkOkL; simp_all <;> omega)), rfl, rfl⟩
  ·refine X.skip (X.seq (X.region ?_))
   refine XL.cons (XOp.fieldP (b := b2) (0) Try.runUnderlying73 rfl Try.sizeOf22 (by decide) rfl rfl ?_)
   refine XL.cons (XOp.load1 (v := fv) Try.isAgg22 rfl (Rd.own [] rfl rfl) ?_)
   refine XL.as (fv) rfl ?_
   refine XL.nil (X.seq (X.seq (X.region ?_)))
   refine XL.as (.int .i64 (0)) rfl ?_
   refine XL.nil (X.block ?_)
   refine X.loop (α := Nat × Value × List Int × FH) (fun xQ => [(2, ptr b1 0), (3, ptr b2 0), (5, xQ.2.1), (6, .int .i64 (((xQ.1 : Nat) : Int)))]) (fun xQ => cellsH b2 [fv, ssv] 73 :: cellsH b1 [arv, rsv] 36 :: L) (fun xQ F' => xQ.2.2.2 = F' ∧ F ≤ xQ.2.2.2 ∧ (IntsF xQ.2.2.2 xQ.2.1 xQ.2.2.1) ∧ (xQ.1 ≤ ss.length) ∧ (goOk ar rs f ss = goOk ar rs xQ.2.2.1 (ss.drop xQ.1)) ∧ (xQ.2.2.1.length ≤ 4000000)) (fun xQ => ss.length - xQ.1) (0, fv, f, F) ⟨rfl, rfl, rfl, rfl, trivial⟩ (Sub.cons (Sub.cons sR)) ⟨rfl, FLe.refl _, (hf), (by (try dsimp only) <;> omega), (rfl), (hlf)⟩ ?_
   rintro ⟨k, cv, cur, G1⟩ rE _ _ ⟨rfl, leG, hcv, hk, hgo, hcl⟩
   show X _ _ _ _ (envs [(2, ptr b1 0), (3, ptr b2 0), (5, cv), (6, .int .i64 ((k : Int)))] rE) _ (cellsH b2 [fv, ssv] 73 :: cellsH b1 [arv, rsv] 36 :: L)
   replace leG : F ≤ G1 := leG
   dsimp only at hcv hk hgo hcl
   have hsk := hsb k
   have leG1 := leG
   replace har := har.mono leG1
   replace hrs := hrs.mono leG1
   replace hf := hf.mono leG1
   replace hss := hss.mono leG1
   refine X.seq (X.seq (X.region ?_))
   refine XL.mv (.int .i64 ((k : Int))) rfl ?_
   refine XL.cons (XOp.fieldP (b := b2) (1) Try.runUnderlying73 rfl Try.sizeOf71 (by decide) rfl rfl ?_)
   refine XL.cons (XOp.load1 (v := ssv) Try.isAgg71 rfl (Rd.own [] rfl rfl) ?_)
   refine XL.cons (XOp.lenS (v := ssv) (n := (ss).length) Try.runUnderlying71 rfl hss.slv ?_)
   refine XL.cons (XOp.lss (a := (k : Int)) (b := (ss.length : Int)) rfl rfl ?_)
   refine XL.nil ?_
   refine X.condD (p := (k : Int) < (ss.length : Int)) rfl (fun h3 => ?_) (fun h3 => ?_)
   ·refine X.skip (X.seq (X.block (X.seq ?_)))
    obtain ⟨a1, ha1, hr1, hr2, hr3⟩ := hss.rd (i := k) (by omega)
    refine X.drawG [cellsH b2 [fv, ssv] 73, cellsH b1 [arv, rsv] 36] L 19 [[], [], [], [], [], [], [], [], [], [], [], [], [], [], [], [14], [14], [], [14]] [[], [], [], [2], [], [3, 4], [5], [6], [], [8], [], [9, 10], [11], [12], [0, 1, 7, 13], [14], [14, 15], [14, 15], [14, 16]] [[], [], [], [], [], [], [], [], [], [], [], [], [], [], [], [], [], [], []] (phiG [fun FF us v => v = (.agg #[arv, rsv] : Value), fun FF us v => v = cv, fun FF us v => v = ptr b2 1, fun FF us v => v = ssv, fun FF us v => v = (.int .i64 ((k : Int)) : Value), fun FF us v => v = (.pointer (some (elemA ssv (k * 3))) : Value), fun FF us v => v = (.pointer (some (elemA ssv (k * 3))) : Value), fun FF us v => v = (.int .i64 ((ss.getD k (0, 0, [])).1) : Value), fun FF us v => v = ptr b2 1, fun FF us v => v = ssv, fun FF us v => v = (.int .i64 ((k : Int)) : Value), fun FF us v => v = (.pointer (some (elemA ssv (k * 3))) : Value), fun FF us v => v = (.pointer (some (elemA ssv (k * 3 + 1))) : Value), fun FF us v => v = (.int .i64 ((ss.getD k (0, 0, [])).2.1) : Value), fun FF us v => (.tuple #[((tupAt v 0)), .bool ((stepAtL ar rs cur ((ss.getD k (0, 0, [])).1) ((ss.getD k (0, 0, [])).2.1)).isSome)] : Value) = v ∧ (IntsF FF ((tupAt v 0)) ((stepAtL ar rs cur ((ss.getD k (0, 0, [])).1) ((ss.getD k (0, 0, [])).2.1)).getD [])), fun FF us v => v = (.tuple #[((tupAt (us.getD 0 undef) 0)), .bool ((stepAtL ar rs cur ((ss.getD k (0, 0, [])).1) ((ss.getD k (0, 0, [])).2.1)).isSome)] : Value), fun FF us v => v = ((tupAt (us.getD 0 undef) 0)), fun FF us v => v = (.bool ((stepAtL ar rs cur ((ss.getD k (0, 0, [])).1) ((ss.getD k (0, 0, [])).2.1)).isSome) : Value), fun FF us v => v = ((tupAt (us.getD 0 undef) 0))]) (ownL [fun us v => [], fun us v => [], fun us v => [], fun us v => [], fun us v => [], fun us v => [], fun us v => [], fun us v => [], fun us v => [], fun us v => [], fun us v => [], fun us v => [], fun us v => [], fun us v => [], fun us v => [], fun us v => [], fun us v => [], fun us v => [], fun us v => []]) mixed rfl rfl (by kernel_rfl) (by kernel_rfl) (MonoG.get (MonoG.cons (fun le h => h) (MonoG.cons (fun le h => h) (MonoG.cons (fun le h => h) (MonoG.cons (fun le h => h) (MonoG.cons (fun le h => h) (MonoG.cons (fun le h => h) (MonoG.cons (fun le h => h) (MonoG.cons (fun le h => h) (MonoG.cons (fun le h => h) (MonoG.cons (fun le h => h) (MonoG.cons (fun le h => h) (MonoG.cons (fun le h => h) (MonoG.cons (fun le h => h) (MonoG.cons (fun le h => h) (MonoG.cons (fun le h => ⟨h.1, h.2.mono le⟩) (MonoG.cons (fun le h => h) (MonoG.cons (fun le h => h) (MonoG.cons (fun le h => h) (MonoG.cons (fun le h => h) MonoG.nil)))))))))))))))))))) ?_ ?_
    ·refine stepsG.cons (fun vals Fs R leFs hpZ => ?_) ?_
     ·replace har := har.mono leFs
      replace hrs := hrs.mono leFs
      replace hf := hf.mono leFs
      replace hss := hss.mono leFs
      replace hcv := hcv.mono leFs
      replace ha1 := ha1.mono leFs
      replace hr1 := Rd.monoA hr1 leFs
      replace hr2 := Rd.monoA hr2 leFs
      replace hr3 := Rd.monoA hr3 leFs
      refine XG.op (XOp.loadN [arv, rsv] Try.isAgg36 Try.sizeOf36 rfl rfl (Rd.ownN [_] rfl rfl) ?_)
      exact ⟨rfl, rfl⟩
     refine stepsG.cons (fun vals Fs R leFs hpZ => ?_) ?_
     ·refine XG.op (XOp.move (cv) rfl ?_)
      exact ⟨rfl, rfl⟩
     refine stepsG.cons (fun vals Fs R leFs hpZ => ?_) ?_
     ·refine XG.op (XOp.fieldP (b := b2) (1) Try.runUnderlying73 rfl Try.sizeOf71 (by decide) rfl rfl ?_)
      exact ⟨rfl, rfl⟩
     refine stepsG.cons (fun vals Fs R leFs hpZ => ?_) ?_
     ·replace har := har.mono leFs
      replace hrs := hrs.mono leFs
      replace hf := hf.mono leFs
      replace hss := hss.mono leFs
      replace hcv := hcv.mono leFs
      replace ha1 := ha1.mono leFs
      replace hr1 := Rd.monoA hr1 leFs
      replace hr2 := Rd.monoA hr2 leFs
      replace hr3 := Rd.monoA hr3 leFs
      rw [eS (l := [(2, ptr b2 1)]) ⟨(hpZ 2 (by decide)), trivial⟩]
      refine XG.op (XOp.load1 (v := ssv) Try.isAgg71 rfl (Rd.own [] rfl rfl) ?_)
      exact ⟨rfl, rfl⟩
     refine stepsG.cons (fun vals Fs R leFs hpZ => ?_) ?_
     ·refine XG.op (XOp.move (.int .i64 ((k : Int))) rfl ?_)
      exact ⟨rfl, rfl⟩
     refine stepsG.cons (fun vals Fs R leFs hpZ => ?_) ?_
     ·replace har := har.mono leFs
      replace hrs := hrs.mono leFs
      replace hf := hf.mono leFs
      replace hss := hss.mono leFs
      replace hcv := hcv.mono leFs
      replace ha1 := ha1.mono leFs
      replace hr1 := Rd.monoA hr1 leFs
      replace hr2 := Rd.monoA hr2 leFs
      replace hr3 := Rd.monoA hr3 leFs
      rw [eS (l := [(3, ssv), (4, (.int .i64 ((k : Int)) : Value))]) ⟨(hpZ 3 (by decide)), (hpZ 4 (by decide)), trivial⟩]
      refine XG.op (XOp.indexS (v := ssv) (i := (k : Int)) (n := (ss).length) k Try.runUnderlying71 Try.sizeOf119 rfl rfl rfl hss.slv (by omega) rfl ?_)
      exact ⟨rfl, rfl⟩
     refine stepsG.cons (fun vals Fs R leFs hpZ => ?_) ?_
     ·rw [eS (l := [(5, (.pointer (some (elemA ssv (k * 3))) : Value))]) ⟨(hpZ 5 (by decide)), trivial⟩]
      refine XG.op (XOp.fieldE (v := ssv) (k * 3) Try.runUnderlying119 rfl Try.sizeOf2 (by decide) rfl rfl ?_)
      exact ⟨rfl, rfl⟩
     refine stepsG.cons (fun vals Fs R leFs hpZ => ?_) ?_
     ·replace har := har.mono leFs
      replace hrs := hrs.mono leFs
      replace hf := hf.mono leFs
      replace hss := hss.mono leFs
      replace hcv := hcv.mono leFs
      replace ha1 := ha1.mono leFs
      replace hr1 := Rd.monoA hr1 leFs
      replace hr2 := Rd.monoA hr2 leFs
      replace hr3 := Rd.monoA hr3 leFs
      rw [eS (l := [(6, (.pointer (some (elemA ssv (k * 3))) : Value))]) ⟨(hpZ 6 (by decide)), trivial⟩]
      refine XG.op (XOp.load1 (v := .int .i64 ((ss.getD k (0, 0, [])).1)) Try.isAgg2 rfl (hr1 _) ?_)
      exact ⟨rfl, rfl⟩
     refine stepsG.cons (fun vals Fs R leFs hpZ => ?_) ?_
     ·refine XG.op (XOp.fieldP (b := b2) (1) Try.runUnderlying73 rfl Try.sizeOf71 (by decide) rfl rfl ?_)
      exact ⟨rfl, rfl⟩
     refine stepsG.cons (fun vals Fs R leFs hpZ => ?_) ?_
     ·replace har := har.mono leFs
      replace hrs := hrs.mono leFs
      replace hf := hf.mono leFs
      replace hss := hss.mono leFs
      replace hcv := hcv.mono leFs
      replace ha1 := ha1.mono leFs
      replace hr1 := Rd.monoA hr1 leFs
      replace hr2 := Rd.monoA hr2 leFs
      replace hr3 := Rd.monoA hr3 leFs
      rw [eS (l := [(8, ptr b2 1)]) ⟨(hpZ 8 (by decide)), trivial⟩]
      refine XG.op (XOp.load1 (v := ssv) Try.isAgg71 rfl (Rd.own [] rfl rfl) ?_)
      exact ⟨rfl, rfl⟩
     refine stepsG.cons (fun vals Fs R leFs hpZ => ?_) ?_
     ·refine XG.op (XOp.move (.int .i64 ((k : Int))) rfl ?_)
      exact ⟨rfl, rfl⟩
     refine stepsG.cons (fun vals Fs R leFs hpZ => ?_) ?_
     ·replace har := har.mono leFs
      replace hrs := hrs.mono leFs
      replace hf := hf.mono leFs
      replace hss := hss.mono leFs
      replace hcv := hcv.mono leFs
      replace ha1 := ha1.mono leFs
      replace hr1 := Rd.monoA hr1 leFs
      replace hr2 := Rd.monoA hr2 leFs
      replace hr3 := Rd.monoA hr3 leFs
      rw [eS (l := [(9, ssv), (10, (.int .i64 ((k : Int)) : Value))]) ⟨(hpZ 9 (by decide)), (hpZ 10 (by decide)), trivial⟩]
      refine XG.op (XOp.indexS (v := ssv) (i := (k : Int)) (n := (ss).length) k Try.runUnderlying71 Try.sizeOf119 rfl rfl rfl hss.slv (by omega) rfl ?_)
      exact ⟨rfl, rfl⟩
     refine stepsG.cons (fun vals Fs R leFs hpZ => ?_) ?_
     ·rw [eS (l := [(11, (.pointer (some (elemA ssv (k * 3))) : Value))]) ⟨(hpZ 11 (by decide)), trivial⟩]
      refine XG.op (XOp.fieldE (v := ssv) (k * 3 + 1) Try.runUnderlying119 rfl Try.sizeOf2 (by decide) rfl rfl ?_)
      exact ⟨rfl, rfl⟩
     refine stepsG.cons (fun vals Fs R leFs hpZ => ?_) ?_
     ·replace har := har.mono leFs
      replace hrs := hrs.mono leFs
      replace hf := hf.mono leFs
      replace hss := hss.mono leFs
      replace hcv := hcv.mono leFs
      replace ha1 := ha1.mono leFs
      replace hr1 := Rd.monoA hr1 leFs
      replace hr2 := Rd.monoA hr2 leFs
      replace hr3 := Rd.monoA hr3 leFs
      rw [eS (l := [(12, (.pointer (some (elemA ssv (k * 3 + 1))) : Value))]) ⟨(hpZ 12 (by decide)), trivial⟩]
      refine XG.op (XOp.load1 (v := .int .i64 ((ss.getD k (0, 0, [])).2.1)) Try.isAgg2 rfl (hr2 _) ?_)
      exact ⟨rfl, rfl⟩
     refine stepsG.cons (fun vals Fs R leFs hpZ => ?_) ?_
     ·replace har := har.mono leFs
      replace hrs := hrs.mono leFs
      replace hf := hf.mono leFs
      replace hss := hss.mono leFs
      replace hcv := hcv.mono leFs
      replace ha1 := ha1.mono leFs
      replace hr1 := Rd.monoA hr1 leFs
      replace hr2 := Rd.monoA hr2 leFs
      replace hr3 := Rd.monoA hr3 leFs
      rw [eS (l := [(0, (.agg #[arv, rsv] : Value)), (1, cv), (7, (.int .i64 ((ss.getD k (0, 0, [])).1) : Value)), (13, (.int .i64 ((ss.getD k (0, 0, [])).2.1) : Value))]) ⟨(hpZ 0 (by decide)), (hpZ 1 (by decide)), (hpZ 7 (by decide)), (hpZ 13 (by decide)), trivial⟩]
      refine XG.op (XOp.call (args := [.agg #[arv, rsv], cv, .int .i64 ((ss.getD k (0, 0, [])).1), .int .i64 ((ss.getD k (0, 0, [])).2.1)]) Try.call59 rfl (sStepAt_spec (p := (ss.getD k (0, 0, [])).1) (r := (ss.getD k (0, 0, [])).2.1) har hrs hcv (hla := (by first | assumption | rfl | omega | simp)) (hlr := (by first | assumption | rfl | omega | simp)) (hrb := (by first | assumption | rfl | omega | simp)) (hlt := (by first | assumption | rfl | omega | simp))) ?_)
      rintro _ F2 _ le2 ⟨x2, rfl, hr5, rfl⟩
      replace har := har.mono le2
      replace hrs := hrs.mono le2
      replace hf := hf.mono le2
      replace hss := hss.mono le2
      replace hcv := hcv.mono le2
      replace ha1 := ha1.mono le2
      replace hr1 := Rd.monoA hr1 le2
      replace hr2 := Rd.monoA hr2 le2
      replace hr3 := Rd.monoA hr3 le2
      exact ⟨⟨rfl, hr5⟩, rfl⟩
     refine stepsG.cons (fun vals Fs R leFs hpZ => ?_) ?_
     ·obtain ⟨e14, f14_1hr⟩ := hpZ 14 (by decide)
      rw [eS (l := [(14, (.tuple #[((tupAt (vals 14) 0)), .bool ((stepAtL ar rs cur ((ss.getD k (0, 0, [])).1) ((ss.getD k (0, 0, [])).2.1)).isSome)] : Value))]) ⟨(e14).symm, trivial⟩]
      refine XG.op (XOp.move (.tuple #[((tupAt (vals 14) 0)), .bool ((stepAtL ar rs cur ((ss.getD k (0, 0, [])).1) ((ss.getD k (0, 0, [])).2.1)).isSome)]) rfl ?_)
      exact ⟨rfl, rfl⟩
     refine stepsG.cons (fun vals Fs R leFs hpZ => ?_) ?_
     ·obtain ⟨e14, f14_1hr⟩ := hpZ 14 (by decide)
      have e15 : vals 15 = (.tuple #[((tupAt (vals 14) 0)), .bool ((stepAtL ar rs cur ((ss.getD k (0, 0, [])).1) ((ss.getD k (0, 0, [])).2.1)).isSome)] : Value) := hpZ 15 (by decide)
      rw [eS (l := [(14, (.tuple #[((tupAt (vals 14) 0)), .bool ((stepAtL ar rs cur ((ss.getD k (0, 0, [])).1) ((ss.getD k (0, 0, [])).2.1)).isSome)] : Value)), (15, (.tuple #[((tupAt (vals 14) 0)), .bool ((stepAtL ar rs cur ((ss.getD k (0, 0, [])).1) ((ss.getD k (0, 0, [])).2.1)).isSome)] : Value))]) ⟨(e14).symm, e15, trivial⟩]
      refine XG.op (XOp.extract (((tupAt (vals 14) 0))) rfl rfl ?_)
      exact ⟨rfl, rfl⟩
     refine stepsG.cons (fun vals Fs R leFs hpZ => ?_) ?_
     ·obtain ⟨e14, f14_1hr⟩ := hpZ 14 (by decide)
      have e15 : vals 15 = (.tuple #[((tupAt (vals 14) 0)), .bool ((stepAtL ar rs cur ((ss.getD k (0, 0, [])).1) ((ss.getD k (0, 0, [])).2.1)).isSome)] : Value) := hpZ 15 (by decide)
      rw [eS (l := [(14, (.tuple #[((tupAt (vals 14) 0)), .bool ((stepAtL ar rs cur ((ss.getD k (0, 0, [])).1) ((ss.getD k (0, 0, [])).2.1)).isSome)] : Value)), (15, (.tuple #[((tupAt (vals 14) 0)), .bool ((stepAtL ar rs cur ((ss.getD k (0, 0, [])).1) ((ss.getD k (0, 0, [])).2.1)).isSome)] : Value))]) ⟨(e14).symm, e15, trivial⟩]
      refine XG.op (XOp.extract (.bool ((stepAtL ar rs cur ((ss.getD k (0, 0, [])).1) ((ss.getD k (0, 0, [])).2.1)).isSome)) rfl rfl ?_)
      exact ⟨rfl, rfl⟩
     refine stepsG.cons (fun vals Fs R leFs hpZ => ?_) ?_
     ·obtain ⟨e14, f14_1hr⟩ := hpZ 14 (by decide)
      have e16 : vals 16 = ((tupAt (vals 14) 0)) := hpZ 16 (by decide)
      rw [eS (l := [(14, (.tuple #[((tupAt (vals 14) 0)), .bool ((stepAtL ar rs cur ((ss.getD k (0, 0, [])).1) ((ss.getD k (0, 0, [])).2.1)).isSome)] : Value)), (16, ((tupAt (vals 14) 0)))]) ⟨(e14).symm, e16, trivial⟩]
      refine XG.op (XOp.assign (((tupAt (vals 14) 0))) rfl ?_)
      exact ⟨rfl, rfl⟩
     exact stepsG.nil
    ·intro vals F3 le3 hphi
     obtain ⟨e14, f14_1hr⟩ := hphi 14 (by decide)
     have e15 : vals 15 = (.tuple #[((tupAt (vals 14) 0)), .bool ((stepAtL ar rs cur ((ss.getD k (0, 0, [])).1) ((ss.getD k (0, 0, [])).2.1)).isSome)] : Value) := hphi 15 (by decide)
     have e16 : vals 16 = ((tupAt (vals 14) 0)) := hphi 16 (by decide)
     have e18 : vals 18 = ((tupAt (vals 14) 0)) := hphi 18 (by decide)
     generalize hu1 : ((tupAt (vals 14) 0)) = u1 at e14 f14_1hr e15 e16 e18
     rw [eS (l := [(0, (.agg #[arv, rsv] : Value)), (1, cv), (2, ptr b2 1), (3, ssv), (4, (.int .i64 ((k : Int)) : Value)), (5, (.pointer (some (elemA ssv (k * 3))) : Value)), (6, (.pointer (some (elemA ssv (k * 3))) : Value)), (7, (.int .i64 ((ss.getD k (0, 0, [])).1) : Value)), (8, ptr b2 1), (9, ssv), (10, (.int .i64 ((k : Int)) : Value)), (11, (.pointer (some (elemA ssv (k * 3))) : Value)), (12, (.pointer (some (elemA ssv (k * 3 + 1))) : Value)), (13, (.int .i64 ((ss.getD k (0, 0, [])).2.1) : Value)), (14, (.tuple #[u1, .bool ((stepAtL ar rs cur ((ss.getD k (0, 0, [])).1) ((ss.getD k (0, 0, [])).2.1)).isSome)] : Value)), (15, (.tuple #[u1, .bool ((stepAtL ar rs cur ((ss.getD k (0, 0, [])).1) ((ss.getD k (0, 0, [])).2.1)).isSome)] : Value)), (16, u1), (17, (.bool ((stepAtL ar rs cur ((ss.getD k (0, 0, [])).1) ((ss.getD k (0, 0, [])).2.1)).isSome) : Value)), (18, u1)]) ⟨(hphi 0 (by decide)), (hphi 1 (by decide)), (hphi 2 (by decide)), (hphi 3 (by decide)), (hphi 4 (by decide)), (hphi 5 (by decide)), (hphi 6 (by decide)), (hphi 7 (by decide)), (hphi 8 (by decide)), (hphi 9 (by decide)), (hphi 10 (by decide)), (hphi 11 (by decide)), (hphi 12 (by decide)), (hphi 13 (by decide)), (e14).symm, e15, e16, (hphi 17 (by decide)), e18, trivial⟩]
     replace har := har.mono le3
     replace hrs := hrs.mono le3
     replace hf := hf.mono le3
     replace hss := hss.mono le3
     replace hcv := hcv.mono le3
     replace ha1 := ha1.mono le3
     replace hr1 := Rd.monoA hr1 le3
     replace hr2 := Rd.monoA hr2 le3
     replace hr3 := Rd.monoA hr3 le3
     show XL _ _ _ _ _ _ _ (cellsH b2 [fv, ssv] 73 :: cellsH b1 [arv, rsv] 36 :: L)
     refine XL.as (.bool ((stepAtL ar rs cur ((ss.getD k (0, 0, [])).1) ((ss.getD k (0, 0, [])).2.1)).isSome)) rfl ?_
     refine XL.nil (X.seq (X.seq (X.region ?_)))
     refine XL.mv (.bool ((stepAtL ar rs cur ((ss.getD k (0, 0, [])).1) ((ss.getD k (0, 0, [])).2.1)).isSome)) rfl ?_
     refine XL.cons (XOp.notB (b := (stepAtL ar rs cur ((ss.getD k (0, 0, [])).1) ((ss.getD k (0, 0, [])).2.1)).isSome) rfl ?_)
     refine XL.mv (.bool (!((stepAtL ar rs cur ((ss.getD k (0, 0, [])).1) ((ss.getD k (0, 0, [])).2.1)).isSome))) rfl ?_
     by_cases h4 : (!((stepAtL ar rs cur ((ss.getD k (0, 0, [])).1) ((ss.getD k (0, 0, [])).2.1)).isSome)) = true
     ·have hu1 : (stepAtL ar rs cur (ss.getD k (0, 0, [])).1 (ss.getD k (0, 0, [])).2.1).isSome = false := by simpa using h4
      refine XL.no (t := 49) rfl (vB h4) ?_
      refine XL.no (t := 49) rfl (vB h4) ?_
      refine XL.no (t := 49) rfl (vB h4) ?_
      refine XL.no (t := 49) rfl (vB h4) ?_
      refine XL.no (t := 49) rfl (vB h4) ?_
      refine XL.no (t := 49) rfl (vB h4) ?_
      refine XL.no (t := 49) rfl (vB h4) ?_
      refine XL.no (t := 49) rfl (vB h4) ?_
      refine XL.no (t := 49) rfl (vB h4) ?_
      refine XL.cons (XOp.pickT (.bool (true)) (vB h4) rfl ?_)
      refine XL.nil ?_
      refine X.condT rfl ?_
      refine X.seq (X.region ?_)
      refine XL.as (.bool (false)) rfl ?_
      refine XL.nil ?_
      refine X.ret (thenQ_ret (blockQ_ret (thenQ_ret (thenQ_ret (blockQ_ret (thenQ_ret (retEnd (L' := L) [.bool (false)] (.bool (false)) (.tmp rfl .nil) rfl rF (FLe.trans leG1 le3) (Sub.drop (Sub.drop sR)) ?_)))))))
      exact ⟨(vB (by have hz := goOk_fail (ar := ar) (rs := rs) (t := cur) (ss := ss) (k := k) (by omega) (by first | exact .inl hu1 | exact .inr hu2); rw [walkOkL, hgo, hz]; simp)), rfl, rfl⟩
     ·rw [Bool.not_eq_true] at h4
      have hu1 : (stepAtL ar rs cur (ss.getD k (0, 0, [])).1 (ss.getD k (0, 0, [])).2.1).isSome = true := by simpa using h4
      refine XL.yes (t := 49) rfl (vB h4) (XOp.move (u1) rfl ?_)
      refine XL.yes (t := 49) rfl (vB h4) (XOp.fieldP (b := b2) (1) Try.runUnderlying73 rfl Try.sizeOf71 (by decide) rfl rfl ?_)
      refine XL.yes (t := 49) rfl (vB h4) (XOp.load1 (v := ssv) Try.isAgg71 rfl (Rd.own [] rfl rfl) ?_)
      refine XL.yes (t := 49) rfl (vB h4) (XOp.move (.int .i64 ((k : Int))) rfl ?_)
      refine XL.yes (t := 49) rfl (vB h4) (XOp.indexS (v := ssv) (i := (k : Int)) (n := (ss).length) k Try.runUnderlying71 Try.sizeOf119 rfl rfl rfl hss.slv (by omega) rfl ?_)
      refine XL.yes (t := 49) rfl (vB h4) (XOp.fieldE (v := ssv) (k * 3 + 2) Try.runUnderlying119 rfl Try.sizeOf22 (by decide) rfl rfl ?_)
      refine XL.yes (t := 49) rfl (vB h4) (XOp.load1 (v := a1) Try.isAgg22 rfl (hr3 _) ?_)
      refine XL.yes (t := 49) rfl (vB h4) (XOp.call (args := [u1, a1]) Try.call60 rfl (SameTerm_spec f14_1hr ha1 (hbd := (by first | assumption | rfl | omega | (left; simp; done) | (right; simp; done)))) ?_)
      rintro _ _ _ _ ⟨rfl, rfl, rfl⟩
      refine XL.yes (t := 49) rfl (vB h4) (XOp.notD (p := ((stepAtL ar rs cur ((ss.getD k (0, 0, [])).1) ((ss.getD k (0, 0, [])).2.1)).getD []) = ((ss.getD k (0, 0, [])).2.2)) rfl ?_)
      refine XL.cons (XOp.pickF (.bool (decide (¬(((stepAtL ar rs cur ((ss.getD k (0, 0, [])).1) ((ss.getD k (0, 0, [])).2.1)).getD []) = ((ss.getD k (0, 0, [])).2.2))))) (vB h4) rfl ?_)
      refine XL.nil ?_
      refine X.condD (p := ¬(((stepAtL ar rs cur ((ss.getD k (0, 0, [])).1) ((ss.getD k (0, 0, [])).2.1)).getD []) = ((ss.getD k (0, 0, [])).2.2))) rfl (fun h5 => ?_) (fun h5 => ?_)
      ·have hu2 : (stepAtL ar rs cur (ss.getD k (0, 0, [])).1 (ss.getD k (0, 0, [])).2.1).getD [] ≠ (ss.getD k (0, 0, [])).2.2 := h5
       refine X.seq (X.region ?_)
       refine XL.as (.bool (false)) rfl ?_
       refine XL.nil ?_
       refine X.ret (thenQ_ret (blockQ_ret (thenQ_ret (thenQ_ret (blockQ_ret (thenQ_ret (retEnd (L' := L) [.bool (false)] (.bool (false)) (.tmp rfl .nil) rfl rF (FLe.trans leG1 le3) (Sub.drop (Sub.drop sR)) ?_)))))))
       exact ⟨(vB (by have hz := goOk_fail (ar := ar) (rs := rs) (t := cur) (ss := ss) (k := k) (by omega) (by first | exact .inl hu1 | exact .inr hu2); rw [walkOkL, hgo, hz]; simp)), rfl, rfl⟩
      ·have hu2 : (stepAtL ar rs cur (ss.getD k (0, 0, [])).1 (ss.getD k (0, 0, [])).2.1).getD [] = (ss.getD k (0, 0, [])).2.2 := Classical.not_not.1 h5
       refine X.skip (X.region ?_)
       refine XL.mv (u1) rfl ?_
       refine XL.as (u1) rfl ?_
       refine XL.nil (X.region ?_)
       refine XL.mv (.int .i64 ((k : Int))) rfl ?_
       refine XL.cons (XOp.addR (a := (k : Int)) (b := 1) (((k + 1 : Nat) : Int)) rfl rfl (by omega) (by omega) ?_)
       refine XL.as (.int .i64 (((k + 1 : Nat) : Int))) rfl ?_
       refine XL.nil ?_
       exact ⟨(k + 1, u1, (stepAtL ar rs cur ((ss.getD k (0, 0, [])).1) ((ss.getD k (0, 0, [])).2.1)).getD [], F3), _, (FLe.trans leG1 le3), rF, ⟨rfl, rfl, rfl, rfl, trivial⟩, (Sub.cons (Sub.cons sR)), ⟨rfl, (FLe.trans leG1 le3), (f14_1hr), (by (try dsimp only) <;> omega), (by (try dsimp only); rw [hgo]; exact goOk_next (by omega) hu1 hu2), (by (try dsimp only); rw [hu2]; exact hsk (by omega))⟩, (by omega)⟩
   ·refine X.exit (thenQ_exit (thenQ_exit (blockQ_exit ?_)))
    refine X.seq (X.region ?_)
    refine XL.as (.bool (true)) rfl ?_
    refine XL.nil ?_
    refine X.ret (retEnd (L' := L) [.bool (true)] (.bool (true)) (.tmp rfl .nil) rfl rF leG1 (Sub.drop (Sub.drop sR)) ?_)
    exact ⟨(vB (by rw [walkOkL, hgo, goOk_end (by omega)]; simp_all <;> omega)), rfl, rfl⟩
end Go.Proofs.Ytnloeeaidknblaa
set_option linter.unusedSimpArgs false
set_option linter.unusedVariables false
namespace Go.Proofs.Ytnloeeaidknblaa
open Go X M

/- (*impl.Chain).add -/
theorem chainAdd_spec {F : FH} {L : List HP} {b m : Nat} {fv sv tov : Value} {ms : List MoveT} {cs : List Value} {i j : Int} {k : Bool} {to : List Int} (hto : IntsF F tov to) (hsv : IsSl sv) (hC : MovesC F cs ms) (hm : m = ms.length) (hsb : ms.length ≤ 4000000) (hlt : to.length ≤ 4000000) :
    Does Try.prog 159 [ptr b 0, .agg #[.int .i64 (i), .int .i64 (j), .bool (k), tov]] F (cellsH b [fv, sv] 87 :: slH 197 4 sv m cs :: L) (fun v F' L' => ∃ (sw cw : Value), IsSl sw ∧ IntsF F' cw to ∧ Fresh F F' (intsH 2 cw to) ∧ cellsH b [fv, sw] 87 :: slH 197 4 sw (m + 1) (cs ++ [.int .i64 i, .int .i64 j, .bool k, cw]) :: L = L') := by
 refine Does.of_X Try.func159 rfl rfl rfl ?_
 refine X.seq (X.region ?_)
 refine XL.cons (XOp.box [.int .i64 (i), .int .i64 (j), .bool (k), tov] rfl rfl ?_)
 intro b1
 refine XL.nil (X.seq (X.region ?_))
 refine XL.cons (XOp.fieldP (b := b1) (3) Try.runUnderlying197 rfl Try.sizeOf22 (by decide) rfl rfl ?_)
 refine XL.cons (XOp.load1 (v := tov) Try.isAgg22 rfl (Rd.own [] rfl rfl) ?_)
 refine XL.cons (XOp.frzF <| XOp.call (args := [tov]) Try.call102 rfl (Clone_spec hto (hlt := (by first | assumption | rfl | omega | simp))) ?_)
 rintro v1 _ _ _ ⟨rfl, hs1, rfl⟩
 refine ⟨_, _, rfl, fun F1 le1 hz1 => ?_⟩
 replace hto := hto.mono le1
 replace hC := hC.mono le1
 have hf1 : IntsF F1 v1 ((to)) := intsH.fz (xs := (to)) hz1.fz
 refine XL.cons (XOp.fieldP (b := b1) (3) Try.runUnderlying197 rfl Try.sizeOf22 (by decide) rfl rfl ?_)
 refine XL.cons (XOp.store1 (v := v1) [] _ [.int .i64 (i), .int .i64 (j), .bool (k), v1] Try.sizeOf22 rfl rfl (one_sl (IntsF.isSl hf1)) rfl rfl rfl ?_)
 refine XL.nil ?_
 refine X.weaken (Sub.front (A := [_, _])) ?_
 show X _ _ _ _ _ _ (slH 197 4 sv m cs :: cellsH b1 [.int .i64 (i), .int .i64 (j), .bool (k), v1] 197 :: cellsH b [fv, sv] 87 :: L)
 refine X.drawH [cellsH b1 [.int .i64 (i), .int .i64 (j), .bool (k), v1] 197, cellsH b [fv, sv] 87] L 8 [[], [], [], [], [], [], [], [6]] [[], [], [1], [2], [3], [], [5], [4, 6]] [[], [], [], [], [], [], [], [6]] (phiG [fun FF us v => v = ptr b 0, fun FF us v => v = ptr b 0, fun FF us v => v = ptr b 0, fun FF us v => v = ptr b 1, fun FF us v => v = sv, fun FF us v => v = (.agg #[.int .i64 (i), .int .i64 (j), .bool (k), v1] : Value), fun FF us v => ∃ b, v = .slice (some ⟨b, 0, none⟩) 1 1, fun FF us v => IsSl v]) (ownL [fun us v => [], fun us v => [], fun us v => [], fun us v => [], fun us v => [], fun us v => [], fun us v => [slH 197 4 v 1 [.int .i64 (i), .int .i64 (j), .bool (k), v1]], fun us v => [slH 197 4 (us.getD 0 undef) 1 [.int .i64 (i), .int .i64 (j), .bool (k), v1], slH 197 4 (v) ((m) + 1) (cs ++ [.int .i64 (i), .int .i64 (j), .bool (k), v1])]]) (fun i => ([[], [], [], [], [], [], [], [slH 197 4 sv m cs]] : List (List HP)).getD i []) mixed rfl rfl (by kernel_rfl) (by kernel_rfl) (MonoG.get (MonoG.cons (fun le h => h) (MonoG.cons (fun le h => h) (MonoG.cons (fun le h => h) (MonoG.cons (fun le h => h) (MonoG.cons (fun le h => h) (MonoG.cons (fun le h => h) (MonoG.cons (fun le h => h) (MonoG.cons (fun le h => h) MonoG.nil))))))))) ?_ ?_
 ·refine stepsT.cons (fun vals Fs R leFs hpZ => ?_) ?_
  ·refine XG.op (XOp.move (ptr b 0) rfl ?_)
   exact ⟨rfl, rfl⟩
  refine stepsT.cons (fun vals Fs R leFs hpZ => ?_) ?_
  ·refine XG.op (XOp.move (ptr b 0) rfl ?_)
   exact ⟨rfl, rfl⟩
  refine stepsT.cons (fun vals Fs R leFs hpZ => ?_) ?_
  ·replace hto := hto.mono leFs
   replace hC := hC.mono leFs
   replace hf1 := hf1.mono leFs
   rw [eS (l := [(1, ptr b 0)]) ⟨(hpZ 1 (by decide)), trivial⟩]
   refine XG.op (XOp.nilCheck (a := ⟨b, 0, none⟩) rfl ?_)
   exact ⟨rfl, rfl⟩
  refine stepsT.cons (fun vals Fs R leFs hpZ => ?_) ?_
  ·rw [eS (l := [(2, ptr b 0)]) ⟨(hpZ 2 (by decide)), trivial⟩]
   refine XG.op (XOp.fieldP (b := b) (1) Try.runUnderlying87 rfl Try.sizeOf85 (by decide) rfl rfl ?_)
   exact ⟨rfl, rfl⟩
  refine stepsT.cons (fun vals Fs R leFs hpZ => ?_) ?_
  ·replace hto := hto.mono leFs
   replace hC := hC.mono leFs
   replace hf1 := hf1.mono leFs
   rw [eS (l := [(3, ptr b 1)]) ⟨(hpZ 3 (by decide)), trivial⟩]
   refine XG.op (XOp.load1 (v := sv) Try.isAgg85 rfl (Rd.own [_] rfl rfl) ?_)
   exact ⟨rfl, rfl⟩
  refine stepsT.cons (fun vals Fs R leFs hpZ => ?_) ?_
  ·replace hto := hto.mono leFs
   replace hC := hC.mono leFs
   replace hf1 := hf1.mono leFs
   refine XG.op (XOp.loadN [.int .i64 (i), .int .i64 (j), .bool (k), v1] Try.isAgg197 Try.sizeOf197 rfl rfl (Rd.ownN [] rfl rfl) ?_)
   exact ⟨rfl, rfl⟩
  refine stepsT.cons (fun vals Fs R leFs hpZ => ?_) ?_
  ·replace hto := hto.mono leFs
   replace hC := hC.mono leFs
   replace hf1 := hf1.mono leFs
   rw [eS (l := [(5, (.agg #[.int .i64 (i), .int .i64 (j), .bool (k), v1] : Value))]) ⟨(hpZ 5 (by decide)), trivial⟩]
   refine XG.op (XOp.buildSlice (s := 4) [.int .i64 (i), .int .i64 (j), .bool (k), v1] [.int .i64 (0), .int .i64 (0), .bool (false), (.slice none 0 0)] [(0, [.int .i64 (i), .int .i64 (j), .bool (k), v1])] Try.runUnderlying85 Try.sizeOf197 Try.zeroValue197 rfl (by decide) rfl (.cons rfl CellsAre.nil) rfl ?_)
   intro v4 hv2
   exact ⟨hv2, rfl⟩
  refine stepsT.cons (fun vals Fs R leFs hpZ => ?_) ?_
  ·have f6 : ∃ b, (vals 6) = .slice (some ⟨b, 0, none⟩) 1 1 := hpZ 6 (by decide)
   replace hto := hto.mono leFs
   replace hC := hC.mono leFs
   replace hf1 := hf1.mono leFs
   rw [eS (l := [(4, sv)]) ⟨(hpZ 4 (by decide)), trivial⟩]
   show XG _ _ _ _ _ (slH 197 4 (vals 6) 1 [.int .i64 (i), .int .i64 (j), .bool (k), v1] :: slH 197 4 sv m cs :: ([cellsH b1 [.int .i64 (i), .int .i64 (j), .bool (k), v1] 197, cellsH b [fv, sv] 87] ++ R)) _
   refine XG.op (XOp.append (m := 1) (bytes := 48) (cs := cs) [_] _ [.int .i64 (i), .int .i64 (j), .bool (k), v1] Try.runUnderlying85 Try.typeInfo197 rfl rfl rfl rfl rfl rfl rfl (SlV.own [] rfl) rfl (Rd.lit [] rfl) (ones_cons rfl (ones_cons rfl (ones_cons rfl (ones_cons (one_sl (IntsF.isSl hf1)) ones_nil)))) (by (try simp only [List.length_append, List.length_nil, List.length_cons, List.length_singleton]); omega) (by (try simp only [List.length_append, List.length_nil, List.length_cons, List.length_singleton]); omega) ?_)
   intro v5 hs3 hn2 hm2
   have hc2 := MovesC.snoc hC (y0 := i) (y1 := j) (y2 := k) (y3 := (to)) hf1
   exact ⟨hs3, rfl⟩
  exact stepsT.nil
 ·intro vals F2 le2 hphi
  have f6 : ∃ b, (vals 6) = .slice (some ⟨b, 0, none⟩) 1 1 := hphi 6 (by decide)
  have f7 : IsSl (vals 7) := hphi 7 (by decide)
  generalize hu6 : vals 6 = u1 at f6 f7
  generalize hu7 : vals 7 = u2 at f6 f7
  rw [eS (l := [(0, ptr b 0), (1, ptr b 0), (2, ptr b 0), (3, ptr b 1), (4, sv), (5, (.agg #[.int .i64 (i), .int .i64 (j), .bool (k), v1] : Value)), (6, u1), (7, u2)]) ⟨(hphi 0 (by decide)), (hphi 1 (by decide)), (hphi 2 (by decide)), (hphi 3 (by decide)), (hphi 4 (by decide)), (hphi 5 (by decide)), hu6, hu7, trivial⟩]
  replace hto := hto.mono le2
  replace hC := hC.mono le2
  replace hf1 := hf1.mono le2
  have hc3 := MovesC.snoc hC (y0 := i) (y1 := j) (y2 := k) (y3 := (to)) hf1
  show XL _ _ _ _ _ _ _ (slH 197 4 u1 1 [.int .i64 (i), .int .i64 (j), .bool (k), v1] :: slH 197 4 u2 ((m) + 1) (cs ++ [.int .i64 (i), .int .i64 (j), .bool (k), v1]) :: cellsH b1 [.int .i64 (i), .int .i64 (j), .bool (k), v1] 197 :: cellsH b [fv, sv] 87 :: L)
  skip
  refine XL.cons (XOp.nilCheck (a := ⟨b, 0, none⟩) rfl ?_)
  refine XL.cons (XOp.fieldP (b := b) (1) Try.runUnderlying87 rfl Try.sizeOf85 (by decide) rfl rfl ?_)
  refine XL.cons (XOp.store1 (v := u2) [_, _, _] _ [fv, u2] Try.sizeOf85 rfl rfl (one_sl f7) rfl rfl rfl ?_)
  refine XL.nil ?_
  refine id (retEndN (L' := cellsH b [fv, u2] 87 :: slH 197 4 u2 ((m) + 1) (cs ++ [.int .i64 (i), .int .i64 (j), .bool (k), v1]) :: L) [] (.tuple #[]) (by exact .nil) rfl (FLe.trans le1 le2) rF (Sub.trans (Sub.front (A := [_])) (Sub.trans (Sub.front (A := [_, _, _])) (Sub.cons (Sub.cons (Sub.drop (Sub.drop sR)))))) ?_)
  exact ⟨_, _, f7, hf1, (hz1.mono le2), rfl⟩

/- impl.chainOfWalk -/
set_option maxRecDepth 20000 in
theorem chainOfWalk_spec {F : FH} {L : List HP} {fv : Value} {f : List Int} (hf : IntsF F fv f) {xsv : Value} {xs : List StepT} (hxs : StepsF F xsv xs) (hlf : f.length ≤ 4000000) (hlx : xs.length ≤ 60) (hxb : ∀ i, i < xs.length → (xs.getD i (0, 0, [])).2.2.length ≤ 60) :
    Does Try.prog 104 [.agg #[fv, xsv]] F (L) (fun v F' L' => ∃ (a : Value), ∃ (b : Value), (.agg #[a, b] : Value) = v ∧ (IntsF F' a f) ∧ (MovesF F' b (chainL xs)) ∧ (Fresh F F' (star [intsH 2 a f, movesD 2 197 b (chainL xs)])) ∧ L = L') := by
 refine Does.of_X Try.func104 rfl rfl rfl ?_
 refine X.seq (X.region ?_)
 refine XL.cons (XOp.box [fv, xsv] rfl rfl ?_)
 intro b1
 refine XL.cons (XOp.alloc [(.slice none 0 0), (.slice none 0 0)] Try.zeroValue87 rfl ?_)
 intro b2
 refine XL.nil (X.seq (X.region ?_))
 refine XL.cons (XOp.fieldP (b := b1) (0) Try.runUnderlying73 rfl Try.sizeOf22 (by decide) rfl rfl ?_)
 refine XL.cons (XOp.load1 (v := fv) Try.isAgg22 rfl (Rd.own [_] rfl rfl) ?_)
 refine XL.cons (XOp.frzF <| XOp.call (args := [fv]) Try.call102 rfl (Clone_spec hf (hlt := (by first | assumption | rfl | omega | simp))) ?_)
 rintro v1 _ _ _ ⟨rfl, hs1, rfl⟩
 refine ⟨_, _, rfl, fun F1 le1 hz1 => ?_⟩
 replace hf := hf.mono le1
 replace hxs := hxs.mono le1
 have hf1 : IntsF F1 v1 ((f)) := intsH.fz (xs := (f)) hz1.fz
 refine XL.cons (XOp.build [v1, (.slice none 0 0)] [(.slice none 0 0), (.slice none 0 0)] [(0, 1), (1, 1)] [(0, [v1])] Try.runUnderlying87 Try.zeroValue87 rfl (.cons rfl Try.sizeOf22 (.cons rfl Try.sizeOf85 PlacesAre.nil)) rfl (.cons (cells_one (IntsF.isSl hf1)) CellsAre.nil) ?_)
 refine XL.cons (XOp.alloc [(.slice none 0 0), (.slice none 0 0)] Try.zeroValue87 rfl ?_)
 intro b3
 refine XL.cons (XOp.storeN (vs := [v1, (.slice none 0 0)]) [] _ [v1, (.slice none 0 0)] Try.sizeOf87 rfl rfl rfl (ones_cons (one_sl (IntsF.isSl hf1)) (ones_cons rfl ones_nil)) rfl rfl rfl ?_)
 refine XL.nil (X.seq (X.seq (X.region ?_)))
 refine XL.cons (XOp.fieldP (b := b1) (1) Try.runUnderlying73 rfl Try.sizeOf71 (by decide) rfl rfl ?_)
 refine XL.cons (XOp.load1 (v := xsv) Try.isAgg71 rfl (Rd.own [_, _] rfl rfl) ?_)
 refine XL.cons (XOp.lenS (v := xsv) (n := (xs).length) Try.runUnderlying71 rfl hxs.slv ?_)
 refine XL.mv (.int .i64 (0)) rfl ?_
 refine XL.nil (X.block ?_)
 refine X.loop (α := Nat × Value × List MoveT × List Value × List HP × Nat × FH) (fun xQ => [(2, ptr b2 0), (3, ptr b3 0), (11, xsv), (12, .int .i64 ((xs.length : Int))), (13, .int .i64 (((xQ.1 : Nat) : Int)))]) (fun xQ => slH 197 4 xQ.2.1 xQ.2.2.2.2.2.1 xQ.2.2.2.1 :: cellsH b3 [v1, xQ.2.1] 87 :: cellsH b2 [(.slice none 0 0), (.slice none 0 0)] 87 :: cellsH b1 [fv, xsv] 73 :: L) (fun xQ F' => xQ.2.2.2.2.2.2 = F' ∧ F1 ≤ xQ.2.2.2.2.2.2 ∧ (xQ.1 ≤ xs.length) ∧ (IsSl xQ.2.1) ∧ (MovesC xQ.2.2.2.2.2.2 xQ.2.2.2.1 xQ.2.2.1) ∧ (xQ.2.2.2.2.2.1 = xQ.2.2.1.length) ∧ (DeepL 4 (MoveO 2) xQ.2.2.2.1 xQ.2.2.1 xQ.2.2.2.2.1) ∧ (Fresh F1 xQ.2.2.2.2.2.2 (star xQ.2.2.2.2.1)) ∧ (xQ.2.2.1 = chainL (xs.take xQ.1))) (fun xQ => xs.length - xQ.1) (0, (.slice none 0 0), [], [], [], 0, F1) ⟨rfl, rfl, rfl, rfl, rfl, trivial⟩ (Sub.trans (Sub.addNil 197 4 _ _) (Sub.cons (Sub.cons (Sub.cons (Sub.cons sR))))) ⟨rfl, FLe.refl _, (by (try dsimp only) <;> omega), (⟨_, _, _, rfl⟩), (CO.nil), (rfl), (DeepL.nil), (Fresh.nilL), (rfl)⟩ ?_
 rintro ⟨k, sv, ms, cs, Ls, m, G1⟩ rE _ _ ⟨rfl, leG, hk, hsv, hC, hm, hD, hZ, hms⟩
 show X _ _ _ _ (envs [(2, ptr b2 0), (3, ptr b3 0), (11, xsv), (12, .int .i64 ((xs.length : Int))), (13, .int .i64 ((k : Int)))] rE) _ (slH 197 4 sv m cs :: cellsH b3 [v1, sv] 87 :: cellsH b2 [(.slice none 0 0), (.slice none 0 0)] 87 :: cellsH b1 [fv, xsv] 73 :: L)
 replace leG : F1 ≤ G1 := leG
 dsimp only at hk hsv hC hm hD hZ hms
 have hxk := hxb k
 have hml : ms.length = k := by rw [hms, chainL_len, List.length_take]; omega
 have leG1 := leG
 replace hf := hf.mono leG1
 replace hxs := hxs.mono leG1
 replace hf1 := hf1.mono leG1
 refine X.seq (X.region ?_)
 refine XL.cons (XOp.lss (a := (k : Int)) (b := (xs.length : Int)) rfl rfl ?_)
 refine XL.nil (X.seq ?_)
 refine X.condD (p := (k : Int) < (xs.length : Int)) rfl (fun h1 => ?_) (fun h1 => ?_)
 ·refine X.skip (X.seq (X.block (X.seq (X.region ?_))))
  refine XL.cons (XOp.indexS (v := xsv) (i := (k : Int)) (n := (xs).length) k Try.runUnderlying71 Try.sizeOf119 rfl rfl rfl hxs.slv (by omega) rfl ?_)
  obtain ⟨a1, ha1, hr1, hr2, hr3⟩ := hxs.rd (i := k) (by omega)
  refine XL.cons (XOp.loadN [.int .i64 ((xs.getD k (0, 0, [])).1), .int .i64 ((xs.getD k (0, 0, [])).2.1), a1] Try.isAgg119 Try.sizeOf119 rfl rfl (Rd.three (hr1 _) (hr2 _) (hr3 _)) ?_)
  refine XL.cons (XOp.alloc [.int .i64 (0), .int .i64 (0), (.slice none 0 0)] Try.zeroValue119 rfl ?_)
  intro b4
  refine XL.cons (XOp.storeN (vs := [.int .i64 ((xs.getD k (0, 0, [])).1), .int .i64 ((xs.getD k (0, 0, [])).2.1), a1]) [] _ [.int .i64 ((xs.getD k (0, 0, [])).1), .int .i64 ((xs.getD k (0, 0, [])).2.1), a1] Try.sizeOf119 rfl rfl rfl (ones_cons rfl (ones_cons rfl (ones_cons (one_sl (IntsF.isSl ha1)) ones_nil))) rfl rfl rfl ?_)
  refine XL.nil (X.region ?_)
  refine XL.cons (XOp.fieldP (b := b4) (1) Try.runUnderlying119 rfl Try.sizeOf2 (by decide) rfl rfl ?_)
  refine XL.cons (XOp.load1 (v := .int .i64 ((xs.getD k (0, 0, [])).2.1)) Try.isAgg2 rfl (Rd.own [] rfl rfl) ?_)
  refine XL.cons (XOp.fieldP (b := b4) (0) Try.runUnderlying119 rfl Try.sizeOf2 (by decide) rfl rfl ?_)
  refine XL.cons (XOp.load1 (v := .int .i64 ((xs.getD k (0, 0, [])).1)) Try.isAgg2 rfl (Rd.own [] rfl rfl) ?_)
  refine XL.cons (XOp.fieldP (b := b4) (2) Try.runUnderlying119 rfl Try.sizeOf22 (by decide) rfl rfl ?_)
  refine XL.cons (XOp.load1 (v := a1) Try.isAgg22 rfl (Rd.own [] rfl rfl) ?_)
  refine XL.cons (XOp.build [.int .i64 ((xs.getD k (0, 0, [])).2.1), .int .i64 ((xs.getD k (0, 0, [])).1), .bool (false), a1] [.int .i64 (0), .int .i64 (0), .bool (false), (.slice none 0 0)] [(0, 1), (1, 1), (2, 1), (3, 1)] [(0, [.int .i64 ((xs.getD k (0, 0, [])).2.1)]), (1, [.int .i64 ((xs.getD k (0, 0, [])).1)]), (3, [a1])] Try.runUnderlying197 Try.zeroValue197 rfl (.cons rfl Try.sizeOf2 (.cons rfl Try.sizeOf2 (.cons rfl Try.sizeOf4 (.cons rfl Try.sizeOf22 PlacesAre.nil)))) rfl (.cons rfl (.cons rfl (.cons (cells_one (IntsF.isSl ha1)) CellsAre.nil))) ?_)
  refine XL.weaken (Sub.front (A := [_])) ?_
  show XL _ _ _ _ _ _ _ (slH 197 4 sv m cs :: cellsH b4 [.int .i64 ((xs.getD k (0, 0, [])).1), .int .i64 ((xs.getD k (0, 0, [])).2.1), a1] 119 :: cellsH b3 [v1, sv] 87 :: cellsH b2 [(.slice none 0 0), (.slice none 0 0)] 87 :: cellsH b1 [fv, xsv] 73 :: L)
  refine XL.weaken (Sub.front (A := [_, _])) ?_
  show XL _ _ _ _ _ _ _ (cellsH b3 [v1, sv] 87 :: slH 197 4 sv m cs :: cellsH b4 [.int .i64 ((xs.getD k (0, 0, [])).1), .int .i64 ((xs.getD k (0, 0, [])).2.1), a1] 119 :: cellsH b2 [(.slice none 0 0), (.slice none 0 0)] 87 :: cellsH b1 [fv, xsv] 73 :: L)
  refine XL.cons (XOp.call (args := [ptr b3 0, .agg #[.int .i64 ((xs.getD k (0, 0, [])).2.1), .int .i64 ((xs.getD k (0, 0, [])).1), .bool (false), a1]]) Try.call159 rfl (chainAdd_spec ha1 hsv hC (by first | rfl | assumption | omega) (by omega) (by omega)) ?_)
  rintro _ F2 _ le2 ⟨sw1, cw1, hs2, hw1, hf2, rfl⟩
  replace hf := hf.mono le2
  replace hxs := hxs.mono le2
  replace hf1 := hf1.mono le2
  replace hC := hC.mono le2
  replace ha1 := ha1.mono le2
  replace hr1 := Rd.monoA hr1 le2
  replace hr2 := Rd.monoA hr2 le2
  replace hr3 := Rd.monoA hr3 le2
  have hc1 := MovesC.snoc hC (y0 := (xs.getD k (0, 0, [])).2.1) (y1 := (xs.getD k (0, 0, [])).1) (y2 := false) hw1
  show XL _ _ _ _ _ _ _ (cellsH b3 [v1, sw1] 87 :: slH 197 4 sw1 ((m) + 1) ((cs ++ [.int .i64 ((xs.getD k (0, 0, [])).2.1), .int .i64 ((xs.getD k (0, 0, [])).1), .bool (false), cw1])) :: cellsH b4 [.int .i64 ((xs.getD k (0, 0, [])).1), .int .i64 ((xs.getD k (0, 0, [])).2.1), a1] 119 :: cellsH b2 [(.slice none 0 0), (.slice none 0 0)] 87 :: cellsH b1 [fv, xsv] 73 :: L)
  refine XL.nil (X.region ?_)
  refine XL.cons (XOp.addR (a := (k : Int)) (b := 1) (((k + 1 : Nat) : Int)) rfl rfl (by omega) (by omega) ?_)
  refine XL.mv (.int .i64 (((k + 1 : Nat) : Int))) rfl ?_
  refine XL.nil ?_
  exact ⟨(k + 1, sw1, (ms ++ [((xs.getD k (0, 0, [])).2.1, (xs.getD k (0, 0, [])).1, false, (xs.getD k (0, 0, [])).2.2)]), (cs ++ [.int .i64 ((xs.getD k (0, 0, [])).2.1), .int .i64 ((xs.getD k (0, 0, [])).1), .bool (false), cw1]), Ls ++ [intsH 2 cw1 ((xs.getD k (0, 0, [])).2.2)], (m) + 1, F2), _, (FLe.trans leG1 le2), rF, ⟨rfl, rfl, rfl, rfl, rfl, trivial⟩, (Sub.trans (Sub.front (A := [_, _, _, _])) (Sub.trans (Sub.front (A := [_, _, _, _])) (Sub.trans (Sub.front (A := [_, _])) (Sub.trans (Sub.front (A := [_, _, _])) (Sub.cons (Sub.cons (Sub.cons (Sub.cons (Sub.drop sR))))))))), ⟨rfl, (FLe.trans leG1 le2), (by (try dsimp only) <;> omega), (hs2), (hc1), (by (try dsimp only); rw [List.length_append]; simp only [List.length_singleton]; omega), (DeepL.snoc hD rfl ⟨_, rfl, rfl⟩), ((Fresh.app hZ leG1 (Fresh.one hf2) le2)), (by (try dsimp only); rw [chainL_succ (by omega), ← hms]; rfl)⟩, (by omega)⟩
 ·refine X.exit (thenQ_exit (thenQ_exit (blockQ_exit ?_)))
  refine X.seq (X.region ?_)
  refine XL.cons (XOp.loadN [v1, sv] Try.isAgg87 Try.sizeOf87 rfl rfl (Rd.ownN [_] rfl rfl) ?_)
  refine XL.cons (XOp.storeN (vs := [v1, sv]) [_, _] _ [v1, sv] Try.sizeOf87 rfl rfl rfl (ones_cons (one_sl (IntsF.isSl hf1)) (ones_cons (one_sl hsv) ones_nil)) rfl rfl rfl ?_)
  refine XL.nil ?_
  refine X.freezeF [] _ _ rfl (fun F3 le3 hz2 => ?_)
  replace hf := hf.mono le3
  replace hxs := hxs.mono le3
  replace hf1 := hf1.mono le3
  replace hC := hC.mono le3
  have hf3 : MovesF F3 sv ms := CO.fz hC (by first | rfl | simp | omega) hz2.fz
  refine X.ret (retEnd (L' := L) [.agg #[v1, sv]] (.agg #[v1, sv]) (.cell rfl (loadNV [v1, sv] Try.isAgg87 Try.sizeOf87 rfl (Rd.ownN [_] rfl rfl)) .nil) rfl (FLe.trans (FLe.trans le1 leG1) le3) rF (Sub.drop (Sub.drop (Sub.drop sR))) ?_)
  have e9 : ms = chainL xs := by rw [hms, show k = xs.length from by omega, List.take_length]
  rw [← e9]
  exact ⟨_, _, rfl, hf1, hf3, (Fresh.app (Fresh.one hz1) le1 (Fresh.one (Fresh.deep hD hZ leG1 hz2 (by omega) le3)) (FLe.trans leG1 le3)), rfl⟩
end Go.Proofs.Ytnloeeaidknblaa
set_option linter.unusedSimpArgs false
set_option linter.unusedVariables false
namespace Go.Proofs.Ytnloeeaidknblaa
open Go X M
end Go.Proofs.Ytnloeeaidknblaa
set_option linter.unusedSimpArgs false
set_option linter.unusedVariables false
namespace Go.Proofs.Ytnloeeaidknblaa
open Go X M

/- spec.l20Walk -/
set_option maxRecDepth 20000 in
theorem l20Walk_spec {F : FH} {L : List HP} {fv : Value} {f : List Int} (hf : IntsF F fv f) {xsv : Value} {xs : List StepT} (hxs : StepsF F xsv xs) (hlf : f.length ≤ 4000000) (hlx : xs.length ≤ 60) (hxb : ∀ i, i < xs.length → (xs.getD i (0, 0, [])).2.2.length ≤ 60) :
    Does Try.prog 103 [.agg #[fv, xsv]] F (L) (fun v F' L' => ∃ (a : Value), ∃ (b : Value), (.agg #[a, b] : Value) = v ∧ (IntsF F' a (f)) ∧ (MovesF F' b (chainL xs)) ∧ L = L') := by
 refine Does.of_X Try.func103 rfl rfl rfl ?_
 refine X.seq (X.region ?_)
 refine XL.cons (XOp.box [fv, xsv] rfl rfl ?_)
 intro b1
 refine XL.cons (XOp.alloc [(.slice none 0 0), (.slice none 0 0)] Try.zeroValue87 rfl ?_)
 intro b2
 refine XL.nil (X.seq (X.region ?_))
 refine XL.cons (XOp.fieldP (b := b1) (0) Try.runUnderlying73 rfl Try.sizeOf22 (by decide) rfl rfl ?_)
 refine XL.cons (XOp.load1 (v := fv) Try.isAgg22 rfl (Rd.own [_] rfl rfl) ?_)
 refine XL.cons (XOp.frzF <| XOp.call (args := [fv]) Try.call88 rfl (l1Copy_spec hf (hlt := (by first | assumption | rfl | omega | simp))) ?_)
 rintro v1 _ _ _ ⟨rfl, hs1, rfl⟩
 refine ⟨_, _, rfl, fun F1 le1 hz1 => ?_⟩
 replace hf := hf.mono le1
 replace hxs := hxs.mono le1
 have hf1 : IntsF F1 v1 ((f)) := intsH.fz (xs := (f)) hz1.fz
 refine XL.cons (XOp.build [v1, (.slice none 0 0)] [(.slice none 0 0), (.slice none 0 0)] [(0, 1), (1, 1)] [(0, [v1])] Try.runUnderlying87 Try.zeroValue87 rfl (.cons rfl Try.sizeOf22 (.cons rfl Try.sizeOf85 PlacesAre.nil)) rfl (.cons (cells_one (IntsF.isSl hf1)) CellsAre.nil) ?_)
 refine XL.cons (XOp.alloc [(.slice none 0 0), (.slice none 0 0)] Try.zeroValue87 rfl ?_)
 intro b3
 refine XL.cons (XOp.storeN (vs := [v1, (.slice none 0 0)]) [] _ [v1, (.slice none 0 0)] Try.sizeOf87 rfl rfl rfl (ones_cons (one_sl (IntsF.isSl hf1)) (ones_cons rfl ones_nil)) rfl rfl rfl ?_)
 refine XL.nil (X.seq (X.seq (X.region ?_)))
 refine XL.as (.int .i64 (0)) rfl ?_
 refine XL.nil (X.block ?_)
 refine X.loop (α := Nat × Value × List MoveT × List Value × Nat × FH) (fun xQ => [(1, ptr b1 0), (2, ptr b2 0), (3, ptr b3 0), (4, .int .i64 (((xQ.1 : Nat) : Int)))]) (fun xQ => slH 197 4 xQ.2.1 xQ.2.2.2.2.1 xQ.2.2.2.1 :: cellsH b3 [v1, xQ.2.1] 87 :: cellsH b2 [(.slice none 0 0), (.slice none 0 0)] 87 :: cellsH b1 [fv, xsv] 73 :: L) (fun xQ F' => xQ.2.2.2.2.2 = F' ∧ F1 ≤ xQ.2.2.2.2.2 ∧ (xQ.1 ≤ xs.length) ∧ (IsSl xQ.2.1) ∧ (MovesC xQ.2.2.2.2.2 xQ.2.2.2.1 xQ.2.2.1) ∧ (xQ.2.2.2.2.1 = xQ.2.2.1.length) ∧ (xQ.2.2.1 = chainL (xs.take xQ.1))) (fun xQ => xs.length - xQ.1) (0, (.slice none 0 0), [], [], 0, F1) ⟨rfl, rfl, rfl, rfl, trivial⟩ (Sub.trans (Sub.addNil 197 4 _ _) (Sub.cons (Sub.cons (Sub.cons (Sub.cons sR))))) ⟨rfl, FLe.refl _, (by (try dsimp only) <;> omega), (⟨_, _, _, rfl⟩), (CO.nil), (rfl), (rfl)⟩ ?_
 rintro ⟨k, sv, ms, cs, m, G1⟩ rE _ _ ⟨rfl, leG, hk, hsv, hC, hm, hms⟩
 show X _ _ _ _ (envs [(1, ptr b1 0), (2, ptr b2 0), (3, ptr b3 0), (4, .int .i64 ((k : Int)))] rE) _ (slH 197 4 sv m cs :: cellsH b3 [v1, sv] 87 :: cellsH b2 [(.slice none 0 0), (.slice none 0 0)] 87 :: cellsH b1 [fv, xsv] 73 :: L)
 replace leG : F1 ≤ G1 := leG
 dsimp only at hk hsv hC hm hms
 have hxk := hxb k
 have hml : ms.length = k := by rw [hms, chainL_len, List.length_take]; omega
 have leG1 := leG
 replace hf := hf.mono leG1
 replace hxs := hxs.mono leG1
 replace hf1 := hf1.mono leG1
 refine X.seq (X.seq (X.region ?_))
 refine XL.mv (.int .i64 ((k : Int))) rfl ?_
 refine XL.cons (XOp.fieldP (b := b1) (1) Try.runUnderlying73 rfl Try.sizeOf71 (by decide) rfl rfl ?_)
 refine XL.cons (XOp.load1 (v := xsv) Try.isAgg71 rfl (Rd.own [_, _, _] rfl rfl) ?_)
 refine XL.cons (XOp.lenS (v := xsv) (n := (xs).length) Try.runUnderlying71 rfl hxs.slv ?_)
 refine XL.cons (XOp.lss (a := (k : Int)) (b := (xs.length : Int)) rfl rfl ?_)
 refine XL.nil ?_
 refine X.condD (p := (k : Int) < (xs.length : Int)) rfl (fun h1 => ?_) (fun h1 => ?_)
 ·refine X.skip (X.seq (X.block (X.seq (X.region ?_))))
  refine XL.cons (XOp.fieldP (b := b1) (1) Try.runUnderlying73 rfl Try.sizeOf71 (by decide) rfl rfl ?_)
  refine XL.cons (XOp.load1 (v := xsv) Try.isAgg71 rfl (Rd.own [_, _, _] rfl rfl) ?_)
  refine XL.mv (.int .i64 ((k : Int))) rfl ?_
  refine XL.cons (XOp.indexS (v := xsv) (i := (k : Int)) (n := (xs).length) k Try.runUnderlying71 Try.sizeOf119 rfl rfl rfl hxs.slv (by omega) rfl ?_)
  obtain ⟨a1, ha1, hr1, hr2, hr3⟩ := hxs.rd (i := k) (by omega)
  refine XL.cons (XOp.loadN [.int .i64 ((xs.getD k (0, 0, [])).1), .int .i64 ((xs.getD k (0, 0, [])).2.1), a1] Try.isAgg119 Try.sizeOf119 rfl rfl (Rd.three (hr1 _) (hr2 _) (hr3 _)) ?_)
  refine XL.cons (XOp.alloc [.int .i64 (0), .int .i64 (0), (.slice none 0 0)] Try.zeroValue119 rfl ?_)
  intro b4
  refine XL.cons (XOp.storeN (vs := [.int .i64 ((xs.getD k (0, 0, [])).1), .int .i64 ((xs.getD k (0, 0, [])).2.1), a1]) [] _ [.int .i64 ((xs.getD k (0, 0, [])).1), .int .i64 ((xs.getD k (0, 0, [])).2.1), a1] Try.sizeOf119 rfl rfl rfl (ones_cons rfl (ones_cons rfl (ones_cons (one_sl (IntsF.isSl ha1)) ones_nil))) rfl rfl rfl ?_)
  refine XL.nil ?_
  refine X.drawG [cellsH b4 [.int .i64 ((xs.getD k (0, 0, [])).1), .int .i64 ((xs.getD k (0, 0, [])).2.1), a1] 119, slH 197 4 sv m cs, cellsH b3 [v1, sv] 87, cellsH b2 [(.slice none 0 0), (.slice none 0 0)] 87, cellsH b1 [fv, xsv] 73] L 11 [[], [], [], [], [], [], [], [], [], [8], [8]] [[], [0], [], [2], [], [4], [], [6], [7], [3, 5, 8], [8, 9]] [[], [], [], [], [], [], [], [], [], [], []] (phiG [fun FF us v => v = ptr b3 1, fun FF us v => v = sv, fun FF us v => v = ptr b4 1, fun FF us v => v = (.int .i64 ((xs.getD k (0, 0, [])).2.1) : Value), fun FF us v => v = ptr b4 0, fun FF us v => v = (.int .i64 ((xs.getD k (0, 0, [])).1) : Value), fun FF us v => v = ptr b4 2, fun FF us v => v = a1, fun FF us v => ((v) : Value) = v ∧ (IntsF FF (v) (((xs.getD k (0, 0, [])).2.2))), fun FF us v => v = (.agg #[.int .i64 ((xs.getD k (0, 0, [])).2.1), .int .i64 ((xs.getD k (0, 0, [])).1), .bool (false), ((us.getD 0 undef))] : Value), fun FF us v => ∃ b, v = .slice (some ⟨b, 0, none⟩) 1 1]) (ownL [fun us v => [], fun us v => [], fun us v => [], fun us v => [], fun us v => [], fun us v => [], fun us v => [], fun us v => [], fun us v => [], fun us v => [], fun us v => [slH 197 4 v 1 [.int .i64 ((xs.getD k (0, 0, [])).2.1), .int .i64 ((xs.getD k (0, 0, [])).1), .bool (false), ((us.getD 0 undef))]]]) mixed rfl rfl (by kernel_rfl) (by kernel_rfl) (MonoG.get (MonoG.cons (fun le h => h) (MonoG.cons (fun le h => h) (MonoG.cons (fun le h => h) (MonoG.cons (fun le h => h) (MonoG.cons (fun le h => h) (MonoG.cons (fun le h => h) (MonoG.cons (fun le h => h) (MonoG.cons (fun le h => h) (MonoG.cons (fun le h => ⟨h.1, h.2.mono le⟩) (MonoG.cons (fun le h => h) (MonoG.cons (fun le h => h) MonoG.nil)))))))))))) ?_ ?_
  ·refine stepsG.cons (fun vals Fs R leFs hpZ => ?_) ?_
   ·refine XG.op (XOp.fieldP (b := b3) (1) Try.runUnderlying87 rfl Try.sizeOf85 (by decide) rfl rfl ?_)
    exact ⟨rfl, rfl⟩
   refine stepsG.cons (fun vals Fs R leFs hpZ => ?_) ?_
   ·replace hf := hf.mono leFs
    replace hxs := hxs.mono leFs
    replace hf1 := hf1.mono leFs
    replace hC := hC.mono leFs
    replace ha1 := ha1.mono leFs
    replace hr1 := Rd.monoA hr1 leFs
    replace hr2 := Rd.monoA hr2 leFs
    replace hr3 := Rd.monoA hr3 leFs
    rw [eS (l := [(0, ptr b3 1)]) ⟨(hpZ 0 (by decide)), trivial⟩]
    refine XG.op (XOp.load1 (v := sv) Try.isAgg85 rfl (Rd.own [_, _] rfl rfl) ?_)
    exact ⟨rfl, rfl⟩
   refine stepsG.cons (fun vals Fs R leFs hpZ => ?_) ?_
   ·refine XG.op (XOp.fieldP (b := b4) (1) Try.runUnderlying119 rfl Try.sizeOf2 (by decide) rfl rfl ?_)
    exact ⟨rfl, rfl⟩
   refine stepsG.cons (fun vals Fs R leFs hpZ => ?_) ?_
   ·replace hf := hf.mono leFs
    replace hxs := hxs.mono leFs
    replace hf1 := hf1.mono leFs
    replace hC := hC.mono leFs
    replace ha1 := ha1.mono leFs
    replace hr1 := Rd.monoA hr1 leFs
    replace hr2 := Rd.monoA hr2 leFs
    replace hr3 := Rd.monoA hr3 leFs
    rw [eS (l := [(2, ptr b4 1)]) ⟨(hpZ 2 (by decide)), trivial⟩]
    refine XG.op (XOp.load1 (v := .int .i64 ((xs.getD k (0, 0, [])).2.1)) Try.isAgg2 rfl (Rd.own [] rfl rfl) ?_)
    exact ⟨rfl, rfl⟩
   refine stepsG.cons (fun vals Fs R leFs hpZ => ?_) ?_
   ·refine XG.op (XOp.fieldP (b := b4) (0) Try.runUnderlying119 rfl Try.sizeOf2 (by decide) rfl rfl ?_)
    exact ⟨rfl, rfl⟩
   refine stepsG.cons (fun vals Fs R leFs hpZ => ?_) ?_
   ·replace hf := hf.mono leFs
    replace hxs := hxs.mono leFs
    replace hf1 := hf1.mono leFs
    replace hC := hC.mono leFs
    replace ha1 := ha1.mono leFs
    replace hr1 := Rd.monoA hr1 leFs
    replace hr2 := Rd.monoA hr2 leFs
    replace hr3 := Rd.monoA hr3 leFs
    rw [eS (l := [(4, ptr b4 0)]) ⟨(hpZ 4 (by decide)), trivial⟩]
    refine XG.op (XOp.load1 (v := .int .i64 ((xs.getD k (0, 0, [])).1)) Try.isAgg2 rfl (Rd.own [] rfl rfl) ?_)
    exact ⟨rfl, rfl⟩
   refine stepsG.cons (fun vals Fs R leFs hpZ => ?_) ?_
   ·refine XG.op (XOp.fieldP (b := b4) (2) Try.runUnderlying119 rfl Try.sizeOf22 (by decide) rfl rfl ?_)
    exact ⟨rfl, rfl⟩
   refine stepsG.cons (fun vals Fs R leFs hpZ => ?_) ?_
   ·replace hf := hf.mono leFs
    replace hxs := hxs.mono leFs
    replace hf1 := hf1.mono leFs
    replace hC := hC.mono leFs
    replace ha1 := ha1.mono leFs
    replace hr1 := Rd.monoA hr1 leFs
    replace hr2 := Rd.monoA hr2 leFs
    replace hr3 := Rd.monoA hr3 leFs
    rw [eS (l := [(6, ptr b4 2)]) ⟨(hpZ 6 (by decide)), trivial⟩]
    refine XG.op (XOp.load1 (v := a1) Try.isAgg22 rfl (Rd.own [] rfl rfl) ?_)
    exact ⟨rfl, rfl⟩
   refine stepsG.cons (fun vals Fs R leFs hpZ => ?_) ?_
   ·replace hf := hf.mono leFs
    replace hxs := hxs.mono leFs
    replace hf1 := hf1.mono leFs
    replace hC := hC.mono leFs
    replace ha1 := ha1.mono leFs
    replace hr1 := Rd.monoA hr1 leFs
    replace hr2 := Rd.monoA hr2 leFs
    replace hr3 := Rd.monoA hr3 leFs
    rw [eS (l := [(7, a1)]) ⟨(hpZ 7 (by decide)), trivial⟩]
    refine XG.op (XOp.frzF <| XOp.call (args := [a1]) Try.call88 rfl (l1Copy_spec ha1 (hlt := (by first | assumption | rfl | omega | simp))) ?_)
    rintro v4 _ _ _ ⟨rfl, hs3, rfl⟩
    refine ⟨_, _, rfl, fun F2 le2 hz2 => ?_⟩
    replace hf := hf.mono le2
    replace hxs := hxs.mono le2
    replace hf1 := hf1.mono le2
    replace hC := hC.mono le2
    replace ha1 := ha1.mono le2
    replace hr1 := Rd.monoA hr1 le2
    replace hr2 := Rd.monoA hr2 le2
    replace hr3 := Rd.monoA hr3 le2
    have hf2 : IntsF F2 v4 ((((xs.getD k (0, 0, [])).2.2))) := intsH.fz (xs := (((xs.getD k (0, 0, [])).2.2))) hz2.fz
    exact ⟨⟨rfl, hf2⟩, rfl⟩
   refine stepsG.cons (fun vals Fs R leFs hpZ => ?_) ?_
   ·obtain ⟨e8, f8_1ha⟩ := hpZ 8 (by decide)
    replace hf := hf.mono leFs
    replace hxs := hxs.mono leFs
    replace hf1 := hf1.mono leFs
    replace hC := hC.mono leFs
    replace ha1 := ha1.mono leFs
    replace hr1 := Rd.monoA hr1 leFs
    replace hr2 := Rd.monoA hr2 leFs
    replace hr3 := Rd.monoA hr3 leFs
    rw [eS (l := [(3, (.int .i64 ((xs.getD k (0, 0, [])).2.1) : Value)), (5, (.int .i64 ((xs.getD k (0, 0, [])).1) : Value)), (8, ((vals 8)))]) ⟨(hpZ 3 (by decide)), (hpZ 5 (by decide)), (e8).symm, trivial⟩]
    refine XG.op (XOp.build [.int .i64 ((xs.getD k (0, 0, [])).2.1), .int .i64 ((xs.getD k (0, 0, [])).1), .bool (false), ((vals 8))] [.int .i64 (0), .int .i64 (0), .bool (false), (.slice none 0 0)] [(0, 1), (1, 1), (2, 1), (3, 1)] [(0, [.int .i64 ((xs.getD k (0, 0, [])).2.1)]), (1, [.int .i64 ((xs.getD k (0, 0, [])).1)]), (3, [((vals 8))])] Try.runUnderlying197 Try.zeroValue197 rfl (.cons rfl Try.sizeOf2 (.cons rfl Try.sizeOf2 (.cons rfl Try.sizeOf4 (.cons rfl Try.sizeOf22 PlacesAre.nil)))) rfl (.cons rfl (.cons rfl (.cons (cells_one (IntsF.isSl f8_1ha)) CellsAre.nil))) ?_)
    exact ⟨rfl, rfl⟩
   refine stepsG.cons (fun vals Fs R leFs hpZ => ?_) ?_
   ·obtain ⟨e8, f8_1ha⟩ := hpZ 8 (by decide)
    have e9 : vals 9 = (.agg #[.int .i64 ((xs.getD k (0, 0, [])).2.1), .int .i64 ((xs.getD k (0, 0, [])).1), .bool (false), ((vals 8))] : Value) := hpZ 9 (by decide)
    replace hf := hf.mono leFs
    replace hxs := hxs.mono leFs
    replace hf1 := hf1.mono leFs
    replace hC := hC.mono leFs
    replace ha1 := ha1.mono leFs
    replace hr1 := Rd.monoA hr1 leFs
    replace hr2 := Rd.monoA hr2 leFs
    replace hr3 := Rd.monoA hr3 leFs
    rw [eS (l := [(8, ((vals 8))), (9, (.agg #[.int .i64 ((xs.getD k (0, 0, [])).2.1), .int .i64 ((xs.getD k (0, 0, [])).1), .bool (false), ((vals 8))] : Value))]) ⟨(e8).symm, e9, trivial⟩]
    refine XG.op (XOp.buildSlice (s := 4) [.int .i64 ((xs.getD k (0, 0, [])).2.1), .int .i64 ((xs.getD k (0, 0, [])).1), .bool (false), ((vals 8))] [.int .i64 (0), .int .i64 (0), .bool (false), (.slice none 0 0)] [(0, [.int .i64 ((xs.getD k (0, 0, [])).2.1), .int .i64 ((xs.getD k (0, 0, [])).1), .bool (false), ((vals 8))])] Try.runUnderlying85 Try.sizeOf197 Try.zeroValue197 rfl (by decide) rfl (.cons rfl CellsAre.nil) rfl ?_)
    intro v5 hv2
    exact ⟨hv2, rfl⟩
   exact stepsG.nil
  ·intro vals F3 le3 hphi
   obtain ⟨e8, f8_1ha⟩ := hphi 8 (by decide)
   have e9 : vals 9 = (.agg #[.int .i64 ((xs.getD k (0, 0, [])).2.1), .int .i64 ((xs.getD k (0, 0, [])).1), .bool (false), ((vals 8))] : Value) := hphi 9 (by decide)
   have f10 : ∃ b, (vals 10) = .slice (some ⟨b, 0, none⟩) 1 1 := hphi 10 (by decide)
   generalize hu1 : ((vals 8)) = u1 at e8 f8_1ha e9 f10
   generalize hu10 : vals 10 = u2 at e8 f8_1ha e9 f10
   rw [eS (l := [(0, ptr b3 1), (1, sv), (2, ptr b4 1), (3, (.int .i64 ((xs.getD k (0, 0, [])).2.1) : Value)), (4, ptr b4 0), (5, (.int .i64 ((xs.getD k (0, 0, [])).1) : Value)), (6, ptr b4 2), (7, a1), (8, u1), (9, (.agg #[.int .i64 ((xs.getD k (0, 0, [])).2.1), .int .i64 ((xs.getD k (0, 0, [])).1), .bool (false), u1] : Value)), (10, u2)]) ⟨(hphi 0 (by decide)), (hphi 1 (by decide)), (hphi 2 (by decide)), (hphi 3 (by decide)), (hphi 4 (by decide)), (hphi 5 (by decide)), (hphi 6 (by decide)), (hphi 7 (by decide)), hu1, e9, hu10, trivial⟩]
   replace hf := hf.mono le3
   replace hxs := hxs.mono le3
   replace hf1 := hf1.mono le3
   replace hC := hC.mono le3
   replace ha1 := ha1.mono le3
   replace hr1 := Rd.monoA hr1 le3
   replace hr2 := Rd.monoA hr2 le3
   replace hr3 := Rd.monoA hr3 le3
   show XL _ _ _ _ _ _ _ (slH 197 4 u2 1 [.int .i64 ((xs.getD k (0, 0, [])).2.1), .int .i64 ((xs.getD k (0, 0, [])).1), .bool (false), u1] :: cellsH b4 [.int .i64 ((xs.getD k (0, 0, [])).1), .int .i64 ((xs.getD k (0, 0, [])).2.1), a1] 119 :: slH 197 4 sv m cs :: cellsH b3 [v1, sv] 87 :: cellsH b2 [(.slice none 0 0), (.slice none 0 0)] 87 :: cellsH b1 [fv, xsv] 73 :: L)
   refine XL.cons (XOp.append (m := 1) (bytes := 48) (cs := cs) [_, _] _ [.int .i64 ((xs.getD k (0, 0, [])).2.1), .int .i64 ((xs.getD k (0, 0, [])).1), .bool (false), u1] Try.runUnderlying85 Try.typeInfo197 rfl rfl rfl rfl rfl rfl rfl (SlV.own [] rfl) rfl (Rd.lit [] rfl) (ones_cons rfl (ones_cons rfl (ones_cons rfl (ones_cons (one_sl (IntsF.isSl f8_1ha)) ones_nil)))) (by (try simp only [List.length_append, List.length_nil, List.length_cons, List.length_singleton]); omega) (by (try simp only [List.length_append, List.length_nil, List.length_cons, List.length_singleton]); omega) ?_)
   intro v6 hs4 hn1 hm1
   have hc1 := MovesC.snoc hC (y0 := (xs.getD k (0, 0, [])).2.1) (y1 := (xs.getD k (0, 0, [])).1) (y2 := false) (y3 := (((xs.getD k (0, 0, [])).2.2))) f8_1ha
   refine XL.cons (XOp.fieldP (b := b3) (1) Try.runUnderlying87 rfl Try.sizeOf85 (by decide) rfl rfl ?_)
   refine XL.cons (XOp.store1 (v := v6) [_, _, _] _ [v1, v6] Try.sizeOf85 rfl rfl (one_sl hs4) rfl rfl rfl ?_)
   refine XL.nil (X.region ?_)
   refine XL.mv (.int .i64 ((k : Int))) rfl ?_
   refine XL.cons (XOp.addR (a := (k : Int)) (b := 1) (((k + 1 : Nat) : Int)) rfl rfl (by omega) (by omega) ?_)
   refine XL.as (.int .i64 (((k + 1 : Nat) : Int))) rfl ?_
   refine XL.nil ?_
   exact ⟨(k + 1, v6, ms ++ [((xs.getD k (0, 0, [])).2.1, (xs.getD k (0, 0, [])).1, false, (((xs.getD k (0, 0, [])).2.2)))], cs ++ [.int .i64 ((xs.getD k (0, 0, [])).2.1), .int .i64 ((xs.getD k (0, 0, [])).1), .bool (false), u1], (m) + 1, F3), _, (FLe.trans leG1 le3), rF, ⟨rfl, rfl, rfl, rfl, trivial⟩, (Sub.drop (Sub.drop (Sub.cons (Sub.cons (Sub.cons (Sub.cons sR)))))), ⟨rfl, (FLe.trans leG1 le3), (by (try dsimp only) <;> omega), (hs4), (hc1), (by (try dsimp only); rw [List.length_append]; simp only [List.length_singleton]; omega), (by (try dsimp only); rw [chainL_succ (by omega), ← hms]; rfl)⟩, (by omega)⟩
 ·refine X.exit (thenQ_exit (thenQ_exit (blockQ_exit ?_)))
  refine X.seq (X.region ?_)
  refine XL.cons (XOp.loadN [v1, sv] Try.isAgg87 Try.sizeOf87 rfl rfl (Rd.ownN [_] rfl rfl) ?_)
  refine XL.cons (XOp.storeN (vs := [v1, sv]) [_, _] _ [v1, sv] Try.sizeOf87 rfl rfl rfl (ones_cons (one_sl (IntsF.isSl hf1)) (ones_cons (one_sl hsv) ones_nil)) rfl rfl rfl ?_)
  refine XL.nil ?_
  refine X.freezeF [] _ _ rfl (fun F4 le4 hz3 => ?_)
  replace hf := hf.mono le4
  replace hxs := hxs.mono le4
  replace hf1 := hf1.mono le4
  replace hC := hC.mono le4
  have hf3 : MovesF F4 sv ms := CO.fz hC (by first | rfl | simp | omega) hz3.fz
  refine X.ret (retEnd (L' := L) [.agg #[v1, sv]] (.agg #[v1, sv]) (.cell rfl (loadNV [v1, sv] Try.isAgg87 Try.sizeOf87 rfl (Rd.ownN [_] rfl rfl)) .nil) rfl (FLe.trans (FLe.trans le1 leG1) le4) rF (Sub.drop (Sub.drop (Sub.drop sR))) ?_)
  have e9 : ms = chainL xs := by rw [hms, show k = xs.length from by omega, List.take_length]
  rw [← e9]
  exact ⟨_, _, rfl, hf1, hf3, rfl⟩

/- impl.ChainOfWalk -/
set_option maxRecDepth 20000 in
theorem ChainOfWalk_spec {F : FH} {L : List HP} {arv : Value} {ar : List Int} (har : IntsF F arv ar) {rsv : Value} {rs : List (List Int × List Int)} (hrs : PairsF F rsv rs) {fv : Value} {f : List Int} (hf : IntsF F fv f) {xsv : Value} {xs : List StepT} (hxs : StepsF F xsv xs) (hlf : f.length ≤ 4000000) (hsb : ∀ i, i < xs.length → (xs.getD i (0, 0, [])).2.2.length ≤ 4000000) :
    Does Try.prog 49 [.agg #[arv, rsv], .agg #[fv, xsv]] F (L) (fun v F' L' => ∃ (a : Value), ∃ (b : Value), (.tuple #[.agg #[a, b], .bool ((chainWF ar rs f xs).2.2)] : Value) = v ∧ (IntsF F' a (chainWF ar rs f xs).1) ∧ (MovesF F' b (chainWF ar rs f xs).2.1) ∧ (Fresh F F' (star [intsH 2 a (chainWF ar rs f xs).1, movesD 2 197 b (chainWF ar rs f xs).2.1])) ∧ L = L') := by
 refine Does.of_X Try.func49 rfl rfl rfl ?_
 refine X.seq (X.region ?_)
 refine XL.cons (XOp.box [arv, rsv] rfl rfl ?_)
 intro b1
 refine XL.cons (XOp.box [fv, xsv] rfl rfl ?_)
 intro b2
 refine XL.cons (XOp.alloc [(.slice none 0 0), (.slice none 0 0)] Try.zeroValue87 rfl ?_)
 intro b3
 refine XL.as (.bool (false)) rfl ?_
 refine XL.nil (X.seq (X.seq (X.region ?_)))
 refine XL.cons (XOp.loadN [arv, rsv] Try.isAgg36 Try.sizeOf36 rfl rfl (Rd.ownN [_, _] rfl rfl) ?_)
 refine XL.cons (XOp.loadN [fv, xsv] Try.isAgg73 Try.sizeOf73 rfl rfl (Rd.ownN [_] rfl rfl) ?_)
 refine XL.cons (XOp.call (args := [.agg #[arv, rsv], .agg #[fv, xsv]]) Try.call91 rfl (WalkOk_spec har hrs hf hxs (hlf := (by first | assumption | rfl | omega | simp)) (hsb := (by first | assumption | rfl | omega | simp))) ?_)
 rintro _ _ _ _ ⟨rfl, rfl, rfl⟩
 refine XL.cons (XOp.notB (b := walkOkL ar rs f xs) rfl ?_)
 refine XL.nil ?_
 refine X.cond (t := !(walkOkL ar rs f xs)) rfl (fun h1 => ?_) (fun h1 => ?_)
 ·have hwk : walkOkL ar rs f xs = false := by simpa using h1
  refine X.seq (X.region ?_)
  refine XL.cons (XOp.build [(.slice none 0 0), (.slice none 0 0)] [(.slice none 0 0), (.slice none 0 0)] [(0, 1), (1, 1)] [] Try.runUnderlying87 Try.zeroValue87 rfl (.cons rfl Try.sizeOf22 (.cons rfl Try.sizeOf85 PlacesAre.nil)) rfl CellsAre.nil ?_)
  refine XL.cons (XOp.storeN (vs := [(.slice none 0 0), (.slice none 0 0)]) [] _ [(.slice none 0 0), (.slice none 0 0)] Try.sizeOf87 rfl rfl rfl (ones_cons rfl (ones_cons rfl ones_nil)) rfl rfl rfl ?_)
  refine XL.as (.bool (false)) rfl ?_
  refine XL.nil ?_
  refine X.ret (thenQ_ret (retEnd (L' := L) [.agg #[(.slice none 0 0), (.slice none 0 0)], .bool (false)] (.tuple #[.agg #[(.slice none 0 0), (.slice none 0 0)], .bool (false)]) (.cell rfl (loadNV [(.slice none 0 0), (.slice none 0 0)] Try.isAgg87 Try.sizeOf87 rfl (Rd.ownN [] rfl rfl)) (.tmp rfl .nil)) rfl rF rF (Sub.drop (Sub.drop (Sub.drop sR))) ?_))
  have e : chainWF ar rs f xs = ([], [], false) := chainWF_no hwk
  exact ⟨_, _, by rw [e], by rw [e]; exact IntsF.nilV, by rw [e]; exact SlOf.nilV, by rw [e]; exact Fresh.empty nilChain, rfl⟩
 ·have hwk : walkOkL ar rs f xs = true := by simpa using h1
  have hwb := walkOk_bound hwk
  have hwb1 := hwb.1
  have hwb2 := hwb.2.1
  refine X.skip (X.seq (X.region ?_))
  refine XL.cons (XOp.loadN [fv, xsv] Try.isAgg73 Try.sizeOf73 rfl rfl (Rd.ownN [_] rfl rfl) ?_)
  refine XL.cons (XOp.call (args := [.agg #[fv, xsv]]) Try.call104 rfl (chainOfWalk_spec hf hxs (hlf := (by first | assumption | rfl | omega | simp)) (hlx := (by first | assumption | rfl | omega | simp)) (hxb := (hwb.2.2))) ?_)
  rintro _ F1 _ le1 ⟨x1, x2, rfl, hr1, hr2, hr3, rfl⟩
  replace har := har.mono le1
  replace hrs := hrs.mono le1
  replace hf := hf.mono le1
  replace hxs := hxs.mono le1
  refine XL.cons (XOp.storeN (vs := [x1, x2]) [] _ [x1, x2] Try.sizeOf87 rfl rfl rfl (ones_cons (one_sl (IntsF.isSl hr1)) (ones_cons (one_sl (MovesF.isSl hr2)) ones_nil)) rfl rfl rfl ?_)
  refine XL.as (.bool (true)) rfl ?_
  refine XL.nil ?_
  refine X.ret (retEnd (L' := L) [.agg #[x1, x2], .bool (true)] (.tuple #[.agg #[x1, x2], .bool (true)]) (.cell rfl (loadNV [x1, x2] Try.isAgg87 Try.sizeOf87 rfl (Rd.ownN [] rfl rfl)) (.tmp rfl .nil)) rfl le1 rF (Sub.drop (Sub.drop (Sub.drop sR))) ?_)
  have e := chainWF_yes hwk
  exact ⟨_, _, by rw [e], by rw [e]; exact hr1, by rw [e]; exact hr2, by rw [e]; exact hr3, rfl⟩

/- spec.ChainOfWalk -/
set_option maxRecDepth 20000 in
theorem sChainOfWalk_spec {F : FH} {L : List HP} {arv : Value} {ar : List Int} (har : IntsF F arv ar) {rsv : Value} {rs : List (List Int × List Int)} (hrs : PairsF F rsv rs) {fv : Value} {f : List Int} (hf : IntsF F fv f) {xsv : Value} {xs : List StepT} (hxs : StepsF F xsv xs) (hla : ar.length ≤ 4000000) (hlr : rs.length ≤ 4000000) (hrb : ∀ i, i < rs.length → (rs.getD i ([], [])).1.length ≤ 4000000 ∧ (rs.getD i ([], [])).2.length ≤ 4000000) (hlf : f.length ≤ 4000000) (hlss : xs.length ≤ 4000000) (hsb : ∀ i, i < xs.length → (xs.getD i (0, 0, [])).2.2.length ≤ 4000000) :
    Does Try.prog 48 [.agg #[arv, rsv], .agg #[fv, xsv]] F (L) (fun v F' L' => ∃ (a : Value), ∃ (b : Value), (.tuple #[.agg #[a, b], .bool ((chainWF ar rs f xs).2.2)] : Value) = v ∧ (IntsF F' a (chainWF ar rs f xs).1) ∧ (MovesF F' b (chainWF ar rs f xs).2.1) ∧ L = L') := by
 refine Does.of_X Try.func48 rfl rfl rfl ?_
 refine X.seq (X.region ?_)
 refine XL.cons (XOp.box [arv, rsv] rfl rfl ?_)
 intro b1
 refine XL.cons (XOp.box [fv, xsv] rfl rfl ?_)
 intro b2
 refine XL.cons (XOp.alloc [(.slice none 0 0), (.slice none 0 0)] Try.zeroValue87 rfl ?_)
 intro b3
 refine XL.as (.bool (false)) rfl ?_
 refine XL.nil (X.seq (X.seq (X.region ?_)))
 refine XL.cons (XOp.loadN [arv, rsv] Try.isAgg36 Try.sizeOf36 rfl rfl (Rd.ownN [_, _] rfl rfl) ?_)
 refine XL.cons (XOp.loadN [fv, xsv] Try.isAgg73 Try.sizeOf73 rfl rfl (Rd.ownN [_] rfl rfl) ?_)
 refine XL.cons (XOp.call (args := [.agg #[arv, rsv], .agg #[fv, xsv]]) Try.call86 rfl (sWalkOk_spec har hrs hf hxs (hla := (by first | assumption | rfl | omega | simp)) (hlr := (by first | assumption | rfl | omega | simp)) (hrb := (by first | assumption | rfl | omega | simp)) (hlf := (by first | assumption | rfl | omega | simp)) (hlss := (by first | assumption | rfl | omega | simp)) (hsb := (by first | assumption | rfl | omega | simp))) ?_)
 rintro _ _ _ _ ⟨rfl, rfl, rfl⟩
 refine XL.cons (XOp.notB (b := walkOkL ar rs f xs) rfl ?_)
 refine XL.nil ?_
 refine X.cond (t := !(walkOkL ar rs f xs)) rfl (fun h1 => ?_) (fun h1 => ?_)
 ·have hwk : walkOkL ar rs f xs = false := by simpa using h1
  refine X.seq (X.region ?_)
  refine XL.cons (XOp.build [(.slice none 0 0), (.slice none 0 0)] [(.slice none 0 0), (.slice none 0 0)] [(0, 1), (1, 1)] [] Try.runUnderlying87 Try.zeroValue87 rfl (.cons rfl Try.sizeOf22 (.cons rfl Try.sizeOf85 PlacesAre.nil)) rfl CellsAre.nil ?_)
  refine XL.cons (XOp.storeN (vs := [(.slice none 0 0), (.slice none 0 0)]) [] _ [(.slice none 0 0), (.slice none 0 0)] Try.sizeOf87 rfl rfl rfl (ones_cons rfl (ones_cons rfl ones_nil)) rfl rfl rfl ?_)
  refine XL.as (.bool (false)) rfl ?_
  refine XL.nil ?_
  refine X.ret (thenQ_ret (retEnd (L' := L) [.agg #[(.slice none 0 0), (.slice none 0 0)], .bool (false)] (.tuple #[.agg #[(.slice none 0 0), (.slice none 0 0)], .bool (false)]) (.cell rfl (loadNV [(.slice none 0 0), (.slice none 0 0)] Try.isAgg87 Try.sizeOf87 rfl (Rd.ownN [] rfl rfl)) (.tmp rfl .nil)) rfl rF rF (Sub.drop (Sub.drop (Sub.drop sR))) ?_))
  have e : chainWF ar rs f xs = ([], [], false) := chainWF_no hwk
  exact ⟨_, _, by rw [e], by rw [e]; exact IntsF.nilV, by rw [e]; exact SlOf.nilV, rfl⟩
 ·have hwk : walkOkL ar rs f xs = true := by simpa using h1
  have hwb := walkOk_bound hwk
  have hwb1 := hwb.1
  have hwb2 := hwb.2.1
  refine X.skip (X.seq (X.region ?_))
  refine XL.cons (XOp.loadN [fv, xsv] Try.isAgg73 Try.sizeOf73 rfl rfl (Rd.ownN [_] rfl rfl) ?_)
  refine XL.cons (XOp.call (args := [.agg #[fv, xsv]]) Try.call103 rfl (l20Walk_spec hf hxs (hlf := (by first | assumption | rfl | omega | simp)) (hlx := (by first | assumption | rfl | omega | simp)) (hxb := (hwb.2.2))) ?_)
  rintro _ F1 _ le1 ⟨x1, x2, rfl, hr1, hr2, rfl⟩
  replace har := har.mono le1
  replace hrs := hrs.mono le1
  replace hf := hf.mono le1
  replace hxs := hxs.mono le1
  refine XL.cons (XOp.storeN (vs := [x1, x2]) [] _ [x1, x2] Try.sizeOf87 rfl rfl rfl (ones_cons (one_sl (IntsF.isSl hr1)) (ones_cons (one_sl (MovesF.isSl hr2)) ones_nil)) rfl rfl rfl ?_)
  refine XL.as (.bool (true)) rfl ?_
  refine XL.nil ?_
  refine X.ret (retEnd (L' := L) [.agg #[x1, x2], .bool (true)] (.tuple #[.agg #[x1, x2], .bool (true)]) (.cell rfl (loadNV [x1, x2] Try.isAgg87 Try.sizeOf87 rfl (Rd.ownN [] rfl rfl)) (.tmp rfl .nil)) rfl le1 rF (Sub.drop (Sub.drop (Sub.drop sR))) ?_)
  have e := chainWF_yes hwk
  exact ⟨_, _, by rw [e], by rw [e]; exact hr1, by rw [e]; exact hr2, rfl⟩
end Go.Proofs.Ytnloeeaidknblaa
