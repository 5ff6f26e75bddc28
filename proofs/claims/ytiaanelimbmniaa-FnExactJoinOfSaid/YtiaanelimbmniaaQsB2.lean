/-
  Walks, one after the other (part 3).
-/
import Derived.Test.YtiaanelimbmniaaQsL1
import Derived.Test.YtiaanelimbmniaaQsB1
set_option linter.unusedSimpArgs false
set_option linter.unusedVariables false
namespace Go.Proofs.Ytiaanelimbmniaa
open Go X M

/- laws.markInt64S -/
theorem markInt64S_spec {F : FH} {L : List HP} {xv : Value} {x : List Int} {z : Int} (hz : 0 ≤ z ∧ z + (((x)).length : Int) ≤ 9000000000) :
    Does Try.prog 23 [xv, .int .i64 (z)] F (intsH 2 xv x :: L) (fun v F' L' => ∃ x' : List Int, ((x')) = iota z ((x)).length ∧ (.int .i64 (z + (((x)).length : Int)) : Value) = v ∧ F = F' ∧ intsH 2 xv x' :: L = L') := by
 refine Does.of_X Try.func23 rfl rfl rfl ?_
 refine X.seq ?_
 refine X.region ?_
 refine XL.cons (XOp.assign (.int .i64 (0)) rfl ?_)
 refine XL.nil ?_
 refine X.seq ?_
 refine X.seq ?_
 refine X.region ?_
 refine XL.cons (XOp.assign (.int .i64 (0)) rfl ?_)
 refine XL.nil ?_
 refine X.block ?_
 refine X.loop (α := Nat × List Int) (fun xQ => [(0, xv), (1, .int .i64 (z + ((xQ.1 : Nat) : Int))), (5, .int .i64 (((xQ.1 : Nat) : Int)))]) (fun xQ => intsH 2 xv xQ.2 :: L) (fun xQ F' => F = F' ∧ (xQ.1 ≤ x.length) ∧ (xQ.2 = iota z xQ.1 ++ x.drop xQ.1) ∧ (xQ.2.length = x.length)) (fun xQ => x.length - xQ.1) (0, x) ⟨rfl, (show Value.int .i64 z = .int .i64 (z + ((0 : Nat) : Int)) from congrArg (Value.int .i64) (by omega)), rfl, trivial⟩ (Sub.cons (Sub.refl _)) ⟨rfl, (by (try dsimp only) <;> omega), (by rw [iota_zero]; rfl), (rfl)⟩ ?_
 rintro ⟨k, os⟩ rE _ _ ⟨rfl, hk, hos, hol⟩
 show X _ _ _ _ (envs [(0, xv), (1, .int .i64 (z + ((k : Nat) : Int))), (5, .int .i64 (((k : Nat) : Int)))] rE) _ (intsH 2 xv os :: L)
 dsimp only at hk hos hol
 refine X.seq ?_
 refine X.seq ?_
 refine X.region ?_
 refine XL.cons (XOp.move (.int .i64 (((k : Nat) : Int))) rfl ?_)
 refine XL.cons (XOp.move (xv) rfl ?_)
 refine XL.cons (XOp.lenS (v := xv) (n := os.length) Try.runUnderlying22 rfl (intsH.slv [] rfl) ?_)
 refine XL.cons (XOp.lss (a := ((k : Nat) : Int)) (b := ((os.length : Nat) : Int)) rfl rfl ?_)
 refine XL.nil ?_
 refine X.condD (p := (((k : Nat) : Int) : Int) < ((os.length : Nat) : Int)) rfl (fun h1 => ?_) (fun h1 => ?_)
 ·refine X.skip ?_
  refine X.seq ?_
  refine X.block ?_
  refine X.seq ?_
  refine X.region ?_
  refine XL.cons (XOp.move (xv) rfl ?_)
  refine XL.cons (XOp.move (.int .i64 (((k : Nat) : Int))) rfl ?_)
  refine XL.cons (XOp.move (.int .i64 (z + ((k : Nat) : Int))) rfl ?_)
  refine XL.cons (XOp.indexS (v := xv) (i := ((k : Nat) : Int)) (n := os.length) k Try.runUnderlying22 Try.sizeOf2 rfl rfl rfl (intsH.slv [] rfl) (by omega) (Nat.mul_one _) ?_)
  refine XL.cons (intsH.storeX (i := k) (v := xv) [] _ (os.set k (z + ((k : Nat) : Int))) Try.sizeOf2 rfl rfl rfl (by omega) rfl ?_)
  refine XL.nil ?_
  refine X.region ?_
  refine XL.cons (XOp.move (.int .i64 (z + ((k : Nat) : Int))) rfl ?_)
  refine XL.cons (XOp.addR (a := z + ((k : Nat) : Int)) (b := 1) ((z + ((k : Nat) : Int)) + 1) rfl rfl (by omega) (by omega) ?_)
  refine XL.cons (XOp.assign (.int .i64 ((z + ((k : Nat) : Int)) + 1)) rfl ?_)
  refine XL.nil ?_
  refine X.region ?_
  refine XL.cons (XOp.move (.int .i64 (((k : Nat) : Int))) rfl ?_)
  refine XL.cons (XOp.addR (a := ((k : Nat) : Int)) (b := 1) (((k + 1 : Nat) : Int)) rfl rfl (by omega) (by omega) ?_)
  refine XL.cons (XOp.assign (.int .i64 (((k + 1 : Nat) : Int))) rfl ?_)
  refine XL.nil ?_
  exact ⟨(k + 1, (os.set k (z + ((k : Nat) : Int)))), _, FLe.refl _, (FLe.refl _), ⟨rfl, (congrArg (Value.int .i64) (by omega)), rfl, trivial⟩, (Sub.cons (Sub.refl _)), ⟨rfl, (by (try dsimp only) <;> omega), (by dsimp only; rw [hos]; exact iota_set (by omega)), (by dsimp only; rw [List.length_set]; exact hol)⟩, (by omega)⟩
 ·refine X.exit (thenQ_exit (thenQ_exit (blockQ_exit ?_)))
  refine X.seq ?_
  refine X.region ?_
  refine XL.cons (XOp.move (.int .i64 (z + ((k : Nat) : Int))) rfl ?_)
  refine XL.cons (XOp.assign (.int .i64 (z + ((k : Nat) : Int))) rfl ?_)
  refine XL.nil ?_
  refine X.ret (retEnd (L' := intsH 2 xv os :: L) [.int .i64 (z + ((k : Nat) : Int))] (.int .i64 (z + ((k : Nat) : Int))) (.tmp rfl .nil) rfl (FLe.refl _) (FLe.refl _) (Sub.cons (Sub.refl _)) ?_)
  have hkl : k = x.length := by omega
  subst hkl
  exact ⟨os, by rw [hos, List.drop_eq_nil_of_le (Nat.le_refl _), List.append_nil], rfl, rfl, rfl⟩

/- laws.heldInt64S -/
theorem heldInt64S_spec {F : FH} {L : List HP} {xv : Value} {x : List Int} (hx : IntsF F xv x) {z : Int} (hzb : 0 ≤ z ∧ z + (x.length : Int) ≤ 9000000000) :
    Does Try.prog 62 [xv, .int .i64 (z)] F (L) (fun v F' L' => (.int .i64 (heldF x z) : Value) = v ∧ F = F' ∧ L = L') := by
 refine Does.of_X Try.func62 rfl rfl rfl ?_
 refine X.seq ?_
 refine X.region ?_
 refine XL.cons (XOp.assign (.int .i64 (0)) rfl ?_)
 refine XL.nil ?_
 refine X.seq ?_
 refine X.seq ?_
 refine X.region ?_
 refine XL.cons (XOp.assign (.int .i64 (0)) rfl ?_)
 refine XL.nil ?_
 refine X.block ?_
 refine X.loop (α := Nat) (fun k => [(0, xv), (1, .int .i64 (z + ((k : Nat) : Int))), (5, .int .i64 (((k : Nat) : Int)))]) (fun k => L) (fun k F' => F = F' ∧ (k ≤ x.length) ∧ (x.take k = iota z k)) (fun k => x.length - k) 0 ⟨rfl, (show Value.int .i64 z = .int .i64 (z + ((0 : Nat) : Int)) from congrArg (Value.int .i64) (by omega)), rfl, trivial⟩ (Sub.refl _) ⟨rfl, (by (try dsimp only) <;> omega), (rfl)⟩ ?_
 rintro k rE _ _ ⟨rfl, hk, hos⟩
 show X _ _ _ _ (envs [(0, xv), (1, .int .i64 (z + ((k : Nat) : Int))), (5, .int .i64 (((k : Nat) : Int)))] rE) _ (L)
 refine X.seq ?_
 refine X.seq ?_
 refine X.region ?_
 refine XL.cons (XOp.move (.int .i64 (((k : Nat) : Int))) rfl ?_)
 refine XL.cons (XOp.move (xv) rfl ?_)
 refine XL.cons (XOp.lenS (v := xv) (n := (x).length) Try.runUnderlying22 rfl hx.slv ?_)
 refine XL.cons (XOp.lss (a := ((k : Nat) : Int)) (b := (((x).length : Nat) : Int)) rfl rfl ?_)
 refine XL.nil ?_
 refine X.condD (p := (((k : Nat) : Int) : Int) < (((x).length : Nat) : Int)) rfl (fun h1 => ?_) (fun h1 => ?_)
 ·refine X.skip ?_
  refine X.seq ?_
  refine X.block ?_
  refine X.seq ?_
  refine X.seq ?_
  refine X.region ?_
  refine XL.cons (XOp.move (xv) rfl ?_)
  refine XL.cons (XOp.move (.int .i64 (((k : Nat) : Int))) rfl ?_)
  refine XL.cons (XOp.indexS (v := xv) (i := ((k : Nat) : Int)) (n := (x).length) k Try.runUnderlying22 Try.sizeOf2 rfl rfl rfl hx.slv (by omega) (Nat.mul_one _) ?_)
  refine XL.cons (XOp.load1 (v := .int .i64 (x.getD k 0)) Try.isAgg2 rfl (hx.rd (by omega)) ?_)
  refine XL.cons (XOp.move (.int .i64 (z + ((k : Nat) : Int))) rfl ?_)
  refine XL.cons (XOp.neq (a := x.getD k 0) (b := z + ((k : Nat) : Int)) rfl rfl ?_)
  refine XL.nil ?_
  refine X.condD (p := (x.getD k 0 : Int) ≠ z + ((k : Nat) : Int)) rfl (fun h2 => ?_) (fun h2 => ?_)
  ·refine X.seq ?_
   refine X.region ?_
   refine XL.cons (XOp.assign (.int .i64 (-1)) rfl ?_)
   refine XL.nil ?_
   refine X.ret (thenQ_ret (blockQ_ret (thenQ_ret (thenQ_ret (blockQ_ret (thenQ_ret (retEnd (L' := L) [.int .i64 (-1)] (.int .i64 (-1)) (.tmp rfl .nil) rfl (FLe.refl _) (FLe.refl _) (Sub.refl _) ?_)))))))
   exact ⟨(congrArg (Value.int .i64) (heldF_snoc_no (i := k) (by omega) (by assumption))), rfl, rfl⟩
  ·refine X.skip ?_
   refine X.region ?_
   refine XL.cons (XOp.move (.int .i64 (z + ((k : Nat) : Int))) rfl ?_)
   refine XL.cons (XOp.addR (a := z + ((k : Nat) : Int)) (b := 1) ((z + ((k : Nat) : Int)) + 1) rfl rfl (by omega) (by omega) ?_)
   refine XL.cons (XOp.assign (.int .i64 ((z + ((k : Nat) : Int)) + 1)) rfl ?_)
   refine XL.nil ?_
   refine X.region ?_
   refine XL.cons (XOp.move (.int .i64 (((k : Nat) : Int))) rfl ?_)
   refine XL.cons (XOp.addR (a := ((k : Nat) : Int)) (b := 1) (((k + 1 : Nat) : Int)) rfl rfl (by omega) (by omega) ?_)
   refine XL.cons (XOp.assign (.int .i64 (((k + 1 : Nat) : Int))) rfl ?_)
   refine XL.nil ?_
   exact ⟨k + 1, _, FLe.refl _, (FLe.refl _), ⟨rfl, (congrArg (Value.int .i64) (by omega)), rfl, trivial⟩, (Sub.refl _), ⟨rfl, (by (try dsimp only) <;> omega), (by (try dsimp only); rw [take_succ_getD 0 (by omega), hos, iota_succ]; congr 2; first | assumption | exact Classical.not_not.1 (by assumption) | omega)⟩, (by omega)⟩
 ·refine X.exit (thenQ_exit (thenQ_exit (blockQ_exit ?_)))
  refine X.seq ?_
  refine X.region ?_
  refine XL.cons (XOp.move (.int .i64 (z + ((k : Nat) : Int))) rfl ?_)
  refine XL.cons (XOp.assign (.int .i64 (z + ((k : Nat) : Int))) rfl ?_)
  refine XL.nil ?_
  refine X.ret (retEnd (L' := L) [.int .i64 (z + ((k : Nat) : Int))] (.int .i64 (z + ((k : Nat) : Int))) (.tmp rfl .nil) rfl (FLe.refl _) (FLe.refl _) (Sub.refl _) ?_)
  exact ⟨(congrArg (Value.int .i64) (held_all (by omega) hos)), rfl, rfl⟩

/- laws.markSig -/
theorem markSig_spec {F : FH} {L : List HP} {xv : Value} {x : List Int} {z : Int} (hz : 0 ≤ z ∧ z + (((x)).length : Int) ≤ 9000000000) :
    Does Try.prog 59 [.agg #[xv], .int .i64 (z)] F (intsH 2 xv x :: L) (fun v F' L' => ∃ x' : List Int, ((x')) = iota z ((x)).length ∧ (.int .i64 (z + (((x)).length : Int)) : Value) = v ∧ F = F' ∧ intsH 2 xv x' :: L = L') := by
 refine Does.of_X Try.func59 rfl rfl rfl ?_
 refine X.seq ?_
 refine X.region ?_
 refine XL.cons (XOp.box [xv] rfl rfl ?_)
 intro b1
 refine XL.cons (XOp.assign (.int .i64 (0)) rfl ?_)
 refine XL.nil ?_
 refine X.seq ?_
 refine X.region ?_
 refine XL.cons (XOp.fieldP (b := b1) (0) Try.runUnderlying30 rfl Try.sizeOf22 (by decide) rfl rfl ?_)
 refine XL.cons (XOp.load1 (v := xv) Try.isAgg22 rfl (Rd.own [] rfl rfl) ?_)
 refine XL.cons (XOp.move (.int .i64 (z)) rfl ?_)
 refine XL.weaken (Sub.front (A := [_])) ?_
 show XL _ _ _ _ _ _ _ (intsH 2 xv x :: cellsH b1 [xv] 30 :: L)
 refine XL.cons (XOp.call (args := [xv, .int .i64 (z)]) Try.call23 rfl (markInt64S_spec (by omega)) ?_)
 rintro _ _ _ _ ⟨m1, hm1, rfl, rfl, rfl⟩
 have hml1 := congrArg List.length hm1
 rw [iota_len] at hml1
 try simp only [List.length_append] at hml1
 refine XL.cons (XOp.assign (.int .i64 (z + (((x)).length : Int))) rfl ?_)
 refine XL.nil ?_
 refine X.seq ?_
 refine X.region ?_
 refine XL.cons (XOp.move (.int .i64 (z + (((x)).length : Int))) rfl ?_)
 refine XL.cons (XOp.assign (.int .i64 (z + (((x)).length : Int))) rfl ?_)
 refine XL.nil ?_
 refine X.ret (retEnd (L' := intsH 2 xv m1 :: L) [.int .i64 (z + (((x)).length : Int))] (.int .i64 (z + (((x)).length : Int))) (.tmp rfl .nil) rfl (FLe.refl _) (FLe.refl _) (Sub.cons (Sub.drop (Sub.refl _))) ?_)
 exact ⟨m1, hm1, congrArg (Value.int .i64) (by first | rfl | (simp only [List.length_append]; omega)), rfl, rfl⟩

/- laws.markRuleS -/
theorem markRuleS_spec {F : FH} {L : List HP} {xv : Value} {x : List (List Int × List Int)} {z : Int} (hz : 0 ≤ z ∧ z + (((x.flatMap flatPair)).length : Int) ≤ 9000000000) (hnx : x.length ≤ 4000000) :
    Does Try.prog 60 [xv, .int .i64 (z)] F (pairsD 2 105 xv x :: L) (fun v F' L' => ∃ x' : List (List Int × List Int), ((x'.flatMap flatPair)) = iota z ((x.flatMap flatPair)).length ∧ x'.length = x.length ∧ (.int .i64 (z + (((x.flatMap flatPair)).length : Int)) : Value) = v ∧ F = F' ∧ pairsD 2 105 xv x' :: L = L') := by
 refine Does.of_X Try.func60 rfl rfl rfl ?_
 refine X.openDeep (fun cs Ls hd => ?_)
 refine X.weaken (Sub.front (A := [_])) ?_
 show X _ _ _ _ _ _ (star Ls :: slH 105 2 xv x.length cs :: L)
 refine X.seq ?_
 refine X.region ?_
 refine XL.cons (XOp.assign (.int .i64 (0)) rfl ?_)
 refine XL.nil ?_
 refine X.seq ?_
 refine X.seq ?_
 refine X.region ?_
 refine XL.cons (XOp.assign (.int .i64 (0)) rfl ?_)
 refine XL.nil ?_
 refine X.block ?_
 refine X.loop (α := Nat × List (List Int × List Int) × List HP) (fun xQ => [(0, xv), (1, .int .i64 (z + ((((x.take xQ.1).flatMap flatPair).length : Nat) : Int))), (5, .int .i64 (((xQ.1 : Nat) : Int)))]) (fun xQ => star xQ.2.2 :: slH 105 2 xv x.length cs :: L) (fun xQ F' => F = F' ∧ (DeepL 2 (PairO 2) cs (xQ.2.1 ++ x.drop xQ.1) xQ.2.2) ∧ (xQ.1 ≤ x.length) ∧ (xQ.2.1.length = xQ.1) ∧ (xQ.2.1.flatMap flatPair = iota z ((x.take xQ.1).flatMap flatPair).length)) (fun xQ => x.length - xQ.1) (0, [], Ls) ⟨rfl, (show Value.int .i64 z = .int .i64 (z + ((((x.take 0).flatMap flatPair).length : Nat) : Int)) from congrArg (Value.int .i64) (by simp)), rfl, trivial⟩ (Sub.cons (Sub.cons (Sub.refl _))) ⟨rfl, (hd), (by (try dsimp only) <;> omega), (rfl), (rfl)⟩ ?_
 rintro ⟨k, os, Ls⟩ rE _ _ ⟨rfl, hd, hk, hol, hfl⟩
 show X _ _ _ _ (envs [(0, xv), (1, .int .i64 (z + ((((x.take k).flatMap flatPair).length : Nat) : Int))), (5, .int .i64 (((k : Nat) : Int)))] rE) _ (star Ls :: slH 105 2 xv x.length cs :: L)
 dsimp only at hd hk hol hfl
 have htl := fun (h : k < x.length) => flat_take_le (f := flatPair) (l := x) ([], []) h
 have hlen : (os ++ x.drop k).length = x.length := by rw [List.length_append, List.length_drop]; omega
 refine X.seq ?_
 refine X.seq ?_
 refine X.region ?_
 refine XL.cons (XOp.move (.int .i64 (((k : Nat) : Int))) rfl ?_)
 refine XL.cons (XOp.move (xv) rfl ?_)
 refine XL.cons (XOp.lenS (v := xv) (n := x.length) Try.runUnderlying31 rfl (SlV.own [_] rfl) ?_)
 refine XL.cons (XOp.lss (a := ((k : Nat) : Int)) (b := ((x.length : Nat) : Int)) rfl rfl ?_)
 refine XL.nil ?_
 refine X.condD (p := (((k : Nat) : Int) : Int) < ((x.length : Nat) : Int)) rfl (fun h1 => ?_) (fun h1 => ?_)
 ·refine X.skip ?_
  refine X.seq ?_
  refine X.block ?_
  refine X.seq ?_
  refine X.region ?_
  have hkx : k < x.length := by omega
  have htl2 := htl hkx
  obtain ⟨A, K, B, es, hLs, hel, hR, hg, hput⟩ := hd.at (d := ([], [])) (k := k) (by omega)
  rw [app_getD hol] at hR
  have hself := splice_self hel hg (hd.bound (k := k) (by omega))
  obtain ⟨a, b, he, hK⟩ := hR
  subst he hK
  have hfp : (flatPair (x.getD k ([], []))).length = (x.getD k ([], [])).1.length + (x.getD k ([], [])).2.length := by unfold flatPair; rw [List.length_append]
  subst hLs
  refine XL.weaken (Sub.pull (A := A)) ?_
  show XL _ _ _ _ _ _ _ (intsH 2 a ((x.getD k ([], [])).1) :: intsH 2 b ((x.getD k ([], [])).2) :: star (A ++ B) :: slH 105 2 xv x.length cs :: L)
  skip
  refine XL.cons (XOp.move (xv) rfl ?_)
  refine XL.cons (XOp.move (.int .i64 (((k : Nat) : Int))) rfl ?_)
  refine XL.cons (XOp.indexS (v := xv) (i := ((k : Nat) : Int)) (n := x.length) k Try.runUnderlying31 Try.sizeOf105 rfl rfl rfl (SlV.own [_, _, _] rfl) (by omega) rfl ?_)
  refine XL.cons (XOp.fieldE (v := xv) (k * 2) Try.runUnderlying105 rfl Try.sizeOf22 (by decide) rfl rfl ?_)
  refine XL.cons (XOp.load1 (v := a) Try.isAgg22 rfl (Rd.sl [_, _, _] rfl (hg 0 _ rfl)) ?_)
  refine XL.cons (XOp.move (.int .i64 (z + ((((x.take k).flatMap flatPair).length : Nat) : Int))) rfl ?_)
  refine XL.cons (XOp.call (args := [a, .int .i64 (z + ((((x.take k).flatMap flatPair).length : Nat) : Int))]) Try.call23 rfl (markInt64S_spec (by omega)) ?_)
  rintro _ _ _ _ ⟨m1, hm1, rfl, rfl, rfl⟩
  have hml1 := congrArg List.length hm1
  rw [iota_len] at hml1
  try simp only [List.length_append] at hml1
  refine XL.cons (XOp.assign (.int .i64 ((z + ((((x.take k).flatMap flatPair).length : Nat) : Int)) + (((((x.getD k ([], [])).1))).length : Int))) rfl ?_)
  refine XL.nil ?_
  refine X.region ?_
  refine XL.cons (XOp.move (xv) rfl ?_)
  refine XL.cons (XOp.move (.int .i64 (((k : Nat) : Int))) rfl ?_)
  refine XL.cons (XOp.indexS (v := xv) (i := ((k : Nat) : Int)) (n := x.length) k Try.runUnderlying31 Try.sizeOf105 rfl rfl rfl (SlV.own [_, _, _] rfl) (by omega) rfl ?_)
  refine XL.cons (XOp.fieldE (v := xv) (k * 2 + 1) Try.runUnderlying105 rfl Try.sizeOf22 (by decide) rfl rfl ?_)
  refine XL.cons (XOp.load1 (v := b) Try.isAgg22 rfl (Rd.sl [_, _, _] rfl (hg 1 _ rfl)) ?_)
  refine XL.cons (XOp.move (.int .i64 ((z + ((((x.take k).flatMap flatPair).length : Nat) : Int)) + (((((x.getD k ([], [])).1))).length : Int))) rfl ?_)
  refine XL.weaken (Sub.front (A := [_])) ?_
  show XL _ _ _ _ _ _ _ (intsH 2 b ((x.getD k ([], [])).2) :: intsH 2 a m1 :: star (A ++ B) :: slH 105 2 xv x.length cs :: L)
  refine XL.cons (XOp.call (args := [b, .int .i64 ((z + ((((x.take k).flatMap flatPair).length : Nat) : Int)) + (((((x.getD k ([], [])).1))).length : Int))]) Try.call23 rfl (markInt64S_spec (by omega)) ?_)
  rintro _ _ _ _ ⟨m2, hm2, rfl, rfl, rfl⟩
  have hml2 := congrArg List.length hm2
  rw [iota_len] at hml2
  try simp only [List.length_append] at hml2
  refine XL.cons (XOp.assign (.int .i64 (((z + ((((x.take k).flatMap flatPair).length : Nat) : Int)) + (((((x.getD k ([], [])).1))).length : Int)) + (((((x.getD k ([], [])).2))).length : Int))) rfl ?_)
  refine XL.nil ?_
  refine X.region ?_
  refine XL.weaken (Sub.trans (Sub.front (A := [_, _, _])) (Sub.trans (Sub.front (A := [_, _, _])) (Sub.trans (Sub.front (A := [_, _])) (Sub.trans (Sub.front (A := [_, _, _])) (Sub.cons (Sub.cons (Sub.cons (Sub.cons (Sub.refl _))))))))) ?_
  refine XL.weaken (Sub.push (A := A) (K := [intsH 2 a m1, intsH 2 b m2]) (B := B)) ?_
  show XL _ _ _ _ _ _ _ (star (A ++ ([intsH 2 a m1, intsH 2 b m2] ++ B)) :: slH 105 2 xv x.length cs :: L)
  have hdn := hput [a, b] (m1, m2) _ rfl ⟨a, b, rfl, rfl⟩
  rw [hself, app_set hol hkx] at hdn
  have hfx : flatPair (m1, m2) = iota (z + ((((x.take k).flatMap flatPair).length : Nat) : Int)) (flatPair (x.getD k ([], []))).length := by rw [hfp, iota_add]; show m1 ++ m2 = _; rw [hm1, hm2]
  have hnext : (z + ((((x.take k).flatMap flatPair).length : Nat) : Int)) + ((x.getD k ([], [])).1.length : Int) + ((x.getD k ([], [])).2.length : Int) = z + ((((x.take (k + 1)).flatMap flatPair).length : Nat) : Int) := by rw [flatMap_take_succ flatPair ([], []) hkx, List.length_append, hfp]; omega
  skip
  refine XL.cons (XOp.move (.int .i64 (((k : Nat) : Int))) rfl ?_)
  refine XL.cons (XOp.addR (a := ((k : Nat) : Int)) (b := 1) (((k + 1 : Nat) : Int)) rfl rfl (by omega) (by omega) ?_)
  refine XL.cons (XOp.assign (.int .i64 (((k + 1 : Nat) : Int))) rfl ?_)
  refine XL.nil ?_
  exact ⟨(k + 1, os ++ [(m1, m2)], A ++ ([intsH 2 a m1, intsH 2 b m2] ++ B)), _, FLe.refl _, (FLe.refl _), ⟨rfl, (congrArg (Value.int .i64) hnext), rfl, trivial⟩, (Sub.cons (Sub.cons (Sub.refl _))), ⟨rfl, (hdn), (by (try dsimp only) <;> omega), (by simp [hol]), (marked (d := ([], [])) (by omega) hfl hfx)⟩, (by omega)⟩
 ·refine X.exit (thenQ_exit (thenQ_exit (blockQ_exit ?_)))
  refine X.seq ?_
  refine X.region ?_
  refine XL.cons (XOp.move (.int .i64 (z + ((((x.take k).flatMap flatPair).length : Nat) : Int))) rfl ?_)
  refine XL.cons (XOp.assign (.int .i64 (z + ((((x.take k).flatMap flatPair).length : Nat) : Int))) rfl ?_)
  refine XL.nil ?_
  refine X.ret (retEnd (L' := pairsD 2 105 xv os :: L) [.int .i64 (z + ((((x.take k).flatMap flatPair).length : Nat) : Int))] (.int .i64 (z + ((((x.take k).flatMap flatPair).length : Nat) : Int))) (.tmp rfl .nil) rfl (FLe.refl _) (FLe.refl _) (Sub.trans (Sub.front (A := [_])) (Sub.closeDeep (by rw [app_all (by omega)] at hd; exact hd) (by omega))) ?_)
  rw [app_all (by omega)] at hd
  have hkl : k = x.length := by omega
  exact ⟨os, by rw [hfl, hkl, List.take_length], by omega, by rw [hkl, List.take_length], rfl, rfl⟩

/- laws.markStepS -/
theorem markStepS_spec {F : FH} {L : List HP} {xv : Value} {x : List StepT} {z : Int} (hz : 0 ≤ z ∧ z + (((x.flatMap flatStep)).length : Int) ≤ 9000000000) (hnx : x.length ≤ 4000000) :
    Does Try.prog 61 [xv, .int .i64 (z)] F (stepsD 2 77 xv x :: L) (fun v F' L' => ∃ x' : List StepT, ((x'.flatMap flatStep)) = iota z ((x.flatMap flatStep)).length ∧ x'.length = x.length ∧ (.int .i64 (z + (((x.flatMap flatStep)).length : Int)) : Value) = v ∧ F = F' ∧ stepsD 2 77 xv x' :: L = L') := by
 refine Does.of_X Try.func61 rfl rfl rfl ?_
 refine X.openDeep (fun cs Ls hd => ?_)
 refine X.weaken (Sub.front (A := [_])) ?_
 show X _ _ _ _ _ _ (star Ls :: slH 77 3 xv x.length cs :: L)
 refine X.seq ?_
 refine X.region ?_
 refine XL.cons (XOp.assign (.int .i64 (0)) rfl ?_)
 refine XL.nil ?_
 refine X.seq ?_
 refine X.seq ?_
 refine X.region ?_
 refine XL.cons (XOp.assign (.int .i64 (0)) rfl ?_)
 refine XL.nil ?_
 refine X.block ?_
 refine X.loop (α := Nat × List StepT × List HP × List Value) (fun xQ => [(0, xv), (1, .int .i64 (z + ((((x.take xQ.1).flatMap flatStep).length : Nat) : Int))), (5, .int .i64 (((xQ.1 : Nat) : Int)))]) (fun xQ => star xQ.2.2.1 :: slH 77 3 xv x.length xQ.2.2.2 :: L) (fun xQ F' => F = F' ∧ (DeepL 3 (StepO 2) xQ.2.2.2 (xQ.2.1 ++ x.drop xQ.1) xQ.2.2.1) ∧ (xQ.1 ≤ x.length) ∧ (xQ.2.1.length = xQ.1) ∧ (xQ.2.1.flatMap flatStep = iota z ((x.take xQ.1).flatMap flatStep).length)) (fun xQ => x.length - xQ.1) (0, [], Ls, cs) ⟨rfl, (show Value.int .i64 z = .int .i64 (z + ((((x.take 0).flatMap flatStep).length : Nat) : Int)) from congrArg (Value.int .i64) (by simp)), rfl, trivial⟩ (Sub.cons (Sub.cons (Sub.refl _))) ⟨rfl, (hd), (by (try dsimp only) <;> omega), (rfl), (rfl)⟩ ?_
 rintro ⟨k, os, Ls, cs⟩ rE _ _ ⟨rfl, hd, hk, hol, hfl⟩
 show X _ _ _ _ (envs [(0, xv), (1, .int .i64 (z + ((((x.take k).flatMap flatStep).length : Nat) : Int))), (5, .int .i64 (((k : Nat) : Int)))] rE) _ (star Ls :: slH 77 3 xv x.length cs :: L)
 dsimp only at hd hk hol hfl
 have htl := fun (h : k < x.length) => flat_take_le (f := flatStep) (l := x) ((0 : Int), (0 : Int), ([] : List Int)) h
 have hlen : (os ++ x.drop k).length = x.length := by rw [List.length_append, List.length_drop]; omega
 refine X.seq ?_
 refine X.seq ?_
 refine X.region ?_
 refine XL.cons (XOp.move (.int .i64 (((k : Nat) : Int))) rfl ?_)
 refine XL.cons (XOp.move (xv) rfl ?_)
 refine XL.cons (XOp.lenS (v := xv) (n := x.length) Try.runUnderlying39 rfl (SlV.own [_] rfl) ?_)
 refine XL.cons (XOp.lss (a := ((k : Nat) : Int)) (b := ((x.length : Nat) : Int)) rfl rfl ?_)
 refine XL.nil ?_
 refine X.condD (p := (((k : Nat) : Int) : Int) < ((x.length : Nat) : Int)) rfl (fun h1 => ?_) (fun h1 => ?_)
 ·refine X.skip ?_
  refine X.seq ?_
  refine X.block ?_
  refine X.seq ?_
  refine X.region ?_
  have hkx : k < x.length := by omega
  have htl2 := htl hkx
  obtain ⟨A, K, B, es, hLs, hel, hR, hg, hput⟩ := hd.at (d := ((0 : Int), (0 : Int), ([] : List Int))) (k := k) (by omega)
  rw [app_getD hol] at hR
  have hself := splice_self hel hg (hd.bound (k := k) (by omega))
  obtain ⟨c, he, hK⟩ := hR
  subst he hK
  have hfp : (flatStep (x.getD k (0, 0, []))).length = (x.getD k (0, 0, [])).2.2.length + 1 + 1 := rfl
  have hbd := hd.bound (k := k) (by omega)
  subst hLs
  refine XL.weaken (Sub.pull (A := A)) ?_
  show XL _ _ _ _ _ _ _ (intsH 2 c ((x.getD k (0, 0, [])).2.2) :: star (A ++ B) :: slH 77 3 xv x.length cs :: L)
  skip
  refine XL.cons (XOp.move (xv) rfl ?_)
  refine XL.cons (XOp.move (.int .i64 (((k : Nat) : Int))) rfl ?_)
  refine XL.cons (XOp.move (.int .i64 (z + ((((x.take k).flatMap flatStep).length : Nat) : Int))) rfl ?_)
  refine XL.cons (XOp.indexS (v := xv) (i := ((k : Nat) : Int)) (n := x.length) k Try.runUnderlying39 Try.sizeOf77 rfl rfl rfl (SlV.own [_, _] rfl) (by omega) rfl ?_)
  refine XL.cons (XOp.fieldE (v := xv) (k * 3) Try.runUnderlying77 rfl Try.sizeOf2 (by decide) rfl rfl ?_)
  refine XL.cons (XOp.storeS (i := k * 3) (cs := cs) [_, _] _ Try.sizeOf2 rfl rfl rfl rfl (by (try simp only [List.length_set]); omega) ?_)
  refine XL.nil ?_
  refine X.seq ?_
  refine X.region ?_
  refine XL.cons (XOp.move (.int .i64 (z + ((((x.take k).flatMap flatStep).length : Nat) : Int))) rfl ?_)
  refine XL.cons (XOp.addR (a := z + ((((x.take k).flatMap flatStep).length : Nat) : Int)) (b := 1) ((z + ((((x.take k).flatMap flatStep).length : Nat) : Int)) + 1) rfl rfl (by omega) (by omega) ?_)
  refine XL.cons (XOp.assign (.int .i64 ((z + ((((x.take k).flatMap flatStep).length : Nat) : Int)) + 1)) rfl ?_)
  refine XL.nil ?_
  refine X.seq ?_
  refine X.region ?_
  refine XL.cons (XOp.move (xv) rfl ?_)
  refine XL.cons (XOp.move (.int .i64 (((k : Nat) : Int))) rfl ?_)
  refine XL.cons (XOp.move (.int .i64 ((z + ((((x.take k).flatMap flatStep).length : Nat) : Int)) + 1)) rfl ?_)
  refine XL.cons (XOp.indexS (v := xv) (i := ((k : Nat) : Int)) (n := x.length) k Try.runUnderlying39 Try.sizeOf77 rfl rfl rfl (SlV.own [_, _] rfl) (by omega) rfl ?_)
  refine XL.cons (XOp.fieldE (v := xv) (k * 3 + 1) Try.runUnderlying77 rfl Try.sizeOf2 (by decide) rfl rfl ?_)
  refine XL.cons (XOp.storeS (i := k * 3 + 1) (cs := (cs.set (k * 3) (.int .i64 (z + ((((x.take k).flatMap flatStep).length : Nat) : Int))))) [_, _] _ Try.sizeOf2 rfl rfl rfl rfl (by (try simp only [List.length_set]); omega) ?_)
  refine XL.nil ?_
  refine X.seq ?_
  refine X.region ?_
  refine XL.cons (XOp.move (.int .i64 ((z + ((((x.take k).flatMap flatStep).length : Nat) : Int)) + 1)) rfl ?_)
  refine XL.cons (XOp.addR (a := (z + ((((x.take k).flatMap flatStep).length : Nat) : Int)) + 1) (b := 1) (((z + ((((x.take k).flatMap flatStep).length : Nat) : Int)) + 1) + 1) rfl rfl (by omega) (by omega) ?_)
  refine XL.cons (XOp.assign (.int .i64 (((z + ((((x.take k).flatMap flatStep).length : Nat) : Int)) + 1) + 1)) rfl ?_)
  refine XL.nil ?_
  refine X.region ?_
  refine XL.cons (XOp.move (xv) rfl ?_)
  refine XL.cons (XOp.move (.int .i64 (((k : Nat) : Int))) rfl ?_)
  refine XL.cons (XOp.indexS (v := xv) (i := ((k : Nat) : Int)) (n := x.length) k Try.runUnderlying39 Try.sizeOf77 rfl rfl rfl (SlV.own [_, _] rfl) (by omega) rfl ?_)
  refine XL.cons (XOp.fieldE (v := xv) (k * 3 + 2) Try.runUnderlying77 rfl Try.sizeOf22 (by decide) rfl rfl ?_)
  refine XL.cons (XOp.load1 (v := c) Try.isAgg22 rfl (Rd.sl [_, _] rfl (by rw [List.getElem?_set_ne (by omega), List.getElem?_set_ne (by omega)]; exact hg 2 _ rfl)) ?_)
  refine XL.cons (XOp.move (.int .i64 (((z + ((((x.take k).flatMap flatStep).length : Nat) : Int)) + 1) + 1)) rfl ?_)
  refine XL.cons (XOp.call (args := [c, .int .i64 (((z + ((((x.take k).flatMap flatStep).length : Nat) : Int)) + 1) + 1)]) Try.call23 rfl (markInt64S_spec (by omega)) ?_)
  rintro _ _ _ _ ⟨m1, hm1, rfl, rfl, rfl⟩
  have hml1 := congrArg List.length hm1
  rw [iota_len] at hml1
  try simp only [List.length_append] at hml1
  refine XL.cons (XOp.assign (.int .i64 ((((z + ((((x.take k).flatMap flatStep).length : Nat) : Int)) + 1) + 1) + (((((x.getD k (0, 0, [])).2.2))).length : Int))) rfl ?_)
  refine XL.nil ?_
  refine X.region ?_
  refine XL.weaken (Sub.cons (Sub.cons (Sub.cons (Sub.refl _)))) ?_
  refine XL.weaken (Sub.push (A := A) (K := [intsH 2 c m1]) (B := B)) ?_
  show XL _ _ _ _ _ _ _ (star (A ++ ([intsH 2 c m1] ++ B)) :: slH 77 3 xv x.length ((((cs.set (k * 3) (.int .i64 (z + ((((x.take k).flatMap flatStep).length : Nat) : Int))))).set (k * 3 + 1) (.int .i64 ((z + ((((x.take k).flatMap flatStep).length : Nat) : Int)) + 1)))) :: L)
  have hdn := hput [.int .i64 (z + ((((x.take k).flatMap flatStep).length : Nat) : Int)), .int .i64 ((z + ((((x.take k).flatMap flatStep).length : Nat) : Int)) + 1), c] ((z + ((((x.take k).flatMap flatStep).length : Nat) : Int)), (z + ((((x.take k).flatMap flatStep).length : Nat) : Int)) + 1, m1) _ rfl ⟨c, rfl, rfl⟩
  rw [← set_three (hg 0 _ rfl) (hg 1 _ rfl) (hg 2 _ rfl), app_set hol hkx] at hdn
  have hfx : flatStep ((z + ((((x.take k).flatMap flatStep).length : Nat) : Int)), (z + ((((x.take k).flatMap flatStep).length : Nat) : Int)) + 1, m1) = iota (z + ((((x.take k).flatMap flatStep).length : Nat) : Int)) (flatStep (x.getD k (0, 0, []))).length := by rw [hfp, iota_cons, iota_cons]; show _ :: _ :: m1 = _; rw [hm1]
  have hnext : (z + ((((x.take k).flatMap flatStep).length : Nat) : Int)) + 1 + 1 + ((x.getD k (0, 0, [])).2.2.length : Int) = z + ((((x.take (k + 1)).flatMap flatStep).length : Nat) : Int) := by rw [flatMap_take_succ flatStep (0, 0, []) hkx, List.length_append, hfp]; omega
  skip
  refine XL.cons (XOp.move (.int .i64 (((k : Nat) : Int))) rfl ?_)
  refine XL.cons (XOp.addR (a := ((k : Nat) : Int)) (b := 1) (((k + 1 : Nat) : Int)) rfl rfl (by omega) (by omega) ?_)
  refine XL.cons (XOp.assign (.int .i64 (((k + 1 : Nat) : Int))) rfl ?_)
  refine XL.nil ?_
  exact ⟨(k + 1, os ++ [((z + ((((x.take k).flatMap flatStep).length : Nat) : Int)), (z + ((((x.take k).flatMap flatStep).length : Nat) : Int)) + 1, m1)], A ++ ([intsH 2 c m1] ++ B), (((cs.set (k * 3) (.int .i64 (z + ((((x.take k).flatMap flatStep).length : Nat) : Int))))).set (k * 3 + 1) (.int .i64 ((z + ((((x.take k).flatMap flatStep).length : Nat) : Int)) + 1)))), _, FLe.refl _, (FLe.refl _), ⟨rfl, (congrArg (Value.int .i64) hnext), rfl, trivial⟩, (Sub.cons (Sub.cons (Sub.refl _))), ⟨rfl, (hdn), (by (try dsimp only) <;> omega), (by simp [hol]), (marked (d := ((0 : Int), (0 : Int), ([] : List Int))) (by omega) hfl hfx)⟩, (by omega)⟩
 ·refine X.exit (thenQ_exit (thenQ_exit (blockQ_exit ?_)))
  refine X.seq ?_
  refine X.region ?_
  refine XL.cons (XOp.move (.int .i64 (z + ((((x.take k).flatMap flatStep).length : Nat) : Int))) rfl ?_)
  refine XL.cons (XOp.assign (.int .i64 (z + ((((x.take k).flatMap flatStep).length : Nat) : Int))) rfl ?_)
  refine XL.nil ?_
  refine X.ret (retEnd (L' := stepsD 2 77 xv os :: L) [.int .i64 (z + ((((x.take k).flatMap flatStep).length : Nat) : Int))] (.int .i64 (z + ((((x.take k).flatMap flatStep).length : Nat) : Int))) (.tmp rfl .nil) rfl (FLe.refl _) (FLe.refl _) (Sub.trans (Sub.front (A := [_])) (Sub.closeDeep (by rw [app_all (by omega)] at hd; exact hd) (by omega))) ?_)
  rw [app_all (by omega)] at hd
  have hkl : k = x.length := by omega
  exact ⟨os, by rw [hfl, hkl, List.take_length], by omega, by rw [hkl, List.take_length], rfl, rfl⟩

/- laws.markSystem -/
theorem markSystem_spec {F : FH} {L : List HP} {xv : Value} {x : List Int} {yv : Value} {y : List (List Int × List Int)} {z : Int} (hz : 0 ≤ z ∧ z + (((x) ++ (y.flatMap flatPair)).length : Int) ≤ 9000000000) (hny : y.length ≤ 4000000) :
    Does Try.prog 22 [.agg #[xv, yv], .int .i64 (z)] F (intsH 2 xv x :: pairsD 2 105 yv y :: L) (fun v F' L' => ∃ x' : List Int, ∃ y' : List (List Int × List Int), ((x') ++ (y'.flatMap flatPair)) = iota z ((x) ++ (y.flatMap flatPair)).length ∧ y'.length = y.length ∧ (.int .i64 (z + (((x) ++ (y.flatMap flatPair)).length : Int)) : Value) = v ∧ F = F' ∧ intsH 2 xv x' :: pairsD 2 105 yv y' :: L = L') := by
 refine Does.of_X Try.func22 rfl rfl rfl ?_
 have hlx : ((x) ++ (y.flatMap flatPair)).length = x.length + (y.flatMap flatPair).length := List.length_append
 refine X.seq ?_
 refine X.region ?_
 refine XL.cons (XOp.box [xv, yv] rfl rfl ?_)
 intro b1
 refine XL.cons (XOp.assign (.int .i64 (0)) rfl ?_)
 refine XL.nil ?_
 refine X.seq ?_
 refine X.region ?_
 refine XL.cons (XOp.fieldP (b := b1) (0) Try.runUnderlying33 rfl Try.sizeOf30 (by decide) rfl rfl ?_)
 refine XL.cons (XOp.loadN [xv] Try.isAgg30 Try.sizeOf30 rfl rfl (Rd.ownN [] rfl rfl) ?_)
 refine XL.cons (XOp.move (.int .i64 (z)) rfl ?_)
 refine XL.weaken (Sub.front (A := [_])) ?_
 show XL _ _ _ _ _ _ _ (intsH 2 xv x :: cellsH b1 [xv, yv] 33 :: pairsD 2 105 yv y :: L)
 refine XL.cons (XOp.call (args := [.agg #[xv], .int .i64 (z)]) Try.call59 rfl (markSig_spec (by omega)) ?_)
 rintro _ _ _ _ ⟨m1, hm1, rfl, rfl, rfl⟩
 have hml1 := congrArg List.length hm1
 rw [iota_len] at hml1
 try simp only [List.length_append] at hml1
 refine XL.cons (XOp.assign (.int .i64 (z + (((x)).length : Int))) rfl ?_)
 refine XL.nil ?_
 refine X.seq ?_
 refine X.region ?_
 refine XL.cons (XOp.fieldP (b := b1) (1) Try.runUnderlying33 rfl Try.sizeOf31 (by decide) rfl rfl ?_)
 refine XL.cons (XOp.load1 (v := yv) Try.isAgg31 rfl (Rd.own [_] rfl rfl) ?_)
 refine XL.cons (XOp.move (.int .i64 (z + (((x)).length : Int))) rfl ?_)
 refine XL.weaken (Sub.front (A := [_, _])) ?_
 show XL _ _ _ _ _ _ _ (pairsD 2 105 yv y :: intsH 2 xv m1 :: cellsH b1 [xv, yv] 33 :: L)
 refine XL.cons (XOp.call (args := [yv, .int .i64 (z + (((x)).length : Int))]) Try.call60 rfl (markRuleS_spec (by omega) (by omega)) ?_)
 rintro _ _ _ _ ⟨m2, hm2, hk1, rfl, rfl, rfl⟩
 have hml2 := congrArg List.length hm2
 rw [iota_len] at hml2
 try simp only [List.length_append] at hml2
 refine XL.cons (XOp.assign (.int .i64 ((z + (((x)).length : Int)) + (((y.flatMap flatPair)).length : Int))) rfl ?_)
 refine XL.nil ?_
 refine X.seq ?_
 refine X.region ?_
 refine XL.cons (XOp.move (.int .i64 ((z + (((x)).length : Int)) + (((y.flatMap flatPair)).length : Int))) rfl ?_)
 refine XL.cons (XOp.assign (.int .i64 ((z + (((x)).length : Int)) + (((y.flatMap flatPair)).length : Int))) rfl ?_)
 refine XL.nil ?_
 refine X.ret (retEnd (L' := intsH 2 xv m1 :: pairsD 2 105 yv m2 :: L) [.int .i64 ((z + (((x)).length : Int)) + (((y.flatMap flatPair)).length : Int))] (.int .i64 ((z + (((x)).length : Int)) + (((y.flatMap flatPair)).length : Int))) (.tmp rfl .nil) rfl (FLe.refl _) (FLe.refl _) (Sub.trans (Sub.front (A := [_])) (Sub.cons (Sub.cons (Sub.drop (Sub.refl _))))) ?_)
 exact ⟨m1, m2, by rw [List.length_append, iota_add, hm1, hm2], (by assumption), congrArg (Value.int .i64) (by first | rfl | (simp only [List.length_append]; omega)), rfl, rfl⟩

/- laws.markWalk -/
theorem markWalk_spec {F : FH} {L : List HP} {xv : Value} {x : List Int} {yv : Value} {y : List StepT} {z : Int} (hz : 0 ≤ z ∧ z + (((x) ++ (y.flatMap flatStep)).length : Int) ≤ 9000000000) (hny : y.length ≤ 4000000) :
    Does Try.prog 24 [.agg #[xv, yv], .int .i64 (z)] F (intsH 2 xv x :: stepsD 2 77 yv y :: L) (fun v F' L' => ∃ x' : List Int, ∃ y' : List StepT, ((x') ++ (y'.flatMap flatStep)) = iota z ((x) ++ (y.flatMap flatStep)).length ∧ y'.length = y.length ∧ (.int .i64 (z + (((x) ++ (y.flatMap flatStep)).length : Int)) : Value) = v ∧ F = F' ∧ intsH 2 xv x' :: stepsD 2 77 yv y' :: L = L') := by
 refine Does.of_X Try.func24 rfl rfl rfl ?_
 have hlx : ((x) ++ (y.flatMap flatStep)).length = x.length + (y.flatMap flatStep).length := List.length_append
 refine X.seq ?_
 refine X.region ?_
 refine XL.cons (XOp.box [xv, yv] rfl rfl ?_)
 intro b1
 refine XL.cons (XOp.assign (.int .i64 (0)) rfl ?_)
 refine XL.nil ?_
 refine X.seq ?_
 refine X.region ?_
 refine XL.cons (XOp.fieldP (b := b1) (0) Try.runUnderlying41 rfl Try.sizeOf22 (by decide) rfl rfl ?_)
 refine XL.cons (XOp.load1 (v := xv) Try.isAgg22 rfl (Rd.own [] rfl rfl) ?_)
 refine XL.cons (XOp.move (.int .i64 (z)) rfl ?_)
 refine XL.weaken (Sub.front (A := [_])) ?_
 show XL _ _ _ _ _ _ _ (intsH 2 xv x :: cellsH b1 [xv, yv] 41 :: stepsD 2 77 yv y :: L)
 refine XL.cons (XOp.call (args := [xv, .int .i64 (z)]) Try.call23 rfl (markInt64S_spec (by omega)) ?_)
 rintro _ _ _ _ ⟨m1, hm1, rfl, rfl, rfl⟩
 have hml1 := congrArg List.length hm1
 rw [iota_len] at hml1
 try simp only [List.length_append] at hml1
 refine XL.cons (XOp.assign (.int .i64 (z + (((x)).length : Int))) rfl ?_)
 refine XL.nil ?_
 refine X.seq ?_
 refine X.region ?_
 refine XL.cons (XOp.fieldP (b := b1) (1) Try.runUnderlying41 rfl Try.sizeOf39 (by decide) rfl rfl ?_)
 refine XL.cons (XOp.load1 (v := yv) Try.isAgg39 rfl (Rd.own [_] rfl rfl) ?_)
 refine XL.cons (XOp.move (.int .i64 (z + (((x)).length : Int))) rfl ?_)
 refine XL.weaken (Sub.front (A := [_, _])) ?_
 show XL _ _ _ _ _ _ _ (stepsD 2 77 yv y :: intsH 2 xv m1 :: cellsH b1 [xv, yv] 41 :: L)
 refine XL.cons (XOp.call (args := [yv, .int .i64 (z + (((x)).length : Int))]) Try.call61 rfl (markStepS_spec (by omega) (by omega)) ?_)
 rintro _ _ _ _ ⟨m2, hm2, hk1, rfl, rfl, rfl⟩
 have hml2 := congrArg List.length hm2
 rw [iota_len] at hml2
 try simp only [List.length_append] at hml2
 refine XL.cons (XOp.assign (.int .i64 ((z + (((x)).length : Int)) + (((y.flatMap flatStep)).length : Int))) rfl ?_)
 refine XL.nil ?_
 refine X.seq ?_
 refine X.region ?_
 refine XL.cons (XOp.move (.int .i64 ((z + (((x)).length : Int)) + (((y.flatMap flatStep)).length : Int))) rfl ?_)
 refine XL.cons (XOp.assign (.int .i64 ((z + (((x)).length : Int)) + (((y.flatMap flatStep)).length : Int))) rfl ?_)
 refine XL.nil ?_
 refine X.ret (retEnd (L' := intsH 2 xv m1 :: stepsD 2 77 yv m2 :: L) [.int .i64 ((z + (((x)).length : Int)) + (((y.flatMap flatStep)).length : Int))] (.int .i64 ((z + (((x)).length : Int)) + (((y.flatMap flatStep)).length : Int))) (.tmp rfl .nil) rfl (FLe.refl _) (FLe.refl _) (Sub.trans (Sub.front (A := [_])) (Sub.cons (Sub.cons (Sub.drop (Sub.refl _))))) ?_)
 exact ⟨m1, m2, by rw [List.length_append, iota_add, hm1, hm2], (by assumption), congrArg (Value.int .i64) (by first | rfl | (simp only [List.length_append]; omega)), rfl, rfl⟩
end Go.Proofs.Ytiaanelimbmniaa
set_option linter.unusedSimpArgs false
set_option linter.unusedVariables false
namespace Go.Proofs.Ytiaanelimbmniaa
open Go X M

/- laws.eqStep -/
theorem eqStep_spec {F : FH} {L : List HP} {i : Int} {j : Int} {av : Value} {a : List Int} (ha : IntsF F av a) {p : Int} {q : Int} {bv : Value} {b : List Int} (hb : IntsF F bv b) (hbd : a.length ≤ 9223372036854775807 ∨ b.length ≤ 9223372036854775807) :
    Does Try.prog 98 [.agg #[.int .i64 (i), .int .i64 (j), av], .agg #[.int .i64 (p), .int .i64 (q), bv]] F (L) (fun v F' L' => (.bool (decide ((i, j, a) = (p, q, b))) : Value) = v ∧ F = F' ∧ L = L') := by
 refine Does.of_X Try.func98 rfl rfl rfl ?_
 refine X.seq ?_
 refine X.region ?_
 refine XL.cons (XOp.box [.int .i64 (i), .int .i64 (j), av] rfl rfl ?_)
 intro b1
 refine XL.cons (XOp.box [.int .i64 (p), .int .i64 (q), bv] rfl rfl ?_)
 intro b2
 refine XL.cons (XOp.assign (.bool (false)) rfl ?_)
 refine XL.nil ?_
 refine X.seq ?_
 refine X.seq ?_
 refine X.region ?_
 refine XL.cons (XOp.fieldP (b := b1) (0) Try.runUnderlying77 rfl Try.sizeOf2 (by decide) rfl rfl ?_)
 refine XL.cons (XOp.load1 (v := .int .i64 (i)) Try.isAgg2 rfl (Rd.own [_] rfl rfl) ?_)
 refine XL.cons (XOp.fieldP (b := b2) (0) Try.runUnderlying77 rfl Try.sizeOf2 (by decide) rfl rfl ?_)
 refine XL.cons (XOp.load1 (v := .int .i64 (p)) Try.isAgg2 rfl (Rd.own [] rfl rfl) ?_)
 refine XL.cons (XOp.neq (a := i) (b := p) rfl rfl ?_)
 refine XL.nil ?_
 refine X.condD (p := (i : Int) ≠ p) rfl (fun h1 => ?_) (fun h1 => ?_)
 ·refine X.seq ?_
  refine X.region ?_
  refine XL.cons (XOp.assign (.bool (false)) rfl ?_)
  refine XL.nil ?_
  refine X.ret (thenQ_ret (retEnd (L' := L) [.bool (false)] (.bool (false)) (.tmp rfl .nil) rfl (FLe.refl _) (FLe.refl _) (Sub.drop (Sub.drop (Sub.refl _))) ?_))
  exact ⟨(congrArg Value.bool (decide_eq_false (by intro e; simp_all))), rfl, rfl⟩
 ·refine X.skip ?_
  refine X.seq ?_
  refine X.seq ?_
  refine X.region ?_
  refine XL.cons (XOp.fieldP (b := b1) (1) Try.runUnderlying77 rfl Try.sizeOf2 (by decide) rfl rfl ?_)
  refine XL.cons (XOp.load1 (v := .int .i64 (j)) Try.isAgg2 rfl (Rd.own [_] rfl rfl) ?_)
  refine XL.cons (XOp.fieldP (b := b2) (1) Try.runUnderlying77 rfl Try.sizeOf2 (by decide) rfl rfl ?_)
  refine XL.cons (XOp.load1 (v := .int .i64 (q)) Try.isAgg2 rfl (Rd.own [] rfl rfl) ?_)
  refine XL.cons (XOp.neq (a := j) (b := q) rfl rfl ?_)
  refine XL.nil ?_
  refine X.condD (p := (j : Int) ≠ q) rfl (fun h2 => ?_) (fun h2 => ?_)
  ·refine X.seq ?_
   refine X.region ?_
   refine XL.cons (XOp.assign (.bool (false)) rfl ?_)
   refine XL.nil ?_
   refine X.ret (thenQ_ret (retEnd (L' := L) [.bool (false)] (.bool (false)) (.tmp rfl .nil) rfl (FLe.refl _) (FLe.refl _) (Sub.drop (Sub.drop (Sub.refl _))) ?_))
   exact ⟨(congrArg Value.bool (decide_eq_false (by intro e; simp_all))), rfl, rfl⟩
  ·refine X.skip ?_
   refine X.seq ?_
   refine X.seq ?_
   refine X.region ?_
   refine XL.cons (XOp.fieldP (b := b1) (2) Try.runUnderlying77 rfl Try.sizeOf22 (by decide) rfl rfl ?_)
   refine XL.cons (XOp.load1 (v := av) Try.isAgg22 rfl (Rd.own [_] rfl rfl) ?_)
   refine XL.cons (XOp.fieldP (b := b2) (2) Try.runUnderlying77 rfl Try.sizeOf22 (by decide) rfl rfl ?_)
   refine XL.cons (XOp.load1 (v := bv) Try.isAgg22 rfl (Rd.own [] rfl rfl) ?_)
   refine XL.cons (XOp.call (args := [av, bv]) Try.call16 rfl (eqInt64S_spec ha hb (hbd := (by first | assumption | rfl | omega | (left; simp; done) | (right; simp; done)))) ?_)
   rintro _ _ _ _ ⟨rfl, rfl, rfl⟩
   refine XL.cons (XOp.notD (p := a = b) rfl ?_)
   refine XL.nil ?_
   refine X.condD (p := ¬(a = b)) rfl (fun h3 => ?_) (fun h3 => ?_)
   ·refine X.seq ?_
    refine X.region ?_
    refine XL.cons (XOp.assign (.bool (false)) rfl ?_)
    refine XL.nil ?_
    refine X.ret (thenQ_ret (retEnd (L' := L) [.bool (false)] (.bool (false)) (.tmp rfl .nil) rfl (FLe.refl _) (FLe.refl _) (Sub.drop (Sub.drop (Sub.refl _))) ?_))
    exact ⟨(congrArg Value.bool (decide_eq_false (by intro e; simp_all))), rfl, rfl⟩
   ·refine X.skip ?_
    refine X.seq ?_
    refine X.region ?_
    refine XL.cons (XOp.assign (.bool (true)) rfl ?_)
    refine XL.nil ?_
    refine X.ret (retEnd (L' := L) [.bool (true)] (.bool (true)) (.tmp rfl .nil) rfl (FLe.refl _) (FLe.refl _) (Sub.drop (Sub.drop (Sub.refl _))) ?_)
    exact ⟨(congrArg Value.bool (decide_eq_true (by simp_all))), rfl, rfl⟩

/- laws.eqStepS -/
theorem eqStepS_spec {F : FH} {L : List HP} {av : Value} {a : List StepT} (ha : StepsF F av a) {bv : Value} {b : List StepT} (hb : StepsF F bv b) (hal : a.length ≤ 9223372036854775807) (hbd : ∀ i, i < a.length → (a.getD i (0, 0, [])).2.2.length ≤ 9223372036854775807) :
    Does Try.prog 58 [av, bv] F (L) (fun v F' L' => (.bool (decide (a = b)) : Value) = v ∧ F = F' ∧ L = L') := by
 refine Does.of_X Try.func58 rfl rfl rfl ?_
 refine X.seq ?_
 refine X.region ?_
 refine XL.cons (XOp.assign (.bool (false)) rfl ?_)
 refine XL.nil ?_
 refine X.seq ?_
 refine X.seq ?_
 refine X.region ?_
 refine XL.cons (XOp.move (av) rfl ?_)
 refine XL.cons (XOp.lenS (v := av) (n := (a).length) Try.runUnderlying39 rfl ha.slv ?_)
 refine XL.cons (XOp.move (bv) rfl ?_)
 refine XL.cons (XOp.lenS (v := bv) (n := (b).length) Try.runUnderlying39 rfl hb.slv ?_)
 refine XL.cons (XOp.neq (a := (((a).length : Nat) : Int)) (b := (((b).length : Nat) : Int)) rfl rfl ?_)
 refine XL.nil ?_
 refine X.condD (p := ((((a).length : Nat) : Int) : Int) ≠ (((b).length : Nat) : Int)) rfl (fun h1 => ?_) (fun h1 => ?_)
 ·refine X.seq ?_
  refine X.region ?_
  refine XL.cons (XOp.assign (.bool (false)) rfl ?_)
  refine XL.nil ?_
  refine X.ret (thenQ_ret (retEnd (L' := L) [.bool (false)] (.bool (false)) (.tmp rfl .nil) rfl (FLe.refl _) (FLe.refl _) (Sub.refl _) ?_))
  exact ⟨(congrArg Value.bool (decide_eq_false (fun e => by rw [e] at h1; omega))), rfl, rfl⟩
 ·refine X.skip ?_
  refine X.seq ?_
  refine X.seq ?_
  refine X.region ?_
  refine XL.cons (XOp.assign (.int .i64 (0)) rfl ?_)
  refine XL.nil ?_
  refine X.block ?_
  refine X.loop (α := Nat) (fun k => [(0, av), (1, bv), (5, .int .i64 (((k : Nat) : Int)))]) (fun k => L) (fun k F' => F = F' ∧ (k ≤ a.length) ∧ (∀ i, i < k → a.getD i ((0 : Int), (0 : Int), ([] : List Int)) = b.getD i ((0 : Int), (0 : Int), ([] : List Int)))) (fun k => a.length - k) 0 ⟨rfl, rfl, rfl, trivial⟩ (Sub.refl _) ⟨rfl, (by (try dsimp only) <;> omega), (fun i hi => absurd hi (by omega))⟩ ?_
  rintro k rE _ _ ⟨rfl, hk, hall⟩
  show X _ _ _ _ (envs [(0, av), (1, bv), (5, .int .i64 (((k : Nat) : Int)))] rE) _ (L)
  have hbk := hbd k
  refine X.seq ?_
  refine X.seq ?_
  refine X.region ?_
  refine XL.cons (XOp.move (.int .i64 (((k : Nat) : Int))) rfl ?_)
  refine XL.cons (XOp.move (av) rfl ?_)
  refine XL.cons (XOp.lenS (v := av) (n := (a).length) Try.runUnderlying39 rfl ha.slv ?_)
  refine XL.cons (XOp.lss (a := ((k : Nat) : Int)) (b := (((a).length : Nat) : Int)) rfl rfl ?_)
  refine XL.nil ?_
  refine X.condD (p := (((k : Nat) : Int) : Int) < (((a).length : Nat) : Int)) rfl (fun h2 => ?_) (fun h2 => ?_)
  ·refine X.skip ?_
   refine X.seq ?_
   refine X.block ?_
   refine X.seq ?_
   obtain ⟨a1, ha1, hr1, hr2, hr3⟩ := ha.rd (i := k) (by omega)
   obtain ⟨a2, ha2, hr4, hr5, hr6⟩ := hb.rd (i := k) (by omega)
   refine X.draw [] L 8 [[], [], [], [], [], [], [], []] [[], [], [0, 1], [2], [], [], [4, 5], [6]] (phiL [fun us v => v = av, fun us v => v = (.int .i64 (((k : Nat) : Int)) : Value), fun us v => v = (.pointer (some (elemA av (k * 3))) : Value), fun us v => v = (.agg #[.int .i64 ((a.getD k (0, 0, [])).1), .int .i64 ((a.getD k (0, 0, [])).2.1), a1] : Value), fun us v => v = bv, fun us v => v = (.int .i64 (((k : Nat) : Int)) : Value), fun us v => v = (.pointer (some (elemA bv (k * 3))) : Value), fun us v => v = (.agg #[.int .i64 ((b.getD k (0, 0, [])).1), .int .i64 ((b.getD k (0, 0, [])).2.1), a2] : Value)]) (ownL [fun us v => [], fun us v => [], fun us v => [], fun us v => [], fun us v => [], fun us v => [], fun us v => [], fun us v => []]) mixed rfl rfl (by kernel_rfl) ?_ ?_
   ·refine stepsP.cons (fun vals R hpZ => ?_) ?_
    ·refine XG.op (XOp.move (av) rfl ?_)
     exact ⟨rfl, rfl, rfl⟩
    refine stepsP.cons (fun vals R hpZ => ?_) ?_
    ·refine XG.op (XOp.move (.int .i64 (((k : Nat) : Int))) rfl ?_)
     exact ⟨rfl, rfl, rfl⟩
    refine stepsP.cons (fun vals R hpZ => ?_) ?_
    ·rw [(envs_of_sat (l := [(0, av), (1, (.int .i64 (((k : Nat) : Int)) : Value))]) ⟨hpZ 0 (by decide), hpZ 1 (by decide), trivial⟩).symm]
     refine XG.op (XOp.indexS (v := av) (i := ((k : Nat) : Int)) (n := (a).length) k Try.runUnderlying39 Try.sizeOf77 rfl rfl rfl ha.slv (by omega) rfl ?_)
     exact ⟨rfl, rfl, rfl⟩
    refine stepsP.cons (fun vals R hpZ => ?_) ?_
    ·rw [(envs_of_sat (l := [(2, (.pointer (some (elemA av (k * 3))) : Value))]) ⟨hpZ 2 (by decide), trivial⟩).symm]
     refine XG.op (XOp.loadN [.int .i64 ((a.getD k (0, 0, [])).1), .int .i64 ((a.getD k (0, 0, [])).2.1), a1] Try.isAgg77 Try.sizeOf77 rfl rfl (Rd.three (hr1 _) (hr2 _) (hr3 _)) ?_)
     exact ⟨rfl, rfl, rfl⟩
    refine stepsP.cons (fun vals R hpZ => ?_) ?_
    ·refine XG.op (XOp.move (bv) rfl ?_)
     exact ⟨rfl, rfl, rfl⟩
    refine stepsP.cons (fun vals R hpZ => ?_) ?_
    ·refine XG.op (XOp.move (.int .i64 (((k : Nat) : Int))) rfl ?_)
     exact ⟨rfl, rfl, rfl⟩
    refine stepsP.cons (fun vals R hpZ => ?_) ?_
    ·rw [(envs_of_sat (l := [(4, bv), (5, (.int .i64 (((k : Nat) : Int)) : Value))]) ⟨hpZ 4 (by decide), hpZ 5 (by decide), trivial⟩).symm]
     refine XG.op (XOp.indexS (v := bv) (i := ((k : Nat) : Int)) (n := (b).length) k Try.runUnderlying39 Try.sizeOf77 rfl rfl rfl hb.slv (by omega) rfl ?_)
     exact ⟨rfl, rfl, rfl⟩
    refine stepsP.cons (fun vals R hpZ => ?_) ?_
    ·rw [(envs_of_sat (l := [(6, (.pointer (some (elemA bv (k * 3))) : Value))]) ⟨hpZ 6 (by decide), trivial⟩).symm]
     refine XG.op (XOp.loadN [.int .i64 ((b.getD k (0, 0, [])).1), .int .i64 ((b.getD k (0, 0, [])).2.1), a2] Try.isAgg77 Try.sizeOf77 rfl rfl (Rd.three (hr4 _) (hr5 _) (hr6 _)) ?_)
     exact ⟨rfl, rfl, rfl⟩
    exact stepsP.nil
   ·intro vals hphi
    have e0 : vals 0 = av := hphi 0 (by decide)
    have e1 : vals 1 = (.int .i64 (((k : Nat) : Int)) : Value) := hphi 1 (by decide)
    have e2 : vals 2 = (.pointer (some (elemA av (k * 3))) : Value) := hphi 2 (by decide)
    have e3 : vals 3 = (.agg #[.int .i64 ((a.getD k (0, 0, [])).1), .int .i64 ((a.getD k (0, 0, [])).2.1), a1] : Value) := hphi 3 (by decide)
    have e4 : vals 4 = bv := hphi 4 (by decide)
    have e5 : vals 5 = (.int .i64 (((k : Nat) : Int)) : Value) := hphi 5 (by decide)
    have e6 : vals 6 = (.pointer (some (elemA bv (k * 3))) : Value) := hphi 6 (by decide)
    have e7 : vals 7 = (.agg #[.int .i64 ((b.getD k (0, 0, [])).1), .int .i64 ((b.getD k (0, 0, [])).2.1), a2] : Value) := hphi 7 (by decide)
    rw [(envs_of_sat (l := [(0, av), (1, (.int .i64 (((k : Nat) : Int)) : Value)), (2, (.pointer (some (elemA av (k * 3))) : Value)), (3, (.agg #[.int .i64 ((a.getD k (0, 0, [])).1), .int .i64 ((a.getD k (0, 0, [])).2.1), a1] : Value)), (4, bv), (5, (.int .i64 (((k : Nat) : Int)) : Value)), (6, (.pointer (some (elemA bv (k * 3))) : Value)), (7, (.agg #[.int .i64 ((b.getD k (0, 0, [])).1), .int .i64 ((b.getD k (0, 0, [])).2.1), a2] : Value))]) ⟨e0, e1, e2, e3, e4, e5, e6, e7, trivial⟩).symm]
    show XL _ _ _ _ _ _ _ (L)
    refine XL.cons (XOp.call (args := [.agg #[.int .i64 ((a.getD k (0, 0, [])).1), .int .i64 ((a.getD k (0, 0, [])).2.1), a1], .agg #[.int .i64 ((b.getD k (0, 0, [])).1), .int .i64 ((b.getD k (0, 0, [])).2.1), a2]]) Try.call98 rfl (eqStep_spec ha1 ha2 (hbd := (.inl (hbk (by omega))))) ?_)
    rintro _ _ _ _ ⟨rfl, rfl, rfl⟩
    refine XL.cons (XOp.notD (p := (((a.getD k (0, 0, [])).1), ((a.getD k (0, 0, [])).2.1), ((a.getD k (0, 0, [])).2.2)) = (((b.getD k (0, 0, [])).1), ((b.getD k (0, 0, [])).2.1), ((b.getD k (0, 0, [])).2.2))) rfl ?_)
    refine XL.nil ?_
    refine X.condD (p := ¬((((a.getD k (0, 0, [])).1), ((a.getD k (0, 0, [])).2.1), ((a.getD k (0, 0, [])).2.2)) = (((b.getD k (0, 0, [])).1), ((b.getD k (0, 0, [])).2.1), ((b.getD k (0, 0, [])).2.2)))) rfl (fun h3 => ?_) (fun h3 => ?_)
    ·refine X.seq ?_
     refine X.region ?_
     refine XL.cons (XOp.assign (.bool (false)) rfl ?_)
     refine XL.nil ?_
     refine X.ret (blockQ_ret (thenQ_ret (thenQ_ret (blockQ_ret (thenQ_ret (retEnd (L' := L) [.bool (false)] (.bool (false)) (.tmp rfl .nil) rfl (FLe.refl _) (FLe.refl _) (Sub.refl _) ?_))))))
     exact ⟨(congrArg Value.bool (decide_eq_false (fun e => by subst e; simp at *))), rfl, rfl⟩
    ·refine X.skip ?_
     refine X.region ?_
     refine XL.cons (XOp.move (.int .i64 (((k : Nat) : Int))) rfl ?_)
     refine XL.cons (XOp.addR (a := ((k : Nat) : Int)) (b := 1) (((k + 1 : Nat) : Int)) rfl rfl (by omega) (by omega) ?_)
     refine XL.cons (XOp.assign (.int .i64 (((k + 1 : Nat) : Int))) rfl ?_)
     refine XL.nil ?_
     exact ⟨k + 1, _, FLe.refl _, (FLe.refl _), ⟨rfl, rfl, rfl, trivial⟩, (Sub.refl _), ⟨rfl, (by (try dsimp only) <;> omega), (fun i hi => (Nat.lt_or_ge i k).elim (fun h => hall i h) (fun h => by obtain rfl : i = k := (by omega); first | assumption | exact Classical.not_not.1 (by assumption)))⟩, (by omega)⟩
  ·refine X.exit (thenQ_exit (thenQ_exit (blockQ_exit ?_)))
   refine X.seq ?_
   refine X.region ?_
   refine XL.cons (XOp.assign (.bool (true)) rfl ?_)
   refine XL.nil ?_
   refine X.ret (retEnd (L' := L) [.bool (true)] (.bool (true)) (.tmp rfl .nil) rfl (FLe.refl _) (FLe.refl _) (Sub.refl _) ?_)
   exact ⟨(congrArg Value.bool (decide_eq_true (ext_any ((0 : Int), (0 : Int), ([] : List Int)) (by omega) (fun i hi => hall i (by omega))))), rfl, rfl⟩

/- laws.eqWalk -/
theorem eqWalk_spec {F : FH} {L : List HP} {fv : Value} {f : List Int} (hf : IntsF F fv f) {av : Value} {a : List StepT} (ha : StepsF F av a) {gv : Value} {g : List Int} (hg : IntsF F gv g) {bv : Value} {b : List StepT} (hb : StepsF F bv b) (hfl : f.length ≤ 9223372036854775807) (hal : a.length ≤ 9223372036854775807) (hbd : ∀ i, i < a.length → (a.getD i (0, 0, [])).2.2.length ≤ 9223372036854775807) :
    Does Try.prog 21 [.agg #[fv, av], .agg #[gv, bv]] F (L) (fun v F' L' => (.bool (decide (f = g ∧ a = b)) : Value) = v ∧ F = F' ∧ L = L') := by
 refine Does.of_X Try.func21 rfl rfl rfl ?_
 refine X.seq ?_
 refine X.region ?_
 refine XL.cons (XOp.box [fv, av] rfl rfl ?_)
 intro b1
 refine XL.cons (XOp.box [gv, bv] rfl rfl ?_)
 intro b2
 refine XL.cons (XOp.assign (.bool (false)) rfl ?_)
 refine XL.nil ?_
 refine X.seq ?_
 refine X.seq ?_
 refine X.region ?_
 refine XL.cons (XOp.fieldP (b := b1) (0) Try.runUnderlying41 rfl Try.sizeOf22 (by decide) rfl rfl ?_)
 refine XL.cons (XOp.load1 (v := fv) Try.isAgg22 rfl (Rd.own [_] rfl rfl) ?_)
 refine XL.cons (XOp.fieldP (b := b2) (0) Try.runUnderlying41 rfl Try.sizeOf22 (by decide) rfl rfl ?_)
 refine XL.cons (XOp.load1 (v := gv) Try.isAgg22 rfl (Rd.own [] rfl rfl) ?_)
 refine XL.cons (XOp.call (args := [fv, gv]) Try.call16 rfl (eqInt64S_spec hf hg (hbd := (.inl hfl))) ?_)
 rintro _ _ _ _ ⟨rfl, rfl, rfl⟩
 refine XL.cons (XOp.notD (p := f = g) rfl ?_)
 refine XL.nil ?_
 refine X.condD (p := ¬(f = g)) rfl (fun h1 => ?_) (fun h1 => ?_)
 ·refine X.seq ?_
  refine X.region ?_
  refine XL.cons (XOp.assign (.bool (false)) rfl ?_)
  refine XL.nil ?_
  refine X.ret (thenQ_ret (retEnd (L' := L) [.bool (false)] (.bool (false)) (.tmp rfl .nil) rfl (FLe.refl _) (FLe.refl _) (Sub.drop (Sub.drop (Sub.refl _))) ?_))
  exact ⟨(congrArg Value.bool (decide_eq_false (by intro e; simp_all))), rfl, rfl⟩
 ·refine X.skip ?_
  refine X.seq ?_
  refine X.seq ?_
  refine X.region ?_
  refine XL.cons (XOp.fieldP (b := b1) (1) Try.runUnderlying41 rfl Try.sizeOf39 (by decide) rfl rfl ?_)
  refine XL.cons (XOp.load1 (v := av) Try.isAgg39 rfl (Rd.own [_] rfl rfl) ?_)
  refine XL.cons (XOp.fieldP (b := b2) (1) Try.runUnderlying41 rfl Try.sizeOf39 (by decide) rfl rfl ?_)
  refine XL.cons (XOp.load1 (v := bv) Try.isAgg39 rfl (Rd.own [] rfl rfl) ?_)
  refine XL.cons (XOp.call (args := [av, bv]) Try.call58 rfl (eqStepS_spec ha hb (hal := (by first | assumption | rfl | omega | (left; simp; done) | (right; simp; done))) (hbd := (by first | assumption | rfl | omega | (left; simp; done) | (right; simp; done)))) ?_)
  rintro _ _ _ _ ⟨rfl, rfl, rfl⟩
  refine XL.cons (XOp.notD (p := a = b) rfl ?_)
  refine XL.nil ?_
  refine X.condD (p := ¬(a = b)) rfl (fun h2 => ?_) (fun h2 => ?_)
  ·refine X.seq ?_
   refine X.region ?_
   refine XL.cons (XOp.assign (.bool (false)) rfl ?_)
   refine XL.nil ?_
   refine X.ret (thenQ_ret (retEnd (L' := L) [.bool (false)] (.bool (false)) (.tmp rfl .nil) rfl (FLe.refl _) (FLe.refl _) (Sub.drop (Sub.drop (Sub.refl _))) ?_))
   exact ⟨(congrArg Value.bool (decide_eq_false (by intro e; simp_all))), rfl, rfl⟩
  ·refine X.skip ?_
   refine X.seq ?_
   refine X.region ?_
   refine XL.cons (XOp.assign (.bool (true)) rfl ?_)
   refine XL.nil ?_
   refine X.ret (retEnd (L' := L) [.bool (true)] (.bool (true)) (.tmp rfl .nil) rfl (FLe.refl _) (FLe.refl _) (Sub.drop (Sub.drop (Sub.refl _))) ?_)
   exact ⟨(congrArg Value.bool (decide_eq_true (by simp_all))), rfl, rfl⟩

/- laws.heldStepS -/
theorem heldStepS_spec {F : FH} {L : List HP} {xv : Value} {x : List StepT} (hx : StepsF F xv x) {z : Int} (hzb : 0 ≤ z ∧ z + ((x.flatMap flatStep).length : Int) ≤ 9000000000) (hxl : x.length ≤ 4000000) :
    Does Try.prog 63 [xv, .int .i64 (z)] F (L) (fun v F' L' => (.int .i64 (heldF (x.flatMap flatStep) z) : Value) = v ∧ F = F' ∧ L = L') := by
 refine Does.of_X Try.func63 rfl rfl rfl ?_
 refine X.seq ?_
 refine X.region ?_
 refine XL.cons (XOp.assign (.int .i64 (0)) rfl ?_)
 refine XL.nil ?_
 refine X.seq ?_
 refine X.seq ?_
 refine X.region ?_
 refine XL.cons (XOp.assign (.int .i64 (0)) rfl ?_)
 refine XL.nil ?_
 refine X.block ?_
 refine X.loop (α := Nat) (fun k => [(0, xv), (1, .int .i64 (heldF ((x.take k).flatMap flatStep) z)), (5, .int .i64 (((k : Nat) : Int)))]) (fun k => L) (fun k F' => F = F' ∧ (k ≤ x.length) ∧ (0 ≤ heldF ((x.take k).flatMap flatStep) z)) (fun k => x.length - k) 0 ⟨rfl, (show Value.int .i64 z = .int .i64 (heldF ((x.take 0).flatMap flatStep) z) from congrArg (Value.int .i64) (by simp [heldF_nil])), rfl, trivial⟩ (Sub.refl _) ⟨rfl, (by (try dsimp only) <;> omega), (by simp [heldF_nil]; omega)⟩ ?_
 rintro k rE _ _ ⟨rfl, hk, hnn⟩
 show X _ _ _ _ (envs [(0, xv), (1, .int .i64 (heldF ((x.take k).flatMap flatStep) z)), (5, .int .i64 (((k : Nat) : Int)))] rE) _ (L)
 have hhp := heldF_pos (a := (x.take k).flatMap flatStep) (k := z) (by omega)
 have htl := fun (h : k < x.length) => flat_take_le (f := flatStep) (l := x) ((0 : Int), (0 : Int), ([] : List Int)) h
 have hnx := fun (h : k < x.length) => held_next (f := flatStep) (l := x) (k := k) ((0 : Int), (0 : Int), ([] : List Int)) hzb.1 h (by omega)
 have hsx : k < x.length → (flatStep (x.getD k (0, 0, []))).length = (x.getD k (0, 0, [])).2.2.length + 1 + 1 := fun _ => rfl
 have hun : k < x.length → heldF (flatStep (x.getD k (0, 0, []))) (heldF ((x.take k).flatMap flatStep) z) = (if (x.getD k (0, 0, [])).1 = heldF ((x.take k).flatMap flatStep) z then (if (x.getD k (0, 0, [])).2.1 = heldF ((x.take k).flatMap flatStep) z + 1 then heldF (x.getD k (0, 0, [])).2.2 (heldF ((x.take k).flatMap flatStep) z + 1 + 1) else -1) else -1) := fun _ => by rw [show flatStep (x.getD k (0, 0, [])) = (x.getD k (0, 0, [])).1 :: (x.getD k (0, 0, [])).2.1 :: (x.getD k (0, 0, [])).2.2 from rfl, heldF_cons hnn, heldF_cons (by omega)]
 refine X.seq ?_
 refine X.seq ?_
 refine X.region ?_
 refine XL.cons (XOp.move (.int .i64 (((k : Nat) : Int))) rfl ?_)
 refine XL.cons (XOp.move (xv) rfl ?_)
 refine XL.cons (XOp.lenS (v := xv) (n := (x).length) Try.runUnderlying39 rfl hx.slv ?_)
 refine XL.cons (XOp.lss (a := ((k : Nat) : Int)) (b := (((x).length : Nat) : Int)) rfl rfl ?_)
 refine XL.nil ?_
 refine X.condD (p := (((k : Nat) : Int) : Int) < (((x).length : Nat) : Int)) rfl (fun h1 => ?_) (fun h1 => ?_)
 ·refine X.skip ?_
  refine X.seq ?_
  refine X.block ?_
  refine X.seq ?_
  refine X.seq ?_
  refine X.region ?_
  refine XL.cons (XOp.move (xv) rfl ?_)
  refine XL.cons (XOp.move (.int .i64 (((k : Nat) : Int))) rfl ?_)
  refine XL.cons (XOp.indexS (v := xv) (i := ((k : Nat) : Int)) (n := (x).length) k Try.runUnderlying39 Try.sizeOf77 rfl rfl rfl hx.slv (by omega) rfl ?_)
  refine XL.cons (XOp.fieldE (v := xv) (k * 3) Try.runUnderlying77 rfl Try.sizeOf2 (by decide) rfl rfl ?_)
  obtain ⟨a1, ha1, hr1, hr2, hr3⟩ := hx.rd (i := k) (by omega)
  refine XL.cons (XOp.load1 (v := .int .i64 ((x.getD k (0, 0, [])).1)) Try.isAgg2 rfl (hr1 _) ?_)
  refine XL.cons (XOp.move (.int .i64 (heldF ((x.take k).flatMap flatStep) z)) rfl ?_)
  refine XL.cons (XOp.neq (a := (x.getD k (0, 0, [])).1) (b := heldF ((x.take k).flatMap flatStep) z) rfl rfl ?_)
  refine XL.nil ?_
  refine X.condD (p := ((x.getD k (0, 0, [])).1 : Int) ≠ heldF ((x.take k).flatMap flatStep) z) rfl (fun h2 => ?_) (fun h2 => ?_)
  ·refine X.seq ?_
   refine X.region ?_
   refine XL.cons (XOp.assign (.int .i64 (-1)) rfl ?_)
   refine XL.nil ?_
   refine X.ret (thenQ_ret (blockQ_ret (thenQ_ret (thenQ_ret (blockQ_ret (thenQ_ret (retEnd (L' := L) [.int .i64 (-1)] (.int .i64 (-1)) (.tmp rfl .nil) rfl (FLe.refl _) (FLe.refl _) (Sub.refl _) ?_)))))))
   exact ⟨(congrArg (Value.int .i64) (by exact held_fail (k := k) ((0 : Int), (0 : Int), ([] : List Int)) hzb.1 (by omega) (by rw [hnx (by omega), hun (by omega), if_neg (by assumption)]; omega))), rfl, rfl⟩
  ·refine X.skip ?_
   refine X.seq ?_
   refine X.region ?_
   refine XL.cons (XOp.move (.int .i64 (heldF ((x.take k).flatMap flatStep) z)) rfl ?_)
   refine XL.cons (XOp.addR (a := heldF ((x.take k).flatMap flatStep) z) (b := 1) ((heldF ((x.take k).flatMap flatStep) z) + 1) rfl rfl (by omega) (by omega) ?_)
   refine XL.cons (XOp.assign (.int .i64 ((heldF ((x.take k).flatMap flatStep) z) + 1)) rfl ?_)
   refine XL.nil ?_
   refine X.seq ?_
   refine X.seq ?_
   refine X.region ?_
   refine XL.cons (XOp.move (xv) rfl ?_)
   refine XL.cons (XOp.move (.int .i64 (((k : Nat) : Int))) rfl ?_)
   refine XL.cons (XOp.indexS (v := xv) (i := ((k : Nat) : Int)) (n := (x).length) k Try.runUnderlying39 Try.sizeOf77 rfl rfl rfl hx.slv (by omega) rfl ?_)
   refine XL.cons (XOp.fieldE (v := xv) (k * 3 + 1) Try.runUnderlying77 rfl Try.sizeOf2 (by decide) rfl rfl ?_)
   refine XL.cons (XOp.load1 (v := .int .i64 ((x.getD k (0, 0, [])).2.1)) Try.isAgg2 rfl (hr2 _) ?_)
   refine XL.cons (XOp.move (.int .i64 ((heldF ((x.take k).flatMap flatStep) z) + 1)) rfl ?_)
   refine XL.cons (XOp.neq (a := (x.getD k (0, 0, [])).2.1) (b := (heldF ((x.take k).flatMap flatStep) z) + 1) rfl rfl ?_)
   refine XL.nil ?_
   refine X.condD (p := ((x.getD k (0, 0, [])).2.1 : Int) ≠ (heldF ((x.take k).flatMap flatStep) z) + 1) rfl (fun h3 => ?_) (fun h3 => ?_)
   ·refine X.seq ?_
    refine X.region ?_
    refine XL.cons (XOp.assign (.int .i64 (-1)) rfl ?_)
    refine XL.nil ?_
    refine X.ret (thenQ_ret (blockQ_ret (thenQ_ret (thenQ_ret (blockQ_ret (thenQ_ret (retEnd (L' := L) [.int .i64 (-1)] (.int .i64 (-1)) (.tmp rfl .nil) rfl (FLe.refl _) (FLe.refl _) (Sub.refl _) ?_)))))))
    exact ⟨(congrArg (Value.int .i64) (by exact held_fail (k := k) ((0 : Int), (0 : Int), ([] : List Int)) hzb.1 (by omega) (by rw [hnx (by omega), hun (by omega), if_pos (by first | assumption | exact Classical.not_not.1 (by assumption)), if_neg (by assumption)]; omega))), rfl, rfl⟩
   ·refine X.skip ?_
    refine X.seq ?_
    refine X.region ?_
    refine XL.cons (XOp.move (.int .i64 ((heldF ((x.take k).flatMap flatStep) z) + 1)) rfl ?_)
    refine XL.cons (XOp.addR (a := (heldF ((x.take k).flatMap flatStep) z) + 1) (b := 1) (((heldF ((x.take k).flatMap flatStep) z) + 1) + 1) rfl rfl (by omega) (by omega) ?_)
    refine XL.cons (XOp.assign (.int .i64 (((heldF ((x.take k).flatMap flatStep) z) + 1) + 1)) rfl ?_)
    refine XL.nil ?_
    refine X.seq ?_
    refine X.region ?_
    refine XL.cons (XOp.move (xv) rfl ?_)
    refine XL.cons (XOp.move (.int .i64 (((k : Nat) : Int))) rfl ?_)
    refine XL.cons (XOp.indexS (v := xv) (i := ((k : Nat) : Int)) (n := (x).length) k Try.runUnderlying39 Try.sizeOf77 rfl rfl rfl hx.slv (by omega) rfl ?_)
    refine XL.cons (XOp.fieldE (v := xv) (k * 3 + 2) Try.runUnderlying77 rfl Try.sizeOf22 (by decide) rfl rfl ?_)
    refine XL.cons (XOp.load1 (v := a1) Try.isAgg22 rfl (hr3 _) ?_)
    refine XL.cons (XOp.move (.int .i64 (((heldF ((x.take k).flatMap flatStep) z) + 1) + 1)) rfl ?_)
    refine XL.cons (XOp.call (args := [a1, .int .i64 (((heldF ((x.take k).flatMap flatStep) z) + 1) + 1)]) Try.call62 rfl (heldInt64S_spec (z := ((heldF ((x.take k).flatMap flatStep) z) + 1) + 1) ha1 (hzb := (by first | assumption | rfl | omega | (left; simp; done) | (right; simp; done)))) ?_)
    rintro _ _ _ _ ⟨rfl, rfl, rfl⟩
    refine XL.cons (XOp.assign (.int .i64 (heldF ((x.getD k (0, 0, [])).2.2) (((heldF ((x.take k).flatMap flatStep) z) + 1) + 1))) rfl ?_)
    refine XL.nil ?_
    refine X.seq ?_
    refine X.region ?_
    refine XL.cons (XOp.move (.int .i64 (heldF ((x.getD k (0, 0, [])).2.2) (((heldF ((x.take k).flatMap flatStep) z) + 1) + 1))) rfl ?_)
    refine XL.cons (XOp.lss (a := heldF ((x.getD k (0, 0, [])).2.2) (((heldF ((x.take k).flatMap flatStep) z) + 1) + 1)) (b := 0) rfl rfl ?_)
    refine XL.nil ?_
    refine X.condD (p := (heldF ((x.getD k (0, 0, [])).2.2) (((heldF ((x.take k).flatMap flatStep) z) + 1) + 1) : Int) < 0) rfl (fun h4 => ?_) (fun h4 => ?_)
    ·refine X.seq ?_
     refine X.region ?_
     refine XL.cons (XOp.assign (.int .i64 (-1)) rfl ?_)
     refine XL.nil ?_
     refine X.ret (blockQ_ret (thenQ_ret (thenQ_ret (blockQ_ret (thenQ_ret (retEnd (L' := L) [.int .i64 (-1)] (.int .i64 (-1)) (.tmp rfl .nil) rfl (FLe.refl _) (FLe.refl _) (Sub.refl _) ?_))))))
     exact ⟨(congrArg (Value.int .i64) (by exact held_fail (k := k) ((0 : Int), (0 : Int), ([] : List Int)) hzb.1 (by omega) (by rw [hnx (by omega), hun (by omega), if_pos (by first | assumption | exact Classical.not_not.1 (by assumption)), if_pos (by first | assumption | exact Classical.not_not.1 (by assumption))]; omega))), rfl, rfl⟩
    ·refine X.skip ?_
     refine X.region ?_
     refine XL.cons (XOp.move (.int .i64 (((k : Nat) : Int))) rfl ?_)
     refine XL.cons (XOp.addR (a := ((k : Nat) : Int)) (b := 1) (((k + 1 : Nat) : Int)) rfl rfl (by omega) (by omega) ?_)
     refine XL.cons (XOp.assign (.int .i64 (((k + 1 : Nat) : Int))) rfl ?_)
     refine XL.nil ?_
     exact ⟨k + 1, _, FLe.refl _, (FLe.refl _), ⟨rfl, (congrArg (Value.int .i64) (by rw [hnx (by omega), hun (by omega), if_pos (by first | assumption | exact Classical.not_not.1 (by assumption)), if_pos (by first | assumption | exact Classical.not_not.1 (by assumption))])), rfl, trivial⟩, (Sub.refl _), ⟨rfl, (by (try dsimp only) <;> omega), (by (try dsimp only); rw [hnx (by omega), hun (by omega), if_pos (by first | assumption | exact Classical.not_not.1 (by assumption)), if_pos (by first | assumption | exact Classical.not_not.1 (by assumption))]; omega)⟩, (by omega)⟩
 ·refine X.exit (thenQ_exit (thenQ_exit (blockQ_exit ?_)))
  refine X.seq ?_
  refine X.region ?_
  refine XL.cons (XOp.move (.int .i64 (heldF ((x.take k).flatMap flatStep) z)) rfl ?_)
  refine XL.cons (XOp.assign (.int .i64 (heldF ((x.take k).flatMap flatStep) z)) rfl ?_)
  refine XL.nil ?_
  refine X.ret (retEnd (L' := L) [.int .i64 (heldF ((x.take k).flatMap flatStep) z)] (.int .i64 (heldF ((x.take k).flatMap flatStep) z)) (.tmp rfl .nil) rfl (FLe.refl _) (FLe.refl _) (Sub.refl _) ?_)
  exact ⟨(congrArg (Value.int .i64) (by rw [List.take_of_length_le (by omega)])), rfl, rfl⟩

/- laws.heldWalk -/
theorem heldWalk_spec {F : FH} {L : List HP} {fv : Value} {f : List Int} (hf : IntsF F fv f) {xv : Value} {x : List StepT} (hx : StepsF F xv x) {z : Int} (hzb : 0 ≤ z ∧ z + ((f.length + (x.flatMap flatStep).length : Nat) : Int) ≤ 9000000000) (hxl : x.length ≤ 4000000) :
    Does Try.prog 25 [.agg #[fv, xv], .int .i64 (z)] F (L) (fun v F' L' => (.int .i64 (heldF (f ++ x.flatMap flatStep) z) : Value) = v ∧ F = F' ∧ L = L') := by
 refine Does.of_X Try.func25 rfl rfl rfl ?_
 have hh1 := heldF_range (xs := f) hzb.1
 refine X.seq ?_
 refine X.region ?_
 refine XL.cons (XOp.box [fv, xv] rfl rfl ?_)
 intro b1
 refine XL.cons (XOp.assign (.int .i64 (0)) rfl ?_)
 refine XL.nil ?_
 refine X.seq ?_
 refine X.region ?_
 refine XL.cons (XOp.fieldP (b := b1) (0) Try.runUnderlying41 rfl Try.sizeOf22 (by decide) rfl rfl ?_)
 refine XL.cons (XOp.load1 (v := fv) Try.isAgg22 rfl (Rd.own [] rfl rfl) ?_)
 refine XL.cons (XOp.move (.int .i64 (z)) rfl ?_)
 refine XL.cons (XOp.call (args := [fv, .int .i64 (z)]) Try.call62 rfl (heldInt64S_spec (z := z) hf (hzb := (by first | assumption | rfl | omega | (left; simp; done) | (right; simp; done)))) ?_)
 rintro _ _ _ _ ⟨rfl, rfl, rfl⟩
 refine XL.cons (XOp.assign (.int .i64 (heldF f z)) rfl ?_)
 refine XL.nil ?_
 refine X.seq ?_
 refine X.seq ?_
 refine X.region ?_
 refine XL.cons (XOp.move (.int .i64 (heldF f z)) rfl ?_)
 refine XL.cons (XOp.lss (a := heldF f z) (b := 0) rfl rfl ?_)
 refine XL.nil ?_
 refine X.condD (p := (heldF f z : Int) < 0) rfl (fun h1 => ?_) (fun h1 => ?_)
 ·refine X.seq ?_
  refine X.region ?_
  refine XL.cons (XOp.assign (.int .i64 (-1)) rfl ?_)
  refine XL.nil ?_
  refine X.ret (thenQ_ret (retEnd (L' := L) [.int .i64 (-1)] (.int .i64 (-1)) (.tmp rfl .nil) rfl (FLe.refl _) (FLe.refl _) (Sub.drop (Sub.refl _)) ?_))
  exact ⟨(congrArg (Value.int .i64) (by rw [heldF_append hzb.1, if_pos (by omega)])), rfl, rfl⟩
 ·refine X.skip ?_
  refine X.seq ?_
  refine X.region ?_
  refine XL.cons (XOp.fieldP (b := b1) (1) Try.runUnderlying41 rfl Try.sizeOf39 (by decide) rfl rfl ?_)
  refine XL.cons (XOp.load1 (v := xv) Try.isAgg39 rfl (Rd.own [] rfl rfl) ?_)
  refine XL.cons (XOp.move (.int .i64 (heldF f z)) rfl ?_)
  refine XL.cons (XOp.call (args := [xv, .int .i64 (heldF f z)]) Try.call63 rfl (heldStepS_spec (z := heldF f z) hx (hzb := (by first | assumption | rfl | omega | (left; simp; done) | (right; simp; done))) (hxl := (by first | assumption | rfl | omega | (left; simp; done) | (right; simp; done)))) ?_)
  rintro _ _ _ _ ⟨rfl, rfl, rfl⟩
  refine XL.cons (XOp.assign (.int .i64 (heldF (x.flatMap flatStep) (heldF f z))) rfl ?_)
  refine XL.nil ?_
  refine X.seq ?_
  refine X.seq ?_
  refine X.region ?_
  refine XL.cons (XOp.move (.int .i64 (heldF (x.flatMap flatStep) (heldF f z))) rfl ?_)
  refine XL.cons (XOp.lss (a := heldF (x.flatMap flatStep) (heldF f z)) (b := 0) rfl rfl ?_)
  refine XL.nil ?_
  refine X.condD (p := (heldF (x.flatMap flatStep) (heldF f z) : Int) < 0) rfl (fun h2 => ?_) (fun h2 => ?_)
  ·refine X.seq ?_
   refine X.region ?_
   refine XL.cons (XOp.assign (.int .i64 (-1)) rfl ?_)
   refine XL.nil ?_
   refine X.ret (thenQ_ret (retEnd (L' := L) [.int .i64 (-1)] (.int .i64 (-1)) (.tmp rfl .nil) rfl (FLe.refl _) (FLe.refl _) (Sub.drop (Sub.refl _)) ?_))
   exact ⟨(congrArg (Value.int .i64) (by rw [heldF_append hzb.1, if_neg (by omega)]; have := (heldF_range (xs := x.flatMap flatStep) (k := heldF f z) (by omega)).1; omega)), rfl, rfl⟩
  ·refine X.skip ?_
   refine X.seq ?_
   refine X.region ?_
   refine XL.cons (XOp.move (.int .i64 (heldF (x.flatMap flatStep) (heldF f z))) rfl ?_)
   refine XL.cons (XOp.assign (.int .i64 (heldF (x.flatMap flatStep) (heldF f z))) rfl ?_)
   refine XL.nil ?_
   refine X.ret (retEnd (L' := L) [.int .i64 (heldF (x.flatMap flatStep) (heldF f z))] (.int .i64 (heldF (x.flatMap flatStep) (heldF f z))) (.tmp rfl .nil) rfl (FLe.refl _) (FLe.refl _) (Sub.drop (Sub.refl _)) ?_)
   exact ⟨(congrArg (Value.int .i64) (by rw [heldF_append hzb.1, if_neg (by omega)])), rfl, rfl⟩
end Go.Proofs.Ytiaanelimbmniaa
set_option linter.unusedSimpArgs false
set_option linter.unusedVariables false
namespace Go.Proofs.Ytiaanelimbmniaa
open Go X M
end Go.Proofs.Ytiaanelimbmniaa
set_option linter.unusedSimpArgs false
set_option linter.unusedVariables false
namespace Go.Proofs.Ytiaanelimbmniaa
open Go X M
end Go.Proofs.Ytiaanelimbmniaa
set_option linter.unusedSimpArgs false
set_option linter.unusedVariables false
namespace Go.Proofs.Ytiaanelimbmniaa
open Go X M

/- spec.l7Steps -/
theorem l7Steps_spec {F : FH} {L : List HP} {arv : Value} {ar : List Int} (har : IntsF F arv ar) {rsv : Value} {rs : List (List Int × List Int)} (hrs : PairsF F rsv rs) {tv : Value} {t : List Int} (ht : IntsF F tv t) (hsys : sysOk ar rs = true) (ho : termOk ar t = true) :
    Does Try.prog 82 [.agg #[arv, rsv], tv] F (L) (fun v F' L' => ∃ (a : Value), (a : Value) = v ∧ (StepsF F' a (stepsL ar rs t)) ∧ L = L') := by
 refine Does.of_X Try.func82 rfl rfl rfl ?_
 have hnn := notNil_of_pos ht (by have := termOk_len ho; omega)
 have htl := termOk_len ho
 have hrl := (sysOk_iff.1 hsys).2.1
 have hsig := (sysOk_iff.1 hsys).1
 have hsl := sigOk_spec hsig
 refine X.seq ?_
 refine X.region ?_
 refine XL.cons (XOp.box [arv, rsv] rfl rfl ?_)
 intro b1
 refine XL.cons (XOp.assign ((.slice none 0 0)) rfl ?_)
 refine XL.nil ?_
 refine X.seq ?_
 refine X.region ?_
 refine XL.cons (XOp.buildSlice (s := 3) [] [.int .i64 (0), .int .i64 (0), (.slice none 0 0)] [] Try.runUnderlying39 Try.sizeOf77 Try.zeroValue77 rfl (by decide) rfl CellsAre.nil rfl ?_)
 intro v1 hv1
 refine XL.cons (XOp.assign (v1) rfl ?_)
 refine XL.nil ?_
 refine X.seq ?_
 refine X.seq ?_
 refine X.region ?_
 refine XL.cons (XOp.assign (.int .i64 (0)) rfl ?_)
 refine XL.nil ?_
 refine X.block ?_
 refine X.loop (α := Nat × Value × List StepT × List Value × Nat × FH) (fun xQ => [(1, tv), (2, ptr b1 0), (5, xQ.2.1), (6, .int .i64 (((xQ.1 : Nat) : Int)))]) (fun xQ => slH 77 3 xQ.2.1 xQ.2.2.2.2.1 xQ.2.2.2.1 :: cellsH b1 [arv, rsv] 33 :: L) (fun xQ F' => xQ.2.2.2.2.2 = F' ∧ F ≤ xQ.2.2.2.2.2 ∧ (xQ.1 ≤ t.length) ∧ (IsSl xQ.2.1) ∧ (StepsC xQ.2.2.2.2.2 xQ.2.2.2.1 xQ.2.2.1) ∧ (xQ.2.2.2.2.1 = xQ.2.2.1.length) ∧ (xQ.2.2.1 = stepsTo ar rs t xQ.1)) (fun xQ => t.length - xQ.1) (0, v1, [], [], 0, F) ⟨rfl, rfl, rfl, rfl, trivial⟩ (Sub.cons (Sub.cons (Sub.refl _))) ⟨rfl, FLe.refl _, (by (try dsimp only) <;> omega), ((isSl_lit hv1)), (CO.nil), (rfl), (rfl)⟩ ?_
 rintro ⟨k, sv, ss, cs, m, G1⟩ rE _ _ ⟨rfl, leG, hk, hsv, hC, hm, hss⟩
 show X _ _ _ _ (envs [(1, tv), (2, ptr b1 0), (5, sv), (6, .int .i64 (((k : Nat) : Int)))] rE) _ (slH 77 3 sv m cs :: cellsH b1 [arv, rsv] 33 :: L)
 replace leG : F ≤ G1 := leG
 dsimp only at hk hsv hC hm hss
 have hsl1 := stepsTo_len (ar := ar) (t := t) (rs := rs) hrl k
 have hss0 := hss
 have leG1 := leG
 replace har := har.mono leG1
 replace hrs := hrs.mono leG1
 replace ht := ht.mono leG1
 refine X.seq ?_
 refine X.seq ?_
 refine X.region ?_
 refine XL.cons (XOp.move (.int .i64 (((k : Nat) : Int))) rfl ?_)
 refine XL.cons (XOp.move (tv) rfl ?_)
 refine XL.cons (XOp.lenS (v := tv) (n := (t).length) Try.runUnderlying22 rfl ht.slv ?_)
 refine XL.cons (XOp.lss (a := ((k : Nat) : Int)) (b := (((t).length : Nat) : Int)) rfl rfl ?_)
 refine XL.nil ?_
 refine X.condD (p := (((k : Nat) : Int) : Int) < (((t).length : Nat) : Int)) rfl (fun h1 => ?_) (fun h1 => ?_)
 ·refine X.skip ?_
  refine X.seq ?_
  refine X.block ?_
  refine X.seq ?_
  refine X.region ?_
  refine XL.cons (XOp.assign (.int .i64 (0)) rfl ?_)
  refine XL.nil ?_
  refine X.block ?_
  refine X.loop (α := Nat × Value × List StepT × List Value × Nat × FH) (fun xQ => [(1, tv), (2, ptr b1 0), (5, xQ.2.1), (6, .int .i64 (((k : Nat) : Int))), (7, .int .i64 (((xQ.1 : Nat) : Int)))]) (fun xQ => slH 77 3 xQ.2.1 xQ.2.2.2.2.1 xQ.2.2.2.1 :: cellsH b1 [arv, rsv] 33 :: L) (fun xQ F' => xQ.2.2.2.2.2 = F' ∧ G1 ≤ xQ.2.2.2.2.2 ∧ (xQ.1 ≤ rs.length) ∧ (IsSl xQ.2.1) ∧ (StepsC xQ.2.2.2.2.2 xQ.2.2.2.1 xQ.2.2.1) ∧ (xQ.2.2.2.2.1 = xQ.2.2.1.length) ∧ (xQ.2.2.1 = stepsTo ar rs t k ++ stepsRow ar rs t k xQ.1)) (fun xQ => rs.length - xQ.1) (0, sv, ss, cs, m, G1) ⟨rfl, rfl, rfl, rfl, rfl, trivial⟩ (Sub.cons (Sub.cons (Sub.refl _))) ⟨rfl, FLe.refl _, (by (try dsimp only) <;> omega), (hsv), (hC), (hm), (by (try dsimp only); rw [hss0]; simp [stepsRow])⟩ ?_
  rintro ⟨r, sv, ss, cs, m, G2⟩ rE _ _ ⟨rfl, leG, hr, hsvi, hCi, hmi, hssi⟩
  show X _ _ _ _ (envs [(1, tv), (2, ptr b1 0), (5, sv), (6, .int .i64 (((k : Nat) : Int))), (7, .int .i64 (((r : Nat) : Int)))] rE) _ (slH 77 3 sv m cs :: cellsH b1 [arv, rsv] 33 :: L)
  replace leG : G1 ≤ G2 := leG
  dsimp only at hr hsvi hCi hmi hssi
  have hsl2 := stepsRow_len (ar := ar) (rs := rs) (t := t) (p := k) r
  have hssl : ss.length ≤ 1000 := by rw [hssi, List.length_append]; omega
  have leG2 := leG
  replace har := har.mono leG2
  replace hrs := hrs.mono leG2
  replace ht := ht.mono leG2
  replace hC := hC.mono leG2
  refine X.seq ?_
  refine X.seq ?_
  refine X.region ?_
  refine XL.cons (XOp.move (.int .i64 (((r : Nat) : Int))) rfl ?_)
  refine XL.cons (XOp.fieldP (b := b1) (1) Try.runUnderlying33 rfl Try.sizeOf31 (by decide) rfl rfl ?_)
  refine XL.cons (XOp.load1 (v := rsv) Try.isAgg31 rfl (Rd.own [_] rfl rfl) ?_)
  refine XL.cons (XOp.lenS (v := rsv) (n := (rs).length) Try.runUnderlying31 rfl hrs.slv ?_)
  refine XL.cons (XOp.lss (a := ((r : Nat) : Int)) (b := (((rs).length : Nat) : Int)) rfl rfl ?_)
  refine XL.nil ?_
  refine X.condD (p := (((r : Nat) : Int) : Int) < (((rs).length : Nat) : Int)) rfl (fun h2 => ?_) (fun h2 => ?_)
  ·refine X.skip ?_
   refine X.seq ?_
   refine X.block ?_
   refine X.seq ?_
   refine X.region ?_
   refine XL.cons (XOp.loadN [arv, rsv] Try.isAgg33 Try.sizeOf33 rfl rfl (Rd.ownN [_] rfl rfl) ?_)
   refine XL.cons (XOp.move (tv) rfl ?_)
   refine XL.cons (XOp.move (.int .i64 (((k : Nat) : Int))) rfl ?_)
   refine XL.cons (XOp.move (.int .i64 (((r : Nat) : Int))) rfl ?_)
   refine XL.cons (XOp.call (args := [.agg #[arv, rsv], tv, .int .i64 ((k : Nat) : Int), .int .i64 ((r : Nat) : Int)]) Try.call89 rfl (l7Step_spec (p := k) (r := r) har hrs ht (hsys := (by first | assumption | rfl | omega | (left; simp; done) | (right; simp; done))) (ho := (by first | assumption | rfl | omega | (left; simp; done) | (right; simp; done))) (hp := (by first | assumption | rfl | omega | (left; simp; done) | (right; simp; done))) (hr := (by first | assumption | rfl | omega | (left; simp; done) | (right; simp; done)))) ?_)
   rintro _ F1 _ le1 ⟨x1, rfl, hr1, rfl⟩
   replace har := har.mono le1
   replace hrs := hrs.mono le1
   replace ht := ht.mono le1
   replace hC := hC.mono le1
   replace hCi := hCi.mono le1
   refine XL.cons (XOp.move (.tuple #[x1, .bool ((stepL ar rs t k r).isSome)]) rfl ?_)
   refine XL.cons (XOp.extract (x1) rfl rfl ?_)
   refine XL.cons (XOp.extract (.bool ((stepL ar rs t k r).isSome)) rfl rfl ?_)
   refine XL.cons (XOp.assign (x1) rfl ?_)
   refine XL.cons (XOp.assign (.bool ((stepL ar rs t k r).isSome)) rfl ?_)
   refine XL.nil ?_
   refine X.seq ?_
   refine X.region ?_
   refine XL.cons (XOp.move (.bool ((stepL ar rs t k r).isSome)) rfl ?_)
   refine XL.nil ?_
   refine X.cond (t := (stepL ar rs t k r).isSome) rfl (fun h3 => ?_) (fun h3 => ?_)
   ·have hone : stepOne ar rs t k r = [((k : Int), (r : Int), (stepL ar rs t k r).getD [])] := (one_some h3).1
    refine X.region ?_
    refine XL.cons (XOp.move (sv) rfl ?_)
    refine XL.cons (XOp.move (.int .i64 (((k : Nat) : Int))) rfl ?_)
    refine XL.cons (XOp.move (.int .i64 (((r : Nat) : Int))) rfl ?_)
    refine XL.cons (XOp.move (x1) rfl ?_)
    refine XL.cons (XOp.build [.int .i64 (((k : Nat) : Int)), .int .i64 (((r : Nat) : Int)), x1] [.int .i64 (0), .int .i64 (0), (.slice none 0 0)] [(0, 1), (1, 1), (2, 1)] [(0, [.int .i64 (((k : Nat) : Int))]), (1, [.int .i64 (((r : Nat) : Int))]), (2, [x1])] Try.runUnderlying77 Try.zeroValue77 rfl (.cons rfl Try.sizeOf2 (.cons rfl Try.sizeOf2 (.cons rfl Try.sizeOf22 PlacesAre.nil))) rfl (.cons rfl (.cons rfl (.cons (cells_one (IntsF.isSl hr1)) CellsAre.nil))) ?_)
    refine XL.cons (XOp.buildSlice (s := 3) [.int .i64 (((k : Nat) : Int)), .int .i64 (((r : Nat) : Int)), x1] [.int .i64 (0), .int .i64 (0), (.slice none 0 0)] [(0, [.int .i64 (((k : Nat) : Int)), .int .i64 (((r : Nat) : Int)), x1])] Try.runUnderlying39 Try.sizeOf77 Try.zeroValue77 rfl (by decide) rfl (.cons rfl CellsAre.nil) rfl ?_)
    intro v2 hv2
    refine XL.cons (XOp.append (m := 1) (bytes := 40) (cs := cs) [_] _ [.int .i64 (((k : Nat) : Int)), .int .i64 (((r : Nat) : Int)), x1] Try.runUnderlying39 Try.typeInfo77 rfl rfl rfl rfl rfl rfl rfl (SlV.own [] rfl) rfl (Rd.lit [] rfl) (ones_cons rfl (ones_cons rfl (ones_cons (one_sl (IntsF.isSl hr1)) ones_nil))) (by (try simp only [List.length_append, List.length_nil, List.length_cons, List.length_singleton]); omega) (by (try simp only [List.length_append, List.length_nil, List.length_cons, List.length_singleton]); omega) ?_)
    intro v3 hs1 hn1 hm1
    have hc1 := StepsC.snoc hCi (i := ((k : Nat) : Int)) (j := ((r : Nat) : Int)) hr1
    refine XL.cons (XOp.assign (v3) rfl ?_)
    refine XL.nil ?_
    refine X.region ?_
    refine XL.cons (XOp.move (.int .i64 (((r : Nat) : Int))) rfl ?_)
    refine XL.cons (XOp.addR (a := ((r : Nat) : Int)) (b := 1) (((r + 1 : Nat) : Int)) rfl rfl (by omega) (by omega) ?_)
    refine XL.cons (XOp.assign (.int .i64 (((r + 1 : Nat) : Int))) rfl ?_)
    refine XL.nil ?_
    exact ⟨(r + 1, v3, ss ++ [(((k : Nat) : Int), ((r : Nat) : Int), (stepL ar rs t k r).getD [])], cs ++ [.int .i64 (((k : Nat) : Int)), .int .i64 (((r : Nat) : Int)), x1], (m) + 1, F1), _, (FLe.trans leG2 le1), (FLe.refl _), ⟨rfl, rfl, rfl, rfl, rfl, trivial⟩, (Sub.drop (Sub.cons (Sub.cons (Sub.refl _)))), ⟨rfl, (FLe.trans leG2 le1), (by (try dsimp only) <;> omega), (hs1), (hc1), (by (try dsimp only); (try rw [List.length_append, List.length_singleton]); omega), (by (try dsimp only); rw [hssi, stepsRow_succ, hone]; simp)⟩, (by omega)⟩
   ·have hone : stepOne ar rs t k r = [] := stepOne_no h3
    refine X.skip ?_
    refine X.region ?_
    refine XL.cons (XOp.move (.int .i64 (((r : Nat) : Int))) rfl ?_)
    refine XL.cons (XOp.addR (a := ((r : Nat) : Int)) (b := 1) (((r + 1 : Nat) : Int)) rfl rfl (by omega) (by omega) ?_)
    refine XL.cons (XOp.assign (.int .i64 (((r + 1 : Nat) : Int))) rfl ?_)
    refine XL.nil ?_
    exact ⟨(r + 1, sv, ss, cs, m, F1), _, (FLe.trans leG2 le1), (FLe.refl _), ⟨rfl, rfl, rfl, rfl, rfl, trivial⟩, (Sub.cons (Sub.cons (Sub.refl _))), ⟨rfl, (FLe.trans leG2 le1), (by (try dsimp only) <;> omega), (hsvi), (hCi), (by (try dsimp only); (try rw [List.length_append, List.length_singleton]); omega), (by (try dsimp only); rw [hssi, stepsRow_succ, hone]; simp)⟩, (by omega)⟩
  ·refine X.exit (thenQ_exit (thenQ_exit (blockQ_exit ?_)))
   refine X.region ?_
   refine XL.cons (XOp.move (.int .i64 (((k : Nat) : Int))) rfl ?_)
   refine XL.cons (XOp.addR (a := ((k : Nat) : Int)) (b := 1) (((k + 1 : Nat) : Int)) rfl rfl (by omega) (by omega) ?_)
   refine XL.cons (XOp.assign (.int .i64 (((k + 1 : Nat) : Int))) rfl ?_)
   refine XL.nil ?_
   exact ⟨(k + 1, sv, ss, cs, m, G2), _, (FLe.trans leG1 leG2), (FLe.refl _), ⟨rfl, rfl, rfl, rfl, trivial⟩, (Sub.cons (Sub.cons (Sub.refl _))), ⟨rfl, (FLe.trans leG1 leG2), (by (try dsimp only) <;> omega), (hsvi), (hCi), (hmi), (by (try dsimp only); rw [hssi, stepsTo_succ, show r = rs.length from by omega])⟩, (by omega)⟩
 ·refine X.exit (thenQ_exit (thenQ_exit (blockQ_exit ?_)))
  refine X.seq ?_
  refine X.region ?_
  refine XL.cons (XOp.move (sv) rfl ?_)
  refine XL.cons (XOp.assign (sv) rfl ?_)
  refine XL.nil ?_
  refine X.freezeF [] _ _ rfl (fun F2 le2 hz1 => ?_)
  replace har := har.mono le2
  replace hrs := hrs.mono le2
  replace ht := ht.mono le2
  replace hC := hC.mono le2
  have hf1 : StepsF F2 sv ss := CO.fz hC (by first | rfl | simp | omega) hz1.fz
  refine X.ret (retEnd (L' := L) [sv] (sv) (.tmp rfl .nil) rfl (FLe.trans leG1 le2) (FLe.refl _) (Sub.drop (Sub.refl _)) ?_)
  have e1 : stepsL ar rs t = ss := by rw [hss, show k = t.length from by omega]; rfl
  rw [e1]
  exact ⟨_, rfl, hf1, rfl⟩

/- spec.l1TermPlace -/
theorem l1TermPlace_spec {F : FH} {L : List HP} {tsv : Value} {ts : List (List Int)} (hts : RowsF F tsv ts) {xv : Value} {x : List Int} (hx : IntsF F xv x) (hlt : ts.length ≤ 4000000) (htb : ∀ i, i < ts.length → (ts.getD i []).length ≤ 4000000) (hlx : x.length ≤ 4000000) :
    Does Try.prog 68 [tsv, xv] F (L) (fun v F' L' => (.int .i64 (badG (fun y => !decide (y = x)) ts) : Value) = v ∧ F = F' ∧ L = L') := by
 refine Does.of_X Try.func68 rfl rfl rfl ?_
 refine X.seq ?_
 refine X.region ?_
 refine XL.cons (XOp.assign (.int .i64 (0)) rfl ?_)
 refine XL.nil ?_
 refine X.seq ?_
 refine X.seq ?_
 refine X.region ?_
 refine XL.cons (XOp.assign (.int .i64 (0)) rfl ?_)
 refine XL.nil ?_
 refine X.block ?_
 refine X.loop (α := Nat) (fun k => [(0, tsv), (1, xv), (5, .int .i64 (((k : Nat) : Int)))]) (fun k => L) (fun k F' => F = F' ∧ (k ≤ ts.length) ∧ (∀ i, i < k → (fun y => !decide (y = x)) (ts.getD i []) = true)) (fun k => ts.length - k) 0 ⟨rfl, rfl, rfl, trivial⟩ (Sub.refl _) ⟨rfl, (by (try dsimp only) <;> omega), (fun i hi => absurd hi (by omega))⟩ ?_
 rintro k rE _ _ ⟨rfl, hk, hall⟩
 show X _ _ _ _ (envs [(0, tsv), (1, xv), (5, .int .i64 (((k : Nat) : Int)))] rE) _ (L)
 have htbk := htb k
 refine X.seq ?_
 refine X.seq ?_
 refine X.region ?_
 refine XL.cons (XOp.move (.int .i64 (((k : Nat) : Int))) rfl ?_)
 refine XL.cons (XOp.move (tsv) rfl ?_)
 refine XL.cons (XOp.lenS (v := tsv) (n := (ts).length) Try.runUnderlying49 rfl hts.slv ?_)
 refine XL.cons (XOp.lss (a := ((k : Nat) : Int)) (b := (((ts).length : Nat) : Int)) rfl rfl ?_)
 refine XL.nil ?_
 refine X.condD (p := (((k : Nat) : Int) : Int) < (((ts).length : Nat) : Int)) rfl (fun h1 => ?_) (fun h1 => ?_)
 ·refine X.skip ?_
  refine X.seq ?_
  refine X.block ?_
  refine X.seq ?_
  refine X.region ?_
  refine XL.cons (XOp.move (tsv) rfl ?_)
  refine XL.cons (XOp.move (.int .i64 (((k : Nat) : Int))) rfl ?_)
  refine XL.cons (XOp.indexS (v := tsv) (i := ((k : Nat) : Int)) (n := (ts).length) k Try.runUnderlying49 Try.sizeOf22 rfl rfl rfl hts.slv (by omega) (Nat.mul_one _) ?_)
  obtain ⟨a1, ha1, hr1⟩ := hts.rd (i := k) (by omega)
  refine XL.cons (XOp.load1 (v := a1) Try.isAgg22 rfl (hr1 _) ?_)
  refine XL.cons (XOp.move (xv) rfl ?_)
  refine XL.cons (XOp.call (args := [a1, xv]) Try.call101 rfl (SameTerm_spec ha1 hx (hbd := (by first | assumption | rfl | omega | (left; simp; done) | (right; simp; done)))) ?_)
  rintro _ _ _ _ ⟨rfl, rfl, rfl⟩
  refine XL.nil ?_
  refine X.condD (p := ((ts.getD k [])) = x) rfl (fun h2 => ?_) (fun h2 => ?_)
  ·refine X.seq ?_
   refine X.region ?_
   refine XL.cons (XOp.move (.int .i64 (((k : Nat) : Int))) rfl ?_)
   refine XL.cons (XOp.assign (.int .i64 (((k : Nat) : Int))) rfl ?_)
   refine XL.nil ?_
   refine X.ret (blockQ_ret (thenQ_ret (thenQ_ret (blockQ_ret (thenQ_ret (retEnd (L' := L) [.int .i64 (((k : Nat) : Int))] (.int .i64 (((k : Nat) : Int))) (.tmp rfl .nil) rfl (FLe.refl _) (FLe.refl _) (Sub.refl _) ?_))))))
   exact ⟨(congrArg (Value.int .i64) (badG_at [] (by omega) (by simp_all) hall)), rfl, rfl⟩
  ·refine X.skip ?_
   refine X.region ?_
   refine XL.cons (XOp.move (.int .i64 (((k : Nat) : Int))) rfl ?_)
   refine XL.cons (XOp.addR (a := ((k : Nat) : Int)) (b := 1) (((k + 1 : Nat) : Int)) rfl rfl (by omega) (by omega) ?_)
   refine XL.cons (XOp.assign (.int .i64 (((k + 1 : Nat) : Int))) rfl ?_)
   refine XL.nil ?_
   exact ⟨k + 1, _, FLe.refl _, (FLe.refl _), ⟨rfl, rfl, rfl, trivial⟩, (Sub.refl _), ⟨rfl, (by (try dsimp only) <;> omega), (fun i hi => (Nat.lt_or_ge i k).elim (fun h => hall i h) (fun h => by obtain rfl : i = k := (by omega); simp_all))⟩, (by omega)⟩
 ·refine X.exit (thenQ_exit (thenQ_exit (blockQ_exit ?_)))
  refine X.seq ?_
  refine X.region ?_
  refine XL.cons (XOp.assign (.int .i64 (-1)) rfl ?_)
  refine XL.nil ?_
  refine X.ret (retEnd (L' := L) [.int .i64 (-1)] (.int .i64 (-1)) (.tmp rfl .nil) rfl (FLe.refl _) (FLe.refl _) (Sub.refl _) ?_)
  exact ⟨(congrArg (Value.int .i64) (badG_none [] (fun i hi => hall i (by omega)))), rfl, rfl⟩

/- spec.l9Right -/
theorem l9Right_spec {F : FH} {L : List HP} {arv : Value} {ar : List Int} (har : IntsF F arv ar) {rsv : Value} {rs : List (List Int × List Int)} (hrs : PairsF F rsv rs) {tv : Value} {t : List Int} (ht : IntsF F tv t) {n : Int} (hla : ar.length ≤ 4000000) (hlr : rs.length ≤ 4000000) (hrb : ∀ i, i < rs.length → (rs.getD i ([], [])).1.length ≤ 4000000 ∧ (rs.getD i ([], [])).2.length ≤ 4000000) (hlt : t.length ≤ 4000000) :
    Does Try.prog 48 [.agg #[arv, rsv], tv, .int .i64 (n)] F (L) (fun v F' L' => (.bool (reachOkL ar rs n [t]) : Value) = v ∧ F = F' ∧ L = L') := by
 refine Does.of_X Try.func48 rfl rfl rfl ?_
 refine X.seq ?_
 refine X.region ?_
 refine XL.cons (XOp.box [arv, rsv] rfl rfl ?_)
 intro b1
 refine XL.cons (XOp.assign (.bool (false)) rfl ?_)
 refine XL.nil ?_
 refine X.seq ?_
 refine X.region ?_
 refine XL.cons (XOp.loadN [arv, rsv] Try.isAgg33 Try.sizeOf33 rfl rfl (Rd.ownN [] rfl rfl) ?_)
 refine XL.cons (XOp.move (tv) rfl ?_)
 refine XL.cons (XOp.call (args := [.agg #[arv, rsv], tv]) Try.call53 rfl (l7Right_spec har hrs ht (hla := (by first | assumption | rfl | omega | (left; simp; done) | (right; simp; done))) (hlr := (by first | assumption | rfl | omega | (left; simp; done) | (right; simp; done))) (hrb := (by first | assumption | rfl | omega | (left; simp; done) | (right; simp; done))) (hlt := (by first | assumption | rfl | omega | (left; simp; done) | (right; simp; done)))) ?_)
 rintro _ _ _ _ ⟨rfl, rfl, rfl⟩
 refine XL.cons (XOp.move (.bool (rightB ar rs t)) rfl ?_)
 by_cases h1 : (rightB ar rs t) = true
 ·refine XL.yes (t := 10) rfl (congrArg Value.bool h1) (XOp.move (.int .i64 (n)) rfl ?_)
  refine XL.yes (t := 10) rfl (congrArg Value.bool h1) (XOp.call (args := [.int .i64 (n), .int .i64 (0), .int .i64 (20)]) Try.call81 rfl (l1In_spec (n := n) (a := 0) (b := 20)) ?_)
  rintro _ _ _ _ ⟨rfl, rfl, rfl⟩
  refine XL.cons (XOp.pickT (.bool (decide (0 ≤ n ∧ n ≤ 20))) (congrArg Value.bool h1) rfl ?_)
  refine XL.cons (XOp.assign (.bool (decide (0 ≤ n ∧ n ≤ 20))) rfl ?_)
  refine XL.nil ?_
  refine X.ret (retEnd (L' := L) [.bool (decide (0 ≤ n ∧ n ≤ 20))] (.bool (decide (0 ≤ n ∧ n ≤ 20))) (.tmp rfl .nil) rfl (FLe.refl _) (FLe.refl _) (Sub.drop (Sub.refl _)) ?_)
  exact ⟨(congrArg Value.bool (by rw [reachOk_right]; simp_all)), rfl, rfl⟩
 ·rw [Bool.not_eq_true] at h1
  refine XL.no (t := 10) rfl (congrArg Value.bool h1) ?_
  refine XL.no (t := 10) rfl (congrArg Value.bool h1) ?_
  refine XL.cons (XOp.pickF (.bool (false)) (congrArg Value.bool h1) rfl ?_)
  refine XL.cons (XOp.assign (.bool (false)) rfl ?_)
  refine XL.nil ?_
  refine X.ret (retEnd (L' := L) [.bool (false)] (.bool (false)) (.tmp rfl .nil) rfl (FLe.refl _) (FLe.refl _) (Sub.drop (Sub.refl _)) ?_)
  exact ⟨(congrArg Value.bool (by rw [reachOk_right]; simp_all)), rfl, rfl⟩

/- spec.l9Find -/
set_option maxHeartbeats 1000000 in
set_option maxRecDepth 20000 in
theorem l9Find_spec {F : FH} {L : List HP} {arv : Value} {ar : List Int} (har : IntsF F arv ar) {rsv : Value} {rs : List (List Int × List Int)} (hrs : PairsF F rsv rs) {tv : Value} {t : List Int} (ht : IntsF F tv t) {n : Int} (hsys : sysOk ar rs = true) (ho : termOk ar t = true) (hn20 : 0 ≤ n ∧ n ≤ 20) :
    Does Try.prog 64 [.agg #[arv, rsv], tv, .int .i64 (n)] F (L) (fun v F' L' => ∃ (x1 : Value), ∃ (x2 : Value), ∃ (x3 : Value), ∃ (x4 : Value), (.agg #[x1, x2, x3, x4, .bool ((reachL ar rs t n).2)] : Value) = v ∧ (RowsF F' x1 (terms (reachL ar rs t n).1)) ∧ (IntsF F' x2 (froms (reachL ar rs t n).1)) ∧ (StepsF F' x3 (bys (reachL ar rs t n).1)) ∧ (IntsF F' x4 (deeps (reachL ar rs t n).1)) ∧ L = L') := by
 refine Does.of_X Try.func64 rfl rfl rfl ?_
 have hnn := notNil_of_pos ht (by have := termOk_len ho; omega)
 have htl := termOk_len ho
 have hrl := (sysOk_iff.1 hsys).2.1
 have hsig := (sysOk_iff.1 hsys).1
 have hsl := sigOk_spec hsig
 refine X.seq ?_
 refine X.region ?_
 refine XL.cons (XOp.box [arv, rsv] rfl rfl ?_)
 intro b1
 refine XL.cons (XOp.alloc [(.slice none 0 0), (.slice none 0 0), (.slice none 0 0), (.slice none 0 0), .bool (false)] Try.zeroValue85 rfl ?_)
 intro b2
 refine XL.nil ?_
 refine X.seq ?_
 refine X.region ?_
 refine XL.cons (XOp.move (tv) rfl ?_)
 refine XL.cons (XOp.frzF <| XOp.call (args := [tv]) Try.call49 rfl (l1Copy_spec ht (hlt := (by first | assumption | rfl | omega | (left; simp; done) | (right; simp; done)))) ?_)
 rintro v1 _ _ _ ⟨rfl, hs1, rfl⟩
 refine ⟨_, _, rfl, fun F1 le1 hz1 => ?_⟩
 replace har := har.mono le1
 replace hrs := hrs.mono le1
 replace ht := ht.mono le1
 have hf1 : IntsF F1 v1 ((t)) := intsH.fz (xs := (t)) hz1.fz
 refine XL.cons (XOp.buildSlice (s := 1) [v1] [(.slice none 0 0)] [(0, [v1])] Try.runUnderlying49 Try.sizeOf22 Try.zeroValue22 rfl (by decide) rfl (.cons (cells_one (IntsF.isSl hf1)) CellsAre.nil) rfl ?_)
 intro v2 hv1
 refine XL.cons (XOp.buildSlice (s := 1) [.int .i64 (-1)] [.int .i64 (0)] [(0, [.int .i64 (-1)])] Try.runUnderlying22 Try.sizeOf2 Try.zeroValue2 rfl (by decide) rfl (.cons rfl CellsAre.nil) rfl ?_)
 intro v3 hv2
 refine XL.cons (XOp.build [.int .i64 (0), .int .i64 (0), (.slice none 0 0)] [.int .i64 (0), .int .i64 (0), (.slice none 0 0)] [(0, 1), (1, 1), (2, 1)] [] Try.runUnderlying77 Try.zeroValue77 rfl (.cons rfl Try.sizeOf2 (.cons rfl Try.sizeOf2 (.cons rfl Try.sizeOf22 PlacesAre.nil))) rfl CellsAre.nil ?_)
 refine XL.cons (XOp.buildSlice (s := 3) [.int .i64 (0), .int .i64 (0), (.slice none 0 0)] [.int .i64 (0), .int .i64 (0), (.slice none 0 0)] [(0, [.int .i64 (0), .int .i64 (0), (.slice none 0 0)])] Try.runUnderlying39 Try.sizeOf77 Try.zeroValue77 rfl (by decide) rfl (.cons rfl CellsAre.nil) rfl ?_)
 intro v4 hv3
 refine XL.cons (XOp.buildSlice (s := 1) [.int .i64 (0)] [.int .i64 (0)] [(0, [.int .i64 (0)])] Try.runUnderlying22 Try.sizeOf2 Try.zeroValue2 rfl (by decide) rfl (.cons rfl CellsAre.nil) rfl ?_)
 intro v5 hv4
 refine XL.cons (XOp.build [v2, v3, v4, v5, .bool (true)] [(.slice none 0 0), (.slice none 0 0), (.slice none 0 0), (.slice none 0 0), .bool (false)] [(0, 1), (1, 1), (2, 1), (3, 1), (4, 1)] [(0, [v2]), (1, [v3]), (2, [v4]), (3, [v5]), (4, [.bool (true)])] Try.runUnderlying85 Try.zeroValue85 rfl (.cons rfl Try.sizeOf49 (.cons rfl Try.sizeOf22 (.cons rfl Try.sizeOf39 (.cons rfl Try.sizeOf22 (.cons rfl Try.sizeOf4 PlacesAre.nil))))) rfl (.cons (cells_one (isSl_lit hv1)) (.cons (cells_one (isSl_lit hv2)) (.cons (cells_one (isSl_lit hv3)) (.cons (cells_one (isSl_lit hv4)) (.cons rfl CellsAre.nil))))) ?_)
 refine XL.cons (XOp.alloc [(.slice none 0 0), (.slice none 0 0), (.slice none 0 0), (.slice none 0 0), .bool (false)] Try.zeroValue85 rfl ?_)
 intro b3
 refine XL.cons (XOp.storeN (vs := [v2, v3, v4, v5, .bool (true)]) [] _ [v2, v3, v4, v5, .bool (true)] Try.sizeOf85 rfl rfl rfl (ones_cons (one_sl (isSl_lit hv1)) (ones_cons (one_sl (isSl_lit hv2)) (ones_cons (one_sl (isSl_lit hv3)) (ones_cons (one_sl (isSl_lit hv4)) (ones_cons rfl ones_nil))))) rfl rfl rfl ?_)
 refine XL.nil ?_
 refine X.seq ?_
 refine X.seq ?_
 refine X.region ?_
 refine XL.cons (XOp.assign (.int .i64 (0)) rfl ?_)
 refine XL.nil ?_
 refine X.block ?_
 have hc1 : RowsC F1 [v1] ([(t)] : List (List Int)) := (RowsC.snoc (CO.nil : RowsC F1 [] []) hf1)
 show X _ _ _ _ _ _ (cellsH b3 [v2, v3, v4, v5, .bool (true)] 85 :: slH 2 1 v5 1 [.int .i64 (0)] :: slH 77 3 v4 1 [.int .i64 (0), .int .i64 (0), (.slice none 0 0)] :: intsH 2 v3 ([-1] : List Int) :: slH 22 1 v2 1 ([v1]) :: cellsH b2 [(.slice none 0 0), (.slice none 0 0), (.slice none 0 0), (.slice none 0 0), .bool (false)] 85 :: cellsH b1 [arv, rsv] 33 :: L)
 have hc2 : StepsC F1 [.int .i64 (0), .int .i64 (0), (.slice none 0 0)] ([(0, 0, [])] : List StepT) := (StepsC.snoc (CO.nil : StepsC F1 [] []) (i := 0) (j := 0) IntsF.nilV)
 show X _ _ _ _ _ _ (cellsH b3 [v2, v3, v4, v5, .bool (true)] 85 :: intsH 2 v5 ([0] : List Int) :: slH 77 3 v4 1 ([.int .i64 (0), .int .i64 (0), (.slice none 0 0)]) :: intsH 2 v3 ([-1] : List Int) :: slH 22 1 v2 1 ([v1]) :: cellsH b2 [(.slice none 0 0), (.slice none 0 0), (.slice none 0 0), (.slice none 0 0), .bool (false)] 85 :: cellsH b1 [arv, rsv] 33 :: L)
 refine X.loop (α := Nat × List FoundT × Value × RowL × List Value × Nat × Value × List Int × Value × List StepT × List Value × Nat × Value × List Int × FH) (fun xQ => [(2, .int .i64 (n)), (3, ptr b1 0), (6, ptr b2 0), (7, ptr b3 0), (8, .int .i64 (((xQ.1 : Nat) : Int)))]) (fun xQ => slH 22 1 xQ.2.2.1 xQ.2.2.2.2.2.1 xQ.2.2.2.2.1 :: intsH 2 xQ.2.2.2.2.2.2.1 xQ.2.2.2.2.2.2.2.1 :: slH 77 3 xQ.2.2.2.2.2.2.2.2.1 xQ.2.2.2.2.2.2.2.2.2.2.2.1 xQ.2.2.2.2.2.2.2.2.2.2.1 :: intsH 2 xQ.2.2.2.2.2.2.2.2.2.2.2.2.1 xQ.2.2.2.2.2.2.2.2.2.2.2.2.2.1 :: cellsH b3 [xQ.2.2.1, xQ.2.2.2.2.2.2.1, xQ.2.2.2.2.2.2.2.2.1, xQ.2.2.2.2.2.2.2.2.2.2.2.2.1, .bool (true)] 85 :: cellsH b2 [(.slice none 0 0), (.slice none 0 0), (.slice none 0 0), (.slice none 0 0), .bool (false)] 85 :: cellsH b1 [arv, rsv] 33 :: L) (fun xQ F' => xQ.2.2.2.2.2.2.2.2.2.2.2.2.2.2 = F' ∧ F1 ≤ xQ.2.2.2.2.2.2.2.2.2.2.2.2.2.2 ∧ (IsSl xQ.2.2.1) ∧ (IsSl xQ.2.2.2.2.2.2.1) ∧ (IsSl xQ.2.2.2.2.2.2.2.2.1) ∧ (IsSl xQ.2.2.2.2.2.2.2.2.2.2.2.2.1) ∧ (RowsC xQ.2.2.2.2.2.2.2.2.2.2.2.2.2.2 xQ.2.2.2.2.1 xQ.2.2.2.1) ∧ (StepsC xQ.2.2.2.2.2.2.2.2.2.2.2.2.2.2 xQ.2.2.2.2.2.2.2.2.2.2.1 xQ.2.2.2.2.2.2.2.2.2.1) ∧ (xQ.2.2.2.2.2.1 = xQ.2.2.2.1.length) ∧ (xQ.2.2.2.2.2.2.2.2.2.2.2.1 = xQ.2.2.2.2.2.2.2.2.2.1.length) ∧ (xQ.2.2.2.1 = terms xQ.2.1) ∧ (xQ.2.2.2.2.2.2.2.1 = froms xQ.2.1) ∧ (xQ.2.2.2.2.2.2.2.2.2.1 = bys xQ.2.1) ∧ (xQ.2.2.2.2.2.2.2.2.2.2.2.2.2.1 = deeps xQ.2.1) ∧ (xQ.2.1.length ≤ 60) ∧ (AllOk ar xQ.2.1) ∧ (DeepOk n xQ.2.1) ∧ (xQ.1 ≤ xQ.2.1.length) ∧ (reachL ar rs t n = reachGo ar rs n (60 - xQ.1) xQ.1 xQ.2.1)) (fun xQ => 60 - xQ.1) (0, start0 t, v2, ([(t)] : List (List Int)), [v1], 1, v3, [-1], v4, ([(0, 0, [])] : List StepT), [.int .i64 (0), .int .i64 (0), (.slice none 0 0)], 1, v5, [0], F1) ⟨rfl, rfl, rfl, rfl, rfl, trivial⟩ (Sub.trans (Sub.front (A := [_, _, _, _, _, _])) (Sub.trans (Sub.front (A := [_, _, _, _, _, _])) (Sub.trans (Sub.front (A := [_, _])) (Sub.trans (Sub.front (A := [_, _, _])) (Sub.trans (Sub.front (A := [_, _, _, _])) (Sub.trans (Sub.front (A := [_, _, _, _, _])) (Sub.trans (Sub.front (A := [_, _, _, _, _, _])) (Sub.cons (Sub.cons (Sub.cons (Sub.cons (Sub.cons (Sub.cons (Sub.cons (Sub.refl _))))))))))))))) ⟨rfl, FLe.refl _, ((isSl_lit hv1)), ((isSl_lit hv2)), ((isSl_lit hv3)), ((isSl_lit hv4)), (hc1), (hc2), (rfl), (rfl), (rfl), (rfl), (rfl), (rfl), (by simp [start0]), (AllOk.start ho), (DeepOk.start hn20.1), (by simp), (rfl)⟩ ?_
 rintro ⟨k, os, av, ts, acs, an, bv, fs, cv, bs, ccs, cn, dv, ds, G1⟩ rE _ _ ⟨rfl, leG, hav, hbv, hcv, hdv, hA, hB, han, hcn, hts, hfs, hbs, hds, hl, hok, hdo, hk, hgo⟩
 show X _ _ _ _ (envs [(2, .int .i64 (n)), (3, ptr b1 0), (6, ptr b2 0), (7, ptr b3 0), (8, .int .i64 (((k : Nat) : Int)))] rE) _ (slH 22 1 av an acs :: intsH 2 bv fs :: slH 77 3 cv cn ccs :: intsH 2 dv ds :: cellsH b3 [av, bv, cv, dv, .bool (true)] 85 :: cellsH b2 [(.slice none 0 0), (.slice none 0 0), (.slice none 0 0), (.slice none 0 0), .bool (false)] 85 :: cellsH b1 [arv, rsv] 33 :: L)
 replace leG : F1 ≤ G1 := leG
 dsimp only at hav hbv hcv hdv hA hB han hcn hts hfs hbs hds hl hok hdo hk hgo
 have htl9 : ts.length = os.length := by rw [hts]; exact terms_len
 have hfl9 : fs.length = os.length := by rw [hfs]; exact froms_len
 have hbl9 : bs.length = os.length := by rw [hbs]; exact bys_len
 have hdl9 : ds.length = os.length := by rw [hds]; exact deeps_len
 have hdk := fun (h : k < os.length) => hok k h
 have hdl := fun (h : k < os.length) => termOk_len (hok k h)
 have hEt : ts.getD k [] = (EL os k).1 := by rw [hts]; exact terms_get k
 have hEd := fun (h : k < os.length) => (show ds.getD k 0 = (EL os k).2.2.2 from by rw [hds]; exact deeps_get h)
 have leG1 := leG
 replace har := har.mono leG1
 replace hrs := hrs.mono leG1
 replace ht := ht.mono leG1
 replace hf1 := hf1.mono leG1
 replace hc1 := hc1.mono leG1
 replace hc2 := hc2.mono leG1
 refine X.seq ?_
 refine X.seq ?_
 refine X.region ?_
 refine XL.cons (XOp.move (.int .i64 (((k : Nat) : Int))) rfl ?_)
 refine XL.cons (XOp.fieldP (b := b3) (0) Try.runUnderlying85 rfl Try.sizeOf49 (by decide) rfl rfl ?_)
 refine XL.cons (XOp.load1 (v := av) Try.isAgg49 rfl (Rd.own [_, _, _, _] rfl rfl) ?_)
 refine XL.cons (XOp.lenS (v := av) (n := an) Try.runUnderlying49 rfl (SlV.own [] rfl) ?_)
 refine XL.cons (XOp.lss (a := ((k : Nat) : Int)) (b := ((an : Nat) : Int)) rfl rfl ?_)
 refine XL.nil ?_
 refine X.condD (p := (((k : Nat) : Int) : Int) < ((an : Nat) : Int)) rfl (fun h1 => ?_) (fun h1 => ?_)
 ·refine X.skip ?_
  refine X.seq ?_
  refine X.block ?_
  refine X.seq ?_
  refine X.seq ?_
  refine X.region ?_
  refine XL.cons (XOp.fieldP (b := b3) (3) Try.runUnderlying85 rfl Try.sizeOf22 (by decide) rfl rfl ?_)
  refine XL.cons (XOp.load1 (v := dv) Try.isAgg22 rfl (Rd.own [_, _, _, _] rfl rfl) ?_)
  refine XL.cons (XOp.move (.int .i64 (((k : Nat) : Int))) rfl ?_)
  refine XL.cons (XOp.indexS (v := dv) (i := ((k : Nat) : Int)) (n := (ds).length) k Try.runUnderlying22 Try.sizeOf2 rfl rfl rfl (intsH.slv [_, _, _] rfl) (by omega) (Nat.mul_one _) ?_)
  refine XL.cons (XOp.load1 (v := .int .i64 (ds.getD k 0)) Try.isAgg2 rfl (intsH.rd [_, _, _] rfl (by omega)) ?_)
  refine XL.cons (XOp.move (.int .i64 (n)) rfl ?_)
  refine XL.cons (XOp.eql (a := ds.getD k 0) (b := n) rfl rfl ?_)
  refine XL.nil ?_
  refine X.condD (p := (ds.getD k 0 : Int) = n) rfl (fun h2 => ?_) (fun h2 => ?_)
  ·have hdeep : (EL os k).2.2.2 = n := by rw [← hEd (by omega)]; exact h2
   refine X.exit (thenQ_exit (blockQ_exit ?_))
   refine X.region ?_
   refine XL.cons (XOp.move (.int .i64 (((k : Nat) : Int))) rfl ?_)
   refine XL.cons (XOp.addR (a := ((k : Nat) : Int)) (b := 1) (((k + 1 : Nat) : Int)) rfl rfl (by omega) (by omega) ?_)
   refine XL.cons (XOp.assign (.int .i64 (((k + 1 : Nat) : Int))) rfl ?_)
   refine XL.nil ?_
   exact ⟨(k + 1, os, av, ts, acs, an, bv, fs, cv, bs, ccs, cn, dv, ds, G1), _, leG1, (FLe.refl _), ⟨rfl, rfl, rfl, rfl, rfl, trivial⟩, (Sub.cons (Sub.cons (Sub.cons (Sub.cons (Sub.cons (Sub.cons (Sub.cons (Sub.refl _)))))))), ⟨rfl, leG1, (hav), (hbv), (hcv), (hdv), (hA), (hB), (han), (hcn), (hts), (hfs), (hbs), (hds), (hl), (hok), (hdo), (by (try dsimp only) <;> omega), (by (try dsimp only); exact hgo.trans (reach_same (f := 60 - k - 1) (by omega) (by omega) hdeep))⟩, (by (try dsimp only); omega)⟩
  ·have hdeep : (EL os k).2.2.2 ≠ n := by rw [← hEd (by omega)]; exact h2
   refine X.skip ?_
   refine X.seq ?_
   obtain ⟨a1, ha1, he1⟩ := hA.get (i := k) (by omega)
   refine X.draw [slH 22 1 av an acs, intsH 2 bv fs, slH 77 3 cv cn ccs, intsH 2 dv ds, cellsH b3 [av, bv, cv, dv, .bool (true)] 85, cellsH b2 [(.slice none 0 0), (.slice none 0 0), (.slice none 0 0), (.slice none 0 0), .bool (false)] 85, cellsH b1 [arv, rsv] 33] L 6 [[], [], [], [], [], []] [[], [], [1], [], [2, 3], [4]] (phiL [fun us v => v = (.agg #[arv, rsv] : Value), fun us v => v = ptr b3 0, fun us v => v = av, fun us v => v = (.int .i64 (((k : Nat) : Int)) : Value), fun us v => v = (.pointer (some (elemA av (k))) : Value), fun us v => v = a1]) (ownL [fun us v => [], fun us v => [], fun us v => [], fun us v => [], fun us v => [], fun us v => []]) mixed rfl rfl (by kernel_rfl) ?_ ?_
   ·refine stepsP.cons (fun vals R hpZ => ?_) ?_
    ·refine XG.op (XOp.loadN [arv, rsv] Try.isAgg33 Try.sizeOf33 rfl rfl (Rd.ownN [_, _, _, _, _, _] rfl rfl) ?_)
     exact ⟨rfl, rfl, rfl⟩
    refine stepsP.cons (fun vals R hpZ => ?_) ?_
    ·refine XG.op (XOp.fieldP (b := b3) (0) Try.runUnderlying85 rfl Try.sizeOf49 (by decide) rfl rfl ?_)
     exact ⟨rfl, rfl, rfl⟩
    refine stepsP.cons (fun vals R hpZ => ?_) ?_
    ·rw [(envs_of_sat (l := [(1, ptr b3 0)]) ⟨hpZ 1 (by decide), trivial⟩).symm]
     refine XG.op (XOp.load1 (v := av) Try.isAgg49 rfl (Rd.own [_, _, _, _] rfl rfl) ?_)
     exact ⟨rfl, rfl, rfl⟩
    refine stepsP.cons (fun vals R hpZ => ?_) ?_
    ·refine XG.op (XOp.move (.int .i64 (((k : Nat) : Int))) rfl ?_)
     exact ⟨rfl, rfl, rfl⟩
    refine stepsP.cons (fun vals R hpZ => ?_) ?_
    ·rw [(envs_of_sat (l := [(2, av), (3, (.int .i64 (((k : Nat) : Int)) : Value))]) ⟨hpZ 2 (by decide), hpZ 3 (by decide), trivial⟩).symm]
     refine XG.op (XOp.indexS (v := av) (i := ((k : Nat) : Int)) (n := an) k Try.runUnderlying49 Try.sizeOf22 rfl rfl rfl (SlV.own [] rfl) (by omega) (Nat.mul_one _) ?_)
     exact ⟨rfl, rfl, rfl⟩
    refine stepsP.cons (fun vals R hpZ => ?_) ?_
    ·rw [(envs_of_sat (l := [(4, (.pointer (some (elemA av (k))) : Value))]) ⟨hpZ 4 (by decide), trivial⟩).symm]
     refine XG.op (XOp.load1 (v := a1) Try.isAgg22 rfl (Rd.sl [] rfl he1) ?_)
     exact ⟨rfl, rfl, rfl⟩
    exact stepsP.nil
   ·intro vals hphi
    have e0 : vals 0 = (.agg #[arv, rsv] : Value) := hphi 0 (by decide)
    have e1 : vals 1 = ptr b3 0 := hphi 1 (by decide)
    have e2 : vals 2 = av := hphi 2 (by decide)
    have e3 : vals 3 = (.int .i64 (((k : Nat) : Int)) : Value) := hphi 3 (by decide)
    have e4 : vals 4 = (.pointer (some (elemA av (k))) : Value) := hphi 4 (by decide)
    have e5 : vals 5 = a1 := hphi 5 (by decide)
    rw [(envs_of_sat (l := [(0, (.agg #[arv, rsv] : Value)), (1, ptr b3 0), (2, av), (3, (.int .i64 (((k : Nat) : Int)) : Value)), (4, (.pointer (some (elemA av (k))) : Value)), (5, a1)]) ⟨e0, e1, e2, e3, e4, e5, trivial⟩).symm]
    show XL _ _ _ _ _ _ _ (slH 22 1 av an acs :: intsH 2 bv fs :: slH 77 3 cv cn ccs :: intsH 2 dv ds :: cellsH b3 [av, bv, cv, dv, .bool (true)] 85 :: cellsH b2 [(.slice none 0 0), (.slice none 0 0), (.slice none 0 0), (.slice none 0 0), .bool (false)] 85 :: cellsH b1 [arv, rsv] 33 :: L)
    refine XL.cons (XOp.call (args := [.agg #[arv, rsv], a1]) Try.call82 rfl (l7Steps_spec har hrs ha1 (hsys := (hsys)) (ho := (by rw [hEt]; exact hdk (by omega)))) ?_)
    rintro _ F2 _ le2 ⟨x1, rfl, hr1, rfl⟩
    replace har := har.mono le2
    replace hrs := hrs.mono le2
    replace ht := ht.mono le2
    replace hf1 := hf1.mono le2
    replace hc1 := hc1.mono le2
    replace hc2 := hc2.mono le2
    replace hA := hA.mono le2
    replace hB := hB.mono le2
    replace ha1 := ha1.mono le2
    refine XL.cons (XOp.assign (x1) rfl ?_)
    refine XL.nil ?_
    refine X.seq ?_
    refine X.region ?_
    have hk7 : k < os.length := by omega
    obtain ⟨nx, hnx⟩ : ∃ nx, stepsL ar rs (ts.getD k []) = nx := ⟨_, rfl⟩
    rw [hnx] at hr1
    obtain ⟨os0, hos0⟩ : ∃ o, o = os := ⟨_, rfl⟩
    have hdeep0 := hdeep
    have hgo0 := hgo
    rw [← hos0] at hdeep0 hgo0
    have hnx0 : stepsL ar rs (EL os0 k).1 = nx := by rw [hos0, ← hEt]; exact hnx
    have hdk0 := hdk hk7
    have hdo0 := hdo k hk7
    have hl0 : os0.length ≤ 60 := by rw [hos0]; exact hl
    rw [← hos0] at hdk0 hdo0
    have hk70 := hk7
    rw [← hos0] at hk70
    have hnxo : ∀ i, i < nx.length → termOk ar (nx.getD i (0, 0, [])).2.2 = true := fun i hi => by rw [← hnx0] at hi ⊢; exact steps_ok hsys hdk0 hi
    have hnxl : nx.length ≤ 1000 := by have h9 := stepsTo_len (ar := ar) (t := (EL os0 k).1) (rs := rs) hrl (EL os0 k).1.length; have h8 := termOk_len hdk0; rw [← hnx0]; show (stepsTo ar rs (EL os0 k).1 (EL os0 k).1.length).length ≤ 1000; omega
    skip
    refine XL.cons (XOp.assign (.int .i64 (0)) rfl ?_)
    refine XL.nil ?_
    refine X.block ?_
    refine X.loop (α := Nat × List FoundT × Value × RowL × List Value × Nat × Value × List Int × Value × List StepT × List Value × Nat × Value × List Int × FH) (fun xQ => [(2, .int .i64 (n)), (3, ptr b1 0), (6, ptr b2 0), (7, ptr b3 0), (8, .int .i64 (((k : Nat) : Int))), (9, x1), (10, .int .i64 (((xQ.1 : Nat) : Int)))]) (fun xQ => slH 22 1 xQ.2.2.1 xQ.2.2.2.2.2.1 xQ.2.2.2.2.1 :: intsH 2 xQ.2.2.2.2.2.2.1 xQ.2.2.2.2.2.2.2.1 :: slH 77 3 xQ.2.2.2.2.2.2.2.2.1 xQ.2.2.2.2.2.2.2.2.2.2.2.1 xQ.2.2.2.2.2.2.2.2.2.2.1 :: intsH 2 xQ.2.2.2.2.2.2.2.2.2.2.2.2.1 xQ.2.2.2.2.2.2.2.2.2.2.2.2.2.1 :: cellsH b3 [xQ.2.2.1, xQ.2.2.2.2.2.2.1, xQ.2.2.2.2.2.2.2.2.1, xQ.2.2.2.2.2.2.2.2.2.2.2.2.1, .bool (true)] 85 :: cellsH b2 [(.slice none 0 0), (.slice none 0 0), (.slice none 0 0), (.slice none 0 0), .bool (false)] 85 :: cellsH b1 [arv, rsv] 33 :: L) (fun xQ F' => xQ.2.2.2.2.2.2.2.2.2.2.2.2.2.2 = F' ∧ F2 ≤ xQ.2.2.2.2.2.2.2.2.2.2.2.2.2.2 ∧ (IsSl xQ.2.2.1) ∧ (IsSl xQ.2.2.2.2.2.2.1) ∧ (IsSl xQ.2.2.2.2.2.2.2.2.1) ∧ (IsSl xQ.2.2.2.2.2.2.2.2.2.2.2.2.1) ∧ (RowsC xQ.2.2.2.2.2.2.2.2.2.2.2.2.2.2 xQ.2.2.2.2.1 xQ.2.2.2.1) ∧ (StepsC xQ.2.2.2.2.2.2.2.2.2.2.2.2.2.2 xQ.2.2.2.2.2.2.2.2.2.2.1 xQ.2.2.2.2.2.2.2.2.2.1) ∧ (xQ.2.2.2.2.2.1 = xQ.2.2.2.1.length) ∧ (xQ.2.2.2.2.2.2.2.2.2.2.2.1 = xQ.2.2.2.2.2.2.2.2.2.1.length) ∧ (xQ.2.2.2.1 = terms xQ.2.1) ∧ (xQ.2.2.2.2.2.2.2.1 = froms xQ.2.1) ∧ (xQ.2.2.2.2.2.2.2.2.2.1 = bys xQ.2.1) ∧ (xQ.2.2.2.2.2.2.2.2.2.2.2.2.2.1 = deeps xQ.2.1) ∧ (xQ.2.1.length ≤ 60) ∧ (AllOk ar xQ.2.1) ∧ (DeepOk n xQ.2.1) ∧ (xQ.1 ≤ nx.length) ∧ (k < xQ.2.1.length) ∧ (EL xQ.2.1 k = EL os0 k) ∧ (addGo (k : Int) (EL os0 k).2.2.2 nx os0 = addGo (k : Int) (EL os0 k).2.2.2 (nx.drop xQ.1) xQ.2.1)) (fun xQ => nx.length - xQ.1) (0, os, av, ts, acs, an, bv, fs, cv, bs, ccs, cn, dv, ds, F2) ⟨rfl, rfl, rfl, rfl, rfl, rfl, rfl, trivial⟩ (Sub.cons (Sub.cons (Sub.cons (Sub.cons (Sub.cons (Sub.cons (Sub.cons (Sub.refl _)))))))) ⟨rfl, FLe.refl _, (hav), (hbv), (hcv), (hdv), (hA), (hB), (han), (hcn), (hts), (hfs), (hbs), (hds), (hl), (hok), (hdo), (by (try dsimp only) <;> omega), (by (try dsimp only); omega), (by (try dsimp only); rw [hos0]), (by (try dsimp only); rw [hos0]; rfl)⟩ ?_
    rintro ⟨q, os, av, ts, acs, an, bv, fs, cv, bs, ccs, cn, dv, ds, G2⟩ rE _ _ ⟨rfl, leG, havi, hbvi, hcvi, hdvi, hAi, hBi, hani, hcni, htsi, hfsi, hbsi, hdsi, hli, hoki, hdoi, hq, hkp, hel, hgoi⟩
    show X _ _ _ _ (envs [(2, .int .i64 (n)), (3, ptr b1 0), (6, ptr b2 0), (7, ptr b3 0), (8, .int .i64 (((k : Nat) : Int))), (9, x1), (10, .int .i64 (((q : Nat) : Int)))] rE) _ (slH 22 1 av an acs :: intsH 2 bv fs :: slH 77 3 cv cn ccs :: intsH 2 dv ds :: cellsH b3 [av, bv, cv, dv, .bool (true)] 85 :: cellsH b2 [(.slice none 0 0), (.slice none 0 0), (.slice none 0 0), (.slice none 0 0), .bool (false)] 85 :: cellsH b1 [arv, rsv] 33 :: L)
    replace leG : F2 ≤ G2 := leG
    dsimp only at havi hbvi hcvi hdvi hAi hBi hani hcni htsi hfsi hbsi hdsi hli hoki hdoi hq hkp hel hgoi
    have htl9i : ts.length = os.length := by rw [htsi]; exact terms_len
    have hfl9i : fs.length = os.length := by rw [hfsi]; exact froms_len
    have hbl9i : bs.length = os.length := by rw [hbsi]; exact bys_len
    have hdl9i : ds.length = os.length := by rw [hdsi]; exact deeps_len
    have hsok := fun (h : q < nx.length) => termOk_len (hnxo q h)
    have hdk9 : ds.getD k 0 = (EL os0 k).2.2.2 := by rw [hdsi, deeps_get hkp, hel]
    have leG2 := leG
    replace har := har.mono leG2
    replace hrs := hrs.mono leG2
    replace ht := ht.mono leG2
    replace hf1 := hf1.mono leG2
    replace hc1 := hc1.mono leG2
    replace hc2 := hc2.mono leG2
    replace hA := hA.mono leG2
    replace hB := hB.mono leG2
    replace ha1 := ha1.mono leG2
    replace hr1 := hr1.mono leG2
    refine X.seq ?_
    refine X.seq ?_
    refine X.region ?_
    refine XL.cons (XOp.move (.int .i64 (((q : Nat) : Int))) rfl ?_)
    refine XL.cons (XOp.move (x1) rfl ?_)
    refine XL.cons (XOp.lenS (v := x1) (n := (nx).length) Try.runUnderlying39 rfl hr1.slv ?_)
    refine XL.cons (XOp.lss (a := ((q : Nat) : Int)) (b := (((nx).length : Nat) : Int)) rfl rfl ?_)
    refine XL.nil ?_
    refine X.condD (p := (((q : Nat) : Int) : Int) < (((nx).length : Nat) : Int)) rfl (fun h3 => ?_) (fun h3 => ?_)
    ·refine X.skip ?_
     refine X.seq ?_
     refine X.block ?_
     refine X.seq ?_
     refine X.seq ?_
     obtain ⟨a2, ha2, hr2, hr3, hr4⟩ := hr1.rd (i := q) (by omega)
     refine X.draw [slH 22 1 av an acs, intsH 2 bv fs, slH 77 3 cv cn ccs, intsH 2 dv ds, cellsH b3 [av, bv, cv, dv, .bool (true)] 85, cellsH b2 [(.slice none 0 0), (.slice none 0 0), (.slice none 0 0), (.slice none 0 0), .bool (false)] 85, cellsH b1 [arv, rsv] 33] L 7 [[], [], [], [], [], [], []] [[], [0], [], [], [2, 3], [4], [5]] (phiL [fun us v => v = ptr b3 0, fun us v => v = av, fun us v => v = x1, fun us v => v = (.int .i64 (((q : Nat) : Int)) : Value), fun us v => v = (.pointer (some (elemA x1 (q * 3))) : Value), fun us v => v = (.pointer (some (elemA x1 (q * 3 + 2))) : Value), fun us v => v = a2]) (ownL [fun us v => [], fun us v => [], fun us v => [], fun us v => [], fun us v => [], fun us v => [], fun us v => []]) mixed rfl rfl (by kernel_rfl) ?_ ?_
     ·refine stepsP.cons (fun vals R hpZ => ?_) ?_
      ·refine XG.op (XOp.fieldP (b := b3) (0) Try.runUnderlying85 rfl Try.sizeOf49 (by decide) rfl rfl ?_)
       exact ⟨rfl, rfl, rfl⟩
      refine stepsP.cons (fun vals R hpZ => ?_) ?_
      ·rw [(envs_of_sat (l := [(0, ptr b3 0)]) ⟨hpZ 0 (by decide), trivial⟩).symm]
       refine XG.op (XOp.load1 (v := av) Try.isAgg49 rfl (Rd.own [_, _, _, _] rfl rfl) ?_)
       exact ⟨rfl, rfl, rfl⟩
      refine stepsP.cons (fun vals R hpZ => ?_) ?_
      ·refine XG.op (XOp.move (x1) rfl ?_)
       exact ⟨rfl, rfl, rfl⟩
      refine stepsP.cons (fun vals R hpZ => ?_) ?_
      ·refine XG.op (XOp.move (.int .i64 (((q : Nat) : Int))) rfl ?_)
       exact ⟨rfl, rfl, rfl⟩
      refine stepsP.cons (fun vals R hpZ => ?_) ?_
      ·rw [(envs_of_sat (l := [(2, x1), (3, (.int .i64 (((q : Nat) : Int)) : Value))]) ⟨hpZ 2 (by decide), hpZ 3 (by decide), trivial⟩).symm]
       refine XG.op (XOp.indexS (v := x1) (i := ((q : Nat) : Int)) (n := (nx).length) q Try.runUnderlying39 Try.sizeOf77 rfl rfl rfl hr1.slv (by omega) rfl ?_)
       exact ⟨rfl, rfl, rfl⟩
      refine stepsP.cons (fun vals R hpZ => ?_) ?_
      ·rw [(envs_of_sat (l := [(4, (.pointer (some (elemA x1 (q * 3))) : Value))]) ⟨hpZ 4 (by decide), trivial⟩).symm]
       refine XG.op (XOp.fieldE (v := x1) (q * 3 + 2) Try.runUnderlying77 rfl Try.sizeOf22 (by decide) rfl rfl ?_)
       exact ⟨rfl, rfl, rfl⟩
      refine stepsP.cons (fun vals R hpZ => ?_) ?_
      ·rw [(envs_of_sat (l := [(5, (.pointer (some (elemA x1 (q * 3 + 2))) : Value))]) ⟨hpZ 5 (by decide), trivial⟩).symm]
       refine XG.op (XOp.load1 (v := a2) Try.isAgg22 rfl (hr4 _) ?_)
       exact ⟨rfl, rfl, rfl⟩
      exact stepsP.nil
     ·intro vals hphi
      have e0 : vals 0 = ptr b3 0 := hphi 0 (by decide)
      have e1 : vals 1 = av := hphi 1 (by decide)
      have e2 : vals 2 = x1 := hphi 2 (by decide)
      have e3 : vals 3 = (.int .i64 (((q : Nat) : Int)) : Value) := hphi 3 (by decide)
      have e4 : vals 4 = (.pointer (some (elemA x1 (q * 3))) : Value) := hphi 4 (by decide)
      have e5 : vals 5 = (.pointer (some (elemA x1 (q * 3 + 2))) : Value) := hphi 5 (by decide)
      have e6 : vals 6 = a2 := hphi 6 (by decide)
      rw [(envs_of_sat (l := [(0, ptr b3 0), (1, av), (2, x1), (3, (.int .i64 (((q : Nat) : Int)) : Value)), (4, (.pointer (some (elemA x1 (q * 3))) : Value)), (5, (.pointer (some (elemA x1 (q * 3 + 2))) : Value)), (6, a2)]) ⟨e0, e1, e2, e3, e4, e5, e6, trivial⟩).symm]
      show XL _ _ _ _ _ _ _ (slH 22 1 av an acs :: intsH 2 bv fs :: slH 77 3 cv cn ccs :: intsH 2 dv ds :: cellsH b3 [av, bv, cv, dv, .bool (true)] 85 :: cellsH b2 [(.slice none 0 0), (.slice none 0 0), (.slice none 0 0), (.slice none 0 0), .bool (false)] 85 :: cellsH b1 [arv, rsv] 33 :: L)
      refine XL.cons (XOp.lend [] _ _ rfl (fun F3 le3 hz2 => ?_))
      have hf2 : RowsF _ av ts := (CO.fz (RowsC.mono hAi (FLe.trans le3 (FLe.refl _))) (by first | rfl | assumption | omega | (rw [List.length_append]; simp only [List.length_singleton]; omega)) hz2 : RowsF _ av ts)
      refine id (XOp.call (args := [av, a2]) Try.call68 rfl (l1TermPlace_spec hf2 ((ha2.mono le3)) (hlt := (by omega)) (htb := (fun i hi => by rw [htsi, terms_get]; have := termOk_len (hoki i (by omega)); omega)) (hlx := (by have := hsok (by omega); omega))) ?_)
      rintro _ _ _ _ ⟨rfl, rfl, rfl⟩
      show XL _ _ _ _ _ _ _ (slH 22 1 av an acs :: intsH 2 bv fs :: slH 77 3 cv cn ccs :: intsH 2 dv ds :: cellsH b3 [av, bv, cv, dv, .bool (true)] 85 :: cellsH b2 [(.slice none 0 0), (.slice none 0 0), (.slice none 0 0), (.slice none 0 0), .bool (false)] 85 :: cellsH b1 [arv, rsv] 33 :: L)
      refine XL.cons (XOp.geq (a := badG (fun y => !decide (y = ((nx.getD q (0, 0, [])).2.2))) ts) (b := 0) rfl rfl ?_)
      refine XL.nil ?_
      refine X.condD (p := (badG (fun y => !decide (y = ((nx.getD q (0, 0, [])).2.2))) ts : Int) ≥ 0) rfl (fun h4 => ?_) (fun h4 => ?_)
      ·have hbg : badG (fun y => !decide (y = (nx.getD q (0, 0, [])).2.2)) ts = foundI os (nx.getD q (0, 0, [])).2.2 := by rw [htsi]; exact foundI_terms
       have hin : isIn os (nx.getD q (0, 0, [])).2.2 = true := foundI_iff.1 (by rw [← hbg]; exact h4)
       refine X.exit (thenQ_exit (blockQ_exit ?_))
       refine X.region ?_
       refine XL.cons (XOp.move (.int .i64 (((q : Nat) : Int))) rfl ?_)
       refine XL.cons (XOp.addR (a := ((q : Nat) : Int)) (b := 1) (((q + 1 : Nat) : Int)) rfl rfl (by omega) (by omega) ?_)
       refine XL.cons (XOp.assign (.int .i64 (((q + 1 : Nat) : Int))) rfl ?_)
       refine XL.nil ?_
       exact ⟨(q + 1, os, av, ts, acs, an, bv, fs, cv, bs, ccs, cn, dv, ds, G2), _, leG2, (FLe.refl _), ⟨rfl, rfl, rfl, rfl, rfl, rfl, rfl, trivial⟩, (Sub.cons (Sub.cons (Sub.cons (Sub.cons (Sub.cons (Sub.cons (Sub.cons (Sub.refl _)))))))), ⟨rfl, leG2, (havi), (hbvi), (hcvi), (hdvi), (hAi), (hBi), (hani), (hcni), (htsi), (hfsi), (hbsi), (hdsi), (hli), (hoki), (hdoi), (by (try dsimp only) <;> omega), (hkp), (hel), (by (try dsimp only); exact hgoi.trans (add_in (by omega) hin))⟩, (by omega)⟩
      ·have hbg : badG (fun y => !decide (y = (nx.getD q (0, 0, [])).2.2)) ts = foundI os (nx.getD q (0, 0, [])).2.2 := by rw [htsi]; exact foundI_terms
       have hnin : isIn os (nx.getD q (0, 0, [])).2.2 = false := by rw [Bool.eq_false_iff]; intro h9; exact absurd (foundI_iff.2 h9) (by rw [← hbg]; exact h4)
       refine X.skip ?_
       refine X.seq ?_
       refine X.seq ?_
       refine X.region ?_
       refine XL.cons (XOp.fieldP (b := b3) (0) Try.runUnderlying85 rfl Try.sizeOf49 (by decide) rfl rfl ?_)
       refine XL.cons (XOp.load1 (v := av) Try.isAgg49 rfl (Rd.own [_, _, _, _] rfl rfl) ?_)
       refine XL.cons (XOp.lenS (v := av) (n := an) Try.runUnderlying49 rfl (SlV.own [] rfl) ?_)
       refine XL.cons (XOp.eql (a := ((an : Nat) : Int)) (b := 60) rfl rfl ?_)
       refine XL.nil ?_
       refine X.condD (p := (((an : Nat) : Int) : Int) = 60) rfl (fun h5 => ?_) (fun h5 => ?_)
       ·refine X.seq ?_
        refine X.region ?_
        refine XL.cons (XOp.fieldP (b := b3) (4) Try.runUnderlying85 rfl Try.sizeOf4 (by decide) rfl rfl ?_)
        refine XL.cons (XOp.store1 (v := .bool (false)) [_, _, _, _] _ [av, bv, cv, dv, .bool (false)] Try.sizeOf4 rfl rfl rfl rfl rfl rfl ?_)
        refine XL.nil ?_
        refine X.seq ?_
        refine X.region ?_
        refine XL.cons (XOp.loadN [av, bv, cv, dv, .bool (false)] Try.isAgg85 Try.sizeOf85 rfl rfl (Rd.ownN [_, _, _, _] rfl rfl) ?_)
        refine XL.cons (XOp.storeN (vs := [av, bv, cv, dv, .bool (false)]) [_, _, _, _, _] _ [av, bv, cv, dv, .bool (false)] Try.sizeOf85 rfl rfl rfl (ones_cons (one_sl havi) (ones_cons (one_sl hbvi) (ones_cons (one_sl hcvi) (ones_cons (one_sl hdvi) (ones_cons rfl ones_nil))))) rfl rfl rfl ?_)
        refine XL.nil ?_
        refine X.freezeF [] _ _ rfl (fun F4 le4 hz3 => ?_)
        replace har := har.mono le4
        replace hrs := hrs.mono le4
        replace ht := ht.mono le4
        replace hf1 := hf1.mono le4
        replace hc1 := hc1.mono le4
        replace hc2 := hc2.mono le4
        replace hA := hA.mono le4
        replace hB := hB.mono le4
        replace ha1 := ha1.mono le4
        replace hr1 := hr1.mono le4
        replace hAi := hAi.mono le4
        replace hBi := hBi.mono le4
        replace ha2 := ha2.mono le4
        replace hr2 := Rd.monoA hr2 le4
        replace hr3 := Rd.monoA hr3 le4
        replace hr4 := Rd.monoA hr4 le4
        have hf3 : RowsF F4 av ts := CO.fz hAi (by first | rfl | simp | omega) hz3.fz
        refine X.freezeF [] _ _ rfl (fun F5 le5 hz4 => ?_)
        replace har := har.mono le5
        replace hrs := hrs.mono le5
        replace ht := ht.mono le5
        replace hf1 := hf1.mono le5
        replace hc1 := hc1.mono le5
        replace hc2 := hc2.mono le5
        replace hA := hA.mono le5
        replace hB := hB.mono le5
        replace ha1 := ha1.mono le5
        replace hr1 := hr1.mono le5
        replace hAi := hAi.mono le5
        replace hBi := hBi.mono le5
        replace ha2 := ha2.mono le5
        replace hf3 := hf3.mono le5
        replace hr2 := Rd.monoA hr2 le5
        replace hr3 := Rd.monoA hr3 le5
        replace hr4 := Rd.monoA hr4 le5
        have hf4 : IntsF F5 bv fs := intsH.fz (xs := fs) hz4.fz
        refine X.freezeF [] _ _ rfl (fun F6 le6 hz5 => ?_)
        replace har := har.mono le6
        replace hrs := hrs.mono le6
        replace ht := ht.mono le6
        replace hf1 := hf1.mono le6
        replace hc1 := hc1.mono le6
        replace hc2 := hc2.mono le6
        replace hA := hA.mono le6
        replace hB := hB.mono le6
        replace ha1 := ha1.mono le6
        replace hr1 := hr1.mono le6
        replace hAi := hAi.mono le6
        replace hBi := hBi.mono le6
        replace ha2 := ha2.mono le6
        replace hf3 := hf3.mono le6
        replace hf4 := hf4.mono le6
        replace hr2 := Rd.monoA hr2 le6
        replace hr3 := Rd.monoA hr3 le6
        replace hr4 := Rd.monoA hr4 le6
        have hf5 : StepsF F6 cv bs := CO.fz hBi (by first | rfl | simp | omega) hz5.fz
        refine X.freezeF [] _ _ rfl (fun F7 le7 hz6 => ?_)
        replace har := har.mono le7
        replace hrs := hrs.mono le7
        replace ht := ht.mono le7
        replace hf1 := hf1.mono le7
        replace hc1 := hc1.mono le7
        replace hc2 := hc2.mono le7
        replace hA := hA.mono le7
        replace hB := hB.mono le7
        replace ha1 := ha1.mono le7
        replace hr1 := hr1.mono le7
        replace hAi := hAi.mono le7
        replace hBi := hBi.mono le7
        replace ha2 := ha2.mono le7
        replace hf3 := hf3.mono le7
        replace hf4 := hf4.mono le7
        replace hf5 := hf5.mono le7
        replace hr2 := Rd.monoA hr2 le7
        replace hr3 := Rd.monoA hr3 le7
        replace hr4 := Rd.monoA hr4 le7
        have hf6 : IntsF F7 dv ds := intsH.fz (xs := ds) hz6.fz
        refine X.ret (thenQ_ret (blockQ_ret (thenQ_ret (thenQ_ret (blockQ_ret (blockQ_ret (thenQ_ret (thenQ_ret (blockQ_ret (thenQ_ret (retEnd (L' := L) [.agg #[av, bv, cv, dv, .bool (false)]] (.agg #[av, bv, cv, dv, .bool (false)]) (.cell rfl (loadNV [av, bv, cv, dv, .bool (false)] Try.isAgg85 Try.sizeOf85 rfl (Rd.ownN [_] rfl rfl)) .nil) rfl (FLe.trans (FLe.trans (FLe.trans (FLe.trans (FLe.trans (FLe.trans (FLe.trans le1 leG1) le2) leG2) le4) le5) le6) le7) (FLe.refl _) (Sub.drop (Sub.drop (Sub.drop (Sub.refl _)))) ?_)))))))))))
        have h9 := hgoi.trans (add_full (by omega) hnin (by omega))
        have h8 := reach_stop (ar := ar) (rs := rs) (n := n) (f := 60 - k - 1) hk70 (by omega) hdeep0 (by rw [hnx0, h9])
        rw [hnx0, h9] at h8
        have e9 : reachL ar rs t n = (os, false) := hgo0.trans h8
        rw [e9]
        exact ⟨_, _, _, _, rfl, by rw [← htsi]; exact hf3, by rw [← hfsi]; exact hf4, by rw [← hbsi]; exact hf5, by rw [← hdsi]; exact hf6, rfl⟩
       ·refine X.skip ?_
        refine X.seq ?_
        refine X.draw [slH 22 1 av an acs, intsH 2 bv fs, slH 77 3 cv cn ccs, intsH 2 dv ds, cellsH b3 [av, bv, cv, dv, .bool (true)] 85, cellsH b2 [(.slice none 0 0), (.slice none 0 0), (.slice none 0 0), (.slice none 0 0), .bool (false)] 85, cellsH b1 [arv, rsv] 33] L 8 [[], [], [], [], [], [], [], []] [[], [0], [], [], [2, 3], [4], [5], [6]] (phiL [fun us v => v = ptr b3 0, fun us v => v = av, fun us v => v = x1, fun us v => v = (.int .i64 (((q : Nat) : Int)) : Value), fun us v => v = (.pointer (some (elemA x1 (q * 3))) : Value), fun us v => v = (.pointer (some (elemA x1 (q * 3 + 2))) : Value), fun us v => v = a2, fun us v => ∃ b, v = .slice (some ⟨b, 0, none⟩) 1 1]) (ownL [fun us v => [], fun us v => [], fun us v => [], fun us v => [], fun us v => [], fun us v => [], fun us v => [], fun us v => [slH 22 1 v 1 [a2]]]) mixed rfl rfl (by kernel_rfl) ?_ ?_
        ·refine stepsP.cons (fun vals R hpZ => ?_) ?_
         ·refine XG.op (XOp.fieldP (b := b3) (0) Try.runUnderlying85 rfl Try.sizeOf49 (by decide) rfl rfl ?_)
          exact ⟨rfl, rfl, rfl⟩
         refine stepsP.cons (fun vals R hpZ => ?_) ?_
         ·rw [(envs_of_sat (l := [(0, ptr b3 0)]) ⟨hpZ 0 (by decide), trivial⟩).symm]
          refine XG.op (XOp.load1 (v := av) Try.isAgg49 rfl (Rd.own [_, _, _, _] rfl rfl) ?_)
          exact ⟨rfl, rfl, rfl⟩
         refine stepsP.cons (fun vals R hpZ => ?_) ?_
         ·refine XG.op (XOp.move (x1) rfl ?_)
          exact ⟨rfl, rfl, rfl⟩
         refine stepsP.cons (fun vals R hpZ => ?_) ?_
         ·refine XG.op (XOp.move (.int .i64 (((q : Nat) : Int))) rfl ?_)
          exact ⟨rfl, rfl, rfl⟩
         refine stepsP.cons (fun vals R hpZ => ?_) ?_
         ·rw [(envs_of_sat (l := [(2, x1), (3, (.int .i64 (((q : Nat) : Int)) : Value))]) ⟨hpZ 2 (by decide), hpZ 3 (by decide), trivial⟩).symm]
          refine XG.op (XOp.indexS (v := x1) (i := ((q : Nat) : Int)) (n := (nx).length) q Try.runUnderlying39 Try.sizeOf77 rfl rfl rfl hr1.slv (by omega) rfl ?_)
          exact ⟨rfl, rfl, rfl⟩
         refine stepsP.cons (fun vals R hpZ => ?_) ?_
         ·rw [(envs_of_sat (l := [(4, (.pointer (some (elemA x1 (q * 3))) : Value))]) ⟨hpZ 4 (by decide), trivial⟩).symm]
          refine XG.op (XOp.fieldE (v := x1) (q * 3 + 2) Try.runUnderlying77 rfl Try.sizeOf22 (by decide) rfl rfl ?_)
          exact ⟨rfl, rfl, rfl⟩
         refine stepsP.cons (fun vals R hpZ => ?_) ?_
         ·rw [(envs_of_sat (l := [(5, (.pointer (some (elemA x1 (q * 3 + 2))) : Value))]) ⟨hpZ 5 (by decide), trivial⟩).symm]
          refine XG.op (XOp.load1 (v := a2) Try.isAgg22 rfl (hr4 _) ?_)
          exact ⟨rfl, rfl, rfl⟩
         refine stepsP.cons (fun vals R hpZ => ?_) ?_
         ·rw [(envs_of_sat (l := [(6, a2)]) ⟨hpZ 6 (by decide), trivial⟩).symm]
          refine XG.op (XOp.buildSlice (s := 1) [a2] [(.slice none 0 0)] [(0, [a2])] Try.runUnderlying49 Try.sizeOf22 Try.zeroValue22 rfl (by decide) rfl (.cons (cells_one (IntsF.isSl ha2)) CellsAre.nil) rfl ?_)
          intro v7 hv6
          exact ⟨rfl, hv6, rfl⟩
         exact stepsP.nil
        ·intro vals hphi
         have e0 : vals 0 = ptr b3 0 := hphi 0 (by decide)
         have e1 : vals 1 = av := hphi 1 (by decide)
         have e2 : vals 2 = x1 := hphi 2 (by decide)
         have e3 : vals 3 = (.int .i64 (((q : Nat) : Int)) : Value) := hphi 3 (by decide)
         have e4 : vals 4 = (.pointer (some (elemA x1 (q * 3))) : Value) := hphi 4 (by decide)
         have e5 : vals 5 = (.pointer (some (elemA x1 (q * 3 + 2))) : Value) := hphi 5 (by decide)
         have e6 : vals 6 = a2 := hphi 6 (by decide)
         have f7 : ∃ b, (vals 7) = .slice (some ⟨b, 0, none⟩) 1 1 := hphi 7 (by decide)
         generalize hu7 : vals 7 = u1 at f7
         rw [(envs_of_sat (l := [(0, ptr b3 0), (1, av), (2, x1), (3, (.int .i64 (((q : Nat) : Int)) : Value)), (4, (.pointer (some (elemA x1 (q * 3))) : Value)), (5, (.pointer (some (elemA x1 (q * 3 + 2))) : Value)), (6, a2), (7, u1)]) ⟨e0, e1, e2, e3, e4, e5, e6, hu7, trivial⟩).symm]
         show XL _ _ _ _ _ _ _ (slH 22 1 u1 1 [a2] :: slH 22 1 av an acs :: intsH 2 bv fs :: slH 77 3 cv cn ccs :: intsH 2 dv ds :: cellsH b3 [av, bv, cv, dv, .bool (true)] 85 :: cellsH b2 [(.slice none 0 0), (.slice none 0 0), (.slice none 0 0), (.slice none 0 0), .bool (false)] 85 :: cellsH b1 [arv, rsv] 33 :: L)
         refine XL.cons (XOp.append (m := 1) (bytes := 24) (cs := acs) [_] _ [a2] Try.runUnderlying49 Try.typeInfo22 rfl rfl rfl rfl rfl rfl rfl (SlV.own [] rfl) rfl (Rd.lit [] rfl) (ones_cons (one_sl (IntsF.isSl ha2)) ones_nil) (by (try simp only [List.length_append, List.length_nil, List.length_cons, List.length_singleton]); omega) (by (try simp only [List.length_append, List.length_nil, List.length_cons, List.length_singleton]); omega) ?_)
         intro v8 hs2 hn1 hm1
         have hc3 := RowsC.snoc hAi ha2
         refine XL.cons (XOp.fieldP (b := b3) (0) Try.runUnderlying85 rfl Try.sizeOf49 (by decide) rfl rfl ?_)
         refine XL.cons (XOp.store1 (v := v8) [_, _, _, _, _] _ [v8, bv, cv, dv, .bool (true)] Try.sizeOf49 rfl rfl (one_sl hs2) rfl rfl rfl ?_)
         refine XL.nil ?_
         refine X.seq ?_
         refine X.region ?_
         refine XL.cons (XOp.fieldP (b := b3) (1) Try.runUnderlying85 rfl Try.sizeOf22 (by decide) rfl rfl ?_)
         refine XL.cons (XOp.load1 (v := bv) Try.isAgg22 rfl (Rd.own [_, _, _, _, _] rfl rfl) ?_)
         refine XL.cons (XOp.move (.int .i64 (((k : Nat) : Int))) rfl ?_)
         refine XL.cons (XOp.buildSlice (s := 1) [.int .i64 (((k : Nat) : Int))] [.int .i64 (0)] [(0, [.int .i64 (((k : Nat) : Int))])] Try.runUnderlying22 Try.sizeOf2 Try.zeroValue2 rfl (by decide) rfl (.cons rfl CellsAre.nil) rfl ?_)
         intro v9 hv7
         refine XL.cons (XOp.append1 (u := ((k : Nat) : Int)) [_, _, _] _ Try.runUnderlying22 Try.typeInfo2 rfl rfl rfl rfl rfl rfl (SlV.own [] rfl) (Rd.sl [] rfl rfl) (by (try simp only [List.length_append, List.length_nil, List.length_cons, List.length_singleton, List.length_take, List.length_drop]); omega) ?_)
         intro v10 hs3 hn2
         refine XL.cons (XOp.fieldP (b := b3) (1) Try.runUnderlying85 rfl Try.sizeOf22 (by decide) rfl rfl ?_)
         refine XL.cons (XOp.store1 (v := v10) [_, _, _, _, _, _] _ [v8, v10, cv, dv, .bool (true)] Try.sizeOf22 rfl rfl (one_sl hs3) rfl rfl rfl ?_)
         refine XL.nil ?_
         refine X.seq ?_
         refine X.draw [slH 2 1 v9 1 [.int .i64 (((k : Nat) : Int))], slH 22 1 u1 1 [a2], slH 22 1 v8 ((an) + 1) (acs ++ [a2]), intsH 2 v10 (fs ++ [((k : Nat) : Int)]), slH 77 3 cv cn ccs, intsH 2 dv ds, cellsH b3 [v8, v10, cv, dv, .bool (true)] 85, cellsH b2 [(.slice none 0 0), (.slice none 0 0), (.slice none 0 0), (.slice none 0 0), .bool (false)] 85, cellsH b1 [arv, rsv] 33] L 7 [[], [], [], [], [], [], []] [[], [0], [], [], [2, 3], [4], [5]] (phiL [fun us v => v = ptr b3 2, fun us v => v = cv, fun us v => v = x1, fun us v => v = (.int .i64 (((q : Nat) : Int)) : Value), fun us v => v = (.pointer (some (elemA x1 (q * 3))) : Value), fun us v => v = (.agg #[.int .i64 ((nx.getD q (0, 0, [])).1), .int .i64 ((nx.getD q (0, 0, [])).2.1), a2] : Value), fun us v => ∃ b, v = .slice (some ⟨b, 0, none⟩) 1 1]) (ownL [fun us v => [], fun us v => [], fun us v => [], fun us v => [], fun us v => [], fun us v => [], fun us v => [slH 77 3 v 1 [.int .i64 ((nx.getD q (0, 0, [])).1), .int .i64 ((nx.getD q (0, 0, [])).2.1), a2]]]) mixed rfl rfl (by kernel_rfl) ?_ ?_
         ·refine stepsP.cons (fun vals R hpZ => ?_) ?_
          ·refine XG.op (XOp.fieldP (b := b3) (2) Try.runUnderlying85 rfl Try.sizeOf39 (by decide) rfl rfl ?_)
           exact ⟨rfl, rfl, rfl⟩
          refine stepsP.cons (fun vals R hpZ => ?_) ?_
          ·rw [(envs_of_sat (l := [(0, ptr b3 2)]) ⟨hpZ 0 (by decide), trivial⟩).symm]
           refine XG.op (XOp.load1 (v := cv) Try.isAgg39 rfl (Rd.own [_, _, _, _, _, _] rfl rfl) ?_)
           exact ⟨rfl, rfl, rfl⟩
          refine stepsP.cons (fun vals R hpZ => ?_) ?_
          ·refine XG.op (XOp.move (x1) rfl ?_)
           exact ⟨rfl, rfl, rfl⟩
          refine stepsP.cons (fun vals R hpZ => ?_) ?_
          ·refine XG.op (XOp.move (.int .i64 (((q : Nat) : Int))) rfl ?_)
           exact ⟨rfl, rfl, rfl⟩
          refine stepsP.cons (fun vals R hpZ => ?_) ?_
          ·rw [(envs_of_sat (l := [(2, x1), (3, (.int .i64 (((q : Nat) : Int)) : Value))]) ⟨hpZ 2 (by decide), hpZ 3 (by decide), trivial⟩).symm]
           refine XG.op (XOp.indexS (v := x1) (i := ((q : Nat) : Int)) (n := (nx).length) q Try.runUnderlying39 Try.sizeOf77 rfl rfl rfl hr1.slv (by omega) rfl ?_)
           exact ⟨rfl, rfl, rfl⟩
          refine stepsP.cons (fun vals R hpZ => ?_) ?_
          ·rw [(envs_of_sat (l := [(4, (.pointer (some (elemA x1 (q * 3))) : Value))]) ⟨hpZ 4 (by decide), trivial⟩).symm]
           refine XG.op (XOp.loadN [.int .i64 ((nx.getD q (0, 0, [])).1), .int .i64 ((nx.getD q (0, 0, [])).2.1), a2] Try.isAgg77 Try.sizeOf77 rfl rfl (Rd.three (hr2 _) (hr3 _) (hr4 _)) ?_)
           exact ⟨rfl, rfl, rfl⟩
          refine stepsP.cons (fun vals R hpZ => ?_) ?_
          ·rw [(envs_of_sat (l := [(5, (.agg #[.int .i64 ((nx.getD q (0, 0, [])).1), .int .i64 ((nx.getD q (0, 0, [])).2.1), a2] : Value))]) ⟨hpZ 5 (by decide), trivial⟩).symm]
           refine XG.op (XOp.buildSlice (s := 3) [.int .i64 ((nx.getD q (0, 0, [])).1), .int .i64 ((nx.getD q (0, 0, [])).2.1), a2] [.int .i64 (0), .int .i64 (0), (.slice none 0 0)] [(0, [.int .i64 ((nx.getD q (0, 0, [])).1), .int .i64 ((nx.getD q (0, 0, [])).2.1), a2])] Try.runUnderlying39 Try.sizeOf77 Try.zeroValue77 rfl (by decide) rfl (.cons rfl CellsAre.nil) rfl ?_)
           intro v12 hv9
           exact ⟨rfl, hv9, rfl⟩
          exact stepsP.nil
         ·intro vals hphi
          have e0 : vals 0 = ptr b3 2 := hphi 0 (by decide)
          have e1 : vals 1 = cv := hphi 1 (by decide)
          have e2 : vals 2 = x1 := hphi 2 (by decide)
          have e3 : vals 3 = (.int .i64 (((q : Nat) : Int)) : Value) := hphi 3 (by decide)
          have e4 : vals 4 = (.pointer (some (elemA x1 (q * 3))) : Value) := hphi 4 (by decide)
          have e5 : vals 5 = (.agg #[.int .i64 ((nx.getD q (0, 0, [])).1), .int .i64 ((nx.getD q (0, 0, [])).2.1), a2] : Value) := hphi 5 (by decide)
          have f6 : ∃ b, (vals 6) = .slice (some ⟨b, 0, none⟩) 1 1 := hphi 6 (by decide)
          generalize hu6 : vals 6 = u2 at f6
          rw [(envs_of_sat (l := [(0, ptr b3 2), (1, cv), (2, x1), (3, (.int .i64 (((q : Nat) : Int)) : Value)), (4, (.pointer (some (elemA x1 (q * 3))) : Value)), (5, (.agg #[.int .i64 ((nx.getD q (0, 0, [])).1), .int .i64 ((nx.getD q (0, 0, [])).2.1), a2] : Value)), (6, u2)]) ⟨e0, e1, e2, e3, e4, e5, hu6, trivial⟩).symm]
          show XL _ _ _ _ _ _ _ (slH 77 3 u2 1 [.int .i64 ((nx.getD q (0, 0, [])).1), .int .i64 ((nx.getD q (0, 0, [])).2.1), a2] :: slH 2 1 v9 1 [.int .i64 (((k : Nat) : Int))] :: slH 22 1 u1 1 [a2] :: slH 22 1 v8 ((an) + 1) (acs ++ [a2]) :: intsH 2 v10 (fs ++ [((k : Nat) : Int)]) :: slH 77 3 cv cn ccs :: intsH 2 dv ds :: cellsH b3 [v8, v10, cv, dv, .bool (true)] 85 :: cellsH b2 [(.slice none 0 0), (.slice none 0 0), (.slice none 0 0), (.slice none 0 0), .bool (false)] 85 :: cellsH b1 [arv, rsv] 33 :: L)
          refine XL.cons (XOp.append (m := 1) (bytes := 40) (cs := ccs) [_, _, _, _, _] _ [.int .i64 ((nx.getD q (0, 0, [])).1), .int .i64 ((nx.getD q (0, 0, [])).2.1), a2] Try.runUnderlying39 Try.typeInfo77 rfl rfl rfl rfl rfl rfl rfl (SlV.own [] rfl) rfl (Rd.lit [] rfl) (ones_cons rfl (ones_cons rfl (ones_cons (one_sl (IntsF.isSl ha2)) ones_nil))) (by (try simp only [List.length_append, List.length_nil, List.length_cons, List.length_singleton]); omega) (by (try simp only [List.length_append, List.length_nil, List.length_cons, List.length_singleton]); omega) ?_)
          intro v13 hs4 hn3 hm2
          have hc4 := StepsC.snoc hBi (i := (nx.getD q (0, 0, [])).1) (j := (nx.getD q (0, 0, [])).2.1) ha2
          refine XL.cons (XOp.fieldP (b := b3) (2) Try.runUnderlying85 rfl Try.sizeOf39 (by decide) rfl rfl ?_)
          refine XL.cons (XOp.store1 (v := v13) [_, _, _, _, _, _, _] _ [v8, v10, v13, dv, .bool (true)] Try.sizeOf39 rfl rfl (one_sl hs4) rfl rfl rfl ?_)
          refine XL.nil ?_
          refine X.draw [slH 77 3 u2 1 [.int .i64 ((nx.getD q (0, 0, [])).1), .int .i64 ((nx.getD q (0, 0, [])).2.1), a2], slH 2 1 v9 1 [.int .i64 (((k : Nat) : Int))], slH 22 1 u1 1 [a2], slH 22 1 v8 ((an) + 1) (acs ++ [a2]), intsH 2 v10 (fs ++ [((k : Nat) : Int)]), slH 77 3 v13 ((cn) + 1) (ccs ++ [.int .i64 ((nx.getD q (0, 0, [])).1), .int .i64 ((nx.getD q (0, 0, [])).2.1), a2]), intsH 2 dv ds, cellsH b3 [v8, v10, v13, dv, .bool (true)] 85, cellsH b2 [(.slice none 0 0), (.slice none 0 0), (.slice none 0 0), (.slice none 0 0), .bool (false)] 85, cellsH b1 [arv, rsv] 33] L 9 [[], [], [], [], [], [], [], [], []] [[], [0], [], [2], [], [3, 4], [5], [6], [7]] (phiL [fun us v => v = ptr b3 3, fun us v => v = dv, fun us v => v = ptr b3 3, fun us v => v = dv, fun us v => v = (.int .i64 (((k : Nat) : Int)) : Value), fun us v => v = (.pointer (some (elemA dv (k))) : Value), fun us v => v = (.int .i64 (ds.getD k 0) : Value), fun us v => v = (.int .i64 ((ds.getD k 0) + 1) : Value), fun us v => ∃ b, v = .slice (some ⟨b, 0, none⟩) 1 1]) (ownL [fun us v => [], fun us v => [], fun us v => [], fun us v => [], fun us v => [], fun us v => [], fun us v => [], fun us v => [], fun us v => [slH 2 1 v 1 [.int .i64 ((ds.getD k 0) + 1)]]]) mixed rfl rfl (by kernel_rfl) ?_ ?_
          ·refine stepsP.cons (fun vals R hpZ => ?_) ?_
           ·refine XG.op (XOp.fieldP (b := b3) (3) Try.runUnderlying85 rfl Try.sizeOf22 (by decide) rfl rfl ?_)
            exact ⟨rfl, rfl, rfl⟩
           refine stepsP.cons (fun vals R hpZ => ?_) ?_
           ·rw [(envs_of_sat (l := [(0, ptr b3 3)]) ⟨hpZ 0 (by decide), trivial⟩).symm]
            refine XG.op (XOp.load1 (v := dv) Try.isAgg22 rfl (Rd.own [_, _, _, _, _, _, _] rfl rfl) ?_)
            exact ⟨rfl, rfl, rfl⟩
           refine stepsP.cons (fun vals R hpZ => ?_) ?_
           ·refine XG.op (XOp.fieldP (b := b3) (3) Try.runUnderlying85 rfl Try.sizeOf22 (by decide) rfl rfl ?_)
            exact ⟨rfl, rfl, rfl⟩
           refine stepsP.cons (fun vals R hpZ => ?_) ?_
           ·rw [(envs_of_sat (l := [(2, ptr b3 3)]) ⟨hpZ 2 (by decide), trivial⟩).symm]
            refine XG.op (XOp.load1 (v := dv) Try.isAgg22 rfl (Rd.own [_, _, _, _, _, _, _] rfl rfl) ?_)
            exact ⟨rfl, rfl, rfl⟩
           refine stepsP.cons (fun vals R hpZ => ?_) ?_
           ·refine XG.op (XOp.move (.int .i64 (((k : Nat) : Int))) rfl ?_)
            exact ⟨rfl, rfl, rfl⟩
           refine stepsP.cons (fun vals R hpZ => ?_) ?_
           ·rw [(envs_of_sat (l := [(3, dv), (4, (.int .i64 (((k : Nat) : Int)) : Value))]) ⟨hpZ 3 (by decide), hpZ 4 (by decide), trivial⟩).symm]
            refine XG.op (XOp.indexS (v := dv) (i := ((k : Nat) : Int)) (n := (ds).length) k Try.runUnderlying22 Try.sizeOf2 rfl rfl rfl (intsH.slv [_, _, _, _, _, _] rfl) (by omega) (Nat.mul_one _) ?_)
            exact ⟨rfl, rfl, rfl⟩
           refine stepsP.cons (fun vals R hpZ => ?_) ?_
           ·rw [(envs_of_sat (l := [(5, (.pointer (some (elemA dv (k))) : Value))]) ⟨hpZ 5 (by decide), trivial⟩).symm]
            refine XG.op (XOp.load1 (v := .int .i64 (ds.getD k 0)) Try.isAgg2 rfl (intsH.rd [_, _, _, _, _, _] rfl (by omega)) ?_)
            exact ⟨rfl, rfl, rfl⟩
           refine stepsP.cons (fun vals R hpZ => ?_) ?_
           ·rw [(envs_of_sat (l := [(6, (.int .i64 (ds.getD k 0) : Value))]) ⟨hpZ 6 (by decide), trivial⟩).symm]
            refine XG.op (XOp.addR (a := ds.getD k 0) (b := 1) ((ds.getD k 0) + 1) rfl rfl (by omega) (by omega) ?_)
            exact ⟨rfl, rfl, rfl⟩
           refine stepsP.cons (fun vals R hpZ => ?_) ?_
           ·rw [(envs_of_sat (l := [(7, (.int .i64 ((ds.getD k 0) + 1) : Value))]) ⟨hpZ 7 (by decide), trivial⟩).symm]
            refine XG.op (XOp.buildSlice (s := 1) [.int .i64 ((ds.getD k 0) + 1)] [.int .i64 (0)] [(0, [.int .i64 ((ds.getD k 0) + 1)])] Try.runUnderlying22 Try.sizeOf2 Try.zeroValue2 rfl (by decide) rfl (.cons rfl CellsAre.nil) rfl ?_)
            intro v15 hv11
            exact ⟨rfl, hv11, rfl⟩
           exact stepsP.nil
          ·intro vals hphi
           have e0 : vals 0 = ptr b3 3 := hphi 0 (by decide)
           have e1 : vals 1 = dv := hphi 1 (by decide)
           have e2 : vals 2 = ptr b3 3 := hphi 2 (by decide)
           have e3 : vals 3 = dv := hphi 3 (by decide)
           have e4 : vals 4 = (.int .i64 (((k : Nat) : Int)) : Value) := hphi 4 (by decide)
           have e5 : vals 5 = (.pointer (some (elemA dv (k))) : Value) := hphi 5 (by decide)
           have e6 : vals 6 = (.int .i64 (ds.getD k 0) : Value) := hphi 6 (by decide)
           have e7 : vals 7 = (.int .i64 ((ds.getD k 0) + 1) : Value) := hphi 7 (by decide)
           have f8 : ∃ b, (vals 8) = .slice (some ⟨b, 0, none⟩) 1 1 := hphi 8 (by decide)
           generalize hu8 : vals 8 = u3 at f8
           rw [(envs_of_sat (l := [(0, ptr b3 3), (1, dv), (2, ptr b3 3), (3, dv), (4, (.int .i64 (((k : Nat) : Int)) : Value)), (5, (.pointer (some (elemA dv (k))) : Value)), (6, (.int .i64 (ds.getD k 0) : Value)), (7, (.int .i64 ((ds.getD k 0) + 1) : Value)), (8, u3)]) ⟨e0, e1, e2, e3, e4, e5, e6, e7, hu8, trivial⟩).symm]
           show XL _ _ _ _ _ _ _ (slH 2 1 u3 1 [.int .i64 ((ds.getD k 0) + 1)] :: slH 77 3 u2 1 [.int .i64 ((nx.getD q (0, 0, [])).1), .int .i64 ((nx.getD q (0, 0, [])).2.1), a2] :: slH 2 1 v9 1 [.int .i64 (((k : Nat) : Int))] :: slH 22 1 u1 1 [a2] :: slH 22 1 v8 ((an) + 1) (acs ++ [a2]) :: intsH 2 v10 (fs ++ [((k : Nat) : Int)]) :: slH 77 3 v13 ((cn) + 1) (ccs ++ [.int .i64 ((nx.getD q (0, 0, [])).1), .int .i64 ((nx.getD q (0, 0, [])).2.1), a2]) :: intsH 2 dv ds :: cellsH b3 [v8, v10, v13, dv, .bool (true)] 85 :: cellsH b2 [(.slice none 0 0), (.slice none 0 0), (.slice none 0 0), (.slice none 0 0), .bool (false)] 85 :: cellsH b1 [arv, rsv] 33 :: L)
           refine XL.cons (XOp.append1 (u := (ds.getD k 0) + 1) [_, _, _, _, _, _, _] _ Try.runUnderlying22 Try.typeInfo2 rfl rfl rfl rfl rfl rfl (SlV.own [] rfl) (Rd.sl [] rfl rfl) (by (try simp only [List.length_append, List.length_nil, List.length_cons, List.length_singleton, List.length_take, List.length_drop]); omega) ?_)
           intro v16 hs5 hn4
           refine XL.cons (XOp.fieldP (b := b3) (3) Try.runUnderlying85 rfl Try.sizeOf22 (by decide) rfl rfl ?_)
           refine XL.cons (XOp.store1 (v := v16) [_, _, _, _, _, _, _, _] _ [v8, v10, v13, v16, .bool (true)] Try.sizeOf22 rfl rfl (one_sl hs5) rfl rfl rfl ?_)
           refine XL.nil ?_
           refine X.region ?_
           refine XL.cons (XOp.move (.int .i64 (((q : Nat) : Int))) rfl ?_)
           refine XL.cons (XOp.addR (a := ((q : Nat) : Int)) (b := 1) (((q + 1 : Nat) : Int)) rfl rfl (by omega) (by omega) ?_)
           refine XL.cons (XOp.assign (.int .i64 (((q + 1 : Nat) : Int))) rfl ?_)
           refine XL.nil ?_
           exact ⟨(q + 1, os ++ [((nx.getD q (0, 0, [])).2.2, (k : Int), nx.getD q (0, 0, []), (EL os0 k).2.2.2 + 1)], v8, ts ++ [(nx.getD q (0, 0, [])).2.2], acs ++ [a2], (an) + 1, v10, fs ++ [((k : Nat) : Int)], v13, bs ++ [((nx.getD q (0, 0, [])).1, (nx.getD q (0, 0, [])).2.1, (nx.getD q (0, 0, [])).2.2)], ccs ++ [.int .i64 ((nx.getD q (0, 0, [])).1), .int .i64 ((nx.getD q (0, 0, [])).2.1), a2], (cn) + 1, v16, ds ++ [(ds.getD k 0) + 1], G2), _, leG2, (FLe.refl _), ⟨rfl, rfl, rfl, rfl, rfl, rfl, rfl, trivial⟩, (Sub.drop (Sub.drop (Sub.drop (Sub.drop (Sub.cons (Sub.cons (Sub.cons (Sub.cons (Sub.cons (Sub.cons (Sub.cons (Sub.refl _)))))))))))), ⟨rfl, leG2, (hs2), (hs3), (hs4), (hs5), (hc3), (hc4), (by (try dsimp only); rw [List.length_append, List.length_singleton]; omega), (by (try dsimp only); rw [List.length_append, List.length_singleton]; omega), (by (try dsimp only); rw [terms_snoc, htsi]), (by (try dsimp only); rw [froms_snoc, hfsi]), (by (try dsimp only); rw [bys_snoc, hbsi]), (by (try dsimp only); rw [deeps_snoc, ← hdsi, hdk9]), (by (try dsimp only); rw [List.length_append, List.length_singleton]; omega), (hoki.snoc (hnxo q (by omega))), (hdoi.snoc (by dsimp only; omega)), (by (try dsimp only) <;> omega), (by (try dsimp only); rw [List.length_append, List.length_singleton]; omega), (by (try dsimp only); rw [EL_snoc hkp]; exact hel), (by (try dsimp only); exact hgoi.trans (add_new (by omega) hnin (by omega)))⟩, (by omega)⟩
    ·refine X.exit (thenQ_exit (thenQ_exit (blockQ_exit ?_)))
     refine X.region ?_
     refine XL.cons (XOp.move (.int .i64 (((k : Nat) : Int))) rfl ?_)
     refine XL.cons (XOp.addR (a := ((k : Nat) : Int)) (b := 1) (((k + 1 : Nat) : Int)) rfl rfl (by omega) (by omega) ?_)
     refine XL.cons (XOp.assign (.int .i64 (((k + 1 : Nat) : Int))) rfl ?_)
     refine XL.nil ?_
     exact ⟨(k + 1, os, av, ts, acs, an, bv, fs, cv, bs, ccs, cn, dv, ds, G2), _, (FLe.trans (FLe.trans leG1 le2) leG2), (FLe.refl _), ⟨rfl, rfl, rfl, rfl, rfl, trivial⟩, (Sub.cons (Sub.cons (Sub.cons (Sub.cons (Sub.cons (Sub.cons (Sub.cons (Sub.refl _)))))))), ⟨rfl, (FLe.trans (FLe.trans leG1 le2) leG2), (havi), (hbvi), (hcvi), (hdvi), (hAi), (hBi), (hani), (hcni), (htsi), (hfsi), (hbsi), (hdsi), (hli), (hoki), (hdoi), (by (try dsimp only); omega), (by (try dsimp only); have h9 := hgoi.trans (add_end (by omega)); have h8 := reach_more (ar := ar) (rs := rs) (n := n) (f := 60 - k - 1) hk70 (by omega) hdeep0 (by rw [hnx0, h9]); rw [hnx0, h9] at h8; exact hgo0.trans h8)⟩, (by (try dsimp only); omega)⟩
 ·refine X.exit (thenQ_exit (thenQ_exit (blockQ_exit ?_)))
  refine X.seq ?_
  refine X.region ?_
  refine XL.cons (XOp.loadN [av, bv, cv, dv, .bool (true)] Try.isAgg85 Try.sizeOf85 rfl rfl (Rd.ownN [_, _, _, _] rfl rfl) ?_)
  refine XL.cons (XOp.storeN (vs := [av, bv, cv, dv, .bool (true)]) [_, _, _, _, _] _ [av, bv, cv, dv, .bool (true)] Try.sizeOf85 rfl rfl rfl (ones_cons (one_sl hav) (ones_cons (one_sl hbv) (ones_cons (one_sl hcv) (ones_cons (one_sl hdv) (ones_cons rfl ones_nil))))) rfl rfl rfl ?_)
  refine XL.nil ?_
  refine X.freezeF [] _ _ rfl (fun F8 le8 hz7 => ?_)
  replace har := har.mono le8
  replace hrs := hrs.mono le8
  replace ht := ht.mono le8
  replace hf1 := hf1.mono le8
  replace hc1 := hc1.mono le8
  replace hc2 := hc2.mono le8
  replace hA := hA.mono le8
  replace hB := hB.mono le8
  have hf7 : RowsF F8 av ts := CO.fz hA (by first | rfl | simp | omega) hz7.fz
  refine X.freezeF [] _ _ rfl (fun F9 le9 hz8 => ?_)
  replace har := har.mono le9
  replace hrs := hrs.mono le9
  replace ht := ht.mono le9
  replace hf1 := hf1.mono le9
  replace hc1 := hc1.mono le9
  replace hc2 := hc2.mono le9
  replace hA := hA.mono le9
  replace hB := hB.mono le9
  replace hf7 := hf7.mono le9
  have hf8 : IntsF F9 bv fs := intsH.fz (xs := fs) hz8.fz
  refine X.freezeF [] _ _ rfl (fun F10 le10 hz9 => ?_)
  replace har := har.mono le10
  replace hrs := hrs.mono le10
  replace ht := ht.mono le10
  replace hf1 := hf1.mono le10
  replace hc1 := hc1.mono le10
  replace hc2 := hc2.mono le10
  replace hA := hA.mono le10
  replace hB := hB.mono le10
  replace hf7 := hf7.mono le10
  replace hf8 := hf8.mono le10
  have hf9 : StepsF F10 cv bs := CO.fz hB (by first | rfl | simp | omega) hz9.fz
  refine X.freezeF [] _ _ rfl (fun F11 le11 hz10 => ?_)
  replace har := har.mono le11
  replace hrs := hrs.mono le11
  replace ht := ht.mono le11
  replace hf1 := hf1.mono le11
  replace hc1 := hc1.mono le11
  replace hc2 := hc2.mono le11
  replace hA := hA.mono le11
  replace hB := hB.mono le11
  replace hf7 := hf7.mono le11
  replace hf8 := hf8.mono le11
  replace hf9 := hf9.mono le11
  have hf10 : IntsF F11 dv ds := intsH.fz (xs := ds) hz10.fz
  refine X.ret (retEnd (L' := L) [.agg #[av, bv, cv, dv, .bool (true)]] (.agg #[av, bv, cv, dv, .bool (true)]) (.cell rfl (loadNV [av, bv, cv, dv, .bool (true)] Try.isAgg85 Try.sizeOf85 rfl (Rd.ownN [_] rfl rfl)) .nil) rfl (FLe.trans (FLe.trans (FLe.trans (FLe.trans (FLe.trans le1 leG1) le8) le9) le10) le11) (FLe.refl _) (Sub.drop (Sub.drop (Sub.drop (Sub.refl _)))) ?_)
  have e9 : reachL ar rs t n = (os, true) := hgo.trans (reach_done (by omega) hl)
  rw [e9]
  exact ⟨_, _, _, _, rfl, by rw [← hts]; exact hf7, by rw [← hfs]; exact hf8, by rw [← hbs]; exact hf9, by rw [← hds]; exact hf10, rfl⟩
end Go.Proofs.Ytiaanelimbmniaa
set_option linter.unusedSimpArgs false
set_option linter.unusedVariables false
namespace Go.Proofs.Ytiaanelimbmniaa
open Go X M

/- impl.redexSteps -/
theorem redexSteps_spec {F : FH} {L : List HP} {arv : Value} {ar : List Int} (har : IntsF F arv ar) {rsv : Value} {rs : List (List Int × List Int)} (hrs : PairsF F rsv rs) {tv : Value} {t : List Int} (ht : IntsF F tv t) :
    Does Try.prog 107 [.agg #[arv, rsv], tv] F (L) (fun v F' L' => ∃ (bt bs : Nat), (.func (.func 133) #[] #[ptr bt 0, ptr bs 0] : Value) = v ∧ FzC F' bt [tv] ∧ FzC F' bs [arv, rsv] ∧ L = L') := by
 refine Does.of_X Try.func107 rfl rfl rfl ?_
 refine X.seq ?_
 refine X.region ?_
 refine XL.cons (XOp.box [arv, rsv] rfl rfl ?_)
 intro b1
 refine XL.cons (XOp.box [tv] rfl (cells_one (IntsF.isSl ht)) ?_)
 intro b2
 refine XL.cons (XOp.assign (.nilFunc) rfl ?_)
 refine XL.nil ?_
 refine X.seq ?_
 refine X.region ?_
 refine XL.cons (XOp.makeFuncL [] [ptr b2 0, ptr b1 0] rfl rfl ?_)
 refine XL.cons (XOp.assign (.func (.func 133) #[] #[ptr b2 0, ptr b1 0]) rfl ?_)
 refine XL.nil ?_
 refine X.freeze [] _ _ rfl (fun F1 le1 hz1 => ?_)
 replace har := har.mono le1
 replace hrs := hrs.mono le1
 replace ht := ht.mono le1
 have hf1 : FzC F1 b2 [tv] := Fz.cells hz1
 refine X.freeze [] _ _ rfl (fun F2 le2 hz2 => ?_)
 replace har := har.mono le2
 replace hrs := hrs.mono le2
 replace ht := ht.mono le2
 replace hf1 := hf1.mono le2
 have hf2 : FzC F2 b1 [arv, rsv] := Fz.cells hz2
 refine X.ret (retEnd (L' := L) [.func (.func 133) #[] #[ptr b2 0, ptr b1 0]] (.func (.func 133) #[] #[ptr b2 0, ptr b1 0]) (.tmp rfl .nil) rfl (FLe.trans le1 le2) (FLe.refl _) (Sub.refl _) ?_)
 exact ⟨_, _, rfl, hf1, hf2, rfl⟩

/- impl.redexSteps$1 -/
theorem redexIt_spec {F : FH} {L : List HP} {l bo bl bt bs : Nat} {R : Loop} {arv : Value} {ar : List Int} (har : IntsF F arv ar) {rsv : Value} {rs : List (List Int × List Int)} (hrs : PairsF F rsv rs) {tv : Value} {t : List Int} (ht : IntsF F tv t) (hbt : FzC F bt [tv]) (hbs : FzC F bs [arv, rsv]) (hsys : sysOk ar rs = true) (ho : termOk ar t = true) (hyes : ∀ (Fy : FH) (sv : Value) (ss : List StepT) (cs : List Value) (m : Nat) (lb : Bool) (i j : Int) (tov : Value) (to : List Int), F ≤ Fy → IsSl sv → StepsC Fy cs ss → m = ss.length → ss.length ≤ 4000000 → IntsF Fy tov to → Yld Try.prog l [.agg #[.int .i64 i, .int .i64 j, tov], .bool true] Fy (objH l (.loop R) :: cellsH bo [sv] 39 :: slH 77 3 sv m cs :: cellsH bl [.bool (lb)] 4 :: L) (fun v F' L' => .bool true = v ∧ Fy = F' ∧ ∃ sw, IsSl sw ∧ objH l (.loop R) :: cellsH bo [sw] 39 :: slH 77 3 sw (m + 1) (cs ++ [.int .i64 i, .int .i64 j, tov]) :: cellsH bl [.bool (lb)] 4 :: L = L')) (hno : ∀ (Fy : FH) (sv : Value) (cs : List Value) (m : Nat) (lb : Bool) (i j : Int) (tov : Value), F ≤ Fy → IsSl sv → IsSl tov → Yld Try.prog l [.agg #[.int .i64 i, .int .i64 j, tov], .bool false] Fy (objH l (.loop R) :: cellsH bo [sv] 39 :: slH 77 3 sv m cs :: cellsH bl [.bool (lb)] 4 :: L) (fun v F' L' => .bool true = v ∧ Fy = F' ∧ objH l (.loop R) :: cellsH bo [sv] 39 :: slH 77 3 sv m cs :: cellsH bl [.bool (true)] 4 :: L = L')) :
    Does Try.prog 133 [(.func (.yield l) #[] #[]), ptr bt 0, ptr bs 0] F (objH l (.loop R) :: cellsH bo [(.slice none 0 0)] 39 :: cellsH bl [.bool (false)] 4 :: L) (fun v F' L' => ∃ (sv : Value) (cs : List Value) (Ls : List HP), IsSl sv ∧ StepsC F' cs (stepsL ar rs t) ∧ DeepL 3 (StepO 2) cs (stepsL ar rs t) Ls ∧ Fresh F F' (star Ls) ∧ objH l (.loop R) :: cellsH bo [sv] 39 :: slH 77 3 sv ((stepsL ar rs t).length) cs :: cellsH bl [.bool (longL ar rs t)] 4 :: L = L') := by
 refine Does.of_X Try.func133 rfl rfl rfl ?_
 have hnn := notNil_of_pos ht (by have := termOk_len ho; omega)
 have htl := termOk_len ho
 have hrl := (sysOk_iff.1 hsys).2.1
 have hsig := (sysOk_iff.1 hsys).1
 have hsl := sigOk_spec hsig
 refine X.seq ?_
 refine X.region ?_
 refine XL.cons (XOp.load1 (v := tv) Try.isAgg22 rfl (FzC.rd1 hbt rfl) ?_)
 refine XL.cons (XOp.lenS (v := tv) (n := (t).length) Try.runUnderlying22 rfl ht.slv ?_)
 refine XL.cons (XOp.move (.int .i64 (0)) rfl ?_)
 refine XL.nil ?_
 refine X.block ?_
 refine X.loop (α := Nat × Value × List StepT × List Value × List HP × Nat × Bool × FH) (fun xQ => [(0, (.func (.yield l) #[] #[])), (1, ptr bt 0), (2, ptr bs 0), (9, tv), (10, .int .i64 ((((t).length : Nat) : Int))), (11, .int .i64 (((xQ.1 : Nat) : Int)))]) (fun xQ => slH 77 3 xQ.2.1 xQ.2.2.2.2.2.1 xQ.2.2.2.1 :: objH l (.loop R) :: cellsH bo [xQ.2.1] 39 :: cellsH bl [.bool (xQ.2.2.2.2.2.2.1)] 4 :: L) (fun xQ F' => xQ.2.2.2.2.2.2.2 = F' ∧ F ≤ xQ.2.2.2.2.2.2.2 ∧ (xQ.1 ≤ t.length) ∧ (IsSl xQ.2.1) ∧ (StepsC xQ.2.2.2.2.2.2.2 xQ.2.2.2.1 xQ.2.2.1) ∧ (xQ.2.2.2.2.2.1 = xQ.2.2.1.length) ∧ (DeepL 3 (StepO 2) xQ.2.2.2.1 xQ.2.2.1 xQ.2.2.2.2.1) ∧ (Fresh F xQ.2.2.2.2.2.2.2 (star xQ.2.2.2.2.1)) ∧ (xQ.2.2.1 = stepsTo ar rs t xQ.1) ∧ (xQ.2.2.2.2.2.2.1 = longTo ar rs t xQ.1)) (fun xQ => t.length - xQ.1) (0, (.slice none 0 0), [], [], [], 0, false, F) ⟨rfl, rfl, rfl, rfl, rfl, rfl, trivial⟩ (Sub.trans (Sub.addNil 77 3 _ _) (Sub.cons (Sub.cons (Sub.cons (Sub.cons (Sub.refl _)))))) ⟨rfl, FLe.refl _, (by (try dsimp only) <;> omega), (⟨_, _, _, rfl⟩), (CO.nil), (rfl), (DeepL.nil), (Fresh.nilL), (rfl), (rfl)⟩ ?_
 rintro ⟨k, sv, ss, cs, Ls, m, lb, G1⟩ rE _ _ ⟨rfl, leG, hk, hsv, hC, hm, hD, hZ, hss, hlb⟩
 show X _ _ _ _ (envs [(0, (.func (.yield l) #[] #[])), (1, ptr bt 0), (2, ptr bs 0), (9, tv), (10, .int .i64 ((((t).length : Nat) : Int))), (11, .int .i64 (((k : Nat) : Int)))] rE) _ (slH 77 3 sv m cs :: objH l (.loop R) :: cellsH bo [sv] 39 :: cellsH bl [.bool (lb)] 4 :: L)
 replace leG : F ≤ G1 := leG
 dsimp only at hk hsv hC hm hD hZ hss hlb
 have hsl1 := stepsTo_len (ar := ar) (t := t) (rs := rs) hrl k
 have hZo := hZ
 have hss0 := hss
 have hlb0 := hlb
 have leG1 := leG
 replace har := har.mono leG1
 replace hrs := hrs.mono leG1
 replace ht := ht.mono leG1
 replace hbt := hbt.mono leG1
 replace hbs := hbs.mono leG1
 refine X.seq ?_
 refine X.region ?_
 refine XL.cons (XOp.lss (a := ((k : Nat) : Int)) (b := (((t).length : Nat) : Int)) rfl rfl ?_)
 refine XL.nil ?_
 refine X.seq ?_
 refine X.condD (p := (((k : Nat) : Int) : Int) < (((t).length : Nat) : Int)) rfl (fun h1 => ?_) (fun h1 => ?_)
 ·refine X.skip ?_
  refine X.seq ?_
  refine X.block ?_
  refine X.seq ?_
  refine X.region ?_
  refine XL.cons (XOp.move (.int .i64 (((k : Nat) : Int))) rfl ?_)
  refine XL.cons (XOp.indexS (v := tv) (i := ((k : Nat) : Int)) (n := (t).length) k Try.runUnderlying22 Try.sizeOf2 rfl rfl rfl ht.slv (by omega) (Nat.mul_one _) ?_)
  refine XL.cons (XOp.load1 (v := .int .i64 (t.getD k 0)) Try.isAgg2 rfl (ht.rd (by omega)) ?_)
  refine XL.cons (XOp.assign (.int .i64 (((k : Nat) : Int))) rfl ?_)
  refine XL.cons (XOp.assign (.int .i64 (t.getD k 0)) rfl ?_)
  refine XL.nil ?_
  refine X.seq ?_
  refine X.region ?_
  refine XL.cons (XOp.fieldP (b := bs) (1) Try.runUnderlying33 rfl Try.sizeOf31 (by decide) rfl rfl ?_)
  refine XL.cons (XOp.load1 (v := rsv) Try.isAgg31 rfl (FzC.rd1 hbs rfl) ?_)
  refine XL.cons (XOp.lenS (v := rsv) (n := (rs).length) Try.runUnderlying31 rfl hrs.slv ?_)
  refine XL.cons (XOp.move (.int .i64 (0)) rfl ?_)
  refine XL.nil ?_
  refine X.block ?_
  refine X.loop (α := Nat × Value × List StepT × List Value × List HP × Nat × Bool × FH) (fun xQ => [(0, (.func (.yield l) #[] #[])), (1, ptr bt 0), (2, ptr bs 0), (4, .int .i64 (((k : Nat) : Int))), (5, .int .i64 (t.getD k 0)), (9, tv), (10, .int .i64 ((((t).length : Nat) : Int))), (11, .int .i64 (((k : Nat) : Int))), (18, .int .i64 ((((rs).length : Nat) : Int))), (19, .int .i64 (((xQ.1 : Nat) : Int)))]) (fun xQ => slH 77 3 xQ.2.1 xQ.2.2.2.2.2.1 xQ.2.2.2.1 :: objH l (.loop R) :: cellsH bo [xQ.2.1] 39 :: cellsH bl [.bool (xQ.2.2.2.2.2.2.1)] 4 :: L) (fun xQ F' => xQ.2.2.2.2.2.2.2 = F' ∧ G1 ≤ xQ.2.2.2.2.2.2.2 ∧ (xQ.1 ≤ rs.length) ∧ (IsSl xQ.2.1) ∧ (StepsC xQ.2.2.2.2.2.2.2 xQ.2.2.2.1 xQ.2.2.1) ∧ (xQ.2.2.2.2.2.1 = xQ.2.2.1.length) ∧ (DeepL 3 (StepO 2) xQ.2.2.2.1 xQ.2.2.1 xQ.2.2.2.2.1) ∧ (Fresh F xQ.2.2.2.2.2.2.2 (star xQ.2.2.2.2.1)) ∧ (xQ.2.2.1 = stepsTo ar rs t k ++ stepsRow ar rs t k xQ.1) ∧ (xQ.2.2.2.2.2.2.1 = (longTo ar rs t k || longRow ar rs t k xQ.1))) (fun xQ => rs.length - xQ.1) (0, sv, ss, cs, Ls, m, lb, G1) ⟨rfl, rfl, rfl, rfl, rfl, rfl, rfl, rfl, rfl, rfl, trivial⟩ (Sub.cons (Sub.cons (Sub.cons (Sub.cons (Sub.refl _))))) ⟨rfl, FLe.refl _, (by (try dsimp only) <;> omega), (hsv), (hC), (hm), (hD), (hZ), (by (try dsimp only); rw [hss0]; simp [stepsRow]), (by (try dsimp only); rw [hlb0]; simp [longRow])⟩ ?_
  rintro ⟨r, sv, ss, cs, Ls, m, lb, G2⟩ rE _ _ ⟨rfl, leG, hr, hsvi, hCi, hmi, hDi, hZi, hssi, hlbi⟩
  show X _ _ _ _ (envs [(0, (.func (.yield l) #[] #[])), (1, ptr bt 0), (2, ptr bs 0), (4, .int .i64 (((k : Nat) : Int))), (5, .int .i64 (t.getD k 0)), (9, tv), (10, .int .i64 ((((t).length : Nat) : Int))), (11, .int .i64 (((k : Nat) : Int))), (18, .int .i64 ((((rs).length : Nat) : Int))), (19, .int .i64 (((r : Nat) : Int)))] rE) _ (slH 77 3 sv m cs :: objH l (.loop R) :: cellsH bo [sv] 39 :: cellsH bl [.bool (lb)] 4 :: L)
  replace leG : G1 ≤ G2 := leG
  dsimp only at hr hsvi hCi hmi hDi hZi hssi hlbi
  have hsl2 := stepsRow_len (ar := ar) (rs := rs) (t := t) (p := k) r
  have hssl : ss.length ≤ 1000 := by rw [hssi, List.length_append]; omega
  have leG2 := leG
  replace har := har.mono leG2
  replace hrs := hrs.mono leG2
  replace ht := ht.mono leG2
  replace hbt := hbt.mono leG2
  replace hbs := hbs.mono leG2
  replace hC := hC.mono leG2
  refine X.seq ?_
  refine X.region ?_
  refine XL.cons (XOp.lss (a := ((r : Nat) : Int)) (b := (((rs).length : Nat) : Int)) rfl rfl ?_)
  refine XL.nil ?_
  refine X.seq ?_
  refine X.condD (p := (((r : Nat) : Int) : Int) < (((rs).length : Nat) : Int)) rfl (fun h2 => ?_) (fun h2 => ?_)
  ·refine X.skip ?_
   refine X.seq ?_
   refine X.block ?_
   refine X.seq ?_
   refine X.region ?_
   refine XL.cons (XOp.move (.int .i64 (((r : Nat) : Int))) rfl ?_)
   refine XL.cons (XOp.assign (.int .i64 (((r : Nat) : Int))) rfl ?_)
   refine XL.nil ?_
   refine X.seq ?_
   refine X.seq ?_
   refine X.region ?_
   refine XL.cons (XOp.move (.int .i64 (t.getD k 0)) rfl ?_)
   refine XL.cons (XOp.lss (a := t.getD k 0) (b := 0) rfl rfl ?_)
   refine XL.cons (XOp.move (.bool (decide ((t.getD k 0 : Int) < 0))) rfl ?_)
   by_cases h3 : (t.getD k 0 : Int) < 0
   ·have hone := one_none (isRedex_var (p := k) (r := r) hsys ho (by omega) (by omega) (show r < rs.length by omega))
    refine XL.no (t := 24) rfl (congrArg Value.bool (decide_eq_true h3)) ?_
    refine XL.no (t := 24) rfl (congrArg Value.bool (decide_eq_true h3)) ?_
    refine XL.no (t := 24) rfl (congrArg Value.bool (decide_eq_true h3)) ?_
    refine XL.no (t := 24) rfl (congrArg Value.bool (decide_eq_true h3)) ?_
    refine XL.no (t := 24) rfl (congrArg Value.bool (decide_eq_true h3)) ?_
    refine XL.no (t := 24) rfl (congrArg Value.bool (decide_eq_true h3)) ?_
    refine XL.cons (XOp.pickT (.bool (true)) (congrArg Value.bool (decide_eq_true h3)) rfl ?_)
    refine XL.nil ?_
    refine X.condT rfl ?_
    refine X.exit (thenQ_exit (blockQ_exit ?_))
    refine X.region ?_
    refine XL.cons (XOp.addR (a := ((r : Nat) : Int)) (b := 1) (((r + 1 : Nat) : Int)) rfl rfl (by omega) (by omega) ?_)
    refine XL.cons (XOp.move (.int .i64 (((r + 1 : Nat) : Int))) rfl ?_)
    refine XL.nil ?_
    exact ⟨(r + 1, sv, ss, cs, Ls, m, lb, G2), _, leG2, (FLe.refl _), ⟨rfl, rfl, rfl, rfl, rfl, rfl, rfl, rfl, rfl, rfl, trivial⟩, (Sub.cons (Sub.cons (Sub.cons (Sub.cons (Sub.refl _))))), ⟨rfl, leG2, (by (try dsimp only) <;> omega), (hsvi), (hCi), (by (try dsimp only); (try rw [List.length_append, List.length_singleton]); omega), (hDi), (hZi), (by (try dsimp only); rw [hssi, stepsRow_succ, hone.1]; simp), (by (try dsimp only); rw [longRow_succ, hone.2]; (try rw [hlbi]); simp)⟩, (by omega)⟩
   ·refine XL.yes (t := 24) rfl (congrArg Value.bool (decide_eq_false h3)) (XOp.loadN [arv, rsv] Try.isAgg33 Try.sizeOf33 rfl rfl (FzC.rd hbs rfl) ?_)
    refine XL.yes (t := 24) rfl (congrArg Value.bool (decide_eq_false h3)) (XOp.load1 (v := tv) Try.isAgg22 rfl (FzC.rd1 hbt rfl) ?_)
    refine XL.yes (t := 24) rfl (congrArg Value.bool (decide_eq_false h3)) (XOp.move (.int .i64 (((k : Nat) : Int))) rfl ?_)
    refine XL.yes (t := 24) rfl (congrArg Value.bool (decide_eq_false h3)) (XOp.move (.int .i64 (((r : Nat) : Int))) rfl ?_)
    refine XL.yes (t := 24) rfl (congrArg Value.bool (decide_eq_false h3)) (XOp.call (args := [.agg #[arv, rsv], tv, .int .i64 ((k : Nat) : Int), .int .i64 ((r : Nat) : Int)]) Try.call123 rfl (redex_spec (p := k) (r := r) har hrs ht (hsys := (by first | assumption | rfl | omega | (left; simp; done) | (right; simp; done))) (ho := (by first | assumption | rfl | omega | (left; simp; done) | (right; simp; done))) (hp := (by first | assumption | rfl | omega | (left; simp; done) | (right; simp; done))) (hr := (by first | assumption | rfl | omega | (left; simp; done) | (right; simp; done)))) ?_)
    rintro _ _ _ _ ⟨rfl, rfl, rfl⟩
    refine XL.yes (t := 24) rfl (congrArg Value.bool (decide_eq_false h3)) (XOp.notB (b := isRedex ar rs t k r) rfl ?_)
    refine XL.cons (XOp.pickF (.bool (!(isRedex ar rs t k r))) (congrArg Value.bool (decide_eq_false h3)) rfl ?_)
    refine XL.nil ?_
    refine X.cond (t := !(isRedex ar rs t k r)) rfl (fun h4 => ?_) (fun h4 => ?_)
    ·have hone := one_none (show isRedex ar rs t k r = false by simpa using h4)
     refine X.exit (thenQ_exit (blockQ_exit ?_))
     refine X.region ?_
     refine XL.cons (XOp.addR (a := ((r : Nat) : Int)) (b := 1) (((r + 1 : Nat) : Int)) rfl rfl (by omega) (by omega) ?_)
     refine XL.cons (XOp.move (.int .i64 (((r + 1 : Nat) : Int))) rfl ?_)
     refine XL.nil ?_
     exact ⟨(r + 1, sv, ss, cs, Ls, m, lb, G2), _, leG2, (FLe.refl _), ⟨rfl, rfl, rfl, rfl, rfl, rfl, rfl, rfl, rfl, rfl, trivial⟩, (Sub.cons (Sub.cons (Sub.cons (Sub.cons (Sub.refl _))))), ⟨rfl, leG2, (by (try dsimp only) <;> omega), (hsvi), (hCi), (by (try dsimp only); (try rw [List.length_append, List.length_singleton]); omega), (hDi), (hZi), (by (try dsimp only); rw [hssi, stepsRow_succ, hone.1]; simp), (by (try dsimp only); rw [longRow_succ, hone.2]; (try rw [hlbi]); simp)⟩, (by omega)⟩
    ·have hrx : isRedex ar rs t k r = true := by simpa using h4
     refine X.skip ?_
     refine X.seq ?_
     refine X.region ?_
     refine XL.cons (XOp.loadN [arv, rsv] Try.isAgg33 Try.sizeOf33 rfl rfl (FzC.rd hbs rfl) ?_)
     refine XL.cons (XOp.load1 (v := tv) Try.isAgg22 rfl (FzC.rd1 hbt rfl) ?_)
     refine XL.cons (XOp.move (.int .i64 (((k : Nat) : Int))) rfl ?_)
     refine XL.cons (XOp.move (.int .i64 (((r : Nat) : Int))) rfl ?_)
     refine XL.cons (XOp.call (args := [.agg #[arv, rsv], tv, .int .i64 ((k : Nat) : Int), .int .i64 ((r : Nat) : Int)]) Try.call119 rfl (step_spec (p := k) (r := r) har hrs ht (hsys := (by first | assumption | rfl | omega | (left; simp; done) | (right; simp; done))) (ho := (by first | assumption | rfl | omega | (left; simp; done) | (right; simp; done))) (hp := (by first | assumption | rfl | omega | (left; simp; done) | (right; simp; done))) (hr := (by first | assumption | rfl | omega | (left; simp; done) | (right; simp; done)))) ?_)
     rintro _ F1 _ le1 ⟨x1, rfl, hr1, hr2, hr3, rfl⟩
     replace har := har.mono le1
     replace hrs := hrs.mono le1
     replace ht := ht.mono le1
     replace hbt := hbt.mono le1
     replace hbs := hbs.mono le1
     replace hC := hC.mono le1
     replace hCi := hCi.mono le1
     refine XL.cons (XOp.move (.tuple #[x1, .bool ((stepL ar rs t k r).isSome)]) rfl ?_)
     refine XL.cons (XOp.extract (x1) rfl rfl ?_)
     refine XL.cons (XOp.extract (.bool ((stepL ar rs t k r).isSome)) rfl rfl ?_)
     refine XL.cons (XOp.assign (x1) rfl ?_)
     refine XL.cons (XOp.assign (.bool ((stepL ar rs t k r).isSome)) rfl ?_)
     refine XL.nil ?_
     refine X.seq ?_
     refine X.ofI (by kernel_rfl) ?_
     refine XI.region ?_
     refine XIL.cons (XOp.move ((.func (.yield l) #[] #[])) rfl ?_)
     refine XIL.cons (XOp.move (.int .i64 (((k : Nat) : Int))) rfl ?_)
     refine XIL.cons (XOp.move (.int .i64 (((r : Nat) : Int))) rfl ?_)
     refine XIL.cons (XOp.move (x1) rfl ?_)
     refine XIL.cons (XOp.build [.int .i64 (((k : Nat) : Int)), .int .i64 (((r : Nat) : Int)), x1] [.int .i64 (0), .int .i64 (0), (.slice none 0 0)] [(0, 1), (1, 1), (2, 1)] [(0, [.int .i64 (((k : Nat) : Int))]), (1, [.int .i64 (((r : Nat) : Int))]), (2, [x1])] Try.runUnderlying77 Try.zeroValue77 rfl (.cons rfl Try.sizeOf2 (.cons rfl Try.sizeOf2 (.cons rfl Try.sizeOf22 PlacesAre.nil))) rfl (.cons rfl (.cons rfl (.cons (cells_one (IntsF.isSl hr1)) CellsAre.nil))) ?_)
     refine XIL.cons (XOp.move (.bool ((stepL ar rs t k r).isSome)) rfl ?_)
     by_cases h5 : ((stepL ar rs t k r).isSome) = true
     ·refine XIL.yield (k := l) (args := [.agg #[.int .i64 (((k : Nat) : Int)), .int .i64 (((r : Nat) : Int)), x1], .bool true]) rfl (by rw [← h5]; rfl) ?_
      refine Yld.weaken (Sub.trans (Sub.front (A := [_, _, _])) (Sub.trans (Sub.front (A := [_])) (Sub.trans (Sub.front (A := [_, _, _])) (Sub.trans (Sub.front (A := [_, _, _])) (Sub.cons (Sub.cons (Sub.cons (Sub.cons (Sub.refl _))))))))) ?_
      have hone := one_some h5
      refine (hyes _ _ _ _ _ _ _ _ _ _ (FLe.trans (FLe.trans leG1 leG2) le1) hsvi hCi hmi (by omega) hr1).mono ?_
      rintro _ _ _ _ ⟨rfl, rfl, sw1, hs1, rfl⟩
      have hc1 := StepsC.snoc hCi (i := ((k : Nat) : Int)) (j := ((r : Nat) : Int)) hr1
      show XIL _ _ _ _ _ _ _ _ _ (objH l (.loop R) :: cellsH bo [sw1] 39 :: slH 77 3 sw1 (m + 1) ((cs ++ [.int .i64 (((k : Nat) : Int)), .int .i64 (((r : Nat) : Int)), x1])) :: cellsH bl [.bool (lb)] 4 :: L)
      refine XIL.cons (XOp.notB (b := true) rfl ?_)
      refine XIL.nil ?_
      refine X.condF rfl ?_
      refine X.skip ?_
      refine X.region ?_
      refine XL.cons (XOp.addR (a := ((r : Nat) : Int)) (b := 1) (((r + 1 : Nat) : Int)) rfl rfl (by omega) (by omega) ?_)
      refine XL.cons (XOp.move (.int .i64 (((r + 1 : Nat) : Int))) rfl ?_)
      refine XL.nil ?_
      exact ⟨(r + 1, sw1, (ss ++ [(((k : Nat) : Int), ((r : Nat) : Int), (stepL ar rs t k r).getD [])]), (cs ++ [.int .i64 (((k : Nat) : Int)), .int .i64 (((r : Nat) : Int)), x1]), Ls ++ [intsH 2 x1 ((stepL ar rs t k r).getD [])], m + 1, lb, F1), _, (FLe.trans leG2 le1), (FLe.refl _), ⟨rfl, rfl, rfl, rfl, rfl, rfl, rfl, rfl, rfl, rfl, trivial⟩, (Sub.trans (Sub.front (A := [_, _, _])) (Sub.trans (Sub.front (A := [_, _])) (Sub.trans (Sub.front (A := [_, _])) (Sub.trans (Sub.front (A := [_, _, _])) (Sub.cons (Sub.cons (Sub.cons (Sub.cons (Sub.refl _))))))))), ⟨rfl, (FLe.trans leG2 le1), (by (try dsimp only) <;> omega), (hs1), (hc1), (by (try dsimp only); (try rw [List.length_append, List.length_singleton]); omega), (DeepL.snoc hDi rfl ⟨_, rfl, rfl⟩), ((Fresh.app hZi (FLe.trans leG1 leG2) (Fresh.one hr3) le1)), (by (try dsimp only); rw [hssi, stepsRow_succ, hone.1]; simp), (by (try dsimp only); rw [longRow_succ, hone.2]; (try rw [hlbi]); simp)⟩, (by omega)⟩
     ·rw [Bool.not_eq_true] at h5
      refine XIL.yield (k := l) (args := [.agg #[.int .i64 (((k : Nat) : Int)), .int .i64 (((r : Nat) : Int)), x1], .bool false]) rfl (by rw [← h5]; rfl) ?_
      refine Yld.weaken (Sub.trans (Sub.front (A := [_, _, _])) (Sub.trans (Sub.front (A := [_])) (Sub.trans (Sub.front (A := [_, _, _])) (Sub.trans (Sub.front (A := [_, _, _])) (Sub.cons (Sub.cons (Sub.cons (Sub.cons (Sub.refl _))))))))) ?_
      have hone := one_long hrx h5
      refine (hno _ _ _ _ _ _ _ _ (FLe.trans (FLe.trans leG1 leG2) le1) hsvi (IntsF.isSl hr1)).mono ?_
      rintro _ _ _ _ ⟨rfl, rfl, rfl⟩
      show XIL _ _ _ _ _ _ _ _ _ (objH l (.loop R) :: cellsH bo [sv] 39 :: slH 77 3 sv m cs :: cellsH bl [.bool (true)] 4 :: L)
      refine XIL.cons (XOp.notB (b := true) rfl ?_)
      refine XIL.nil ?_
      refine X.condF rfl ?_
      refine X.skip ?_
      refine X.region ?_
      refine XL.cons (XOp.addR (a := ((r : Nat) : Int)) (b := 1) (((r + 1 : Nat) : Int)) rfl rfl (by omega) (by omega) ?_)
      refine XL.cons (XOp.move (.int .i64 (((r + 1 : Nat) : Int))) rfl ?_)
      refine XL.nil ?_
      exact ⟨(r + 1, sv, ss, cs, Ls, m, true, F1), _, (FLe.trans leG2 le1), (FLe.refl _), ⟨rfl, rfl, rfl, rfl, rfl, rfl, rfl, rfl, rfl, rfl, trivial⟩, (Sub.trans (Sub.front (A := [_, _, _])) (Sub.trans (Sub.front (A := [_, _])) (Sub.trans (Sub.front (A := [_, _])) (Sub.trans (Sub.front (A := [_, _, _])) (Sub.cons (Sub.cons (Sub.cons (Sub.cons (Sub.refl _))))))))), ⟨rfl, (FLe.trans leG2 le1), (by (try dsimp only) <;> omega), (hsvi), (hCi), (by (try dsimp only); (try rw [List.length_append, List.length_singleton]); omega), (hDi), ((hZi.mono le1)), (by (try dsimp only); rw [hssi, stepsRow_succ, hone.1]; simp), (by (try dsimp only); rw [longRow_succ, hone.2]; (try rw [hlbi]); simp)⟩, (by omega)⟩
  ·refine X.exit (thenQ_exit (thenQ_exit (blockQ_exit ?_)))
   refine X.region ?_
   refine XL.cons (XOp.addR (a := ((k : Nat) : Int)) (b := 1) (((k + 1 : Nat) : Int)) rfl rfl (by omega) (by omega) ?_)
   refine XL.cons (XOp.move (.int .i64 (((k + 1 : Nat) : Int))) rfl ?_)
   refine XL.nil ?_
   exact ⟨(k + 1, sv, ss, cs, Ls, m, lb, G2), _, (FLe.trans leG1 leG2), (FLe.refl _), ⟨rfl, rfl, rfl, rfl, rfl, rfl, trivial⟩, (Sub.cons (Sub.cons (Sub.cons (Sub.cons (Sub.refl _))))), ⟨rfl, (FLe.trans leG1 leG2), (by (try dsimp only) <;> omega), (hsvi), (hCi), (hmi), (hDi), (hZi), (by dsimp only; rw [hssi, stepsTo_succ, show r = rs.length from by omega]), (by dsimp only; rw [hlbi, longTo_succ, show r = rs.length from by omega])⟩, (by omega)⟩
 ·refine X.exit (thenQ_exit (thenQ_exit (blockQ_exit ?_)))
  refine id (retEndN (L' := objH l (.loop R) :: cellsH bo [sv] 39 :: slH 77 3 sv m cs :: cellsH bl [.bool (lb)] 4 :: L) [] (.tuple #[]) (by exact .nil) rfl leG1 (FLe.refl _) (Sub.trans (Sub.front (A := [_, _, _])) (Sub.trans (Sub.front (A := [_])) (Sub.trans (Sub.front (A := [_, _, _])) (Sub.trans (Sub.front (A := [_, _, _])) (Sub.cons (Sub.cons (Sub.cons (Sub.cons (Sub.refl _))))))))) ?_)
  have hkl : k = t.length := by omega
  have e1 : stepsL ar rs t = ss := by rw [hss, hkl]; rfl
  have e2 : longL ar rs t = lb := by rw [hlb, hkl]; rfl
  rw [e1, e2]
  subst hm
  exact ⟨sv, cs, Ls, hsv, hC, hD, hZ, rfl⟩

/- impl.stepsFrom -/
set_option maxRecDepth 20000 in
theorem stepsFrom_spec {F : FH} {L : List HP} {arv : Value} {ar : List Int} (har : IntsF F arv ar) {rsv : Value} {rs : List (List Int × List Int)} (hrs : PairsF F rsv rs) {tv : Value} {t : List Int} (ht : IntsF F tv t) (hsys : sysOk ar rs = true) (ho : termOk ar t = true) :
    Does Try.prog 84 [.agg #[arv, rsv], tv] F (L) (fun v F' L' => ∃ (a : Value), (.tuple #[a, .bool (longL ar rs t)] : Value) = v ∧ FrStepsF F F' 2 a (stepsL ar rs t) ∧ L = L') := by
 refine Does.of_XF Try.func84 rfl (by kernel_rfl) rfl ?_
 have hnn := notNil_of_pos ht (by have := termOk_len ho; omega)
 have htl := termOk_len ho
 have hrl := (sysOk_iff.1 hsys).2.1
 have hsig := (sysOk_iff.1 hsys).1
 have hsl := sigOk_spec hsig
 refine XF.seq ?_
 refine X.region ?_
 refine XL.cons (XOp.box [arv, rsv] rfl rfl ?_)
 intro b1
 refine XL.cons (XOp.assign ((.slice none 0 0)) rfl ?_)
 refine XL.cons (XOp.assign (.bool (false)) rfl ?_)
 refine XL.nil ?_
 refine XF.seq ?_
 refine X.region ?_
 refine XL.cons (XOp.alloc [(.slice none 0 0)] Try.zeroValue39 rfl ?_)
 intro b2
 refine XL.nil ?_
 refine XF.seq ?_
 refine X.region ?_
 refine XL.cons (XOp.alloc [.bool (false)] Try.zeroValue4 rfl ?_)
 intro b3
 refine XL.cons (XOp.store1 (v := .bool (false)) [] _ [.bool (false)] Try.sizeOf4 rfl rfl rfl rfl rfl rfl ?_)
 refine XL.nil ?_
 refine XF.ofR ?_
 refine XR.seq ?_
 refine X.region ?_
 refine XL.cons (XOp.loadN [arv, rsv] Try.isAgg33 Try.sizeOf33 rfl rfl (Rd.ownN [_, _] rfl rfl) ?_)
 refine XL.cons (XOp.move (tv) rfl ?_)
 refine XL.cons (XOp.call (args := [.agg #[arv, rsv], tv]) Try.call107 rfl (redexSteps_spec har hrs ht) ?_)
 rintro _ F1 _ le1 ⟨x1, x2, rfl, hb1, hb2, rfl⟩
 replace har := har.mono le1
 replace hrs := hrs.mono le1
 replace ht := ht.mono le1
 refine XL.nil ?_
 refine XR.rangeB (gf := 133) (lb := [ptr x1 0, ptr x2 0]) rfl Try.call133 (fun l D R hRs hRp hRps hRa hRb hRz hRg => ?_)
 have hR0 : ({ R with state := .ready, pending := none } : Loop) = R := by
  cases R
  simp only at hRs hRp
  subst hRs hRp
  rfl
 have hyes : ∀ (Fy : FH) (sv : Value) (ss : List StepT) (cs : List Value) (m : Nat) (lb : Bool) (i j : Int) (tov : Value) (to : List Int), F1 ≤ Fy → IsSl sv → StepsC Fy cs ss → m = ss.length → ss.length ≤ 4000000 → IntsF Fy tov to → Yld Try.prog l [.agg #[.int .i64 i, .int .i64 j, tov], .bool true] Fy (objH l (.loop R) :: cellsH b2 [sv] 39 :: slH 77 3 sv m cs :: cellsH b3 [.bool (lb)] 4 :: objH D (.deferred (some [])) :: L) (fun v F' L' => .bool true = v ∧ Fy = F' ∧ ∃ sw, IsSl sw ∧ objH l (.loop R) :: cellsH b2 [sw] 39 :: slH 77 3 sw (m + 1) (cs ++ [.int .i64 i, .int .i64 j, tov]) :: cellsH b3 [.bool (lb)] 4 :: objH D (.deferred (some [])) :: L = L') := by
  intro Fy sv ss cs m lb i j tov to leF hsv hC hm hsb hto
  refine Yld.of_round hRs hRp hRps hRa hRb hRz hRg rfl (by kernel_rfl) (by kernel_rfl) (by kernel_rfl) ?_
  refine XI.slots [(13, .agg #[.int .i64 (i), .int .i64 (j), tov]), (14, .bool (true)), (6, ptr b2 0), (7, ptr b3 0)] ⟨rfl, rfl, rfl, rfl, trivial⟩ (fun rE => ?_)
  refine XI.seq ?_
  refine XI.region ?_
  refine XIL.cons (XOp.alloc [.int .i64 (0), .int .i64 (0), (.slice none 0 0)] Try.zeroValue77 rfl ?_)
  intro b4
  refine XIL.cons (XOp.storeN (vs := [.int .i64 (i), .int .i64 (j), tov]) [] _ [.int .i64 (i), .int .i64 (j), tov] Try.sizeOf77 rfl rfl rfl (ones_cons rfl (ones_cons rfl (ones_cons (one_sl (IntsF.isSl hto)) ones_nil))) rfl rfl rfl ?_)
  refine XIL.nil ?_
  refine XI.region ?_
  refine XIL.cons (XOp.assign (.bool (true)) rfl ?_)
  refine XIL.nil ?_
  refine ⟨cellsH b4 [.int .i64 (i), .int .i64 (j), tov] 77 :: cellsH b2 [sv] 39 :: slH 77 3 sv m cs :: cellsH b3 [.bool (lb)] 4 :: objH D (.deferred (some [])) :: L, (Sub.trans (Sub.front (A := [_, _, _, _])) (Sub.trans (Sub.front (A := [_, _, _, _])) (Sub.trans (Sub.front (A := [_, _, _, _])) (Sub.trans (Sub.front (A := [_, _, _])) (Sub.trans (Sub.front (A := [_, _, _, _])) (Sub.cons (Sub.cons (Sub.cons (Sub.cons (Sub.cons (Sub.refl _))))))))))), ?_⟩
  refine XI.block ?_
  refine XI.seq ?_
  refine XI.region ?_
  refine XIL.cons (XOp.move (.bool (true)) rfl ?_)
  refine XIL.nil ?_
  refine XI.condT rfl ?_
  refine XI.region ?_
  refine XIL.cons (XOp.load1 (v := sv) Try.isAgg39 rfl (Rd.own [_, _] rfl rfl) ?_)
  refine XIL.cons (XOp.loadN [.int .i64 (i), .int .i64 (j), tov] Try.isAgg77 Try.sizeOf77 rfl rfl (Rd.ownN [_] rfl rfl) ?_)
  refine XIL.cons (XOp.buildSlice (s := 3) [.int .i64 (i), .int .i64 (j), tov] [.int .i64 (0), .int .i64 (0), (.slice none 0 0)] [(0, [.int .i64 (i), .int .i64 (j), tov])] Try.runUnderlying39 Try.sizeOf77 Try.zeroValue77 rfl (by decide) rfl (.cons rfl CellsAre.nil) rfl ?_)
  intro v1 hv1
  refine XIL.cons (XOp.append (m := 1) (bytes := 40) (cs := cs) [_, _, _, _] _ [.int .i64 (i), .int .i64 (j), tov] Try.runUnderlying39 Try.typeInfo77 rfl rfl rfl rfl rfl rfl rfl (SlV.own [] rfl) rfl (Rd.lit [] rfl) (ones_cons rfl (ones_cons rfl (ones_cons (one_sl (IntsF.isSl hto)) ones_nil))) (by (try simp only [List.length_append, List.length_nil, List.length_cons, List.length_singleton]); omega) (by (try simp only [List.length_append, List.length_nil, List.length_cons, List.length_singleton]); omega) ?_)
  intro v2 hs1 hn1 hm1
  have hc1 := StepsC.snoc hC (i := i) (j := j) hto
  refine XIL.cons (XOp.store1 (v := v2) [_, _, _] _ [v2] Try.sizeOf39 rfl rfl (one_sl hs1) rfl rfl rfl ?_)
  refine XIL.nil ?_
  refine ⟨rfl, ?_⟩
  refine ⟨cellsH b2 [v2] 39 :: slH 77 3 v2 ((m) + 1) (cs ++ [.int .i64 (i), .int .i64 (j), tov]) :: cellsH b3 [.bool (lb)] 4 :: objH D (.deferred (some [])) :: L, (Sub.drop (Sub.cons (Sub.drop (Sub.cons (Sub.cons (Sub.cons (Sub.refl _))))))), ?_⟩
  rw [hR0]
  exact ⟨rfl, rfl, _, hs1, rfl⟩
 have hno : ∀ (Fy : FH) (sv : Value) (cs : List Value) (m : Nat) (lb : Bool) (i j : Int) (tov : Value), F1 ≤ Fy → IsSl sv → IsSl tov → Yld Try.prog l [.agg #[.int .i64 i, .int .i64 j, tov], .bool false] Fy (objH l (.loop R) :: cellsH b2 [sv] 39 :: slH 77 3 sv m cs :: cellsH b3 [.bool (lb)] 4 :: objH D (.deferred (some [])) :: L) (fun v F' L' => .bool true = v ∧ Fy = F' ∧ objH l (.loop R) :: cellsH b2 [sv] 39 :: slH 77 3 sv m cs :: cellsH b3 [.bool (true)] 4 :: objH D (.deferred (some [])) :: L = L') := by
  intro Fy sv cs m lb i j tov leF hsv htv
  refine Yld.of_round hRs hRp hRps hRa hRb hRz hRg rfl (by kernel_rfl) (by kernel_rfl) (by kernel_rfl) ?_
  refine XI.slots [(13, .agg #[.int .i64 (i), .int .i64 (j), tov]), (14, .bool (false)), (6, ptr b2 0), (7, ptr b3 0)] ⟨rfl, rfl, rfl, rfl, trivial⟩ (fun rE => ?_)
  refine XI.seq ?_
  refine XI.region ?_
  refine XIL.cons (XOp.alloc [.int .i64 (0), .int .i64 (0), (.slice none 0 0)] Try.zeroValue77 rfl ?_)
  intro b5
  refine XIL.cons (XOp.storeN (vs := [.int .i64 (i), .int .i64 (j), tov]) [] _ [.int .i64 (i), .int .i64 (j), tov] Try.sizeOf77 rfl rfl rfl (ones_cons rfl (ones_cons rfl (ones_cons (one_sl htv) ones_nil))) rfl rfl rfl ?_)
  refine XIL.nil ?_
  refine XI.region ?_
  refine XIL.cons (XOp.assign (.bool (false)) rfl ?_)
  refine XIL.nil ?_
  refine ⟨cellsH b5 [.int .i64 (i), .int .i64 (j), tov] 77 :: cellsH b2 [sv] 39 :: slH 77 3 sv m cs :: cellsH b3 [.bool (lb)] 4 :: objH D (.deferred (some [])) :: L, (Sub.trans (Sub.front (A := [_, _, _, _])) (Sub.trans (Sub.front (A := [_, _, _, _])) (Sub.trans (Sub.front (A := [_, _, _, _])) (Sub.trans (Sub.front (A := [_, _, _])) (Sub.trans (Sub.front (A := [_, _, _, _])) (Sub.cons (Sub.cons (Sub.cons (Sub.cons (Sub.cons (Sub.refl _))))))))))), ?_⟩
  refine XI.block ?_
  refine XI.seq ?_
  refine XI.region ?_
  refine XIL.cons (XOp.move (.bool (false)) rfl ?_)
  refine XIL.nil ?_
  refine XI.condF rfl ?_
  refine XI.region ?_
  refine XIL.cons (XOp.store1 (v := .bool (true)) [_, _, _, _] _ [.bool (true)] Try.sizeOf4 rfl rfl rfl rfl rfl rfl ?_)
  refine XIL.nil ?_
  refine ⟨rfl, ?_⟩
  refine ⟨cellsH b2 [sv] 39 :: slH 77 3 sv m cs :: cellsH b3 [.bool (true)] 4 :: objH D (.deferred (some [])) :: L, (Sub.cons (Sub.drop (Sub.cons (Sub.cons (Sub.cons (Sub.refl _)))))), ?_⟩
  rw [hR0]
  exact ⟨rfl, rfl, rfl⟩
 refine (Does.weaken (Sub.trans (Sub.front (A := [_])) (Sub.trans (Sub.front (A := [_, _])) (Sub.trans (Sub.front (A := [_, _, _])) (Sub.trans (Sub.front (A := [_, _, _])) (Sub.cons (Sub.cons (Sub.cons (Sub.cons (Sub.drop (Sub.refl _)))))))))) (redexIt_spec har hrs ht hb1 hb2 hsys ho hyes hno)).mono ?_
 rintro _ F9 _ le9 ⟨sv, cs, Ls, hsv, hC, hD, hZ, rfl⟩
 replace har := har.mono le9
 replace hrs := hrs.mono le9
 replace ht := ht.mono le9
 replace hb1 := hb1.mono le9
 replace hb2 := hb2.mono le9
 refine ⟨R, cellsH b2 [sv] 39 :: slH 77 3 sv ((stepsL ar rs t).length) cs :: cellsH b3 [.bool (longL ar rs t)] 4 :: L, by rw [hRs]; simp, hRp, (Sub.trans (Sub.front (A := [_, _, _])) (Sub.trans (Sub.front (A := [_, _, _])) (Sub.trans (Sub.front (A := [_, _, _])) (Sub.trans (Sub.front (A := [_, _, _, _])) (Sub.trans (Sub.front (A := [_, _, _, _])) (Sub.cons (Sub.cons (Sub.cons (Sub.cons (Sub.cons (Sub.refl _))))))))))), ?_⟩
 refine XI.seq ?_
 refine XI.draw [objH D (.deferred (some [])), cellsH b2 [sv] 39, slH 77 3 sv ((stepsL ar rs t).length) cs, cellsH b3 [.bool (longL ar rs t)] 4] L 3 [[], [], []] [[], [], [0]] (phiL [fun us v => v = sv, fun us v => v = (.bool (longL ar rs t) : Value), fun us v => v = sv]) (ownL [fun us v => [], fun us v => [], fun us v => []]) mixed rfl rfl (by kernel_rfl) ?_ ?_
 ·refine stepsP.cons (fun vals R hpZ => ?_) ?_
  ·refine XG.op (XOp.load1 (v := sv) Try.isAgg39 rfl (Rd.own [_] rfl rfl) ?_)
   exact ⟨rfl, rfl, rfl⟩
  refine stepsP.cons (fun vals R hpZ => ?_) ?_
  ·refine XG.op (XOp.load1 (v := .bool (longL ar rs t)) Try.isAgg4 rfl (Rd.own [_, _, _] rfl rfl) ?_)
   exact ⟨rfl, rfl, rfl⟩
  refine stepsP.cons (fun vals R hpZ => ?_) ?_
  ·rw [(envs_of_sat (l := [(0, sv)]) ⟨hpZ 0 (by decide), trivial⟩).symm]
   refine XG.op (XOp.assign (sv) rfl ?_)
   exact ⟨rfl, rfl, rfl⟩
  exact stepsP.nil
 ·intro vals hphi
  have e0 : vals 0 = sv := hphi 0 (by decide)
  have e1 : vals 1 = (.bool (longL ar rs t) : Value) := hphi 1 (by decide)
  have e2 : vals 2 = sv := hphi 2 (by decide)
  rw [(envs_of_sat (l := [(0, sv), (1, (.bool (longL ar rs t) : Value)), (2, sv)]) ⟨e0, e1, e2, trivial⟩).symm]
  show XIL _ _ _ _ _ _ _ _ _ (objH D (.deferred (some [])) :: cellsH b2 [sv] 39 :: slH 77 3 sv ((stepsL ar rs t).length) cs :: cellsH b3 [.bool (longL ar rs t)] 4 :: L)
  refine XIL.cons (XOp.assign (.bool (longL ar rs t)) rfl ?_)
  refine XIL.nil ?_
  refine XI.freezeF [_, _] _ _ rfl (fun F2 le2 hz1 => ?_)
  replace har := har.mono le2
  replace hrs := hrs.mono le2
  replace ht := ht.mono le2
  replace hb1 := hb1.mono le2
  replace hb2 := hb2.mono le2
  replace hC := hC.mono le2
  have hf1 : StepsF F2 sv ((stepsL ar rs t)) := CO.fz hC (by first | rfl | simp | omega) hz1.fz
  refine XI.ret (retEndD (L' := L) [sv, .bool (longL ar rs t)] (.tuple #[sv, .bool (longL ar rs t)]) (fun _ _ => (.tmp rfl (.tmp rfl .nil))) rfl (FLe.trans (FLe.trans le1 le9) le2) (FLe.refl _) (Sub.cons (Sub.drop (Sub.drop (Sub.refl _)))) ?_)
  exact ⟨_, rfl, ⟨cs, Ls, StepsC.fzx hC rfl hz1.fz, hD, ((hZ.mono le2).base le1)⟩, rfl⟩
end Go.Proofs.Ytiaanelimbmniaa
set_option linter.unusedSimpArgs false
set_option linter.unusedVariables false
namespace Go.Proofs.Ytiaanelimbmniaa
open Go X M

/- impl.found$1 -/
theorem found1_spec {F : FH} {L : List HP} {xv : Value} {x : List Int} (hx : IntsF F xv x) {i1 : Int} {i2 : Int} {i3 : Int} {yv : Value} {y : List Int} (hy : IntsF F yv y) {i4 : Int} {uv : Value} {u : List Int} (hu : IntsF F uv u) {bt : Nat} (hzbt : FzC F bt [uv]) (hlu : u.length ≤ 4000000) :
    Does Try.prog 121 [.agg #[xv, .int .i64 (i1), .int .i64 (i2), .int .i64 (i3), yv, .int .i64 (i4)], ptr bt 0] F (L) (fun v F' L' => (.bool (decide (x = u)) : Value) = v ∧ F = F' ∧ L = L') := by
 refine Does.of_X Try.func121 rfl rfl rfl ?_
 refine X.seq ?_
 refine X.region ?_
 refine XL.cons (XOp.box [xv, .int .i64 (i1), .int .i64 (i2), .int .i64 (i3), yv, .int .i64 (i4)] rfl rfl ?_)
 intro b1
 refine XL.cons (XOp.assign (.bool (false)) rfl ?_)
 refine XL.nil ?_
 refine X.seq ?_
 refine X.region ?_
 refine XL.cons (XOp.fieldP (b := b1) (0) Try.runUnderlying91 rfl Try.sizeOf22 (by decide) rfl rfl ?_)
 refine XL.cons (XOp.load1 (v := xv) Try.isAgg22 rfl (Rd.own [] rfl rfl) ?_)
 refine XL.cons (XOp.load1 (v := uv) Try.isAgg22 rfl (FzC.rd1 hzbt rfl) ?_)
 refine XL.cons (XOp.call (args := [xv, uv]) Try.call122 rfl (Equal_spec hx hu (hbd := (by first | assumption | rfl | omega | (left; simp; done) | (right; simp; done)))) ?_)
 rintro _ _ _ _ ⟨rfl, rfl, rfl⟩
 refine XL.cons (XOp.assign (.bool (decide (x = u))) rfl ?_)
 refine XL.nil ?_
 refine X.ret (retEnd (L' := L) [.bool (decide (x = u))] (.bool (decide (x = u))) (.tmp rfl .nil) rfl (FLe.refl _) (FLe.refl _) (Sub.drop (Sub.refl _)) ?_)
 exact ⟨rfl, rfl, rfl⟩

/- slices.IndexFunc[[]impl.reached,impl.reached] -/
theorem IndexFuncFound_spec {F : FH} {L : List HP} {alv : Value} {al : List FoundT} {alcs : List Value} (hal : FoundsF F alv al alcs) {uv : Value} {u : List Int} (hu : IntsF F uv u) {bt : Nat} (hzbt : FzC F bt [uv]) (hlt : al.length ≤ 4000000) (hlu : u.length ≤ 4000000) :
    Does Try.prog 120 [alv, .func (.func 121) #[] #[ptr bt 0]] F (L) (fun v F' L' => (.int .i64 (foundI al u) : Value) = v ∧ F = F' ∧ L = L') := by
 refine Does.of_X Try.func120 rfl rfl rfl ?_
 refine X.seq ?_
 refine X.region ?_
 refine XL.cons (XOp.assign (.int .i64 (0)) rfl ?_)
 refine XL.nil ?_
 refine X.seq ?_
 refine X.seq ?_
 refine X.region ?_
 refine XL.cons (XOp.move (alv) rfl ?_)
 refine XL.cons (XOp.lenS (v := alv) (n := (al).length) Try.runUnderlying87 rfl hal.slv ?_)
 refine XL.cons (XOp.move (.int .i64 (0)) rfl ?_)
 refine XL.nil ?_
 refine X.block ?_
 refine X.loop (α := Nat) (fun k => [(0, alv), (1, .func (.func 121) #[] #[ptr bt 0]), (7, .int .i64 ((((al).length : Nat) : Int))), (8, .int .i64 (((k : Nat) : Int)))]) (fun k => L) (fun k F' => F = F' ∧ (k ≤ al.length) ∧ (∀ i, i < k → (EL al i).1 ≠ u)) (fun k => al.length - k) 0 ⟨rfl, rfl, rfl, rfl, trivial⟩ (Sub.refl _) ⟨rfl, (by (try dsimp only) <;> omega), (fun i hi => absurd hi (by omega))⟩ ?_
 rintro k rE _ _ ⟨rfl, hk, hall⟩
 show X _ _ _ _ (envs [(0, alv), (1, .func (.func 121) #[] #[ptr bt 0]), (7, .int .i64 ((((al).length : Nat) : Int))), (8, .int .i64 (((k : Nat) : Int)))] rE) _ (L)
 refine X.seq ?_
 refine X.region ?_
 refine XL.cons (XOp.lss (a := ((k : Nat) : Int)) (b := (((al).length : Nat) : Int)) rfl rfl ?_)
 refine XL.nil ?_
 refine X.seq ?_
 refine X.condD (p := (((k : Nat) : Int) : Int) < (((al).length : Nat) : Int)) rfl (fun h1 => ?_) (fun h1 => ?_)
 ·refine X.skip ?_
  refine X.seq ?_
  refine X.block ?_
  refine X.seq ?_
  refine X.region ?_
  refine XL.cons (XOp.move (.int .i64 (((k : Nat) : Int))) rfl ?_)
  refine XL.cons (XOp.assign (.int .i64 (((k : Nat) : Int))) rfl ?_)
  refine XL.nil ?_
  refine X.seq ?_
  refine X.region ?_
  refine XL.cons (XOp.move (.func (.func 121) #[] #[ptr bt 0]) rfl ?_)
  refine XL.cons (XOp.move (alv) rfl ?_)
  refine XL.cons (XOp.move (.int .i64 (((k : Nat) : Int))) rfl ?_)
  refine XL.cons (XOp.indexS (v := alv) (i := ((k : Nat) : Int)) (n := (al).length) k Try.runUnderlying87 Try.sizeOf91 rfl rfl rfl hal.slv (by omega) rfl ?_)
  obtain ⟨a1, a2, ha1, ha2, hrg1, hq1⟩ := hal.rd (i := k) (by omega)
  refine XL.cons (XOp.loadN [a1, .int .i64 ((al.getD k ([], 0, (0, 0, []), 0)).2.1), .int .i64 ((al.getD k ([], 0, (0, 0, []), 0)).2.2.1.1), .int .i64 ((al.getD k ([], 0, (0, 0, []), 0)).2.2.1.2.1), a2, .int .i64 ((al.getD k ([], 0, (0, 0, []), 0)).2.2.2)] Try.isAgg91 Try.sizeOf91 rfl rfl (Rd.all (hrg1 _)) ?_)
  refine XL.cons (XOp.callV (first := []) (captured := [ptr bt 0]) (args := [.agg #[a1, .int .i64 ((al.getD k ([], 0, (0, 0, []), 0)).2.1), .int .i64 ((al.getD k ([], 0, (0, 0, []), 0)).2.2.1.1), .int .i64 ((al.getD k ([], 0, (0, 0, []), 0)).2.2.1.2.1), a2, .int .i64 ((al.getD k ([], 0, (0, 0, []), 0)).2.2.2)], ptr bt 0]) Try.call121 rfl rfl (found1_spec ha1 ha2 hu hzbt (hlu := (by first | assumption | rfl | omega | (left; simp; done) | (right; simp; done)))) ?_)
  rintro _ _ _ _ ⟨rfl, rfl, rfl⟩
  refine XL.nil ?_
  refine X.cond (t := decide (((al.getD k ([], 0, (0, 0, []), 0)).1) = u)) rfl (fun h2 => ?_) (fun h2 => ?_)
  ·refine X.seq ?_
   refine X.region ?_
   refine XL.cons (XOp.move (.int .i64 (((k : Nat) : Int))) rfl ?_)
   refine XL.cons (XOp.assign (.int .i64 (((k : Nat) : Int))) rfl ?_)
   refine XL.nil ?_
   refine X.ret (blockQ_ret (thenQ_ret (thenQ_ret (blockQ_ret (thenQ_ret (retEnd (L' := L) [.int .i64 (((k : Nat) : Int))] (.int .i64 (((k : Nat) : Int))) (.tmp rfl .nil) rfl (FLe.refl _) (FLe.refl _) (Sub.refl _) ?_))))))
   exact ⟨(congrArg (Value.int .i64) (foundI_at (k := k) (by omega) (by unfold EL; simp_all) hall)), rfl, rfl⟩
  ·refine X.skip ?_
   refine X.region ?_
   refine XL.cons (XOp.addR (a := ((k : Nat) : Int)) (b := 1) (((k + 1 : Nat) : Int)) rfl rfl (by omega) (by omega) ?_)
   refine XL.cons (XOp.move (.int .i64 (((k + 1 : Nat) : Int))) rfl ?_)
   refine XL.nil ?_
   exact ⟨k + 1, _, FLe.refl _, (FLe.refl _), ⟨rfl, rfl, rfl, rfl, trivial⟩, (Sub.refl _), ⟨rfl, (by (try dsimp only) <;> omega), (fun i hi => (Nat.lt_or_ge i k).elim (fun h => hall i h) (fun h => by obtain rfl : i = k := (by omega); unfold EL; simp_all))⟩, (by omega)⟩
 ·refine X.exit (thenQ_exit (thenQ_exit (blockQ_exit ?_)))
  refine X.seq ?_
  refine X.region ?_
  refine XL.cons (XOp.assign (.int .i64 (-1)) rfl ?_)
  refine XL.nil ?_
  refine X.ret (retEnd (L' := L) [.int .i64 (-1)] (.int .i64 (-1)) (.tmp rfl .nil) rfl (FLe.refl _) (FLe.refl _) (Sub.refl _) ?_)
  exact ⟨(congrArg (Value.int .i64) (foundI_none (fun i hi => hall i (by omega)))), rfl, rfl⟩

/- impl.found -/
theorem found_spec {F : FH} {L : List HP} {alv : Value} {al : List FoundT} {alcs : List Value} (hal : FoundsF F alv al alcs) {uv : Value} {u : List Int} (hu : IntsF F uv u) (hlt : al.length ≤ 4000000) (hlu : u.length ≤ 4000000) :
    Does Try.prog 99 [alv, uv] F (L) (fun v F' L' => (.int .i64 (foundI al u) : Value) = v ∧ F = F' ∧ L = L') := by
 refine Does.of_X Try.func99 rfl rfl rfl ?_
 refine X.seq ?_
 refine X.region ?_
 refine XL.cons (XOp.box [uv] rfl (cells_one (IntsF.isSl hu)) ?_)
 intro b1
 refine XL.cons (XOp.assign (.int .i64 (0)) rfl ?_)
 refine XL.nil ?_
 refine X.seq ?_
 refine X.region ?_
 refine XL.cons (XOp.move (alv) rfl ?_)
 refine XL.cons (XOp.makeFuncL [] [ptr b1 0] rfl rfl ?_)
 refine XL.freeze [] _ _ rfl (fun F1 le1 hz1 => ?_)
 replace hal := hal.mono le1
 replace hu := hu.mono le1
 have hf1 : FzC F1 b1 [uv] := Fz.cells hz1
 refine XL.cons (XOp.call (args := [alv, .func (.func 121) #[] #[ptr b1 0]]) Try.call120 rfl (IndexFuncFound_spec hal hu hf1 (hlt := (by first | assumption | rfl | omega | (left; simp; done) | (right; simp; done))) (hlu := (by first | assumption | rfl | omega | (left; simp; done) | (right; simp; done)))) ?_)
 rintro _ _ _ _ ⟨rfl, rfl, rfl⟩
 refine XL.cons (XOp.assign (.int .i64 (foundI al u)) rfl ?_)
 refine XL.nil ?_
 refine X.ret (retEnd (L' := L) [.int .i64 (foundI al u)] (.int .i64 (foundI al u)) (.tmp rfl .nil) rfl (FLe.refl _) le1 (Sub.refl _) ?_)
 exact ⟨rfl, rfl, rfl⟩

/- impl.reach -/
set_option maxRecDepth 20000 in
theorem reach_spec {F : FH} {L : List HP} {arv : Value} {ar : List Int} (har : IntsF F arv ar) {rsv : Value} {rs : List (List Int × List Int)} (hrs : PairsF F rsv rs) {tv : Value} {t : List Int} (ht : IntsF F tv t) {n : Int} (hsys : sysOk ar rs = true) (ho : termOk ar t = true) (hn20 : 0 ≤ n ∧ n ≤ 20) :
    Does Try.prog 66 [.agg #[arv, rsv], tv, .int .i64 (n)] F (L) (fun v F' L' => ∃ (a : Value) (acs : List Value) (Ls : List HP), (.tuple #[a, .bool (reachL ar rs t n).2] : Value) = v ∧ FoundsF F' a (reachL ar rs t n).1 acs ∧ DeepL 6 (FoundO 2) acs (reachL ar rs t n).1 Ls ∧ Fresh F F' (star Ls) ∧ L = L') := by
 refine Does.of_X Try.func66 rfl rfl rfl ?_
 have hnn := notNil_of_pos ht (by have := termOk_len ho; omega)
 have htl := termOk_len ho
 have hrl := (sysOk_iff.1 hsys).2.1
 have hsig := (sysOk_iff.1 hsys).1
 have hsl := sigOk_spec hsig
 refine X.seq ?_
 refine X.region ?_
 refine XL.cons (XOp.box [arv, rsv] rfl rfl ?_)
 intro b1
 refine XL.cons (XOp.assign ((.slice none 0 0)) rfl ?_)
 refine XL.cons (XOp.assign (.bool (false)) rfl ?_)
 refine XL.nil ?_
 refine X.seq ?_
 refine X.region ?_
 refine XL.cons (XOp.move (tv) rfl ?_)
 refine XL.cons (XOp.frzF <| XOp.call (args := [tv]) Try.call94 rfl (Clone_spec ht (hlt := (by first | assumption | rfl | omega | (left; simp; done) | (right; simp; done)))) ?_)
 rintro v1 _ _ _ ⟨rfl, hs1, rfl⟩
 refine ⟨_, _, rfl, fun F1 le1 hz1 => ?_⟩
 replace har := har.mono le1
 replace hrs := hrs.mono le1
 replace ht := ht.mono le1
 have hf1 : IntsF F1 v1 ((t)) := intsH.fz (xs := (t)) hz1.fz
 skip
 refine XL.cons (XOp.build [v1, .int .i64 (-1), .int .i64 (0), .int .i64 (0), (.slice none 0 0), .int .i64 (0)] [(.slice none 0 0), .int .i64 (0), .int .i64 (0), .int .i64 (0), (.slice none 0 0), .int .i64 (0)] [(0, 1), (1, 1), (2, 3), (5, 1)] [(0, [v1]), (1, [.int .i64 (-1)])] Try.runUnderlying91 Try.zeroValue91 rfl (.cons rfl Try.sizeOf22 (.cons rfl Try.sizeOf3 (.cons rfl Try.sizeOf77 (.cons rfl Try.sizeOf2 PlacesAre.nil)))) rfl (.cons (cells_one (IntsF.isSl hf1)) (.cons rfl CellsAre.nil)) ?_)
 refine XL.cons (XOp.buildSlice (s := 6) [v1, .int .i64 (-1), .int .i64 (0), .int .i64 (0), (.slice none 0 0), .int .i64 (0)] [(.slice none 0 0), .int .i64 (0), .int .i64 (0), .int .i64 (0), (.slice none 0 0), .int .i64 (0)] [(0, [v1, .int .i64 (-1), .int .i64 (0), .int .i64 (0), (.slice none 0 0), .int .i64 (0)])] Try.runUnderlying87 Try.sizeOf91 Try.zeroValue91 rfl (by decide) rfl (.cons rfl CellsAre.nil) rfl ?_)
 intro v2 hv1
 refine XL.cons (XOp.assign (v2) rfl ?_)
 refine XL.nil ?_
 refine X.seq ?_
 refine X.seq ?_
 refine X.region ?_
 refine XL.cons (XOp.assign (.int .i64 (0)) rfl ?_)
 refine XL.nil ?_
 refine X.block ?_
 have hc1 : FoundsC F1 [v1, .int .i64 (-1), .int .i64 (0), .int .i64 (0), (.slice none 0 0), .int .i64 (0)] ([((t), -1, (0, 0, []), 0)] : List FoundT) := (FoundsC.snoc (CO.nil : FoundsC F1 [] []) (y0 := (t)) (y1 := -1) (y2 := 0) (y3 := 0) (y4 := []) (y5 := 0) hf1 IntsF.nilV)
 refine X.loop (α := Nat × Value × List FoundT × List Value × List HP × Nat × FH) (fun xQ => [(2, .int .i64 (n)), (3, ptr b1 0), (8, xQ.2.1), (9, .int .i64 (((xQ.1 : Nat) : Int)))]) (fun xQ => slH 91 6 xQ.2.1 xQ.2.2.2.2.2.1 xQ.2.2.2.1 :: cellsH b1 [arv, rsv] 33 :: L) (fun xQ F' => xQ.2.2.2.2.2.2 = F' ∧ F1 ≤ xQ.2.2.2.2.2.2 ∧ (IsSl xQ.2.1) ∧ (FoundsC xQ.2.2.2.2.2.2 xQ.2.2.2.1 xQ.2.2.1) ∧ (xQ.2.2.2.2.2.1 = xQ.2.2.1.length) ∧ (DeepL 6 (FoundO 2) xQ.2.2.2.1 xQ.2.2.1 xQ.2.2.2.2.1) ∧ (Fresh F xQ.2.2.2.2.2.2 (star xQ.2.2.2.2.1)) ∧ (xQ.1 ≤ xQ.2.2.1.length) ∧ (xQ.2.2.1.length ≤ 60) ∧ (AllOk ar xQ.2.2.1) ∧ (DeepOk n xQ.2.2.1) ∧ (reachL ar rs t n = reachGo ar rs n (60 - xQ.1) xQ.1 xQ.2.2.1)) (fun xQ => 60 - xQ.1) (0, v2, ([((t), -1, (0, 0, []), 0)] : List FoundT), [v1, .int .i64 (-1), .int .i64 (0), .int .i64 (0), (.slice none 0 0), .int .i64 (0)], [intsH 2 v1 t], 1, F1) ⟨rfl, rfl, rfl, rfl, trivial⟩ (Sub.cons (Sub.cons (Sub.refl _))) ⟨rfl, FLe.refl _, ((isSl_lit hv1)), (hc1), (rfl), ((DeepL.snoc .nil rfl ⟨_, _, rfl, rfl⟩ : DeepL 6 (FoundO 2) ([] ++ _) ([] ++ _) ([] ++ _))), ((Fresh.one hz1)), (by simp), (by simp), (AllOk.start ho), (DeepOk.start hn20.1), (rfl)⟩ ?_
 rintro ⟨k, ov, os, ocs, Ts, on, G1⟩ rE _ _ ⟨rfl, leG, hov, hC, hn, hD, hZ, hk, hl, hok, hdo, hgo⟩
 show X _ _ _ _ (envs [(2, .int .i64 (n)), (3, ptr b1 0), (8, ov), (9, .int .i64 (((k : Nat) : Int)))] rE) _ (slH 91 6 ov on ocs :: cellsH b1 [arv, rsv] 33 :: L)
 replace leG : F1 ≤ G1 := leG
 dsimp only at hov hC hn hD hZ hk hl hok hdo hgo
 have hdk : k < os.length → termOk ar (os.getD k ([], 0, (0, 0, []), 0)).1 = true := fun h => hok k h
 have hdl : k < os.length → 1 ≤ (os.getD k ([], 0, (0, 0, []), 0)).1.length ∧ (os.getD k ([], 0, (0, 0, []), 0)).1.length ≤ 60 := fun h => termOk_len (hok k h)
 have leG1 := leG
 replace har := har.mono leG1
 replace hrs := hrs.mono leG1
 replace ht := ht.mono leG1
 replace hf1 := hf1.mono leG1
 replace hc1 := hc1.mono leG1
 refine X.seq ?_
 refine X.seq ?_
 refine X.region ?_
 refine XL.cons (XOp.move (.int .i64 (((k : Nat) : Int))) rfl ?_)
 refine XL.cons (XOp.move (ov) rfl ?_)
 refine XL.cons (XOp.lenS (v := ov) (n := on) Try.runUnderlying87 rfl (SlV.own [] rfl) ?_)
 refine XL.cons (XOp.lss (a := ((k : Nat) : Int)) (b := ((on : Nat) : Int)) rfl rfl ?_)
 refine XL.nil ?_
 refine X.condD (p := (((k : Nat) : Int) : Int) < ((on : Nat) : Int)) rfl (fun h1 => ?_) (fun h1 => ?_)
 ·refine X.skip ?_
  refine X.seq ?_
  refine X.block ?_
  refine X.seq ?_
  refine X.seq ?_
  refine X.region ?_
  refine XL.cons (XOp.move (ov) rfl ?_)
  refine XL.cons (XOp.move (.int .i64 (((k : Nat) : Int))) rfl ?_)
  refine XL.cons (XOp.indexS (v := ov) (i := ((k : Nat) : Int)) (n := on) k Try.runUnderlying87 Try.sizeOf91 rfl rfl rfl (SlV.own [] rfl) (by omega) rfl ?_)
  refine XL.cons (XOp.fieldE (v := ov) (k * 6 + 5) Try.runUnderlying91 rfl Try.sizeOf2 (by decide) rfl rfl ?_)
  obtain ⟨a1, a2, ha1, ha2, hq1⟩ := hC.get (i := k) (by omega)
  refine XL.cons (XOp.load1 (v := .int .i64 ((os.getD k ([], 0, (0, 0, []), 0)).2.2.2)) Try.isAgg2 rfl (Rd.sl [] rfl (hq1 5 _ rfl)) ?_)
  refine XL.cons (XOp.move (.int .i64 (n)) rfl ?_)
  refine XL.cons (XOp.eql (a := (os.getD k ([], 0, (0, 0, []), 0)).2.2.2) (b := n) rfl rfl ?_)
  refine XL.nil ?_
  refine X.condD (p := ((os.getD k ([], 0, (0, 0, []), 0)).2.2.2 : Int) = n) rfl (fun h2 => ?_) (fun h2 => ?_)
  ·have hdeep : (EL os k).2.2.2 = n := h2
   refine X.exit (thenQ_exit (blockQ_exit ?_))
   refine X.region ?_
   refine XL.cons (XOp.move (.int .i64 (((k : Nat) : Int))) rfl ?_)
   refine XL.cons (XOp.addR (a := ((k : Nat) : Int)) (b := 1) (((k + 1 : Nat) : Int)) rfl rfl (by omega) (by omega) ?_)
   refine XL.cons (XOp.assign (.int .i64 (((k + 1 : Nat) : Int))) rfl ?_)
   refine XL.nil ?_
   exact ⟨(k + 1, ov, os, ocs, Ts, on, G1), _, leG1, (FLe.refl _), ⟨rfl, rfl, rfl, rfl, trivial⟩, (Sub.cons (Sub.cons (Sub.refl _))), ⟨rfl, leG1, (hov), (hC), (hn), (hD), (hZ), (by (try dsimp only) <;> omega), (by (try dsimp only) <;> omega), (hok), (hdo), (by (try dsimp only); exact hgo.trans (reach_same (f := 60 - k - 1) (by omega) (by omega) hdeep))⟩, (by (try dsimp only); omega)⟩
  ·have hdeep : (EL os k).2.2.2 ≠ n := h2
   refine X.skip ?_
   refine X.seq ?_
   refine X.drawG [slH 91 6 ov on ocs, cellsH b1 [arv, rsv] 33] L 11 [[], [], [], [], [], [], [], [6], [6], [], [6]] [[], [], [], [1, 2], [3], [4], [0, 5], [6], [6, 7], [6, 7], [6, 8]] [[], [], [], [], [], [], [], [], [], [], []] (phiG [fun FF us v => v = (.agg #[arv, rsv] : Value), fun FF us v => v = ov, fun FF us v => v = (.int .i64 (((k : Nat) : Int)) : Value), fun FF us v => v = (.pointer (some (elemA ov (k * 6))) : Value), fun FF us v => v = (.pointer (some (elemA ov (k * 6))) : Value), fun FF us v => v = a1, fun FF us v => (.tuple #[((tupAt v 0)), .bool (longL ar rs ((os.getD k ([], 0, (0, 0, []), 0)).1))] : Value) = v ∧ (FrStepsF G1 FF 2 ((tupAt v 0)) (stepsL ar rs ((os.getD k ([], 0, (0, 0, []), 0)).1))), fun FF us v => v = (.tuple #[((tupAt (us.getD 0 undef) 0)), .bool (longL ar rs ((os.getD k ([], 0, (0, 0, []), 0)).1))] : Value), fun FF us v => v = ((tupAt (us.getD 0 undef) 0)), fun FF us v => v = (.bool (longL ar rs ((os.getD k ([], 0, (0, 0, []), 0)).1)) : Value), fun FF us v => v = ((tupAt (us.getD 0 undef) 0))]) (ownL [fun us v => [], fun us v => [], fun us v => [], fun us v => [], fun us v => [], fun us v => [], fun us v => [], fun us v => [], fun us v => [], fun us v => [], fun us v => []]) mixed rfl rfl (by kernel_rfl) (by kernel_rfl) (MonoG.get (MonoG.cons (fun le h => h) (MonoG.cons (fun le h => h) (MonoG.cons (fun le h => h) (MonoG.cons (fun le h => h) (MonoG.cons (fun le h => h) (MonoG.cons (fun le h => h) (MonoG.cons (fun le h => ⟨h.1, h.2.mono le⟩) (MonoG.cons (fun le h => h) (MonoG.cons (fun le h => h) (MonoG.cons (fun le h => h) (MonoG.cons (fun le h => h) MonoG.nil)))))))))))) ?_ ?_
   ·refine stepsG.cons (fun vals Fs R leFs hpZ => ?_) ?_
    ·replace har := har.mono leFs
     replace hrs := hrs.mono leFs
     replace ht := ht.mono leFs
     replace hf1 := hf1.mono leFs
     replace hc1 := hc1.mono leFs
     replace hC := hC.mono leFs
     replace ha1 := ha1.mono leFs
     replace ha2 := ha2.mono leFs
     refine XG.op (XOp.loadN [arv, rsv] Try.isAgg33 Try.sizeOf33 rfl rfl (Rd.ownN [_] rfl rfl) ?_)
     exact ⟨rfl, rfl⟩
    refine stepsG.cons (fun vals Fs R leFs hpZ => ?_) ?_
    ·refine XG.op (XOp.move (ov) rfl ?_)
     exact ⟨rfl, rfl⟩
    refine stepsG.cons (fun vals Fs R leFs hpZ => ?_) ?_
    ·refine XG.op (XOp.move (.int .i64 (((k : Nat) : Int))) rfl ?_)
     exact ⟨rfl, rfl⟩
    refine stepsG.cons (fun vals Fs R leFs hpZ => ?_) ?_
    ·have e1 : vals 1 = ov := hpZ 1 (by decide)
     have e2 : vals 2 = (.int .i64 (((k : Nat) : Int)) : Value) := hpZ 2 (by decide)
     replace har := har.mono leFs
     replace hrs := hrs.mono leFs
     replace ht := ht.mono leFs
     replace hf1 := hf1.mono leFs
     replace hc1 := hc1.mono leFs
     replace hC := hC.mono leFs
     replace ha1 := ha1.mono leFs
     replace ha2 := ha2.mono leFs
     rw [(envs_of_sat (l := [(1, ov), (2, (.int .i64 (((k : Nat) : Int)) : Value))]) ⟨e1, e2, trivial⟩).symm]
     refine XG.op (XOp.indexS (v := ov) (i := ((k : Nat) : Int)) (n := on) k Try.runUnderlying87 Try.sizeOf91 rfl rfl rfl (SlV.own [] rfl) (by omega) rfl ?_)
     exact ⟨rfl, rfl⟩
    refine stepsG.cons (fun vals Fs R leFs hpZ => ?_) ?_
    ·have e3 : vals 3 = (.pointer (some (elemA ov (k * 6))) : Value) := hpZ 3 (by decide)
     rw [(envs_of_sat (l := [(3, (.pointer (some (elemA ov (k * 6))) : Value))]) ⟨e3, trivial⟩).symm]
     refine XG.op (XOp.fieldE (v := ov) (k * 6) Try.runUnderlying91 rfl Try.sizeOf22 (by decide) rfl rfl ?_)
     exact ⟨rfl, rfl⟩
    refine stepsG.cons (fun vals Fs R leFs hpZ => ?_) ?_
    ·have e4 : vals 4 = (.pointer (some (elemA ov (k * 6))) : Value) := hpZ 4 (by decide)
     replace har := har.mono leFs
     replace hrs := hrs.mono leFs
     replace ht := ht.mono leFs
     replace hf1 := hf1.mono leFs
     replace hc1 := hc1.mono leFs
     replace hC := hC.mono leFs
     replace ha1 := ha1.mono leFs
     replace ha2 := ha2.mono leFs
     rw [(envs_of_sat (l := [(4, (.pointer (some (elemA ov (k * 6))) : Value))]) ⟨e4, trivial⟩).symm]
     refine XG.op (XOp.load1 (v := a1) Try.isAgg22 rfl (Rd.sl [] rfl (hq1 0 _ rfl)) ?_)
     exact ⟨rfl, rfl⟩
    refine stepsG.cons (fun vals Fs R leFs hpZ => ?_) ?_
    ·have e0 : vals 0 = (.agg #[arv, rsv] : Value) := hpZ 0 (by decide)
     have e5 : vals 5 = a1 := hpZ 5 (by decide)
     replace har := har.mono leFs
     replace hrs := hrs.mono leFs
     replace ht := ht.mono leFs
     replace hf1 := hf1.mono leFs
     replace hc1 := hc1.mono leFs
     replace hC := hC.mono leFs
     replace ha1 := ha1.mono leFs
     replace ha2 := ha2.mono leFs
     rw [(envs_of_sat (l := [(0, (.agg #[arv, rsv] : Value)), (5, a1)]) ⟨e0, e5, trivial⟩).symm]
     refine XG.op (XOp.call (args := [.agg #[arv, rsv], a1]) Try.call84 rfl (stepsFrom_spec har hrs ha1 (hsys := (hsys)) (ho := (hdk (by omega)))) ?_)
     rintro _ F3 _ le3 ⟨x2, rfl, hx2, rfl⟩
     replace har := har.mono le3
     replace hrs := hrs.mono le3
     replace ht := ht.mono le3
     replace hf1 := hf1.mono le3
     replace hc1 := hc1.mono le3
     replace hC := hC.mono le3
     replace ha1 := ha1.mono le3
     replace ha2 := ha2.mono le3
     exact ⟨⟨rfl, (hx2.base leFs)⟩, rfl⟩
    refine stepsG.cons (fun vals Fs R leFs hpZ => ?_) ?_
    ·obtain ⟨e6, f6_1hx⟩ := hpZ 6 (by decide)
     rw [(envs_of_sat (l := [(6, (.tuple #[((tupAt (vals 6) 0)), .bool (longL ar rs ((os.getD k ([], 0, (0, 0, []), 0)).1))] : Value))]) ⟨(e6).symm, trivial⟩).symm]
     refine XG.op (XOp.move (.tuple #[((tupAt (vals 6) 0)), .bool (longL ar rs ((os.getD k ([], 0, (0, 0, []), 0)).1))]) rfl ?_)
     exact ⟨rfl, rfl⟩
    refine stepsG.cons (fun vals Fs R leFs hpZ => ?_) ?_
    ·obtain ⟨e6, f6_1hx⟩ := hpZ 6 (by decide)
     have e7 : vals 7 = (.tuple #[((tupAt (vals 6) 0)), .bool (longL ar rs ((os.getD k ([], 0, (0, 0, []), 0)).1))] : Value) := hpZ 7 (by decide)
     rw [(envs_of_sat (l := [(6, (.tuple #[((tupAt (vals 6) 0)), .bool (longL ar rs ((os.getD k ([], 0, (0, 0, []), 0)).1))] : Value)), (7, (.tuple #[((tupAt (vals 6) 0)), .bool (longL ar rs ((os.getD k ([], 0, (0, 0, []), 0)).1))] : Value))]) ⟨(e6).symm, e7, trivial⟩).symm]
     refine XG.op (XOp.extract (((tupAt (vals 6) 0))) rfl rfl ?_)
     exact ⟨rfl, rfl⟩
    refine stepsG.cons (fun vals Fs R leFs hpZ => ?_) ?_
    ·obtain ⟨e6, f6_1hx⟩ := hpZ 6 (by decide)
     have e7 : vals 7 = (.tuple #[((tupAt (vals 6) 0)), .bool (longL ar rs ((os.getD k ([], 0, (0, 0, []), 0)).1))] : Value) := hpZ 7 (by decide)
     rw [(envs_of_sat (l := [(6, (.tuple #[((tupAt (vals 6) 0)), .bool (longL ar rs ((os.getD k ([], 0, (0, 0, []), 0)).1))] : Value)), (7, (.tuple #[((tupAt (vals 6) 0)), .bool (longL ar rs ((os.getD k ([], 0, (0, 0, []), 0)).1))] : Value))]) ⟨(e6).symm, e7, trivial⟩).symm]
     refine XG.op (XOp.extract (.bool (longL ar rs ((os.getD k ([], 0, (0, 0, []), 0)).1))) rfl rfl ?_)
     exact ⟨rfl, rfl⟩
    refine stepsG.cons (fun vals Fs R leFs hpZ => ?_) ?_
    ·obtain ⟨e6, f6_1hx⟩ := hpZ 6 (by decide)
     have e8 : vals 8 = ((tupAt (vals 6) 0)) := hpZ 8 (by decide)
     rw [(envs_of_sat (l := [(6, (.tuple #[((tupAt (vals 6) 0)), .bool (longL ar rs ((os.getD k ([], 0, (0, 0, []), 0)).1))] : Value)), (8, ((tupAt (vals 6) 0)))]) ⟨(e6).symm, e8, trivial⟩).symm]
     refine XG.op (XOp.assign (((tupAt (vals 6) 0))) rfl ?_)
     exact ⟨rfl, rfl⟩
    exact stepsG.nil
   ·intro vals F4 le4 hphi
    have e0 : vals 0 = (.agg #[arv, rsv] : Value) := hphi 0 (by decide)
    have e1 : vals 1 = ov := hphi 1 (by decide)
    have e2 : vals 2 = (.int .i64 (((k : Nat) : Int)) : Value) := hphi 2 (by decide)
    have e3 : vals 3 = (.pointer (some (elemA ov (k * 6))) : Value) := hphi 3 (by decide)
    have e4 : vals 4 = (.pointer (some (elemA ov (k * 6))) : Value) := hphi 4 (by decide)
    have e5 : vals 5 = a1 := hphi 5 (by decide)
    obtain ⟨e6, f6_1hx⟩ := hphi 6 (by decide)
    have e7 : vals 7 = (.tuple #[((tupAt (vals 6) 0)), .bool (longL ar rs ((os.getD k ([], 0, (0, 0, []), 0)).1))] : Value) := hphi 7 (by decide)
    have e8 : vals 8 = ((tupAt (vals 6) 0)) := hphi 8 (by decide)
    have e9 : vals 9 = (.bool (longL ar rs ((os.getD k ([], 0, (0, 0, []), 0)).1)) : Value) := hphi 9 (by decide)
    have e10 : vals 10 = ((tupAt (vals 6) 0)) := hphi 10 (by decide)
    generalize hu1 : ((tupAt (vals 6) 0)) = u1 at e0 e1 e2 e3 e4 e5 e6 f6_1hx e7 e8 e9 e10
    rw [(envs_of_sat (l := [(0, (.agg #[arv, rsv] : Value)), (1, ov), (2, (.int .i64 (((k : Nat) : Int)) : Value)), (3, (.pointer (some (elemA ov (k * 6))) : Value)), (4, (.pointer (some (elemA ov (k * 6))) : Value)), (5, a1), (6, (.tuple #[u1, .bool (longL ar rs ((os.getD k ([], 0, (0, 0, []), 0)).1))] : Value)), (7, (.tuple #[u1, .bool (longL ar rs ((os.getD k ([], 0, (0, 0, []), 0)).1))] : Value)), (8, u1), (9, (.bool (longL ar rs ((os.getD k ([], 0, (0, 0, []), 0)).1)) : Value)), (10, u1)]) ⟨e0, e1, e2, e3, e4, e5, (e6).symm, e7, e8, e9, e10, trivial⟩).symm]
    replace har := har.mono le4
    replace hrs := hrs.mono le4
    replace ht := ht.mono le4
    replace hf1 := hf1.mono le4
    replace hc1 := hc1.mono le4
    replace hC := hC.mono le4
    replace ha1 := ha1.mono le4
    replace ha2 := ha2.mono le4
    show XL _ _ _ _ _ _ _ (slH 91 6 ov on ocs :: cellsH b1 [arv, rsv] 33 :: L)
    refine XL.cons (XOp.assign (.bool (longL ar rs ((os.getD k ([], 0, (0, 0, []), 0)).1))) rfl ?_)
    refine XL.nil ?_
    refine X.seq ?_
    refine X.region ?_
    obtain ⟨cso1, Lso1, hXo1, hDo1, hZo1⟩ := f6_1hx
    skip
    refine XL.cons (XOp.move (u1) rfl ?_)
    refine XL.cons (XOp.lenS (v := u1) (n := ((stepsL ar rs ((os.getD k ([], 0, (0, 0, []), 0)).1))).length) Try.runUnderlying39 rfl hXo1.slv ?_)
    refine XL.cons (XOp.move (.int .i64 (0)) rfl ?_)
    refine XL.nil ?_
    refine X.block ?_
    refine X.loop (α := Nat × Value × List FoundT × List Value × List HP × Nat × FH) (fun xQ => [(2, .int .i64 (n)), (3, ptr b1 0), (8, xQ.2.1), (9, .int .i64 (((k : Nat) : Int))), (41, u1), (42, .int .i64 (((((stepsL ar rs ((os.getD k ([], 0, (0, 0, []), 0)).1))).length : Nat) : Int))), (43, .int .i64 (((xQ.1 : Nat) : Int)))]) (fun xQ => slH 91 6 xQ.2.1 xQ.2.2.2.2.2.1 xQ.2.2.2.1 :: cellsH b1 [arv, rsv] 33 :: L) (fun xQ F' => xQ.2.2.2.2.2.2 = F' ∧ F4 ≤ xQ.2.2.2.2.2.2 ∧ (IsSl xQ.2.1) ∧ (FoundsC xQ.2.2.2.2.2.2 xQ.2.2.2.1 xQ.2.2.1) ∧ (xQ.2.2.2.2.2.1 = xQ.2.2.1.length) ∧ (DeepL 6 (FoundO 2) xQ.2.2.2.1 xQ.2.2.1 xQ.2.2.2.2.1) ∧ (Fresh F xQ.2.2.2.2.2.2 (star (xQ.2.2.2.2.1 ++ Lso1.drop xQ.1))) ∧ (xQ.1 ≤ (stepsL ar rs (os.getD k ([], 0, (0, 0, []), 0)).1).length) ∧ (xQ.2.2.1.length ≤ 60) ∧ (AllOk ar xQ.2.2.1) ∧ (DeepOk n xQ.2.2.1) ∧ (k < xQ.2.2.1.length) ∧ (EL xQ.2.2.1 k = EL os k) ∧ (addGo (k : Int) (EL os k).2.2.2 (stepsL ar rs (os.getD k ([], 0, (0, 0, []), 0)).1) os = addGo (k : Int) (EL os k).2.2.2 ((stepsL ar rs (os.getD k ([], 0, (0, 0, []), 0)).1).drop xQ.1) xQ.2.2.1)) (fun xQ => (stepsL ar rs (os.getD k ([], 0, (0, 0, []), 0)).1).length - xQ.1) (0, ov, os, ocs, Ts, on, F4) ⟨rfl, rfl, rfl, rfl, rfl, rfl, rfl, trivial⟩ (Sub.cons (Sub.cons (Sub.refl _))) ⟨rfl, FLe.refl _, (hov), (hC), (hn), (hD), ((Fresh.app hZ (FLe.trans le1 leG1) hZo1 le4)), (by (try dsimp only) <;> omega), (hl), (hok), (hdo), (by dsimp only; omega), (rfl), (rfl)⟩ ?_
    rintro ⟨q, pv, ps, pcs, Us, pn, G2⟩ rE _ _ ⟨rfl, leG, hpv, hCi, hni, hDi, hZi, hq, hli, hoki, hdi, hkp, hel, hgoi⟩
    show X _ _ _ _ (envs [(2, .int .i64 (n)), (3, ptr b1 0), (8, pv), (9, .int .i64 (((k : Nat) : Int))), (41, u1), (42, .int .i64 (((((stepsL ar rs ((os.getD k ([], 0, (0, 0, []), 0)).1))).length : Nat) : Int))), (43, .int .i64 (((q : Nat) : Int)))] rE) _ (slH 91 6 pv pn pcs :: cellsH b1 [arv, rsv] 33 :: L)
    replace leG : F4 ≤ G2 := leG
    dsimp only at hpv hCi hni hDi hZi hq hli hoki hdi hkp hel hgoi
    have hnl : (stepsL ar rs (os.getD k ([], 0, (0, 0, []), 0)).1).length ≤ 1000 := by have h9 := stepsTo_len (ar := ar) (t := (os.getD k ([], 0, (0, 0, []), 0)).1) (rs := rs) hrl (os.getD k ([], 0, (0, 0, []), 0)).1.length; have h8 := hdl (by omega); show (stepsTo ar rs (os.getD k ([], 0, (0, 0, []), 0)).1 (os.getD k ([], 0, (0, 0, []), 0)).1.length).length ≤ 1000; omega
    have hsok : q < (stepsL ar rs (os.getD k ([], 0, (0, 0, []), 0)).1).length → 1 ≤ ((stepsL ar rs (os.getD k ([], 0, (0, 0, []), 0)).1).getD q (0, 0, [])).2.2.length ∧ ((stepsL ar rs (os.getD k ([], 0, (0, 0, []), 0)).1).getD q (0, 0, [])).2.2.length ≤ 60 := fun h => termOk_len (steps_ok hsys (hdk (by omega)) h)
    have hdn : 0 ≤ (ps.getD k ([], 0, (0, 0, []), 0)).2.2.2 ∧ (ps.getD k ([], 0, (0, 0, []), 0)).2.2.2 ≤ 1000 := by have h8 : (EL ps k).2.2.2 = (EL os k).2.2.2 := (by rw [hel]); have h9 := hdo k (by omega); have h7 : (ps.getD k ([], 0, (0, 0, []), 0)).2.2.2 = (EL ps k).2.2.2 := rfl; omega
    have leG2 := leG
    replace har := har.mono leG2
    replace hrs := hrs.mono leG2
    replace ht := ht.mono leG2
    replace hf1 := hf1.mono leG2
    replace hc1 := hc1.mono leG2
    replace hC := hC.mono leG2
    replace ha1 := ha1.mono leG2
    replace ha2 := ha2.mono leG2
    replace hXo1 := hXo1.mono leG2
    refine X.seq ?_
    refine X.region ?_
    refine XL.cons (XOp.lss (a := ((q : Nat) : Int)) (b := ((((stepsL ar rs ((os.getD k ([], 0, (0, 0, []), 0)).1))).length : Nat) : Int)) rfl rfl ?_)
    refine XL.nil ?_
    refine X.seq ?_
    refine X.condD (p := (((q : Nat) : Int) : Int) < ((((stepsL ar rs ((os.getD k ([], 0, (0, 0, []), 0)).1))).length : Nat) : Int)) rfl (fun h3 => ?_) (fun h3 => ?_)
    ·refine X.skip ?_
     refine X.seq ?_
     refine X.block ?_
     refine X.seq ?_
     refine X.region ?_
     refine XL.cons (XOp.indexS (v := u1) (i := ((q : Nat) : Int)) (n := ((stepsL ar rs ((os.getD k ([], 0, (0, 0, []), 0)).1))).length) q Try.runUnderlying39 Try.sizeOf77 rfl rfl rfl hXo1.slv (by omega) rfl ?_)
     obtain ⟨a3, ha3, hr1, hr2, hr3, hq2⟩ := hXo1.rd (i := q) (by omega)
     refine XL.cons (XOp.loadN [.int .i64 ((((stepsL ar rs ((os.getD k ([], 0, (0, 0, []), 0)).1))).getD q (0, 0, [])).1), .int .i64 ((((stepsL ar rs ((os.getD k ([], 0, (0, 0, []), 0)).1))).getD q (0, 0, [])).2.1), a3] Try.isAgg77 Try.sizeOf77 rfl rfl (Rd.three (hr1 _) (hr2 _) (hr3 _)) ?_)
     refine XL.cons (XOp.alloc [.int .i64 (0), .int .i64 (0), (.slice none 0 0)] Try.zeroValue77 rfl ?_)
     intro b2
     refine XL.cons (XOp.storeN (vs := [.int .i64 ((((stepsL ar rs ((os.getD k ([], 0, (0, 0, []), 0)).1))).getD q (0, 0, [])).1), .int .i64 ((((stepsL ar rs ((os.getD k ([], 0, (0, 0, []), 0)).1))).getD q (0, 0, [])).2.1), a3]) [] _ [.int .i64 ((((stepsL ar rs ((os.getD k ([], 0, (0, 0, []), 0)).1))).getD q (0, 0, [])).1), .int .i64 ((((stepsL ar rs ((os.getD k ([], 0, (0, 0, []), 0)).1))).getD q (0, 0, [])).2.1), a3] Try.sizeOf77 rfl rfl rfl (ones_cons rfl (ones_cons rfl (ones_cons (one_sl (IntsF.isSl ha3)) ones_nil))) rfl rfl rfl ?_)
     refine XL.nil ?_
     refine X.seq ?_
     refine X.seq ?_
     refine X.region ?_
     refine XL.cons (XOp.move (pv) rfl ?_)
     refine XL.cons (XOp.fieldP (b := b2) (2) Try.runUnderlying77 rfl Try.sizeOf22 (by decide) rfl rfl ?_)
     refine XL.cons (XOp.load1 (v := a3) Try.isAgg22 rfl (Rd.own [] rfl rfl) ?_)
     refine XL.cons (XOp.lend [_] _ _ rfl (fun F5 le5 hz2 => ?_))
     have hf2 : FoundsF _ pv ps pcs := (FoundsC.fz (FoundsC.mono hCi (FLe.trans le5 (FLe.refl _))) (by first | rfl | assumption | omega | (rw [List.length_append]; simp only [List.length_singleton]; omega)) hz2 : FoundsF _ pv ps pcs)
     refine id (XOp.call (args := [pv, a3]) Try.call99 rfl (found_spec hf2 ((ha3.mono le5)) (hlt := (by omega)) (hlu := (by have := hsok (by omega); omega))) ?_)
     rintro _ _ _ _ ⟨rfl, rfl, rfl⟩
     show XL _ _ _ _ _ _ _ (slH 91 6 pv pn pcs :: cellsH b2 [.int .i64 ((((stepsL ar rs ((os.getD k ([], 0, (0, 0, []), 0)).1))).getD q (0, 0, [])).1), .int .i64 ((((stepsL ar rs ((os.getD k ([], 0, (0, 0, []), 0)).1))).getD q (0, 0, [])).2.1), a3] 77 :: cellsH b1 [arv, rsv] 33 :: L)
     refine XL.cons (XOp.geq (a := foundI ps ((((stepsL ar rs ((os.getD k ([], 0, (0, 0, []), 0)).1))).getD q (0, 0, [])).2.2)) (b := 0) rfl rfl ?_)
     refine XL.nil ?_
     refine X.condD (p := (foundI ps ((((stepsL ar rs ((os.getD k ([], 0, (0, 0, []), 0)).1))).getD q (0, 0, [])).2.2) : Int) ≥ 0) rfl (fun h4 => ?_) (fun h4 => ?_)
     ·have hin : isIn ps ((stepsL ar rs (os.getD k ([], 0, (0, 0, []), 0)).1).getD q (0, 0, [])).2.2 = true := foundI_iff.1 h4
      refine X.exit (thenQ_exit (blockQ_exit ?_))
      refine X.region ?_
      refine XL.cons (XOp.addR (a := ((q : Nat) : Int)) (b := 1) (((q + 1 : Nat) : Int)) rfl rfl (by omega) (by omega) ?_)
      refine XL.cons (XOp.move (.int .i64 (((q + 1 : Nat) : Int))) rfl ?_)
      refine XL.nil ?_
      exact ⟨(q + 1, pv, ps, pcs, Us, pn, G2), _, leG2, (FLe.refl _), ⟨rfl, rfl, rfl, rfl, rfl, rfl, rfl, trivial⟩, (Sub.cons (Sub.drop (Sub.cons (Sub.refl _)))), ⟨rfl, leG2, (hpv), (hCi), (hni), (hDi), ((Fresh.skipLeaf hZi ((hDo1.leaves).2 q a3 (by omega) hq2))), (by (try dsimp only) <;> omega), (by (try dsimp only) <;> omega), (hoki), (hdi), (by (try dsimp only) <;> omega), (hel), (by (try dsimp only); exact hgoi.trans (add_in (by omega) hin))⟩, (by omega)⟩
     ·have hnin : isIn ps ((stepsL ar rs (os.getD k ([], 0, (0, 0, []), 0)).1).getD q (0, 0, [])).2.2 = false := by rw [Bool.eq_false_iff]; exact fun h9 => h4 (foundI_iff.2 h9)
      refine X.skip ?_
      refine X.seq ?_
      refine X.seq ?_
      refine X.region ?_
      refine XL.cons (XOp.move (pv) rfl ?_)
      refine XL.cons (XOp.lenS (v := pv) (n := pn) Try.runUnderlying87 rfl (SlV.own [] rfl) ?_)
      refine XL.cons (XOp.eql (a := ((pn : Nat) : Int)) (b := 60) rfl rfl ?_)
      refine XL.nil ?_
      refine X.condD (p := (((pn : Nat) : Int) : Int) = 60) rfl (fun h5 => ?_) (fun h5 => ?_)
      ·refine X.seq ?_
       refine X.region ?_
       refine XL.cons (XOp.move (pv) rfl ?_)
       refine XL.cons (XOp.assign (pv) rfl ?_)
       refine XL.cons (XOp.assign (.bool (false)) rfl ?_)
       refine XL.nil ?_
       refine X.freezeF [] _ _ rfl (fun F6 le6 hz3 => ?_)
       replace har := har.mono le6
       replace hrs := hrs.mono le6
       replace ht := ht.mono le6
       replace hf1 := hf1.mono le6
       replace hc1 := hc1.mono le6
       replace hC := hC.mono le6
       replace ha1 := ha1.mono le6
       replace ha2 := ha2.mono le6
       replace hXo1 := hXo1.mono le6
       replace hCi := hCi.mono le6
       replace ha3 := ha3.mono le6
       replace hr1 := Rd.monoA hr1 le6
       replace hr2 := Rd.monoA hr2 le6
       replace hr3 := Rd.monoA hr3 le6
       have hf3 : FoundsF F6 pv ps pcs := FoundsC.fz hCi (by first | rfl | simp | omega) hz3.fz
       refine X.ret (thenQ_ret (blockQ_ret (thenQ_ret (thenQ_ret (blockQ_ret (blockQ_ret (thenQ_ret (thenQ_ret (blockQ_ret (thenQ_ret (retEnd (L' := L) [pv, .bool (false)] (.tuple #[pv, .bool (false)]) (.tmp rfl (.tmp rfl .nil)) rfl (FLe.trans (FLe.trans (FLe.trans (FLe.trans le1 leG1) le4) leG2) le6) (FLe.refl _) (Sub.drop (Sub.drop (Sub.refl _))) ?_)))))))))))
       have h9 := hgoi.trans (add_full (by omega) hnin (by omega))
       have h8 := reach_stop (ar := ar) (rs := rs) (n := n) (f := 60 - k - 1) (show k < os.length by omega) (by omega) hdeep (by rw [h9])
       have e9 : reachL ar rs t n = (ps, false) := (hgo.trans h8).trans h9
       rw [e9]
       exact ⟨_, _, _, rfl, hf3, hDi, ((Fresh.noMore hZi).mono le6), rfl⟩
      ·refine X.skip ?_
       obtain ⟨a4, a5, ha4, ha5, hq3⟩ := hCi.get (i := k) (by omega)
       refine X.draw [slH 91 6 pv pn pcs, cellsH b2 [.int .i64 ((((stepsL ar rs ((os.getD k ([], 0, (0, 0, []), 0)).1))).getD q (0, 0, [])).1), .int .i64 ((((stepsL ar rs ((os.getD k ([], 0, (0, 0, []), 0)).1))).getD q (0, 0, [])).2.1), a3] 77, cellsH b1 [arv, rsv] 33] L 13 [[], [], [], [], [], [], [], [], [], [], [], [], []] [[], [], [1], [], [], [], [], [5, 6], [7], [8], [9], [2, 3, 4, 10], [11]] (phiL [fun us v => v = pv, fun us v => v = ptr b2 2, fun us v => v = a3, fun us v => v = (.int .i64 (((k : Nat) : Int)) : Value), fun us v => v = (.agg #[.int .i64 ((((stepsL ar rs ((os.getD k ([], 0, (0, 0, []), 0)).1))).getD q (0, 0, [])).1), .int .i64 ((((stepsL ar rs ((os.getD k ([], 0, (0, 0, []), 0)).1))).getD q (0, 0, [])).2.1), a3] : Value), fun us v => v = pv, fun us v => v = (.int .i64 (((k : Nat) : Int)) : Value), fun us v => v = (.pointer (some (elemA pv (k * 6))) : Value), fun us v => v = (.pointer (some (elemA pv (k * 6 + 5))) : Value), fun us v => v = (.int .i64 ((ps.getD k ([], 0, (0, 0, []), 0)).2.2.2) : Value), fun us v => v = (.int .i64 (((ps.getD k ([], 0, (0, 0, []), 0)).2.2.2) + 1) : Value), fun us v => v = (.agg #[a3, .int .i64 (((k : Nat) : Int)), .int .i64 ((((stepsL ar rs ((os.getD k ([], 0, (0, 0, []), 0)).1))).getD q (0, 0, [])).1), .int .i64 ((((stepsL ar rs ((os.getD k ([], 0, (0, 0, []), 0)).1))).getD q (0, 0, [])).2.1), a3, .int .i64 (((ps.getD k ([], 0, (0, 0, []), 0)).2.2.2) + 1)] : Value), fun us v => ∃ b, v = .slice (some ⟨b, 0, none⟩) 1 1]) (ownL [fun us v => [], fun us v => [], fun us v => [], fun us v => [], fun us v => [], fun us v => [], fun us v => [], fun us v => [], fun us v => [], fun us v => [], fun us v => [], fun us v => [], fun us v => [slH 91 6 v 1 [a3, .int .i64 (((k : Nat) : Int)), .int .i64 ((((stepsL ar rs ((os.getD k ([], 0, (0, 0, []), 0)).1))).getD q (0, 0, [])).1), .int .i64 ((((stepsL ar rs ((os.getD k ([], 0, (0, 0, []), 0)).1))).getD q (0, 0, [])).2.1), a3, .int .i64 (((ps.getD k ([], 0, (0, 0, []), 0)).2.2.2) + 1)]]]) mixed rfl rfl (by kernel_rfl) ?_ ?_
       ·refine stepsP.cons (fun vals R hpZ => ?_) ?_
        ·refine XG.op (XOp.move (pv) rfl ?_)
         exact ⟨rfl, rfl, rfl⟩
        refine stepsP.cons (fun vals R hpZ => ?_) ?_
        ·refine XG.op (XOp.fieldP (b := b2) (2) Try.runUnderlying77 rfl Try.sizeOf22 (by decide) rfl rfl ?_)
         exact ⟨rfl, rfl, rfl⟩
        refine stepsP.cons (fun vals R hpZ => ?_) ?_
        ·rw [(envs_of_sat (l := [(1, ptr b2 2)]) ⟨hpZ 1 (by decide), trivial⟩).symm]
         refine XG.op (XOp.load1 (v := a3) Try.isAgg22 rfl (Rd.own [_] rfl rfl) ?_)
         exact ⟨rfl, rfl, rfl⟩
        refine stepsP.cons (fun vals R hpZ => ?_) ?_
        ·refine XG.op (XOp.move (.int .i64 (((k : Nat) : Int))) rfl ?_)
         exact ⟨rfl, rfl, rfl⟩
        refine stepsP.cons (fun vals R hpZ => ?_) ?_
        ·refine XG.op (XOp.loadN [.int .i64 ((((stepsL ar rs ((os.getD k ([], 0, (0, 0, []), 0)).1))).getD q (0, 0, [])).1), .int .i64 ((((stepsL ar rs ((os.getD k ([], 0, (0, 0, []), 0)).1))).getD q (0, 0, [])).2.1), a3] Try.isAgg77 Try.sizeOf77 rfl rfl (Rd.ownN [_] rfl rfl) ?_)
         exact ⟨rfl, rfl, rfl⟩
        refine stepsP.cons (fun vals R hpZ => ?_) ?_
        ·refine XG.op (XOp.move (pv) rfl ?_)
         exact ⟨rfl, rfl, rfl⟩
        refine stepsP.cons (fun vals R hpZ => ?_) ?_
        ·refine XG.op (XOp.move (.int .i64 (((k : Nat) : Int))) rfl ?_)
         exact ⟨rfl, rfl, rfl⟩
        refine stepsP.cons (fun vals R hpZ => ?_) ?_
        ·rw [(envs_of_sat (l := [(5, pv), (6, (.int .i64 (((k : Nat) : Int)) : Value))]) ⟨hpZ 5 (by decide), hpZ 6 (by decide), trivial⟩).symm]
         refine XG.op (XOp.indexS (v := pv) (i := ((k : Nat) : Int)) (n := pn) k Try.runUnderlying87 Try.sizeOf91 rfl rfl rfl (SlV.own [] rfl) (by omega) rfl ?_)
         exact ⟨rfl, rfl, rfl⟩
        refine stepsP.cons (fun vals R hpZ => ?_) ?_
        ·rw [(envs_of_sat (l := [(7, (.pointer (some (elemA pv (k * 6))) : Value))]) ⟨hpZ 7 (by decide), trivial⟩).symm]
         refine XG.op (XOp.fieldE (v := pv) (k * 6 + 5) Try.runUnderlying91 rfl Try.sizeOf2 (by decide) rfl rfl ?_)
         exact ⟨rfl, rfl, rfl⟩
        refine stepsP.cons (fun vals R hpZ => ?_) ?_
        ·rw [(envs_of_sat (l := [(8, (.pointer (some (elemA pv (k * 6 + 5))) : Value))]) ⟨hpZ 8 (by decide), trivial⟩).symm]
         refine XG.op (XOp.load1 (v := .int .i64 ((ps.getD k ([], 0, (0, 0, []), 0)).2.2.2)) Try.isAgg2 rfl (Rd.sl [] rfl (hq3 5 _ rfl)) ?_)
         exact ⟨rfl, rfl, rfl⟩
        refine stepsP.cons (fun vals R hpZ => ?_) ?_
        ·rw [(envs_of_sat (l := [(9, (.int .i64 ((ps.getD k ([], 0, (0, 0, []), 0)).2.2.2) : Value))]) ⟨hpZ 9 (by decide), trivial⟩).symm]
         refine XG.op (XOp.addR (a := (ps.getD k ([], 0, (0, 0, []), 0)).2.2.2) (b := 1) (((ps.getD k ([], 0, (0, 0, []), 0)).2.2.2) + 1) rfl rfl (by omega) (by omega) ?_)
         exact ⟨rfl, rfl, rfl⟩
        refine stepsP.cons (fun vals R hpZ => ?_) ?_
        ·rw [(envs_of_sat (l := [(2, a3), (3, (.int .i64 (((k : Nat) : Int)) : Value)), (4, (.agg #[.int .i64 ((((stepsL ar rs ((os.getD k ([], 0, (0, 0, []), 0)).1))).getD q (0, 0, [])).1), .int .i64 ((((stepsL ar rs ((os.getD k ([], 0, (0, 0, []), 0)).1))).getD q (0, 0, [])).2.1), a3] : Value)), (10, (.int .i64 (((ps.getD k ([], 0, (0, 0, []), 0)).2.2.2) + 1) : Value))]) ⟨hpZ 2 (by decide), hpZ 3 (by decide), hpZ 4 (by decide), hpZ 10 (by decide), trivial⟩).symm]
         refine XG.op (XOp.build [a3, .int .i64 (((k : Nat) : Int)), .int .i64 ((((stepsL ar rs ((os.getD k ([], 0, (0, 0, []), 0)).1))).getD q (0, 0, [])).1), .int .i64 ((((stepsL ar rs ((os.getD k ([], 0, (0, 0, []), 0)).1))).getD q (0, 0, [])).2.1), a3, .int .i64 (((ps.getD k ([], 0, (0, 0, []), 0)).2.2.2) + 1)] [(.slice none 0 0), .int .i64 (0), .int .i64 (0), .int .i64 (0), (.slice none 0 0), .int .i64 (0)] [(0, 1), (1, 1), (2, 3), (5, 1)] [(0, [a3]), (1, [.int .i64 (((k : Nat) : Int))]), (2, [.int .i64 ((((stepsL ar rs ((os.getD k ([], 0, (0, 0, []), 0)).1))).getD q (0, 0, [])).1), .int .i64 ((((stepsL ar rs ((os.getD k ([], 0, (0, 0, []), 0)).1))).getD q (0, 0, [])).2.1), a3]), (3, [.int .i64 (((ps.getD k ([], 0, (0, 0, []), 0)).2.2.2) + 1)])] Try.runUnderlying91 Try.zeroValue91 rfl (.cons rfl Try.sizeOf22 (.cons rfl Try.sizeOf3 (.cons rfl Try.sizeOf77 (.cons rfl Try.sizeOf2 PlacesAre.nil)))) rfl (.cons (cells_one (IntsF.isSl ha3)) (.cons rfl (.cons rfl (.cons rfl CellsAre.nil)))) ?_)
         exact ⟨rfl, rfl, rfl⟩
        refine stepsP.cons (fun vals R hpZ => ?_) ?_
        ·rw [(envs_of_sat (l := [(11, (.agg #[a3, .int .i64 (((k : Nat) : Int)), .int .i64 ((((stepsL ar rs ((os.getD k ([], 0, (0, 0, []), 0)).1))).getD q (0, 0, [])).1), .int .i64 ((((stepsL ar rs ((os.getD k ([], 0, (0, 0, []), 0)).1))).getD q (0, 0, [])).2.1), a3, .int .i64 (((ps.getD k ([], 0, (0, 0, []), 0)).2.2.2) + 1)] : Value))]) ⟨hpZ 11 (by decide), trivial⟩).symm]
         refine XG.op (XOp.buildSlice (s := 6) [a3, .int .i64 (((k : Nat) : Int)), .int .i64 ((((stepsL ar rs ((os.getD k ([], 0, (0, 0, []), 0)).1))).getD q (0, 0, [])).1), .int .i64 ((((stepsL ar rs ((os.getD k ([], 0, (0, 0, []), 0)).1))).getD q (0, 0, [])).2.1), a3, .int .i64 (((ps.getD k ([], 0, (0, 0, []), 0)).2.2.2) + 1)] [(.slice none 0 0), .int .i64 (0), .int .i64 (0), .int .i64 (0), (.slice none 0 0), .int .i64 (0)] [(0, [a3, .int .i64 (((k : Nat) : Int)), .int .i64 ((((stepsL ar rs ((os.getD k ([], 0, (0, 0, []), 0)).1))).getD q (0, 0, [])).1), .int .i64 ((((stepsL ar rs ((os.getD k ([], 0, (0, 0, []), 0)).1))).getD q (0, 0, [])).2.1), a3, .int .i64 (((ps.getD k ([], 0, (0, 0, []), 0)).2.2.2) + 1)])] Try.runUnderlying87 Try.sizeOf91 Try.zeroValue91 rfl (by decide) rfl (.cons rfl CellsAre.nil) rfl ?_)
         intro v4 hv3
         exact ⟨rfl, hv3, rfl⟩
        exact stepsP.nil
       ·intro vals hphi
        have e0 : vals 0 = pv := hphi 0 (by decide)
        have e1 : vals 1 = ptr b2 2 := hphi 1 (by decide)
        have e2 : vals 2 = a3 := hphi 2 (by decide)
        have e3 : vals 3 = (.int .i64 (((k : Nat) : Int)) : Value) := hphi 3 (by decide)
        have e4 : vals 4 = (.agg #[.int .i64 ((((stepsL ar rs ((os.getD k ([], 0, (0, 0, []), 0)).1))).getD q (0, 0, [])).1), .int .i64 ((((stepsL ar rs ((os.getD k ([], 0, (0, 0, []), 0)).1))).getD q (0, 0, [])).2.1), a3] : Value) := hphi 4 (by decide)
        have e5 : vals 5 = pv := hphi 5 (by decide)
        have e6 : vals 6 = (.int .i64 (((k : Nat) : Int)) : Value) := hphi 6 (by decide)
        have e7 : vals 7 = (.pointer (some (elemA pv (k * 6))) : Value) := hphi 7 (by decide)
        have e8 : vals 8 = (.pointer (some (elemA pv (k * 6 + 5))) : Value) := hphi 8 (by decide)
        have e9 : vals 9 = (.int .i64 ((ps.getD k ([], 0, (0, 0, []), 0)).2.2.2) : Value) := hphi 9 (by decide)
        have e10 : vals 10 = (.int .i64 (((ps.getD k ([], 0, (0, 0, []), 0)).2.2.2) + 1) : Value) := hphi 10 (by decide)
        have e11 : vals 11 = (.agg #[a3, .int .i64 (((k : Nat) : Int)), .int .i64 ((((stepsL ar rs ((os.getD k ([], 0, (0, 0, []), 0)).1))).getD q (0, 0, [])).1), .int .i64 ((((stepsL ar rs ((os.getD k ([], 0, (0, 0, []), 0)).1))).getD q (0, 0, [])).2.1), a3, .int .i64 (((ps.getD k ([], 0, (0, 0, []), 0)).2.2.2) + 1)] : Value) := hphi 11 (by decide)
        have f12 : ∃ b, (vals 12) = .slice (some ⟨b, 0, none⟩) 1 1 := hphi 12 (by decide)
        generalize hu12 : vals 12 = u2 at f12
        rw [(envs_of_sat (l := [(0, pv), (1, ptr b2 2), (2, a3), (3, (.int .i64 (((k : Nat) : Int)) : Value)), (4, (.agg #[.int .i64 ((((stepsL ar rs ((os.getD k ([], 0, (0, 0, []), 0)).1))).getD q (0, 0, [])).1), .int .i64 ((((stepsL ar rs ((os.getD k ([], 0, (0, 0, []), 0)).1))).getD q (0, 0, [])).2.1), a3] : Value)), (5, pv), (6, (.int .i64 (((k : Nat) : Int)) : Value)), (7, (.pointer (some (elemA pv (k * 6))) : Value)), (8, (.pointer (some (elemA pv (k * 6 + 5))) : Value)), (9, (.int .i64 ((ps.getD k ([], 0, (0, 0, []), 0)).2.2.2) : Value)), (10, (.int .i64 (((ps.getD k ([], 0, (0, 0, []), 0)).2.2.2) + 1) : Value)), (11, (.agg #[a3, .int .i64 (((k : Nat) : Int)), .int .i64 ((((stepsL ar rs ((os.getD k ([], 0, (0, 0, []), 0)).1))).getD q (0, 0, [])).1), .int .i64 ((((stepsL ar rs ((os.getD k ([], 0, (0, 0, []), 0)).1))).getD q (0, 0, [])).2.1), a3, .int .i64 (((ps.getD k ([], 0, (0, 0, []), 0)).2.2.2) + 1)] : Value)), (12, u2)]) ⟨e0, e1, e2, e3, e4, e5, e6, e7, e8, e9, e10, e11, hu12, trivial⟩).symm]
        show XL _ _ _ _ _ _ _ (slH 91 6 u2 1 [a3, .int .i64 (((k : Nat) : Int)), .int .i64 ((((stepsL ar rs ((os.getD k ([], 0, (0, 0, []), 0)).1))).getD q (0, 0, [])).1), .int .i64 ((((stepsL ar rs ((os.getD k ([], 0, (0, 0, []), 0)).1))).getD q (0, 0, [])).2.1), a3, .int .i64 (((ps.getD k ([], 0, (0, 0, []), 0)).2.2.2) + 1)] :: slH 91 6 pv pn pcs :: cellsH b2 [.int .i64 ((((stepsL ar rs ((os.getD k ([], 0, (0, 0, []), 0)).1))).getD q (0, 0, [])).1), .int .i64 ((((stepsL ar rs ((os.getD k ([], 0, (0, 0, []), 0)).1))).getD q (0, 0, [])).2.1), a3] 77 :: cellsH b1 [arv, rsv] 33 :: L)
        refine XL.cons (XOp.append (m := 1) (bytes := 80) (cs := pcs) [_] _ [a3, .int .i64 (((k : Nat) : Int)), .int .i64 ((((stepsL ar rs ((os.getD k ([], 0, (0, 0, []), 0)).1))).getD q (0, 0, [])).1), .int .i64 ((((stepsL ar rs ((os.getD k ([], 0, (0, 0, []), 0)).1))).getD q (0, 0, [])).2.1), a3, .int .i64 (((ps.getD k ([], 0, (0, 0, []), 0)).2.2.2) + 1)] Try.runUnderlying87 Try.typeInfo91 rfl rfl rfl rfl rfl rfl rfl (SlV.own [] rfl) rfl (Rd.lit [] rfl) (ones_cons (one_sl (IntsF.isSl ha3)) (ones_cons rfl (ones_cons rfl (ones_cons rfl (ones_cons (one_sl (IntsF.isSl ha3)) (ones_cons rfl ones_nil)))))) (by (try simp only [List.length_append, List.length_nil, List.length_cons, List.length_singleton]); omega) (by (try simp only [List.length_append, List.length_nil, List.length_cons, List.length_singleton]); omega) ?_)
        intro v5 hs2 hn1 hm1
        have hc2 := FoundsC.snoc hCi (y0 := (((stepsL ar rs ((os.getD k ([], 0, (0, 0, []), 0)).1))).getD q (0, 0, [])).2.2) (y1 := ((k : Nat) : Int)) (y2 := (((stepsL ar rs ((os.getD k ([], 0, (0, 0, []), 0)).1))).getD q (0, 0, [])).1) (y3 := (((stepsL ar rs ((os.getD k ([], 0, (0, 0, []), 0)).1))).getD q (0, 0, [])).2.1) (y4 := (((stepsL ar rs ((os.getD k ([], 0, (0, 0, []), 0)).1))).getD q (0, 0, [])).2.2) (y5 := ((ps.getD k ([], 0, (0, 0, []), 0)).2.2.2) + 1) ha3 ha3
        refine XL.cons (XOp.assign (v5) rfl ?_)
        refine XL.nil ?_
        refine X.region ?_
        refine XL.cons (XOp.addR (a := ((q : Nat) : Int)) (b := 1) (((q + 1 : Nat) : Int)) rfl rfl (by omega) (by omega) ?_)
        refine XL.cons (XOp.move (.int .i64 (((q + 1 : Nat) : Int))) rfl ?_)
        refine XL.nil ?_
        exact ⟨(q + 1, v5, ps ++ [((((stepsL ar rs ((os.getD k ([], 0, (0, 0, []), 0)).1))).getD q (0, 0, [])).2.2, ((k : Nat) : Int), ((((stepsL ar rs ((os.getD k ([], 0, (0, 0, []), 0)).1))).getD q (0, 0, [])).1, (((stepsL ar rs ((os.getD k ([], 0, (0, 0, []), 0)).1))).getD q (0, 0, [])).2.1, (((stepsL ar rs ((os.getD k ([], 0, (0, 0, []), 0)).1))).getD q (0, 0, [])).2.2), ((ps.getD k ([], 0, (0, 0, []), 0)).2.2.2) + 1)], pcs ++ [a3, .int .i64 (((k : Nat) : Int)), .int .i64 ((((stepsL ar rs ((os.getD k ([], 0, (0, 0, []), 0)).1))).getD q (0, 0, [])).1), .int .i64 ((((stepsL ar rs ((os.getD k ([], 0, (0, 0, []), 0)).1))).getD q (0, 0, [])).2.1), a3, .int .i64 (((ps.getD k ([], 0, (0, 0, []), 0)).2.2.2) + 1)], Us ++ [intsH 2 a3 ((stepsL ar rs (os.getD k ([], 0, (0, 0, []), 0)).1).getD q (0, 0, [])).2.2], (pn) + 1, G2), _, leG2, (FLe.refl _), ⟨rfl, rfl, rfl, rfl, rfl, rfl, rfl, trivial⟩, (Sub.drop (Sub.cons (Sub.drop (Sub.cons (Sub.refl _))))), ⟨rfl, leG2, (hs2), (hc2), (by (try dsimp only); rw [List.length_append, List.length_singleton]; omega), (DeepL.snoc hDi rfl ⟨_, _, rfl, rfl⟩), ((Fresh.keepLeaf hZi ((hDo1.leaves).2 q a3 (by omega) hq2))), (by (try dsimp only) <;> omega), (by (try dsimp only); rw [List.length_append, List.length_singleton]; omega), (hoki.snoc (steps_ok hsys (hdk (by omega)) (by omega))), (hdi.snoc (by have h9 := hdo k (by omega); have h8 : (EL ps k).2.2.2 = (EL os k).2.2.2 := (by rw [hel]); have h7 : (EL ps k).2.2.2 = (ps.getD k ([], 0, (0, 0, []), 0)).2.2.2 := rfl; have h6 : (EL os k).2.2.2 = (os.getD k ([], 0, (0, 0, []), 0)).2.2.2 := rfl; dsimp only; omega)), (by (try dsimp only); rw [List.length_append, List.length_singleton]; omega), (by (try dsimp only); rw [EL_snoc (by omega)]; exact hel), (by (try dsimp only); rw [show (ps.getD k ([], 0, (0, 0, []), 0)) = EL os k from hel]; exact hgoi.trans (add_new (by omega) hnin (by omega)))⟩, (by omega)⟩
    ·refine X.exit (thenQ_exit (thenQ_exit (blockQ_exit ?_)))
     refine X.region ?_
     refine XL.cons (XOp.move (.int .i64 (((k : Nat) : Int))) rfl ?_)
     refine XL.cons (XOp.addR (a := ((k : Nat) : Int)) (b := 1) (((k + 1 : Nat) : Int)) rfl rfl (by omega) (by omega) ?_)
     refine XL.cons (XOp.assign (.int .i64 (((k + 1 : Nat) : Int))) rfl ?_)
     refine XL.nil ?_
     exact ⟨(k + 1, pv, ps, pcs, Us, pn, G2), _, (FLe.trans (FLe.trans leG1 le4) leG2), (FLe.refl _), ⟨rfl, rfl, rfl, rfl, trivial⟩, (Sub.cons (Sub.cons (Sub.refl _))), ⟨rfl, (FLe.trans (FLe.trans leG1 le4) leG2), (hpv), (hCi), (hni), (hDi), ((Fresh.noMore hZi)), (by (try dsimp only); omega), (by (try dsimp only) <;> omega), (hoki), (hdi), (by (try dsimp only); have h9 := hgoi.trans (add_end (by omega)); have h8 := reach_more (ar := ar) (rs := rs) (n := n) (f := 60 - k - 1) (show k < os.length by omega) (by omega) hdeep (by rw [h9]); rw [h9] at h8; exact hgo.trans h8)⟩, (by (try dsimp only); omega)⟩
 ·refine X.exit (thenQ_exit (thenQ_exit (blockQ_exit ?_)))
  refine X.seq ?_
  refine X.region ?_
  refine XL.cons (XOp.move (ov) rfl ?_)
  refine XL.cons (XOp.assign (ov) rfl ?_)
  refine XL.cons (XOp.assign (.bool (true)) rfl ?_)
  refine XL.nil ?_
  refine X.freezeF [] _ _ rfl (fun F7 le7 hz4 => ?_)
  replace har := har.mono le7
  replace hrs := hrs.mono le7
  replace ht := ht.mono le7
  replace hf1 := hf1.mono le7
  replace hc1 := hc1.mono le7
  replace hC := hC.mono le7
  have hf4 : FoundsF F7 ov os ocs := FoundsC.fz hC (by first | rfl | simp | omega) hz4.fz
  refine X.ret (retEnd (L' := L) [ov, .bool (true)] (.tuple #[ov, .bool (true)]) (.tmp rfl (.tmp rfl .nil)) rfl (FLe.trans (FLe.trans le1 leG1) le7) (FLe.refl _) (Sub.drop (Sub.refl _)) ?_)
  have e9 : reachL ar rs t n = (os, true) := hgo.trans (reach_done (by omega) hl)
  rw [e9]
  exact ⟨_, _, _, rfl, hf4, hD, (hZ.mono le7), rfl⟩

/- impl.reachOk -/
theorem reachOk_spec {F : FH} {L : List HP} {arv : Value} {ar : List Int} (har : IntsF F arv ar) {rsv : Value} {rs : List (List Int × List Int)} (hrs : PairsF F rsv rs) {n : Int} {tsv : Value} {ts : List (List Int)} (hts : RowsF F tsv ts) (hlt : ts.length ≤ 4000000) :
    Does Try.prog 51 [.agg #[arv, rsv], .int .i64 (n), tsv] F (L) (fun v F' L' => (.bool (reachOkL ar rs n ts) : Value) = v ∧ F = F' ∧ L = L') := by
 refine Does.of_X Try.func51 rfl rfl rfl ?_
 refine X.seq ?_
 refine X.region ?_
 refine XL.cons (XOp.box [arv, rsv] rfl rfl ?_)
 intro b1
 refine XL.cons (XOp.assign (.bool (false)) rfl ?_)
 refine XL.nil ?_
 refine X.seq ?_
 refine X.seq ?_
 refine X.region ?_
 refine XL.cons (XOp.loadN [arv, rsv] Try.isAgg33 Try.sizeOf33 rfl rfl (Rd.ownN [] rfl rfl) ?_)
 refine XL.cons (XOp.call (args := [.agg #[arv, rsv]]) Try.call55 rfl (SystemOk_spec har hrs) ?_)
 rintro _ _ _ _ ⟨rfl, rfl, rfl⟩
 refine XL.cons (XOp.notB (b := sysOk ar rs) rfl ?_)
 refine XL.cons (XOp.move (.bool (!(sysOk ar rs))) rfl ?_)
 by_cases h1 : (!(sysOk ar rs)) = true
 ·refine XL.no (t := 12) rfl (congrArg Value.bool h1) ?_
  refine XL.no (t := 12) rfl (congrArg Value.bool h1) ?_
  refine XL.cons (XOp.pickT (.bool (true)) (congrArg Value.bool h1) rfl ?_)
  refine XL.cons (XOp.move (.bool (true)) rfl ?_)
  refine XL.no (t := 16) rfl rfl ?_
  refine XL.no (t := 16) rfl rfl ?_
  refine XL.cons (XOp.pickT (.bool (true)) rfl rfl ?_)
  refine XL.nil ?_
  refine X.condT rfl ?_
  refine X.seq ?_
  refine X.region ?_
  refine XL.cons (XOp.assign (.bool (false)) rfl ?_)
  refine XL.nil ?_
  refine X.ret (thenQ_ret (retEnd (L' := L) [.bool (false)] (.bool (false)) (.tmp rfl .nil) rfl (FLe.refl _) (FLe.refl _) (Sub.drop (Sub.refl _)) ?_))
  exact ⟨(congrArg Value.bool (by unfold reachOkL; simp_all <;> omega)), rfl, rfl⟩
 ·rw [Bool.not_eq_true] at h1
  refine XL.yes (t := 12) rfl (congrArg Value.bool h1) (XOp.move (.int .i64 (n)) rfl ?_)
  refine XL.yes (t := 12) rfl (congrArg Value.bool h1) (XOp.lss (a := n) (b := 0) rfl rfl ?_)
  refine XL.cons (XOp.pickF (.bool (decide ((n : Int) < 0))) (congrArg Value.bool h1) rfl ?_)
  refine XL.cons (XOp.move (.bool (decide ((n : Int) < 0))) rfl ?_)
  by_cases h2 : (n : Int) < 0
  ·refine XL.no (t := 16) rfl (congrArg Value.bool (decide_eq_true h2)) ?_
   refine XL.no (t := 16) rfl (congrArg Value.bool (decide_eq_true h2)) ?_
   refine XL.cons (XOp.pickT (.bool (true)) (congrArg Value.bool (decide_eq_true h2)) rfl ?_)
   refine XL.nil ?_
   refine X.condT rfl ?_
   refine X.seq ?_
   refine X.region ?_
   refine XL.cons (XOp.assign (.bool (false)) rfl ?_)
   refine XL.nil ?_
   refine X.ret (thenQ_ret (retEnd (L' := L) [.bool (false)] (.bool (false)) (.tmp rfl .nil) rfl (FLe.refl _) (FLe.refl _) (Sub.drop (Sub.refl _)) ?_))
   exact ⟨(congrArg Value.bool (by unfold reachOkL; simp_all <;> omega)), rfl, rfl⟩
  ·refine XL.yes (t := 16) rfl (congrArg Value.bool (decide_eq_false h2)) (XOp.move (.int .i64 (n)) rfl ?_)
   refine XL.yes (t := 16) rfl (congrArg Value.bool (decide_eq_false h2)) (XOp.gtr (a := n) (b := 20) rfl rfl ?_)
   refine XL.cons (XOp.pickF (.bool (decide ((n : Int) > 20))) (congrArg Value.bool (decide_eq_false h2)) rfl ?_)
   refine XL.nil ?_
   refine X.condD (p := (n : Int) > 20) rfl (fun h3 => ?_) (fun h3 => ?_)
   ·refine X.seq ?_
    refine X.region ?_
    refine XL.cons (XOp.assign (.bool (false)) rfl ?_)
    refine XL.nil ?_
    refine X.ret (thenQ_ret (retEnd (L' := L) [.bool (false)] (.bool (false)) (.tmp rfl .nil) rfl (FLe.refl _) (FLe.refl _) (Sub.drop (Sub.refl _)) ?_))
    exact ⟨(congrArg Value.bool (by unfold reachOkL; simp_all <;> omega)), rfl, rfl⟩
   ·refine X.skip ?_
    refine X.seq ?_
    refine X.seq ?_
    refine X.region ?_
    refine XL.cons (XOp.move (tsv) rfl ?_)
    refine XL.cons (XOp.lenS (v := tsv) (n := (ts).length) Try.runUnderlying49 rfl hts.slv ?_)
    refine XL.cons (XOp.move (.int .i64 (0)) rfl ?_)
    refine XL.nil ?_
    refine X.block ?_
    refine X.loop (α := Nat) (fun k => [(3, ptr b1 0), (20, tsv), (21, .int .i64 ((((ts).length : Nat) : Int))), (22, .int .i64 (((k : Nat) : Int)))]) (fun k => cellsH b1 [arv, rsv] 33 :: L) (fun k F' => F = F' ∧ (k ≤ ts.length) ∧ (∀ i, i < k → termOk ar (ts.getD i []) = true)) (fun k => ts.length - k) 0 ⟨rfl, rfl, rfl, rfl, trivial⟩ (Sub.cons (Sub.refl _)) ⟨rfl, (by (try dsimp only) <;> omega), (fun i hi => absurd hi (by omega))⟩ ?_
    rintro k rE _ _ ⟨rfl, hk, hall⟩
    show X _ _ _ _ (envs [(3, ptr b1 0), (20, tsv), (21, .int .i64 ((((ts).length : Nat) : Int))), (22, .int .i64 (((k : Nat) : Int)))] rE) _ (cellsH b1 [arv, rsv] 33 :: L)
    refine X.seq ?_
    refine X.region ?_
    refine XL.cons (XOp.lss (a := ((k : Nat) : Int)) (b := (((ts).length : Nat) : Int)) rfl rfl ?_)
    refine XL.nil ?_
    refine X.seq ?_
    refine X.condD (p := (((k : Nat) : Int) : Int) < (((ts).length : Nat) : Int)) rfl (fun h4 => ?_) (fun h4 => ?_)
    ·refine X.skip ?_
     refine X.seq ?_
     refine X.block ?_
     refine X.seq ?_
     refine X.region ?_
     refine XL.cons (XOp.indexS (v := tsv) (i := ((k : Nat) : Int)) (n := (ts).length) k Try.runUnderlying49 Try.sizeOf22 rfl rfl rfl hts.slv (by omega) (Nat.mul_one _) ?_)
     obtain ⟨a1, ha1, hr1⟩ := hts.rd (i := k) (by omega)
     refine XL.cons (XOp.load1 (v := a1) Try.isAgg22 rfl (hr1 _) ?_)
     refine XL.cons (XOp.assign (a1) rfl ?_)
     refine XL.nil ?_
     refine X.seq ?_
     refine X.region ?_
     refine XL.cons (XOp.fieldP (b := b1) (0) Try.runUnderlying33 rfl Try.sizeOf30 (by decide) rfl rfl ?_)
     refine XL.cons (XOp.loadN [arv] Try.isAgg30 Try.sizeOf30 rfl rfl (Rd.ownN [] rfl rfl) ?_)
     refine XL.cons (XOp.move (a1) rfl ?_)
     refine XL.cons (XOp.call (args := [.agg #[arv], a1]) Try.call56 rfl (TermOk_spec har ha1) ?_)
     rintro _ _ _ _ ⟨rfl, rfl, rfl⟩
     refine XL.cons (XOp.notB (b := termOk ar ((ts.getD k []))) rfl ?_)
     refine XL.nil ?_
     refine X.cond (t := !(termOk ar ((ts.getD k [])))) rfl (fun h5 => ?_) (fun h5 => ?_)
     ·refine X.seq ?_
      refine X.region ?_
      refine XL.cons (XOp.assign (.bool (false)) rfl ?_)
      refine XL.nil ?_
      refine X.ret (blockQ_ret (thenQ_ret (thenQ_ret (blockQ_ret (thenQ_ret (retEnd (L' := L) [.bool (false)] (.bool (false)) (.tmp rfl .nil) rfl (FLe.refl _) (FLe.refl _) (Sub.drop (Sub.refl _)) ?_))))))
      exact ⟨(congrArg Value.bool (reachOk_fail (k := k) (by omega) (by simp_all))), rfl, rfl⟩
     ·refine X.skip ?_
      refine X.region ?_
      refine XL.cons (XOp.addR (a := ((k : Nat) : Int)) (b := 1) (((k + 1 : Nat) : Int)) rfl rfl (by omega) (by omega) ?_)
      refine XL.cons (XOp.move (.int .i64 (((k + 1 : Nat) : Int))) rfl ?_)
      refine XL.nil ?_
      exact ⟨k + 1, _, FLe.refl _, (FLe.refl _), ⟨rfl, rfl, rfl, rfl, trivial⟩, (Sub.cons (Sub.refl _)), ⟨rfl, (by (try dsimp only) <;> omega), (fun i hi => (Nat.lt_or_ge i k).elim (fun h => hall i h) (fun h => by obtain rfl : i = k := (by omega); simp_all))⟩, (by omega)⟩
    ·refine X.exit (thenQ_exit (thenQ_exit (blockQ_exit ?_)))
     refine X.seq ?_
     refine X.region ?_
     refine XL.cons (XOp.assign (.bool (true)) rfl ?_)
     refine XL.nil ?_
     refine X.ret (retEnd (L' := L) [.bool (true)] (.bool (true)) (.tmp rfl .nil) rfl (FLe.refl _) (FLe.refl _) (Sub.drop (Sub.refl _)) ?_)
     exact ⟨(congrArg Value.bool (reachOk_all (by simp_all) (by omega) (fun i hi => hall i (by omega)))), rfl, rfl⟩
end Go.Proofs.Ytiaanelimbmniaa
