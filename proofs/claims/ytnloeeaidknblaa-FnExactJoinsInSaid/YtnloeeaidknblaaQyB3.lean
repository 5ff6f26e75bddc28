/-
  Walks, one after the other (part 4).
-/
import Derived.Test.YtnloeeaidknblaaQyL1
import Derived.Test.YtnloeeaidknblaaQyB2
set_option linter.unusedSimpArgs false
set_option linter.unusedVariables false
namespace Go.Proofs.Ytnloeeaidknblaa
open Go X M

/- spec.l9Walk -/
theorem l9Walk_spec {F : FH} {L : List HP} {x1v x2v x3v x4v : Value} {al : List FoundT} {ab : Bool} (hx1 : RowsF F x1v (terms al)) (hx2 : IntsF F x2v (froms al)) (hx3 : StepsF F x3v (bys al)) (hx4 : IntsF F x4v (deeps al)) {k : Nat} (hk : k < al.length) (hll : al.length ≤ 60) (hlk : Link al) (hbd : ∀ i, i < al.length → (EL al i).1.length ≤ 60) :
    Does Try.prog 127 [.agg #[x1v, x2v, x3v, x4v, .bool (ab)], .int .i64 ((k : Int))] F (L) (fun v F' L' => ∃ (a : Value), ∃ (b : Value), (.agg #[a, b] : Value) = v ∧ (IntsF F' a (EL al 0).1) ∧ (StepsF F' b (walkL al k)) ∧ (Fresh F F' (star [intsH 2 a (EL al 0).1, stepsD 2 119 b (walkL al k)])) ∧ L = L') := by
 refine Does.of_X Try.func127 rfl rfl rfl ?_
 have htl9 : (terms al).length = al.length := terms_len
 have hfl9 : (froms al).length = al.length := froms_len
 have hbl9 : (bys al).length = al.length := bys_len
 have ht0 : ((terms al).getD 0 []).length ≤ 60 := by rw [terms_get]; exact hbd 0 (by omega)
 refine X.seq (X.region ?_)
 refine XL.cons (XOp.box [x1v, x2v, x3v, x4v, .bool (ab)] rfl rfl ?_)
 intro b1
 refine XL.cons (XOp.alloc [(.slice none 0 0), (.slice none 0 0)] Try.zeroValue73 rfl ?_)
 intro b2
 refine XL.nil (X.seq (X.region ?_))
 refine XL.cons (XOp.buildSlice (s := 3) [] [.int .i64 (0), .int .i64 (0), (.slice none 0 0)] [] Try.runUnderlying71 Try.sizeOf119 Try.zeroValue119 rfl (by decide) rfl CellsAre.nil rfl ?_)
 intro v1 hv1
 refine XL.as (v1) rfl ?_
 refine XL.nil (X.seq (X.block ?_))
 refine X.loop (α := Nat × Value × List StepT × List Value × Nat) (fun xQ => [(1, .int .i64 (((xQ.1 : Nat) : Int))), (2, ptr b1 0), (4, ptr b2 0), (5, xQ.2.1)]) (fun xQ => slH 119 3 xQ.2.1 xQ.2.2.2.2 xQ.2.2.2.1 :: cellsH b2 [(.slice none 0 0), (.slice none 0 0)] 73 :: cellsH b1 [x1v, x2v, x3v, x4v, .bool (ab)] 111 :: L) (fun xQ F' => F = F' ∧ (xQ.1 < al.length) ∧ (IsSl xQ.2.1) ∧ (StepsC F xQ.2.2.2.1 xQ.2.2.1) ∧ (xQ.2.2.2.2 = xQ.2.2.1.length) ∧ (xQ.2.2.2.2 + xQ.1 ≤ k) ∧ (backL al k = xQ.2.2.1 ++ backL al xQ.1)) (fun xQ => xQ.1) (k, v1, [], [], 0) ⟨rfl, rfl, rfl, rfl, trivial⟩ (Sub.cons (Sub.cons (Sub.cons sR))) ⟨rfl, (hk), ((isSl_lit hv1)), (CO.nil), (rfl), (by (try dsimp only) <;> omega), (rfl)⟩ ?_
 rintro ⟨j, bv, bs, bcs, bm⟩ rE _ _ ⟨rfl, hj, hbv, hB, hbm, hmj, hbk⟩
 show X _ _ _ _ (envs [(1, .int .i64 ((j : Int))), (2, ptr b1 0), (4, ptr b2 0), (5, bv)] rE) _ (slH 119 3 bv bm bcs :: cellsH b2 [(.slice none 0 0), (.slice none 0 0)] 73 :: cellsH b1 [x1v, x2v, x3v, x4v, .bool (ab)] 111 :: L)
 dsimp only at hj hbv hB hbm hmj hbk
 have hlj := fun (h : 0 < j) => hlk.2 j h hj
 have hfj : ((froms al).getD j 0) = (EL al j).2.1 := froms_get hj
 have hljx : 0 < j → 0 ≤ ((froms al).getD j 0) ∧ ((froms al).getD j 0) < (j : Int) := fun h => ⟨by rw [hfj]; exact (hlj h).1, by rw [hfj]; exact (hlj h).2.1⟩
 have hlj0 : j = 0 → ((froms al).getD j 0) = -1 := fun h => by rw [hfj, h]; exact hlk.1.2.1
 refine X.seq (X.seq (X.region ?_))
 refine XL.cons (XOp.fieldP (b := b1) (1) Try.runUnderlying111 rfl Try.sizeOf22 (by decide) rfl rfl ?_)
 refine XL.cons (XOp.load1 (v := x2v) Try.isAgg22 rfl (Rd.own [_, _] rfl rfl) ?_)
 refine XL.mv (.int .i64 ((j : Int))) rfl ?_
 refine XL.cons (XOp.indexS (v := x2v) (i := (j : Int)) (n := (froms al).length) j Try.runUnderlying22 Try.sizeOf2 rfl rfl rfl hx2.slv (by omega) (Nat.mul_one _) ?_)
 refine XL.cons (XOp.load1 (v := .int .i64 ((froms al).getD j 0)) Try.isAgg2 rfl (hx2.rd (by omega)) ?_)
 refine XL.cons (XOp.geq (a := (froms al).getD j 0) (b := 0) rfl rfl ?_)
 refine XL.nil ?_
 refine X.condD (p := ((froms al).getD j 0 : Int) ≥ 0) rfl (fun h1 => ?_) (fun h1 => ?_)
 ·refine X.skip (X.block (X.seq (X.region ?_)))
  refine XL.mv (bv) rfl ?_
  refine XL.cons (XOp.fieldP (b := b1) (2) Try.runUnderlying111 rfl Try.sizeOf71 (by decide) rfl rfl ?_)
  refine XL.cons (XOp.load1 (v := x3v) Try.isAgg71 rfl (Rd.own [_, _] rfl rfl) ?_)
  refine XL.mv (.int .i64 ((j : Int))) rfl ?_
  refine XL.cons (XOp.indexS (v := x3v) (i := (j : Int)) (n := (bys al).length) j Try.runUnderlying71 Try.sizeOf119 rfl rfl rfl hx3.slv (by omega) rfl ?_)
  obtain ⟨a1, ha1, hr1, hr2, hr3⟩ := hx3.rd (i := j) (by omega)
  refine XL.cons (XOp.loadN [.int .i64 (((bys al).getD j (0, 0, [])).1), .int .i64 (((bys al).getD j (0, 0, [])).2.1), a1] Try.isAgg119 Try.sizeOf119 rfl rfl (Rd.three (hr1 _) (hr2 _) (hr3 _)) ?_)
  refine XL.cons (XOp.buildSlice (s := 3) [.int .i64 (((bys al).getD j (0, 0, [])).1), .int .i64 (((bys al).getD j (0, 0, [])).2.1), a1] [.int .i64 (0), .int .i64 (0), (.slice none 0 0)] [(0, [.int .i64 (((bys al).getD j (0, 0, [])).1), .int .i64 (((bys al).getD j (0, 0, [])).2.1), a1])] Try.runUnderlying71 Try.sizeOf119 Try.zeroValue119 rfl (by decide) rfl (.cons rfl CellsAre.nil) rfl ?_)
  intro v2 hv2
  refine XL.cons (XOp.append (m := 1) (bytes := 40) (cs := bcs) [_] _ [.int .i64 (((bys al).getD j (0, 0, [])).1), .int .i64 (((bys al).getD j (0, 0, [])).2.1), a1] Try.runUnderlying71 Try.typeInfo119 rfl rfl rfl rfl rfl rfl rfl (SlV.own [] rfl) rfl (Rd.lit [] rfl) (ones_cons rfl (ones_cons rfl (ones_cons (one_sl (IntsF.isSl ha1)) ones_nil))) (by (try simp only [List.length_append, List.length_nil, List.length_cons, List.length_singleton]); omega) (by (try simp only [List.length_append, List.length_nil, List.length_cons, List.length_singleton]); omega) ?_)
  intro v3 hs1 hn1 hm1
  have hc1 := StepsC.snoc hB (i := ((bys al).getD j (0, 0, [])).1) (j := ((bys al).getD j (0, 0, [])).2.1) ha1
  refine XL.as (v3) rfl ?_
  refine XL.nil (X.region ?_)
  refine XL.cons (XOp.fieldP (b := b1) (1) Try.runUnderlying111 rfl Try.sizeOf22 (by decide) rfl rfl ?_)
  refine XL.cons (XOp.load1 (v := x2v) Try.isAgg22 rfl (Rd.own [_, _, _] rfl rfl) ?_)
  refine XL.mv (.int .i64 ((j : Int))) rfl ?_
  refine XL.cons (XOp.indexS (v := x2v) (i := (j : Int)) (n := (froms al).length) j Try.runUnderlying22 Try.sizeOf2 rfl rfl rfl hx2.slv (by omega) (Nat.mul_one _) ?_)
  refine XL.cons (XOp.load1 (v := .int .i64 ((froms al).getD j 0)) Try.isAgg2 rfl (hx2.rd (by omega)) ?_)
  refine XL.as (.int .i64 ((froms al).getD j 0)) rfl ?_
  refine XL.nil ?_
  exact ⟨(((froms al).getD j 0).toNat, v3, bs ++ [(((bys al).getD j (0, 0, [])).1, ((bys al).getD j (0, 0, [])).2.1, ((bys al).getD j (0, 0, [])).2.2)], bcs ++ [.int .i64 (((bys al).getD j (0, 0, [])).1), .int .i64 (((bys al).getD j (0, 0, [])).2.1), a1], (bm) + 1), _, FLe.refl _, rF, ⟨(vI (by have := hljx (by omega); (try dsimp only); omega)), rfl, rfl, rfl, trivial⟩, (Sub.drop (Sub.cons (Sub.cons (Sub.cons sR)))), ⟨rfl, (by have := hljx (by omega); (try dsimp only); omega), (hs1), (hc1), (by (try dsimp only); rw [List.length_append, List.length_singleton]; omega), (by have := hljx (by omega); (try dsimp only); omega), (by (try dsimp only); rw [hbk, backL_succ hlk (by omega) hj, List.append_assoc, bys_get hj, hfj]; rfl)⟩, (by have := hljx (by omega); (try dsimp only); omega)⟩
 ·refine X.exit (thenQ_exit (thenQ_exit (blockQ_exit ?_)))
  refine X.seq (X.region ?_)
  refine XL.cons (XOp.fieldP (b := b1) (0) Try.runUnderlying111 rfl Try.sizeOf47 (by decide) rfl rfl ?_)
  refine XL.cons (XOp.load1 (v := x1v) Try.isAgg47 rfl (Rd.own [_, _] rfl rfl) ?_)
  refine XL.cons (XOp.indexS (v := x1v) (i := 0) (n := (terms al).length) 0 Try.runUnderlying47 Try.sizeOf22 rfl rfl rfl hx1.slv (by omega) (Nat.mul_one _) ?_)
  obtain ⟨a2, ha2, hr4⟩ := hx1.rd (i := 0) (by omega)
  refine XL.cons (XOp.load1 (v := a2) Try.isAgg22 rfl (hr4 _) ?_)
  refine XL.cons (XOp.frzF <| XOp.call (args := [a2]) Try.call88 rfl (l1Copy_spec ha2 (hlt := (by first | omega | (rw [hi9 (by omega)]; have := htbi (by omega); omega)))) ?_)
  rintro v4 _ _ _ ⟨rfl, hs2, rfl⟩
  refine ⟨_, _, rfl, fun F1 le1 hz1 => ?_⟩
  replace hx1 := hx1.mono le1
  replace hx2 := hx2.mono le1
  replace hx3 := hx3.mono le1
  replace hx4 := hx4.mono le1
  replace hB := hB.mono le1
  replace ha2 := ha2.mono le1
  replace hr4 := Rd.monoA hr4 le1
  have hf1 : IntsF F1 v4 (((((terms al).getD 0 [])))) := intsH.fz (xs := ((((terms al).getD 0 [])))) hz1.fz
  refine XL.cons (XOp.build [v4, (.slice none 0 0)] [(.slice none 0 0), (.slice none 0 0)] [(0, 1), (1, 1)] [(0, [v4])] Try.runUnderlying73 Try.zeroValue73 rfl (.cons rfl Try.sizeOf22 (.cons rfl Try.sizeOf71 PlacesAre.nil)) rfl (.cons (cells_one (IntsF.isSl hf1)) CellsAre.nil) ?_)
  refine XL.cons (XOp.alloc [(.slice none 0 0), (.slice none 0 0)] Try.zeroValue73 rfl ?_)
  intro b3
  refine XL.cons (XOp.storeN (vs := [v4, (.slice none 0 0)]) [] _ [v4, (.slice none 0 0)] Try.sizeOf73 rfl rfl rfl (ones_cons (one_sl (IntsF.isSl hf1)) (ones_cons rfl ones_nil)) rfl rfl rfl ?_)
  refine XL.nil (X.seq (X.seq (X.region ?_)))
  have hj0 : j = 0 := by omega
  have hssb : bs = backL al k := by rw [hbk, hj0, backL_zero, List.append_nil]
  have htb : ∀ i, i < bs.length → (bs.getD i (0, 0, [])).2.2.length ≤ 60 := fun i hi => by
   obtain ⟨q, hq, he⟩ := backL_mem hlk k k (Nat.le_refl _) hk (bs.getD i (0, 0, [])) (by rw [← hssb]; simp [List.getD, hi])
   rw [he]; exact hbd q hq
  have hbl : bs.length ≤ 60 := by omega
  refine XL.mv (bv) rfl ?_
  refine XL.cons (XOp.lenS (v := bv) (n := bm) Try.runUnderlying71 rfl (SlV.own [_] rfl) ?_)
  refine XL.cons (XOp.subR (a := ((bm : Nat) : Int)) (b := 1) ((((bm : Nat) : Int)) - 1) rfl rfl (by omega) (by omega) ?_)
  refine XL.as (.int .i64 ((((bm : Nat) : Int)) - 1)) rfl ?_
  refine XL.nil (X.block ?_)
  refine X.loop (α := Nat × Value × List StepT × List Value × List HP × Nat × FH) (fun xQ => [(4, ptr b2 0), (5, bv), (6, ptr b3 0), (7, .int .i64 ((xQ.1 : Int) - 1))]) (fun xQ => slH 119 3 xQ.2.1 xQ.2.2.2.2.2.1 xQ.2.2.2.1 :: cellsH b3 [v4, xQ.2.1] 73 :: slH 119 3 bv bm bcs :: cellsH b2 [(.slice none 0 0), (.slice none 0 0)] 73 :: cellsH b1 [x1v, x2v, x3v, x4v, .bool (ab)] 111 :: L) (fun xQ F' => xQ.2.2.2.2.2.2 = F' ∧ F1 ≤ xQ.2.2.2.2.2.2 ∧ (xQ.1 ≤ bs.length) ∧ (IsSl xQ.2.1) ∧ (StepsC xQ.2.2.2.2.2.2 xQ.2.2.2.1 xQ.2.2.1) ∧ (xQ.2.2.2.2.2.1 = xQ.2.2.1.length) ∧ (DeepL 3 (StepO 2) xQ.2.2.2.1 xQ.2.2.1 xQ.2.2.2.2.1) ∧ (Fresh F1 xQ.2.2.2.2.2.2 (star xQ.2.2.2.2.1)) ∧ (xQ.2.2.1 = (bs.drop xQ.1).reverse) ∧ (xQ.2.2.2.2.2.1 + xQ.1 = bs.length)) (fun xQ => xQ.1) (bs.length, (.slice none 0 0), [], [], [], 0, F1) ⟨rfl, rfl, rfl, (vI (by (try dsimp only); omega)), trivial⟩ (Sub.trans (Sub.addNil 119 3 _ _) (Sub.cons (Sub.cons (Sub.cons (Sub.cons (Sub.cons sR)))))) ⟨rfl, FLe.refl _, (by (try dsimp only) <;> omega), (⟨_, _, _, rfl⟩), (CO.nil), (rfl), (DeepL.nil), (Fresh.nilL), (by (try dsimp only); simp), (by (try dsimp only); omega)⟩ ?_
  rintro ⟨i, sv, ss, cs, Ls, m, G1⟩ rE _ _ ⟨rfl, leG, hi, hsv, hC, hm, hD, hZ, hss, hmi⟩
  show X _ _ _ _ (envs [(4, ptr b2 0), (5, bv), (6, ptr b3 0), (7, .int .i64 ((i : Int) - 1))] rE) _ (slH 119 3 sv m cs :: cellsH b3 [v4, sv] 73 :: slH 119 3 bv bm bcs :: cellsH b2 [(.slice none 0 0), (.slice none 0 0)] 73 :: cellsH b1 [x1v, x2v, x3v, x4v, .bool (ab)] 111 :: L)
  replace leG : F1 ≤ G1 := leG
  dsimp only at hi hsv hC hm hD hZ hss hmi
  have htbi := htb (i - 1)
  have hi9 : 0 < i → ((i : Int) - 1).toNat = i - 1 := fun h => by omega
  have hdr9 := fun (h : 0 < i) => drop_rev ((0, 0, []) : StepT) (l := bs) (k := i - 1) (by omega)
  have leG1 := leG
  replace hx1 := hx1.mono leG1
  replace hx2 := hx2.mono leG1
  replace hx3 := hx3.mono leG1
  replace hx4 := hx4.mono leG1
  replace hB := hB.mono leG1
  replace ha2 := ha2.mono leG1
  replace hf1 := hf1.mono leG1
  refine X.seq (X.seq (X.region ?_))
  refine XL.mv (.int .i64 ((i : Int) - 1)) rfl ?_
  refine XL.cons (XOp.geq (a := (i : Int) - 1) (b := 0) rfl rfl ?_)
  refine XL.nil ?_
  refine X.condD (p := ((i : Int) - 1 : Int) ≥ 0) rfl (fun h2 => ?_) (fun h2 => ?_)
  ·refine X.skip (X.seq (X.block ?_))
   obtain ⟨a3, ha3, he1, he2, he3⟩ := hB.get (i := ((i : Int) - 1).toNat) (by omega)
   refine X.drawG [slH 119 3 sv m cs, cellsH b3 [v4, sv] 73, slH 119 3 bv bm bcs, cellsH b2 [(.slice none 0 0), (.slice none 0 0)] 73, cellsH b1 [x1v, x2v, x3v, x4v, .bool (ab)] 111] L 20 [[], [], [], [], [], [], [], [], [], [], [], [], [], [], [], [], [], [], [17], [17]] [[], [0], [], [], [2, 3], [4], [5], [], [], [7, 8], [9], [10], [], [], [12, 13], [14], [15], [16], [6, 11, 17], [17, 18]] [[], [], [], [], [], [], [], [], [], [], [], [], [], [], [], [], [], [], [], []] (phiG [fun FF us v => v = ptr b3 1, fun FF us v => v = sv, fun FF us v => v = bv, fun FF us v => v = (.int .i64 ((i : Int) - 1) : Value), fun FF us v => v = (.pointer (some (elemA bv ((((i : Int) - 1).toNat) * 3))) : Value), fun FF us v => v = (.pointer (some (elemA bv ((((i : Int) - 1).toNat) * 3))) : Value), fun FF us v => v = (.int .i64 ((bs.getD (((i : Int) - 1).toNat) (0, 0, [])).1) : Value), fun FF us v => v = bv, fun FF us v => v = (.int .i64 ((i : Int) - 1) : Value), fun FF us v => v = (.pointer (some (elemA bv ((((i : Int) - 1).toNat) * 3))) : Value), fun FF us v => v = (.pointer (some (elemA bv ((((i : Int) - 1).toNat) * 3 + 1))) : Value), fun FF us v => v = (.int .i64 ((bs.getD (((i : Int) - 1).toNat) (0, 0, [])).2.1) : Value), fun FF us v => v = bv, fun FF us v => v = (.int .i64 ((i : Int) - 1) : Value), fun FF us v => v = (.pointer (some (elemA bv ((((i : Int) - 1).toNat) * 3))) : Value), fun FF us v => v = (.pointer (some (elemA bv ((((i : Int) - 1).toNat) * 3 + 2))) : Value), fun FF us v => v = a3, fun FF us v => ((v) : Value) = v ∧ (IntsF FF (v) (((bs.getD (((i : Int) - 1).toNat) (0, 0, [])).2.2))) ∧ (FrIntsF G1 FF 2 (v) (((bs.getD (((i : Int) - 1).toNat) (0, 0, [])).2.2))), fun FF us v => v = (.agg #[.int .i64 ((bs.getD (((i : Int) - 1).toNat) (0, 0, [])).1), .int .i64 ((bs.getD (((i : Int) - 1).toNat) (0, 0, [])).2.1), ((us.getD 0 undef))] : Value), fun FF us v => ∃ b, v = .slice (some ⟨b, 0, none⟩) 1 1]) (ownL [fun us v => [], fun us v => [], fun us v => [], fun us v => [], fun us v => [], fun us v => [], fun us v => [], fun us v => [], fun us v => [], fun us v => [], fun us v => [], fun us v => [], fun us v => [], fun us v => [], fun us v => [], fun us v => [], fun us v => [], fun us v => [], fun us v => [], fun us v => [slH 119 3 v 1 [.int .i64 ((bs.getD (((i : Int) - 1).toNat) (0, 0, [])).1), .int .i64 ((bs.getD (((i : Int) - 1).toNat) (0, 0, [])).2.1), ((us.getD 0 undef))]]]) mixed rfl rfl (by kernel_rfl) (by kernel_rfl) (MonoG.get (MonoG.cons (fun le h => h) (MonoG.cons (fun le h => h) (MonoG.cons (fun le h => h) (MonoG.cons (fun le h => h) (MonoG.cons (fun le h => h) (MonoG.cons (fun le h => h) (MonoG.cons (fun le h => h) (MonoG.cons (fun le h => h) (MonoG.cons (fun le h => h) (MonoG.cons (fun le h => h) (MonoG.cons (fun le h => h) (MonoG.cons (fun le h => h) (MonoG.cons (fun le h => h) (MonoG.cons (fun le h => h) (MonoG.cons (fun le h => h) (MonoG.cons (fun le h => h) (MonoG.cons (fun le h => h) (MonoG.cons (fun le h => ⟨h.1, h.2.1.mono le, h.2.2.mono le⟩) (MonoG.cons (fun le h => h) (MonoG.cons (fun le h => h) MonoG.nil))))))))))))))))))))) ?_ ?_
   ·refine stepsG.cons (fun vals Fs R leFs hpZ => ?_) ?_
    ·refine XG.op (XOp.fieldP (b := b3) (1) Try.runUnderlying73 rfl Try.sizeOf71 (by decide) rfl rfl ?_)
     exact ⟨rfl, rfl⟩
    refine stepsG.cons (fun vals Fs R leFs hpZ => ?_) ?_
    ·replace hx1 := hx1.mono leFs
     replace hx2 := hx2.mono leFs
     replace hx3 := hx3.mono leFs
     replace hx4 := hx4.mono leFs
     replace hB := hB.mono leFs
     replace ha2 := ha2.mono leFs
     replace hf1 := hf1.mono leFs
     replace hC := hC.mono leFs
     replace ha3 := ha3.mono leFs
     rw [eS (l := [(0, ptr b3 1)]) ⟨(hpZ 0 (by decide)), trivial⟩]
     refine XG.op (XOp.load1 (v := sv) Try.isAgg71 rfl (Rd.own [_] rfl rfl) ?_)
     exact ⟨rfl, rfl⟩
    refine stepsG.cons (fun vals Fs R leFs hpZ => ?_) ?_
    ·refine XG.op (XOp.move (bv) rfl ?_)
     exact ⟨rfl, rfl⟩
    refine stepsG.cons (fun vals Fs R leFs hpZ => ?_) ?_
    ·refine XG.op (XOp.move (.int .i64 ((i : Int) - 1)) rfl ?_)
     exact ⟨rfl, rfl⟩
    refine stepsG.cons (fun vals Fs R leFs hpZ => ?_) ?_
    ·replace hx1 := hx1.mono leFs
     replace hx2 := hx2.mono leFs
     replace hx3 := hx3.mono leFs
     replace hx4 := hx4.mono leFs
     replace hB := hB.mono leFs
     replace ha2 := ha2.mono leFs
     replace hf1 := hf1.mono leFs
     replace hC := hC.mono leFs
     replace ha3 := ha3.mono leFs
     rw [eS (l := [(2, bv), (3, (.int .i64 ((i : Int) - 1) : Value))]) ⟨(hpZ 2 (by decide)), (hpZ 3 (by decide)), trivial⟩]
     refine XG.op (XOp.indexS (v := bv) (i := (i : Int) - 1) (n := bm) (((i : Int) - 1).toNat) Try.runUnderlying71 Try.sizeOf119 rfl rfl (by omega) (SlV.own [_, _] rfl) (by omega) rfl ?_)
     exact ⟨rfl, rfl⟩
    refine stepsG.cons (fun vals Fs R leFs hpZ => ?_) ?_
    ·rw [eS (l := [(4, (.pointer (some (elemA bv ((((i : Int) - 1).toNat) * 3))) : Value))]) ⟨(hpZ 4 (by decide)), trivial⟩]
     refine XG.op (XOp.fieldE (v := bv) ((((i : Int) - 1).toNat) * 3) Try.runUnderlying119 rfl Try.sizeOf2 (by decide) rfl rfl ?_)
     exact ⟨rfl, rfl⟩
    refine stepsG.cons (fun vals Fs R leFs hpZ => ?_) ?_
    ·replace hx1 := hx1.mono leFs
     replace hx2 := hx2.mono leFs
     replace hx3 := hx3.mono leFs
     replace hx4 := hx4.mono leFs
     replace hB := hB.mono leFs
     replace ha2 := ha2.mono leFs
     replace hf1 := hf1.mono leFs
     replace hC := hC.mono leFs
     replace ha3 := ha3.mono leFs
     rw [eS (l := [(5, (.pointer (some (elemA bv ((((i : Int) - 1).toNat) * 3))) : Value))]) ⟨(hpZ 5 (by decide)), trivial⟩]
     refine XG.op (XOp.load1 (v := .int .i64 ((bs.getD (((i : Int) - 1).toNat) (0, 0, [])).1)) Try.isAgg2 rfl (Rd.sl [_, _] rfl he1) ?_)
     exact ⟨rfl, rfl⟩
    refine stepsG.cons (fun vals Fs R leFs hpZ => ?_) ?_
    ·refine XG.op (XOp.move (bv) rfl ?_)
     exact ⟨rfl, rfl⟩
    refine stepsG.cons (fun vals Fs R leFs hpZ => ?_) ?_
    ·refine XG.op (XOp.move (.int .i64 ((i : Int) - 1)) rfl ?_)
     exact ⟨rfl, rfl⟩
    refine stepsG.cons (fun vals Fs R leFs hpZ => ?_) ?_
    ·replace hx1 := hx1.mono leFs
     replace hx2 := hx2.mono leFs
     replace hx3 := hx3.mono leFs
     replace hx4 := hx4.mono leFs
     replace hB := hB.mono leFs
     replace ha2 := ha2.mono leFs
     replace hf1 := hf1.mono leFs
     replace hC := hC.mono leFs
     replace ha3 := ha3.mono leFs
     rw [eS (l := [(7, bv), (8, (.int .i64 ((i : Int) - 1) : Value))]) ⟨(hpZ 7 (by decide)), (hpZ 8 (by decide)), trivial⟩]
     refine XG.op (XOp.indexS (v := bv) (i := (i : Int) - 1) (n := bm) (((i : Int) - 1).toNat) Try.runUnderlying71 Try.sizeOf119 rfl rfl (by omega) (SlV.own [_, _] rfl) (by omega) rfl ?_)
     exact ⟨rfl, rfl⟩
    refine stepsG.cons (fun vals Fs R leFs hpZ => ?_) ?_
    ·rw [eS (l := [(9, (.pointer (some (elemA bv ((((i : Int) - 1).toNat) * 3))) : Value))]) ⟨(hpZ 9 (by decide)), trivial⟩]
     refine XG.op (XOp.fieldE (v := bv) ((((i : Int) - 1).toNat) * 3 + 1) Try.runUnderlying119 rfl Try.sizeOf2 (by decide) rfl rfl ?_)
     exact ⟨rfl, rfl⟩
    refine stepsG.cons (fun vals Fs R leFs hpZ => ?_) ?_
    ·replace hx1 := hx1.mono leFs
     replace hx2 := hx2.mono leFs
     replace hx3 := hx3.mono leFs
     replace hx4 := hx4.mono leFs
     replace hB := hB.mono leFs
     replace ha2 := ha2.mono leFs
     replace hf1 := hf1.mono leFs
     replace hC := hC.mono leFs
     replace ha3 := ha3.mono leFs
     rw [eS (l := [(10, (.pointer (some (elemA bv ((((i : Int) - 1).toNat) * 3 + 1))) : Value))]) ⟨(hpZ 10 (by decide)), trivial⟩]
     refine XG.op (XOp.load1 (v := .int .i64 ((bs.getD (((i : Int) - 1).toNat) (0, 0, [])).2.1)) Try.isAgg2 rfl (Rd.sl [_, _] rfl he2) ?_)
     exact ⟨rfl, rfl⟩
    refine stepsG.cons (fun vals Fs R leFs hpZ => ?_) ?_
    ·refine XG.op (XOp.move (bv) rfl ?_)
     exact ⟨rfl, rfl⟩
    refine stepsG.cons (fun vals Fs R leFs hpZ => ?_) ?_
    ·refine XG.op (XOp.move (.int .i64 ((i : Int) - 1)) rfl ?_)
     exact ⟨rfl, rfl⟩
    refine stepsG.cons (fun vals Fs R leFs hpZ => ?_) ?_
    ·replace hx1 := hx1.mono leFs
     replace hx2 := hx2.mono leFs
     replace hx3 := hx3.mono leFs
     replace hx4 := hx4.mono leFs
     replace hB := hB.mono leFs
     replace ha2 := ha2.mono leFs
     replace hf1 := hf1.mono leFs
     replace hC := hC.mono leFs
     replace ha3 := ha3.mono leFs
     rw [eS (l := [(12, bv), (13, (.int .i64 ((i : Int) - 1) : Value))]) ⟨(hpZ 12 (by decide)), (hpZ 13 (by decide)), trivial⟩]
     refine XG.op (XOp.indexS (v := bv) (i := (i : Int) - 1) (n := bm) (((i : Int) - 1).toNat) Try.runUnderlying71 Try.sizeOf119 rfl rfl (by omega) (SlV.own [_, _] rfl) (by omega) rfl ?_)
     exact ⟨rfl, rfl⟩
    refine stepsG.cons (fun vals Fs R leFs hpZ => ?_) ?_
    ·rw [eS (l := [(14, (.pointer (some (elemA bv ((((i : Int) - 1).toNat) * 3))) : Value))]) ⟨(hpZ 14 (by decide)), trivial⟩]
     refine XG.op (XOp.fieldE (v := bv) ((((i : Int) - 1).toNat) * 3 + 2) Try.runUnderlying119 rfl Try.sizeOf22 (by decide) rfl rfl ?_)
     exact ⟨rfl, rfl⟩
    refine stepsG.cons (fun vals Fs R leFs hpZ => ?_) ?_
    ·replace hx1 := hx1.mono leFs
     replace hx2 := hx2.mono leFs
     replace hx3 := hx3.mono leFs
     replace hx4 := hx4.mono leFs
     replace hB := hB.mono leFs
     replace ha2 := ha2.mono leFs
     replace hf1 := hf1.mono leFs
     replace hC := hC.mono leFs
     replace ha3 := ha3.mono leFs
     rw [eS (l := [(15, (.pointer (some (elemA bv ((((i : Int) - 1).toNat) * 3 + 2))) : Value))]) ⟨(hpZ 15 (by decide)), trivial⟩]
     refine XG.op (XOp.load1 (v := a3) Try.isAgg22 rfl (Rd.sl [_, _] rfl he3) ?_)
     exact ⟨rfl, rfl⟩
    refine stepsG.cons (fun vals Fs R leFs hpZ => ?_) ?_
    ·replace hx1 := hx1.mono leFs
     replace hx2 := hx2.mono leFs
     replace hx3 := hx3.mono leFs
     replace hx4 := hx4.mono leFs
     replace hB := hB.mono leFs
     replace ha2 := ha2.mono leFs
     replace hf1 := hf1.mono leFs
     replace hC := hC.mono leFs
     replace ha3 := ha3.mono leFs
     rw [eS (l := [(16, a3)]) ⟨(hpZ 16 (by decide)), trivial⟩]
     refine XG.op (XOp.frzF <| XOp.call (args := [a3]) Try.call88 rfl (l1Copy_spec ha3 (hlt := (by first | omega | (rw [hi9 (by omega)]; have := htbi (by omega); omega)))) ?_)
     rintro v7 _ _ _ ⟨rfl, hs4, rfl⟩
     refine ⟨_, _, rfl, fun F2 le2 hz2 => ?_⟩
     replace hx1 := hx1.mono le2
     replace hx2 := hx2.mono le2
     replace hx3 := hx3.mono le2
     replace hx4 := hx4.mono le2
     replace hB := hB.mono le2
     replace ha2 := ha2.mono le2
     replace hf1 := hf1.mono le2
     replace hC := hC.mono le2
     replace ha3 := ha3.mono le2
     have hf2 : IntsF F2 v7 ((((bs.getD (((i : Int) - 1).toNat) (0, 0, [])).2.2))) := intsH.fz (xs := (((bs.getD (((i : Int) - 1).toNat) (0, 0, [])).2.2))) hz2.fz
     exact ⟨⟨rfl, hf2, (hz2.base leFs)⟩, rfl⟩
    refine stepsG.cons (fun vals Fs R leFs hpZ => ?_) ?_
    ·obtain ⟨e17, f17_1ha, f17_1hz⟩ := hpZ 17 (by decide)
     replace hx1 := hx1.mono leFs
     replace hx2 := hx2.mono leFs
     replace hx3 := hx3.mono leFs
     replace hx4 := hx4.mono leFs
     replace hB := hB.mono leFs
     replace ha2 := ha2.mono leFs
     replace hf1 := hf1.mono leFs
     replace hC := hC.mono leFs
     replace ha3 := ha3.mono leFs
     rw [eS (l := [(6, (.int .i64 ((bs.getD (((i : Int) - 1).toNat) (0, 0, [])).1) : Value)), (11, (.int .i64 ((bs.getD (((i : Int) - 1).toNat) (0, 0, [])).2.1) : Value)), (17, ((vals 17)))]) ⟨(hpZ 6 (by decide)), (hpZ 11 (by decide)), (e17).symm, trivial⟩]
     refine XG.op (XOp.build [.int .i64 ((bs.getD (((i : Int) - 1).toNat) (0, 0, [])).1), .int .i64 ((bs.getD (((i : Int) - 1).toNat) (0, 0, [])).2.1), ((vals 17))] [.int .i64 (0), .int .i64 (0), (.slice none 0 0)] [(0, 1), (1, 1), (2, 1)] [(0, [.int .i64 ((bs.getD (((i : Int) - 1).toNat) (0, 0, [])).1)]), (1, [.int .i64 ((bs.getD (((i : Int) - 1).toNat) (0, 0, [])).2.1)]), (2, [((vals 17))])] Try.runUnderlying119 Try.zeroValue119 rfl (.cons rfl Try.sizeOf2 (.cons rfl Try.sizeOf2 (.cons rfl Try.sizeOf22 PlacesAre.nil))) rfl (.cons rfl (.cons rfl (.cons (cells_one (IntsF.isSl f17_1ha)) CellsAre.nil))) ?_)
     exact ⟨rfl, rfl⟩
    refine stepsG.cons (fun vals Fs R leFs hpZ => ?_) ?_
    ·obtain ⟨e17, f17_1ha, f17_1hz⟩ := hpZ 17 (by decide)
     have e18 : vals 18 = (.agg #[.int .i64 ((bs.getD (((i : Int) - 1).toNat) (0, 0, [])).1), .int .i64 ((bs.getD (((i : Int) - 1).toNat) (0, 0, [])).2.1), ((vals 17))] : Value) := hpZ 18 (by decide)
     replace hx1 := hx1.mono leFs
     replace hx2 := hx2.mono leFs
     replace hx3 := hx3.mono leFs
     replace hx4 := hx4.mono leFs
     replace hB := hB.mono leFs
     replace ha2 := ha2.mono leFs
     replace hf1 := hf1.mono leFs
     replace hC := hC.mono leFs
     replace ha3 := ha3.mono leFs
     rw [eS (l := [(17, ((vals 17))), (18, (.agg #[.int .i64 ((bs.getD (((i : Int) - 1).toNat) (0, 0, [])).1), .int .i64 ((bs.getD (((i : Int) - 1).toNat) (0, 0, [])).2.1), ((vals 17))] : Value))]) ⟨(e17).symm, e18, trivial⟩]
     refine XG.op (XOp.buildSlice (s := 3) [.int .i64 ((bs.getD (((i : Int) - 1).toNat) (0, 0, [])).1), .int .i64 ((bs.getD (((i : Int) - 1).toNat) (0, 0, [])).2.1), ((vals 17))] [.int .i64 (0), .int .i64 (0), (.slice none 0 0)] [(0, [.int .i64 ((bs.getD (((i : Int) - 1).toNat) (0, 0, [])).1), .int .i64 ((bs.getD (((i : Int) - 1).toNat) (0, 0, [])).2.1), ((vals 17))])] Try.runUnderlying71 Try.sizeOf119 Try.zeroValue119 rfl (by decide) rfl (.cons rfl CellsAre.nil) rfl ?_)
     intro v8 hv4
     exact ⟨hv4, rfl⟩
    exact stepsG.nil
   ·intro vals F3 le3 hphi
    obtain ⟨e17, f17_1ha, f17_1hz⟩ := hphi 17 (by decide)
    have e18 : vals 18 = (.agg #[.int .i64 ((bs.getD (((i : Int) - 1).toNat) (0, 0, [])).1), .int .i64 ((bs.getD (((i : Int) - 1).toNat) (0, 0, [])).2.1), ((vals 17))] : Value) := hphi 18 (by decide)
    have f19 : ∃ b, (vals 19) = .slice (some ⟨b, 0, none⟩) 1 1 := hphi 19 (by decide)
    generalize hu1 : ((vals 17)) = u1 at e17 f17_1ha f17_1hz e18 f19
    generalize hu19 : vals 19 = u2 at e17 f17_1ha f17_1hz e18 f19
    rw [eS (l := [(0, ptr b3 1), (1, sv), (2, bv), (3, (.int .i64 ((i : Int) - 1) : Value)), (4, (.pointer (some (elemA bv ((((i : Int) - 1).toNat) * 3))) : Value)), (5, (.pointer (some (elemA bv ((((i : Int) - 1).toNat) * 3))) : Value)), (6, (.int .i64 ((bs.getD (((i : Int) - 1).toNat) (0, 0, [])).1) : Value)), (7, bv), (8, (.int .i64 ((i : Int) - 1) : Value)), (9, (.pointer (some (elemA bv ((((i : Int) - 1).toNat) * 3))) : Value)), (10, (.pointer (some (elemA bv ((((i : Int) - 1).toNat) * 3 + 1))) : Value)), (11, (.int .i64 ((bs.getD (((i : Int) - 1).toNat) (0, 0, [])).2.1) : Value)), (12, bv), (13, (.int .i64 ((i : Int) - 1) : Value)), (14, (.pointer (some (elemA bv ((((i : Int) - 1).toNat) * 3))) : Value)), (15, (.pointer (some (elemA bv ((((i : Int) - 1).toNat) * 3 + 2))) : Value)), (16, a3), (17, u1), (18, (.agg #[.int .i64 ((bs.getD (((i : Int) - 1).toNat) (0, 0, [])).1), .int .i64 ((bs.getD (((i : Int) - 1).toNat) (0, 0, [])).2.1), u1] : Value)), (19, u2)]) ⟨(hphi 0 (by decide)), (hphi 1 (by decide)), (hphi 2 (by decide)), (hphi 3 (by decide)), (hphi 4 (by decide)), (hphi 5 (by decide)), (hphi 6 (by decide)), (hphi 7 (by decide)), (hphi 8 (by decide)), (hphi 9 (by decide)), (hphi 10 (by decide)), (hphi 11 (by decide)), (hphi 12 (by decide)), (hphi 13 (by decide)), (hphi 14 (by decide)), (hphi 15 (by decide)), (hphi 16 (by decide)), hu1, e18, hu19, trivial⟩]
    replace hx1 := hx1.mono le3
    replace hx2 := hx2.mono le3
    replace hx3 := hx3.mono le3
    replace hx4 := hx4.mono le3
    replace hB := hB.mono le3
    replace ha2 := ha2.mono le3
    replace hf1 := hf1.mono le3
    replace hC := hC.mono le3
    replace ha3 := ha3.mono le3
    show XL _ _ _ _ _ _ _ (slH 119 3 u2 1 [.int .i64 ((bs.getD (((i : Int) - 1).toNat) (0, 0, [])).1), .int .i64 ((bs.getD (((i : Int) - 1).toNat) (0, 0, [])).2.1), u1] :: slH 119 3 sv m cs :: cellsH b3 [v4, sv] 73 :: slH 119 3 bv bm bcs :: cellsH b2 [(.slice none 0 0), (.slice none 0 0)] 73 :: cellsH b1 [x1v, x2v, x3v, x4v, .bool (ab)] 111 :: L)
    refine XL.cons (XOp.append (m := 1) (bytes := 40) (cs := cs) [_] _ [.int .i64 ((bs.getD (((i : Int) - 1).toNat) (0, 0, [])).1), .int .i64 ((bs.getD (((i : Int) - 1).toNat) (0, 0, [])).2.1), u1] Try.runUnderlying71 Try.typeInfo119 rfl rfl rfl rfl rfl rfl rfl (SlV.own [] rfl) rfl (Rd.lit [] rfl) (ones_cons rfl (ones_cons rfl (ones_cons (one_sl (IntsF.isSl f17_1ha)) ones_nil))) (by (try simp only [List.length_append, List.length_nil, List.length_cons, List.length_singleton]); omega) (by (try simp only [List.length_append, List.length_nil, List.length_cons, List.length_singleton]); omega) ?_)
    intro v9 hs5 hn2 hm2
    have hc2 := StepsC.snoc hC (i := (bs.getD (((i : Int) - 1).toNat) (0, 0, [])).1) (j := (bs.getD (((i : Int) - 1).toNat) (0, 0, [])).2.1) f17_1ha
    skip
    refine XL.cons (XOp.fieldP (b := b3) (1) Try.runUnderlying73 rfl Try.sizeOf71 (by decide) rfl rfl ?_)
    refine XL.cons (XOp.store1 (v := v9) [_, _] _ [v4, v9] Try.sizeOf71 rfl rfl (one_sl hs5) rfl rfl rfl ?_)
    refine XL.nil (X.region ?_)
    refine XL.mv (.int .i64 ((i : Int) - 1)) rfl ?_
    refine XL.cons (XOp.subR (a := (i : Int) - 1) (b := 1) (((i : Int) - 1) - 1) rfl rfl (by omega) (by omega) ?_)
    refine XL.as (.int .i64 (((i : Int) - 1) - 1)) rfl ?_
    refine XL.nil ?_
    exact ⟨(i - 1, v9, ss ++ [((bs.getD (((i : Int) - 1).toNat) (0, 0, [])).1, (bs.getD (((i : Int) - 1).toNat) (0, 0, [])).2.1, (((bs.getD (((i : Int) - 1).toNat) (0, 0, [])).2.2)))], cs ++ [.int .i64 ((bs.getD (((i : Int) - 1).toNat) (0, 0, [])).1), .int .i64 ((bs.getD (((i : Int) - 1).toNat) (0, 0, [])).2.1), u1], Ls ++ [intsH 2 u1 ((((bs.getD (((i : Int) - 1).toNat) (0, 0, [])).2.2)))], (m) + 1, F3), _, (FLe.trans leG1 le3), rF, ⟨rfl, rfl, rfl, (vI (by (try dsimp only); omega)), trivial⟩, (Sub.drop (Sub.cons (Sub.cons (Sub.cons (Sub.cons (Sub.cons sR)))))), ⟨rfl, (FLe.trans leG1 le3), (by (try dsimp only) <;> omega), (hs5), (hc2), (by (try dsimp only); rw [List.length_append]; simp only [List.length_singleton]; omega), (DeepL.snoc hD rfl ⟨_, rfl, rfl⟩), ((Fresh.app hZ leG1 (Fresh.one f17_1hz) le3)), (by (try dsimp only); have h9 := hdr9 (by omega); rw [show i - 1 + 1 = i from by omega] at h9; rw [hss, h9, hi9 (by omega)]), (by (try dsimp only); omega)⟩, (by (try dsimp only); omega)⟩
  ·refine X.exit (thenQ_exit (thenQ_exit (blockQ_exit ?_)))
   refine X.seq (X.region ?_)
   refine XL.cons (XOp.loadN [v4, sv] Try.isAgg73 Try.sizeOf73 rfl rfl (Rd.ownN [_] rfl rfl) ?_)
   refine XL.cons (XOp.storeN (vs := [v4, sv]) [_, _, _] _ [v4, sv] Try.sizeOf73 rfl rfl rfl (ones_cons (one_sl (IntsF.isSl hf1)) (ones_cons (one_sl hsv) ones_nil)) rfl rfl rfl ?_)
   refine XL.nil ?_
   refine X.freezeF [] _ _ rfl (fun F4 le4 hz3 => ?_)
   replace hx1 := hx1.mono le4
   replace hx2 := hx2.mono le4
   replace hx3 := hx3.mono le4
   replace hx4 := hx4.mono le4
   replace hB := hB.mono le4
   replace ha2 := ha2.mono le4
   replace hf1 := hf1.mono le4
   replace hC := hC.mono le4
   have hf3 : StepsF F4 sv ss := CO.fz hC (by first | rfl | simp | omega) hz3.fz
   refine X.ret (retEnd (L' := L) [.agg #[v4, sv]] (.agg #[v4, sv]) (.cell rfl (loadNV [v4, sv] Try.isAgg73 Try.sizeOf73 rfl (Rd.ownN [_, _] rfl rfl)) .nil) rfl (FLe.trans (FLe.trans le1 leG1) le4) rF (Sub.drop (Sub.drop (Sub.drop (Sub.drop sR)))) ?_)
   have e9 : ss = walkL al k := by rw [hss, show i = 0 from by omega, List.drop_zero, hssb]; rfl
   rw [← e9, ← terms_get 0]
   exact ⟨_, _, rfl, hf1, hf3, (Fresh.app (Fresh.one hz1) le1 (Fresh.one (Fresh.deep hD hZ leG1 hz3 (by omega) le4)) (FLe.trans leG1 le4)), rfl⟩

/- spec.JoinOf -/
set_option maxHeartbeats 2000000 in
set_option maxRecDepth 20000 in
theorem sJoinOf_spec {F : FH} {L : List HP} {arv : Value} {ar : List Int} (har : IntsF F arv ar) {rsv : Value} {rs : List (List Int × List Int)} (hrs : PairsF F rsv rs) {av : Value} {a : List Int} (ha : IntsF F av a) {bv : Value} {b : List Int} (hb : IntsF F bv b) {n : Int} (hla : ar.length ≤ 4000000) (hlr : rs.length ≤ 4000000) (hrb : ∀ i, i < rs.length → (rs.getD i ([], [])).1.length ≤ 4000000 ∧ (rs.getD i ([], [])).2.length ≤ 4000000) (hla9 : a.length ≤ 4000000) (hlb9 : b.length ≤ 4000000) :
    Does Try.prog 69 [.agg #[arv, rsv], av, bv, .int .i64 (n)] F (L) (fun v F' L' => ∃ (a1 : Value), ∃ (b1 : Value), ∃ (a2 : Value), ∃ (b2 : Value), (.tuple #[.agg #[a1, b1], .agg #[a2, b2], .bool ((joinF ar rs a b n).2.2.2.2)] : Value) = v ∧ (IntsF F' a1 (joinF ar rs a b n).1) ∧ (StepsF F' b1 (joinF ar rs a b n).2.1) ∧ (IntsF F' a2 (joinF ar rs a b n).2.2.1) ∧ (StepsF F' b2 (joinF ar rs a b n).2.2.2.1) ∧ L = L') := by
 refine Does.of_X Try.func69 rfl rfl rfl ?_
 refine X.seq (X.region ?_)
 refine XL.cons (XOp.box [arv, rsv] rfl rfl ?_)
 intro b1
 refine XL.cons (XOp.alloc [(.slice none 0 0), (.slice none 0 0)] Try.zeroValue73 rfl ?_)
 intro b2
 refine XL.cons (XOp.alloc [(.slice none 0 0), (.slice none 0 0)] Try.zeroValue73 rfl ?_)
 intro b3
 refine XL.as (.bool (false)) rfl ?_
 refine XL.nil (X.seq (X.seq (X.region ?_)))
 refine XL.cons (XOp.loadN [arv, rsv] Try.isAgg36 Try.sizeOf36 rfl rfl (Rd.ownN [_, _] rfl rfl) ?_)
 refine XL.mv (av) rfl ?_
 refine XL.mv (.int .i64 (n)) rfl ?_
 refine XL.cons (XOp.call (args := [.agg #[arv, rsv], av, .int .i64 (n)]) Try.call71 rfl (l9Right_spec (n := n) har hrs ha (hla := (by first | assumption | rfl | omega | simp)) (hlr := (by first | assumption | rfl | omega | simp)) (hrb := (by first | assumption | rfl | omega | simp)) (hlt := (by first | assumption | rfl | omega | simp))) ?_)
 rintro _ _ _ _ ⟨rfl, rfl, rfl⟩
 refine XL.cons (XOp.notB (b := reachOkL ar rs n [a]) rfl ?_)
 refine XL.mv (.bool (!(reachOkL ar rs n [a]))) rfl ?_
 by_cases h1 : (!(reachOkL ar rs n [a])) = true
 ·have hro : reachOkL ar rs n [a, b] = false := by rw [reachOk2]; simp_all
  refine XL.no (t := 20) rfl (vB h1) ?_
  refine XL.no (t := 20) rfl (vB h1) ?_
  refine XL.no (t := 20) rfl (vB h1) ?_
  refine XL.no (t := 20) rfl (vB h1) ?_
  refine XL.no (t := 20) rfl (vB h1) ?_
  refine XL.cons (XOp.pickT (.bool (true)) (vB h1) rfl ?_)
  refine XL.nil ?_
  refine X.condT rfl ?_
  refine X.seq (X.region ?_)
  refine XL.cons (XOp.build [(.slice none 0 0), (.slice none 0 0)] [(.slice none 0 0), (.slice none 0 0)] [(0, 1), (1, 1)] [] Try.runUnderlying73 Try.zeroValue73 rfl (.cons rfl Try.sizeOf22 (.cons rfl Try.sizeOf71 PlacesAre.nil)) rfl CellsAre.nil ?_)
  refine XL.cons (XOp.build [(.slice none 0 0), (.slice none 0 0)] [(.slice none 0 0), (.slice none 0 0)] [(0, 1), (1, 1)] [] Try.runUnderlying73 Try.zeroValue73 rfl (.cons rfl Try.sizeOf22 (.cons rfl Try.sizeOf71 PlacesAre.nil)) rfl CellsAre.nil ?_)
  refine XL.cons (XOp.storeN (vs := [(.slice none 0 0), (.slice none 0 0)]) [_] _ [(.slice none 0 0), (.slice none 0 0)] Try.sizeOf73 rfl rfl rfl (ones_cons rfl (ones_cons rfl ones_nil)) rfl rfl rfl ?_)
  refine XL.cons (XOp.storeN (vs := [(.slice none 0 0), (.slice none 0 0)]) [] _ [(.slice none 0 0), (.slice none 0 0)] Try.sizeOf73 rfl rfl rfl (ones_cons rfl (ones_cons rfl ones_nil)) rfl rfl rfl ?_)
  refine XL.as (.bool (false)) rfl ?_
  refine XL.nil ?_
  refine X.ret (thenQ_ret (retEnd (L' := L) [.agg #[(.slice none 0 0), (.slice none 0 0)], .agg #[(.slice none 0 0), (.slice none 0 0)], .bool (false)] (.tuple #[.agg #[(.slice none 0 0), (.slice none 0 0)], .agg #[(.slice none 0 0), (.slice none 0 0)], .bool (false)]) (.cell rfl (loadNV [(.slice none 0 0), (.slice none 0 0)] Try.isAgg73 Try.sizeOf73 rfl (Rd.ownN [_] rfl rfl)) (.cell rfl (loadNV [(.slice none 0 0), (.slice none 0 0)] Try.isAgg73 Try.sizeOf73 rfl (Rd.ownN [] rfl rfl)) (.tmp rfl .nil))) rfl rF rF (Sub.drop (Sub.drop (Sub.drop sR))) ?_))
  have e : joinF ar rs a b n = ([], [], [], [], false) := joinF_no hro
  exact ⟨_, _, _, _, by rw [e], by rw [e]; exact IntsF.nilV, by rw [e]; exact SlOf.nilV, by rw [e]; exact IntsF.nilV, by rw [e]; exact SlOf.nilV, rfl⟩
 ·rw [Bool.not_eq_true] at h1
  refine XL.yes (t := 20) rfl (vB h1) (XOp.loadN [arv, rsv] Try.isAgg36 Try.sizeOf36 rfl rfl (Rd.ownN [_, _] rfl rfl) ?_)
  refine XL.yes (t := 20) rfl (vB h1) (XOp.move (bv) rfl ?_)
  refine XL.yes (t := 20) rfl (vB h1) (XOp.move (.int .i64 (n)) rfl ?_)
  refine XL.yes (t := 20) rfl (vB h1) (XOp.call (args := [.agg #[arv, rsv], bv, .int .i64 (n)]) Try.call71 rfl (l9Right_spec (n := n) har hrs hb (hla := (by first | assumption | rfl | omega | simp)) (hlr := (by first | assumption | rfl | omega | simp)) (hrb := (by first | assumption | rfl | omega | simp)) (hlt := (by first | assumption | rfl | omega | simp))) ?_)
  rintro _ _ _ _ ⟨rfl, rfl, rfl⟩
  refine XL.yes (t := 20) rfl (vB h1) (XOp.notB (b := reachOkL ar rs n [b]) rfl ?_)
  refine XL.cons (XOp.pickF (.bool (!(reachOkL ar rs n [b]))) (vB h1) rfl ?_)
  refine XL.nil ?_
  refine X.cond (t := !(reachOkL ar rs n [b])) rfl (fun h2 => ?_) (fun h2 => ?_)
  ·have hro : reachOkL ar rs n [a, b] = false := by rw [reachOk2]; simp_all
   refine X.seq (X.region ?_)
   refine XL.cons (XOp.build [(.slice none 0 0), (.slice none 0 0)] [(.slice none 0 0), (.slice none 0 0)] [(0, 1), (1, 1)] [] Try.runUnderlying73 Try.zeroValue73 rfl (.cons rfl Try.sizeOf22 (.cons rfl Try.sizeOf71 PlacesAre.nil)) rfl CellsAre.nil ?_)
   refine XL.cons (XOp.build [(.slice none 0 0), (.slice none 0 0)] [(.slice none 0 0), (.slice none 0 0)] [(0, 1), (1, 1)] [] Try.runUnderlying73 Try.zeroValue73 rfl (.cons rfl Try.sizeOf22 (.cons rfl Try.sizeOf71 PlacesAre.nil)) rfl CellsAre.nil ?_)
   refine XL.cons (XOp.storeN (vs := [(.slice none 0 0), (.slice none 0 0)]) [_] _ [(.slice none 0 0), (.slice none 0 0)] Try.sizeOf73 rfl rfl rfl (ones_cons rfl (ones_cons rfl ones_nil)) rfl rfl rfl ?_)
   refine XL.cons (XOp.storeN (vs := [(.slice none 0 0), (.slice none 0 0)]) [] _ [(.slice none 0 0), (.slice none 0 0)] Try.sizeOf73 rfl rfl rfl (ones_cons rfl (ones_cons rfl ones_nil)) rfl rfl rfl ?_)
   refine XL.as (.bool (false)) rfl ?_
   refine XL.nil ?_
   refine X.ret (thenQ_ret (retEnd (L' := L) [.agg #[(.slice none 0 0), (.slice none 0 0)], .agg #[(.slice none 0 0), (.slice none 0 0)], .bool (false)] (.tuple #[.agg #[(.slice none 0 0), (.slice none 0 0)], .agg #[(.slice none 0 0), (.slice none 0 0)], .bool (false)]) (.cell rfl (loadNV [(.slice none 0 0), (.slice none 0 0)] Try.isAgg73 Try.sizeOf73 rfl (Rd.ownN [_] rfl rfl)) (.cell rfl (loadNV [(.slice none 0 0), (.slice none 0 0)] Try.isAgg73 Try.sizeOf73 rfl (Rd.ownN [] rfl rfl)) (.tmp rfl .nil))) rfl rF rF (Sub.drop (Sub.drop (Sub.drop sR))) ?_))
   have e : joinF ar rs a b n = ([], [], [], [], false) := joinF_no hro
   exact ⟨_, _, _, _, by rw [e], by rw [e]; exact IntsF.nilV, by rw [e]; exact SlOf.nilV, by rw [e]; exact IntsF.nilV, by rw [e]; exact SlOf.nilV, rfl⟩
  ·have hro : reachOkL ar rs n [a, b] = true := by rw [reachOk2]; simp_all
   have hr3 := reachOk2_iff.1 hro
   have hsys := hr3.1.1
   have ho := hr3.1.2.1
   have hou := hr3.1.2.2
   have hn20 := hr3.2
   have hgda := reachL_good (ar := ar) (rs := rs) (t := a) (n := n) hn20.1
   have hrka := reachL_ok (n := n) hsys ho
   have hrla := hrka.1
   have hrda : ∀ i, i < (reachL ar rs a n).1.length → (EL (reachL ar rs a n).1 i).1.length ≤ 60 := fun i hi => (termOk_len (hrka.2 i hi)).2
   have htza : (terms (reachL ar rs a n).1).length = (reachL ar rs a n).1.length := terms_len
   have htqa : ∀ i, i < (terms (reachL ar rs a n).1).length → ((terms (reachL ar rs a n).1).getD i []).length ≤ 4000000 := fun i hi => by rw [terms_get]; have := hrda i (by omega); omega
   have hgdb := reachL_good (ar := ar) (rs := rs) (t := b) (n := n) hn20.1
   have hrkb := reachL_ok (n := n) hsys hou
   have hrlb := hrkb.1
   have hrdb : ∀ i, i < (reachL ar rs b n).1.length → (EL (reachL ar rs b n).1 i).1.length ≤ 60 := fun i hi => (termOk_len (hrkb.2 i hi)).2
   have htzb : (terms (reachL ar rs b n).1).length = (reachL ar rs b n).1.length := terms_len
   have htqb : ∀ i, i < (terms (reachL ar rs b n).1).length → ((terms (reachL ar rs b n).1).getD i []).length ≤ 4000000 := fun i hi => by rw [terms_get]; have := hrdb i (by omega); omega
   refine X.skip (X.seq (X.region ?_))
   refine XL.cons (XOp.loadN [arv, rsv] Try.isAgg36 Try.sizeOf36 rfl rfl (Rd.ownN [_, _] rfl rfl) ?_)
   refine XL.mv (av) rfl ?_
   refine XL.mv (.int .i64 (n)) rfl ?_
   refine XL.cons (XOp.call (args := [.agg #[arv, rsv], av, .int .i64 (n)]) Try.call72 rfl (l9Find_spec (n := n) har hrs ha (hsys := (by first | assumption | rfl | omega | simp)) (ho := (by first | assumption | rfl | omega | simp)) (hn20 := (by first | assumption | rfl | omega | simp))) ?_)
   rintro _ F1 _ le1 ⟨x1, x2, x3, x4, rfl, hr1, hr2, hr3, hr4, rfl⟩
   replace har := har.mono le1
   replace hrs := hrs.mono le1
   replace ha := ha.mono le1
   replace hb := hb.mono le1
   refine XL.cons (XOp.alloc [(.slice none 0 0), (.slice none 0 0), (.slice none 0 0), (.slice none 0 0), .bool (false)] Try.zeroValue111 rfl ?_)
   intro b4
   refine XL.cons (XOp.storeN (vs := [x1, x2, x3, x4, .bool ((reachL ar rs a n).2)]) [] _ [x1, x2, x3, x4, .bool ((reachL ar rs a n).2)] Try.sizeOf111 rfl rfl rfl (ones_cons (one_sl (RowsF.isSl hr1)) (ones_cons (one_sl (IntsF.isSl hr2)) (ones_cons (one_sl (StepsF.isSl hr3)) (ones_cons (one_sl (IntsF.isSl hr4)) (ones_cons rfl ones_nil))))) rfl rfl rfl ?_)
   refine XL.nil (X.seq (X.region ?_))
   refine XL.cons (XOp.loadN [arv, rsv] Try.isAgg36 Try.sizeOf36 rfl rfl (Rd.ownN [_, _, _] rfl rfl) ?_)
   refine XL.mv (bv) rfl ?_
   refine XL.mv (.int .i64 (n)) rfl ?_
   refine XL.cons (XOp.call (args := [.agg #[arv, rsv], bv, .int .i64 (n)]) Try.call72 rfl (l9Find_spec (n := n) har hrs hb (hsys := (by first | assumption | rfl | omega | simp)) (ho := (by first | assumption | rfl | omega | simp)) (hn20 := (by first | assumption | rfl | omega | simp))) ?_)
   rintro _ F2 _ le2 ⟨x5, x6, x7, x8, rfl, hr5, hr6, hr7, hr8, rfl⟩
   replace har := har.mono le2
   replace hrs := hrs.mono le2
   replace ha := ha.mono le2
   replace hb := hb.mono le2
   replace hr1 := hr1.mono le2
   replace hr2 := hr2.mono le2
   replace hr3 := hr3.mono le2
   replace hr4 := hr4.mono le2
   refine XL.cons (XOp.alloc [(.slice none 0 0), (.slice none 0 0), (.slice none 0 0), (.slice none 0 0), .bool (false)] Try.zeroValue111 rfl ?_)
   intro b5
   refine XL.cons (XOp.storeN (vs := [x5, x6, x7, x8, .bool ((reachL ar rs b n).2)]) [] _ [x5, x6, x7, x8, .bool ((reachL ar rs b n).2)] Try.sizeOf111 rfl rfl rfl (ones_cons (one_sl (RowsF.isSl hr5)) (ones_cons (one_sl (IntsF.isSl hr6)) (ones_cons (one_sl (StepsF.isSl hr7)) (ones_cons (one_sl (IntsF.isSl hr8)) (ones_cons rfl ones_nil))))) rfl rfl rfl ?_)
   refine XL.nil (X.seq (X.seq (X.region ?_)))
   refine XL.as (.int .i64 (0)) rfl ?_
   refine XL.nil (X.block ?_)
   refine X.loop (α := Nat) (fun k => [(8, ptr b2 0), (9, ptr b3 0), (11, ptr b4 0), (12, ptr b5 0), (13, .int .i64 ((k : Int)))]) (fun k => cellsH b5 [x5, x6, x7, x8, .bool ((reachL ar rs b n).2)] 111 :: cellsH b4 [x1, x2, x3, x4, .bool ((reachL ar rs a n).2)] 111 :: cellsH b3 [(.slice none 0 0), (.slice none 0 0)] 73 :: cellsH b2 [(.slice none 0 0), (.slice none 0 0)] 73 :: cellsH b1 [arv, rsv] 36 :: L) (fun k F' => F2 = F' ∧ (k ≤ (reachL ar rs a n).1.length) ∧ (∀ i, i < k → foundI (reachL ar rs b n).1 (EL (reachL ar rs a n).1 i).1 < 0)) (fun k => (reachL ar rs a n).1.length - k) 0 ⟨rfl, rfl, rfl, rfl, rfl, trivial⟩ (Sub.cons (Sub.cons (Sub.cons (Sub.cons (Sub.cons sR))))) ⟨rfl, (by (try dsimp only) <;> omega), (fun i hi => absurd hi (by omega))⟩ ?_
   rintro k rE _ _ ⟨rfl, hk, hno⟩
   show X _ _ _ _ (envs [(8, ptr b2 0), (9, ptr b3 0), (11, ptr b4 0), (12, ptr b5 0), (13, .int .i64 ((k : Int)))] rE) _ (cellsH b5 [x5, x6, x7, x8, .bool ((reachL ar rs b n).2)] 111 :: cellsH b4 [x1, x2, x3, x4, .bool ((reachL ar rs a n).2)] 111 :: cellsH b3 [(.slice none 0 0), (.slice none 0 0)] 73 :: cellsH b2 [(.slice none 0 0), (.slice none 0 0)] 73 :: cellsH b1 [arv, rsv] 36 :: L)
   have hgk : ((terms (reachL ar rs a n).1).getD k []) = (EL (reachL ar rs a n).1 k).1 := terms_get k
   have hfi : badG (fun y => !decide (y = ((terms (reachL ar rs a n).1).getD k []))) (terms (reachL ar rs b n).1) = foundI (reachL ar rs b n).1 (EL (reachL ar rs a n).1 k).1 := by rw [hgk]; exact foundI_terms
   have hfl := fun (h : 0 ≤ foundI (reachL ar rs b n).1 (EL (reachL ar rs a n).1 k).1) => (foundI_lt h).1
   have hka := fun (h : k < (reachL ar rs a n).1.length) => (show ((terms (reachL ar rs a n).1).getD k []).length ≤ 60 from by rw [hgk]; exact hrda k h)
   refine X.seq (X.seq (X.region ?_))
   refine XL.mv (.int .i64 ((k : Int))) rfl ?_
   refine XL.cons (XOp.fieldP (b := b4) (0) Try.runUnderlying111 rfl Try.sizeOf47 (by decide) rfl rfl ?_)
   refine XL.cons (XOp.load1 (v := x1) Try.isAgg47 rfl (Rd.own [_] rfl rfl) ?_)
   refine XL.cons (XOp.lenS (v := x1) (n := (terms (reachL ar rs a n).1).length) Try.runUnderlying47 rfl hr1.slv ?_)
   refine XL.cons (XOp.lss (a := (k : Int)) (b := (((terms (reachL ar rs a n).1).length : Nat) : Int)) rfl rfl ?_)
   refine XL.nil ?_
   refine X.condD (p := (k : Int) < (((terms (reachL ar rs a n).1).length : Nat) : Int)) rfl (fun h3 => ?_) (fun h3 => ?_)
   ·refine X.skip (X.seq (X.block (X.seq ?_)))
    obtain ⟨a1, ha1, hr9⟩ := hr1.rd (i := k) (by omega)
    refine X.draw [cellsH b5 [x5, x6, x7, x8, .bool ((reachL ar rs b n).2)] 111, cellsH b4 [x1, x2, x3, x4, .bool ((reachL ar rs a n).2)] 111, cellsH b3 [(.slice none 0 0), (.slice none 0 0)] 73, cellsH b2 [(.slice none 0 0), (.slice none 0 0)] 73, cellsH b1 [arv, rsv] 36] L 7 [[], [], [], [], [], [], []] [[], [0], [], [2], [], [3, 4], [5]] (phiL [fun us v => v = ptr b5 0, fun us v => v = x5, fun us v => v = ptr b4 0, fun us v => v = x1, fun us v => v = (.int .i64 ((k : Int)) : Value), fun us v => v = (.pointer (some (elemA x1 (k))) : Value), fun us v => v = a1]) (ownL [fun us v => [], fun us v => [], fun us v => [], fun us v => [], fun us v => [], fun us v => [], fun us v => []]) mixed rfl rfl (by kernel_rfl) ?_ ?_
    ·refine stepsP.cons (fun vals R hpZ => ?_) ?_
     ·refine XG.op (XOp.fieldP (b := b5) (0) Try.runUnderlying111 rfl Try.sizeOf47 (by decide) rfl rfl ?_)
      exact ⟨rfl, rfl, rfl⟩
     refine stepsP.cons (fun vals R hpZ => ?_) ?_
     ·rw [eS (l := [(0, ptr b5 0)]) ⟨hpZ 0 (by decide), trivial⟩]
      refine XG.op (XOp.load1 (v := x5) Try.isAgg47 rfl (Rd.own [] rfl rfl) ?_)
      exact ⟨rfl, rfl, rfl⟩
     refine stepsP.cons (fun vals R hpZ => ?_) ?_
     ·refine XG.op (XOp.fieldP (b := b4) (0) Try.runUnderlying111 rfl Try.sizeOf47 (by decide) rfl rfl ?_)
      exact ⟨rfl, rfl, rfl⟩
     refine stepsP.cons (fun vals R hpZ => ?_) ?_
     ·rw [eS (l := [(2, ptr b4 0)]) ⟨hpZ 2 (by decide), trivial⟩]
      refine XG.op (XOp.load1 (v := x1) Try.isAgg47 rfl (Rd.own [_] rfl rfl) ?_)
      exact ⟨rfl, rfl, rfl⟩
     refine stepsP.cons (fun vals R hpZ => ?_) ?_
     ·refine XG.op (XOp.move (.int .i64 ((k : Int))) rfl ?_)
      exact ⟨rfl, rfl, rfl⟩
     refine stepsP.cons (fun vals R hpZ => ?_) ?_
     ·rw [eS (l := [(3, x1), (4, (.int .i64 ((k : Int)) : Value))]) ⟨hpZ 3 (by decide), hpZ 4 (by decide), trivial⟩]
      refine XG.op (XOp.indexS (v := x1) (i := (k : Int)) (n := (terms (reachL ar rs a n).1).length) k Try.runUnderlying47 Try.sizeOf22 rfl rfl rfl hr1.slv (by omega) (Nat.mul_one _) ?_)
      exact ⟨rfl, rfl, rfl⟩
     refine stepsP.cons (fun vals R hpZ => ?_) ?_
     ·rw [eS (l := [(5, (.pointer (some (elemA x1 (k))) : Value))]) ⟨hpZ 5 (by decide), trivial⟩]
      refine XG.op (XOp.load1 (v := a1) Try.isAgg22 rfl (hr9 _) ?_)
      exact ⟨rfl, rfl, rfl⟩
     exact stepsP.nil
    ·intro vals hphi
     rw [eS (l := [(0, ptr b5 0), (1, x5), (2, ptr b4 0), (3, x1), (4, (.int .i64 ((k : Int)) : Value)), (5, (.pointer (some (elemA x1 (k))) : Value)), (6, a1)]) ⟨(hphi 0 (by decide)), (hphi 1 (by decide)), (hphi 2 (by decide)), (hphi 3 (by decide)), (hphi 4 (by decide)), (hphi 5 (by decide)), (hphi 6 (by decide)), trivial⟩]
     show XL _ _ _ _ _ _ _ (cellsH b5 [x5, x6, x7, x8, .bool ((reachL ar rs b n).2)] 111 :: cellsH b4 [x1, x2, x3, x4, .bool ((reachL ar rs a n).2)] 111 :: cellsH b3 [(.slice none 0 0), (.slice none 0 0)] 73 :: cellsH b2 [(.slice none 0 0), (.slice none 0 0)] 73 :: cellsH b1 [arv, rsv] 36 :: L)
     refine XL.cons (XOp.call (args := [x5, a1]) Try.call126 rfl (l1TermPlace_spec hr5 ha1 (hlt := (by omega)) (htb := (htqb)) (hlx := (by have := hka (by omega); omega))) ?_)
     rintro _ _ _ _ ⟨rfl, rfl, rfl⟩
     refine XL.as (.int .i64 (badG (fun y => !decide (y = (((terms (reachL ar rs a n).1).getD k [])))) (terms (reachL ar rs b n).1))) rfl ?_
     refine XL.nil (X.seq (X.region ?_))
     refine XL.mv (.int .i64 (badG (fun y => !decide (y = (((terms (reachL ar rs a n).1).getD k [])))) (terms (reachL ar rs b n).1))) rfl ?_
     refine XL.cons (XOp.geq (a := badG (fun y => !decide (y = (((terms (reachL ar rs a n).1).getD k [])))) (terms (reachL ar rs b n).1)) (b := 0) rfl rfl ?_)
     refine XL.nil ?_
     refine X.condD (p := (badG (fun y => !decide (y = (((terms (reachL ar rs a n).1).getD k [])))) (terms (reachL ar rs b n).1) : Int) ≥ 0) rfl (fun h4 => ?_) (fun h4 => ?_)
     ·refine X.seq ?_
      refine X.drawG [cellsH b5 [x5, x6, x7, x8, .bool ((reachL ar rs b n).2)] 111, cellsH b4 [x1, x2, x3, x4, .bool ((reachL ar rs a n).2)] 111, cellsH b3 [(.slice none 0 0), (.slice none 0 0)] 73, cellsH b2 [(.slice none 0 0), (.slice none 0 0)] 73, cellsH b1 [arv, rsv] 36] L 5 [[], [], [], [], []] [[], [], [0, 1], [], []] [[], [], [], [], []] (phiG [fun FF us v => v = (.agg #[x1, x2, x3, x4, .bool ((reachL ar rs a n).2)] : Value), fun FF us v => v = (.int .i64 ((k : Int)) : Value), fun FF us v => (.agg #[((aggAt v 0)), ((aggAt v 1))] : Value) = v ∧ (IntsF FF ((aggAt v 0)) (EL (((reachL ar rs a n).1)) 0).1) ∧ (StepsF FF ((aggAt v 1)) (walkL (((reachL ar rs a n).1)) k)), fun FF us v => v = (.agg #[x5, x6, x7, x8, .bool ((reachL ar rs b n).2)] : Value), fun FF us v => v = (.int .i64 (badG (fun y => !decide (y = (((terms (reachL ar rs a n).1).getD k [])))) (terms (reachL ar rs b n).1)) : Value)]) (ownL [fun us v => [], fun us v => [], fun us v => [], fun us v => [], fun us v => []]) mixed rfl rfl (by kernel_rfl) (by kernel_rfl) (MonoG.get (MonoG.cons (fun le h => h) (MonoG.cons (fun le h => h) (MonoG.cons (fun le h => ⟨h.1, h.2.1.mono le, h.2.2.mono le⟩) (MonoG.cons (fun le h => h) (MonoG.cons (fun le h => h) MonoG.nil)))))) ?_ ?_
      ·refine stepsG.cons (fun vals Fs R leFs hpZ => ?_) ?_
       ·replace har := har.mono leFs
        replace hrs := hrs.mono leFs
        replace ha := ha.mono leFs
        replace hb := hb.mono leFs
        replace hr1 := hr1.mono leFs
        replace hr2 := hr2.mono leFs
        replace hr3 := hr3.mono leFs
        replace hr4 := hr4.mono leFs
        replace hr5 := hr5.mono leFs
        replace hr6 := hr6.mono leFs
        replace hr7 := hr7.mono leFs
        replace hr8 := hr8.mono leFs
        replace ha1 := ha1.mono leFs
        replace hr9 := Rd.monoA hr9 leFs
        refine XG.op (XOp.loadN [x1, x2, x3, x4, .bool ((reachL ar rs a n).2)] Try.isAgg111 Try.sizeOf111 rfl rfl (Rd.ownN [_] rfl rfl) ?_)
        exact ⟨rfl, rfl⟩
       refine stepsG.cons (fun vals Fs R leFs hpZ => ?_) ?_
       ·refine XG.op (XOp.move (.int .i64 ((k : Int))) rfl ?_)
        exact ⟨rfl, rfl⟩
       refine stepsG.cons (fun vals Fs R leFs hpZ => ?_) ?_
       ·replace har := har.mono leFs
        replace hrs := hrs.mono leFs
        replace ha := ha.mono leFs
        replace hb := hb.mono leFs
        replace hr1 := hr1.mono leFs
        replace hr2 := hr2.mono leFs
        replace hr3 := hr3.mono leFs
        replace hr4 := hr4.mono leFs
        replace hr5 := hr5.mono leFs
        replace hr6 := hr6.mono leFs
        replace hr7 := hr7.mono leFs
        replace hr8 := hr8.mono leFs
        replace ha1 := ha1.mono leFs
        replace hr9 := Rd.monoA hr9 leFs
        rw [eS (l := [(0, (.agg #[x1, x2, x3, x4, .bool ((reachL ar rs a n).2)] : Value)), (1, (.int .i64 ((k : Int)) : Value))]) ⟨(hpZ 0 (by decide)), (hpZ 1 (by decide)), trivial⟩]
        refine XG.op (XOp.call (args := [.agg #[x1, x2, x3, x4, .bool ((reachL ar rs a n).2)], .int .i64 (k : Int)]) Try.call127 rfl (l9Walk_spec (k := k) hr1 hr2 hr3 hr4 (hk := (by omega)) (hll := (hrla)) (hlk := (hgda.1)) (hbd := (hrda))) ?_)
        rintro _ F4 _ le4 ⟨x11, x12, rfl, hr13, hr14, hr15, rfl⟩
        replace har := har.mono le4
        replace hrs := hrs.mono le4
        replace ha := ha.mono le4
        replace hb := hb.mono le4
        replace hr1 := hr1.mono le4
        replace hr2 := hr2.mono le4
        replace hr3 := hr3.mono le4
        replace hr4 := hr4.mono le4
        replace hr5 := hr5.mono le4
        replace hr6 := hr6.mono le4
        replace hr7 := hr7.mono le4
        replace hr8 := hr8.mono le4
        replace ha1 := ha1.mono le4
        replace hr9 := Rd.monoA hr9 le4
        exact ⟨⟨rfl, hr13, hr14⟩, rfl⟩
       refine stepsG.cons (fun vals Fs R leFs hpZ => ?_) ?_
       ·replace har := har.mono leFs
        replace hrs := hrs.mono leFs
        replace ha := ha.mono leFs
        replace hb := hb.mono leFs
        replace hr1 := hr1.mono leFs
        replace hr2 := hr2.mono leFs
        replace hr3 := hr3.mono leFs
        replace hr4 := hr4.mono leFs
        replace hr5 := hr5.mono leFs
        replace hr6 := hr6.mono leFs
        replace hr7 := hr7.mono leFs
        replace hr8 := hr8.mono leFs
        replace ha1 := ha1.mono leFs
        replace hr9 := Rd.monoA hr9 leFs
        refine XG.op (XOp.loadN [x5, x6, x7, x8, .bool ((reachL ar rs b n).2)] Try.isAgg111 Try.sizeOf111 rfl rfl (Rd.ownN [] rfl rfl) ?_)
        exact ⟨rfl, rfl⟩
       refine stepsG.cons (fun vals Fs R leFs hpZ => ?_) ?_
       ·refine XG.op (XOp.move (.int .i64 (badG (fun y => !decide (y = (((terms (reachL ar rs a n).1).getD k [])))) (terms (reachL ar rs b n).1))) rfl ?_)
        exact ⟨rfl, rfl⟩
       exact stepsG.nil
      ·intro vals F5 le5 hphi
       obtain ⟨e2, f2_2hr1, f2_2hr2⟩ := hphi 2 (by decide)
       generalize hu1 : ((aggAt (vals 2) 0)) = u1 at e2 f2_2hr1 f2_2hr2
       generalize hu2 : ((aggAt (vals 2) 1)) = u2 at e2 f2_2hr1 f2_2hr2
       rw [eS (l := [(0, (.agg #[x1, x2, x3, x4, .bool ((reachL ar rs a n).2)] : Value)), (1, (.int .i64 ((k : Int)) : Value)), (2, (.agg #[u1, u2] : Value)), (3, (.agg #[x5, x6, x7, x8, .bool ((reachL ar rs b n).2)] : Value)), (4, (.int .i64 (badG (fun y => !decide (y = (((terms (reachL ar rs a n).1).getD k [])))) (terms (reachL ar rs b n).1)) : Value))]) ⟨(hphi 0 (by decide)), (hphi 1 (by decide)), (e2).symm, (hphi 3 (by decide)), (hphi 4 (by decide)), trivial⟩]
       replace har := har.mono le5
       replace hrs := hrs.mono le5
       replace ha := ha.mono le5
       replace hb := hb.mono le5
       replace hr1 := hr1.mono le5
       replace hr2 := hr2.mono le5
       replace hr3 := hr3.mono le5
       replace hr4 := hr4.mono le5
       replace hr5 := hr5.mono le5
       replace hr6 := hr6.mono le5
       replace hr7 := hr7.mono le5
       replace hr8 := hr8.mono le5
       replace ha1 := ha1.mono le5
       replace hr9 := Rd.monoA hr9 le5
       show XL _ _ _ _ _ _ _ (cellsH b5 [x5, x6, x7, x8, .bool ((reachL ar rs b n).2)] 111 :: cellsH b4 [x1, x2, x3, x4, .bool ((reachL ar rs a n).2)] 111 :: cellsH b3 [(.slice none 0 0), (.slice none 0 0)] 73 :: cellsH b2 [(.slice none 0 0), (.slice none 0 0)] 73 :: cellsH b1 [arv, rsv] 36 :: L)
       refine XL.cons (XOp.call (args := [.agg #[x5, x6, x7, x8, .bool ((reachL ar rs b n).2)], .int .i64 (((badG (fun y => !decide (y = (((terms (reachL ar rs a n).1).getD k [])))) (terms (reachL ar rs b n).1)).toNat : Nat) : Int)]) Try.call127 (by rw [show (((badG (fun y => !decide (y = (((terms (reachL ar rs a n).1).getD k [])))) (terms (reachL ar rs b n).1)).toNat : Nat) : Int) = badG (fun y => !decide (y = (((terms (reachL ar rs a n).1).getD k [])))) (terms (reachL ar rs b n).1) from by omega]; rfl) (l9Walk_spec (k := (badG (fun y => !decide (y = (((terms (reachL ar rs a n).1).getD k [])))) (terms (reachL ar rs b n).1)).toNat) hr5 hr6 hr7 hr8 (hk := (by rw [hfi]; exact hfl (by omega))) (hll := (hrlb)) (hlk := (hgdb.1)) (hbd := (hrdb))) ?_)
       rintro _ F6 _ le6 ⟨x13, x14, rfl, hr16, hr17, hr18, rfl⟩
       replace har := har.mono le6
       replace hrs := hrs.mono le6
       replace ha := ha.mono le6
       replace hb := hb.mono le6
       replace hr1 := hr1.mono le6
       replace hr2 := hr2.mono le6
       replace hr3 := hr3.mono le6
       replace hr4 := hr4.mono le6
       replace hr5 := hr5.mono le6
       replace hr6 := hr6.mono le6
       replace hr7 := hr7.mono le6
       replace hr8 := hr8.mono le6
       replace ha1 := ha1.mono le6
       replace f2_2hr1 := f2_2hr1.mono le6
       replace f2_2hr2 := f2_2hr2.mono le6
       replace hr9 := Rd.monoA hr9 le6
       refine XL.cons (XOp.storeN (vs := [u1, u2]) [_, _, _] _ [u1, u2] Try.sizeOf73 rfl rfl rfl (ones_cons (one_sl (IntsF.isSl f2_2hr1)) (ones_cons (one_sl (StepsF.isSl f2_2hr2)) ones_nil)) rfl rfl rfl ?_)
       refine XL.cons (XOp.storeN (vs := [x13, x14]) [_, _] _ [x13, x14] Try.sizeOf73 rfl rfl rfl (ones_cons (one_sl (IntsF.isSl hr16)) (ones_cons (one_sl (StepsF.isSl hr17)) ones_nil)) rfl rfl rfl ?_)
       refine XL.as (.bool (true)) rfl ?_
       refine XL.nil ?_
       refine X.ret (blockQ_ret (thenQ_ret (thenQ_ret (blockQ_ret (thenQ_ret (retEnd (L' := L) [.agg #[u1, u2], .agg #[x13, x14], .bool (true)] (.tuple #[.agg #[u1, u2], .agg #[x13, x14], .bool (true)]) (.cell rfl (loadNV [u1, u2] Try.isAgg73 Try.sizeOf73 rfl (Rd.ownN [_, _, _] rfl rfl)) (.cell rfl (loadNV [x13, x14] Try.isAgg73 Try.sizeOf73 rfl (Rd.ownN [_, _] rfl rfl)) (.tmp rfl .nil))) rfl (FLe.trans (FLe.trans (FLe.trans le1 le2) le5) le6) rF (Sub.drop (Sub.drop (Sub.drop (Sub.drop (Sub.drop sR))))) ?_))))))
       have e : joinF ar rs a b n = ((EL (reachL ar rs a n).1 0).1, walkL (reachL ar rs a n).1 k, (EL (reachL ar rs b n).1 0).1, walkL (reachL ar rs b n).1 (badG (fun y => !decide (y = ((terms (reachL ar rs a n).1).getD k []))) (terms (reachL ar rs b n).1)).toNat, true) := by rw [joinF_yes hro, join0_at (k := k) (by omega) (by omega) hno, hgda.2.2.2, hgdb.2.2.2, hfi]
       exact ⟨_, _, _, _, by rw [e], by rw [e]; exact f2_2hr1, by rw [e]; exact f2_2hr2, by rw [e]; exact hr16, by rw [e]; exact hr17, rfl⟩
     ·refine X.skip (X.region ?_)
      refine XL.mv (.int .i64 ((k : Int))) rfl ?_
      refine XL.cons (XOp.addR (a := (k : Int)) (b := 1) (((k + 1 : Nat) : Int)) rfl rfl (by omega) (by omega) ?_)
      refine XL.as (.int .i64 (((k + 1 : Nat) : Int))) rfl ?_
      refine XL.nil ?_
      exact ⟨k + 1, _, FLe.refl _, rF, ⟨rfl, rfl, rfl, rfl, rfl, trivial⟩, (Sub.cons (Sub.cons (Sub.cons (Sub.cons (Sub.cons sR))))), ⟨rfl, (by (try dsimp only) <;> omega), (fun i hi => (Nat.lt_or_ge i k).elim (fun h => hno i h) (fun h => by obtain rfl : i = k := (by omega); omega))⟩, (by omega)⟩
   ·refine X.exit (thenQ_exit (thenQ_exit (blockQ_exit ?_)))
    refine X.seq (X.region ?_)
    refine XL.cons (XOp.build [(.slice none 0 0), (.slice none 0 0)] [(.slice none 0 0), (.slice none 0 0)] [(0, 1), (1, 1)] [] Try.runUnderlying73 Try.zeroValue73 rfl (.cons rfl Try.sizeOf22 (.cons rfl Try.sizeOf71 PlacesAre.nil)) rfl CellsAre.nil ?_)
    refine XL.cons (XOp.build [(.slice none 0 0), (.slice none 0 0)] [(.slice none 0 0), (.slice none 0 0)] [(0, 1), (1, 1)] [] Try.runUnderlying73 Try.zeroValue73 rfl (.cons rfl Try.sizeOf22 (.cons rfl Try.sizeOf71 PlacesAre.nil)) rfl CellsAre.nil ?_)
    refine XL.cons (XOp.storeN (vs := [(.slice none 0 0), (.slice none 0 0)]) [_, _, _] _ [(.slice none 0 0), (.slice none 0 0)] Try.sizeOf73 rfl rfl rfl (ones_cons rfl (ones_cons rfl ones_nil)) rfl rfl rfl ?_)
    refine XL.cons (XOp.storeN (vs := [(.slice none 0 0), (.slice none 0 0)]) [_, _] _ [(.slice none 0 0), (.slice none 0 0)] Try.sizeOf73 rfl rfl rfl (ones_cons rfl (ones_cons rfl ones_nil)) rfl rfl rfl ?_)
    refine XL.as (.bool (false)) rfl ?_
    refine XL.nil ?_
    refine X.ret (retEnd (L' := L) [.agg #[(.slice none 0 0), (.slice none 0 0)], .agg #[(.slice none 0 0), (.slice none 0 0)], .bool (false)] (.tuple #[.agg #[(.slice none 0 0), (.slice none 0 0)], .agg #[(.slice none 0 0), (.slice none 0 0)], .bool (false)]) (.cell rfl (loadNV [(.slice none 0 0), (.slice none 0 0)] Try.isAgg73 Try.sizeOf73 rfl (Rd.ownN [_, _, _] rfl rfl)) (.cell rfl (loadNV [(.slice none 0 0), (.slice none 0 0)] Try.isAgg73 Try.sizeOf73 rfl (Rd.ownN [_, _] rfl rfl)) (.tmp rfl .nil))) rfl (FLe.trans le1 le2) rF (Sub.drop (Sub.drop (Sub.drop (Sub.drop (Sub.drop sR))))) ?_)
    have e : joinF ar rs a b n = ([], [], [], [], false) := (joinF_yes hro).trans (join0_none (fun i hi => hno i (by omega)))
    exact ⟨_, _, _, _, by rw [e], by rw [e]; exact IntsF.nilV, by rw [e]; exact SlOf.nilV, by rw [e]; exact IntsF.nilV, by rw [e]; exact SlOf.nilV, rfl⟩

/- spec.JoinsIn -/
set_option maxRecDepth 20000 in
theorem sJoinsIn_spec {F : FH} {L : List HP} {arv : Value} {ar : List Int} (har : IntsF F arv ar) {rsv : Value} {rs : List (List Int × List Int)} (hrs : PairsF F rsv rs) {av : Value} {a : List Int} (ha : IntsF F av a) {bv : Value} {b : List Int} (hb : IntsF F bv b) {n : Int} (hla : ar.length ≤ 4000000) (hlr : rs.length ≤ 4000000) (hrb : ∀ i, i < rs.length → (rs.getD i ([], [])).1.length ≤ 4000000 ∧ (rs.getD i ([], [])).2.length ≤ 4000000) (hla9 : a.length ≤ 4000000) (hlb9 : b.length ≤ 4000000) :
    Does Try.prog 19 [.agg #[arv, rsv], av, bv, .int .i64 (n)] F (L) (fun v F' L' => (.bool ((joinF ar rs a b n).2.2.2.2) : Value) = v ∧ L = L') := by
 refine Does.of_X Try.func19 rfl rfl rfl ?_
 refine X.seq (X.region ?_)
 refine XL.cons (XOp.box [arv, rsv] rfl rfl ?_)
 intro b1
 refine XL.as (.bool (false)) rfl ?_
 refine XL.nil (X.seq (X.region ?_))
 refine XL.cons (XOp.loadN [arv, rsv] Try.isAgg36 Try.sizeOf36 rfl rfl (Rd.ownN [] rfl rfl) ?_)
 refine XL.mv (av) rfl ?_
 refine XL.mv (bv) rfl ?_
 refine XL.mv (.int .i64 (n)) rfl ?_
 refine XL.cons (XOp.call (args := [.agg #[arv, rsv], av, bv, .int .i64 (n)]) Try.call69 rfl (sJoinOf_spec (n := n) har hrs ha hb (hla := (by first | assumption | rfl | omega | simp)) (hlr := (by first | assumption | rfl | omega | simp)) (hrb := (by first | assumption | rfl | omega | simp)) (hla9 := (by first | assumption | rfl | omega | simp)) (hlb9 := (by first | assumption | rfl | omega | simp))) ?_)
 rintro _ F1 _ le1 ⟨x1, x2, x3, x4, rfl, hr1, hr2, hr3, hr4, rfl⟩
 replace har := har.mono le1
 replace hrs := hrs.mono le1
 replace ha := ha.mono le1
 replace hb := hb.mono le1
 refine XL.mv (.tuple #[.agg #[x1, x2], .agg #[x3, x4], .bool ((joinF ar rs a b n).2.2.2.2)]) rfl ?_
 refine XL.cons (XOp.extract (.agg #[x1, x2]) rfl rfl ?_)
 refine XL.cons (XOp.extract (.agg #[x3, x4]) rfl rfl ?_)
 refine XL.cons (XOp.extract (.bool ((joinF ar rs a b n).2.2.2.2)) rfl rfl ?_)
 refine XL.cons (XOp.alloc [(.slice none 0 0), (.slice none 0 0)] Try.zeroValue73 rfl ?_)
 intro b2
 refine XL.cons (XOp.alloc [(.slice none 0 0), (.slice none 0 0)] Try.zeroValue73 rfl ?_)
 intro b3
 refine XL.cons (XOp.storeN (vs := [x1, x2]) [_] _ [x1, x2] Try.sizeOf73 rfl rfl rfl (ones_cons (one_sl (IntsF.isSl hr1)) (ones_cons (one_sl (StepsF.isSl hr2)) ones_nil)) rfl rfl rfl ?_)
 refine XL.cons (XOp.storeN (vs := [x3, x4]) [] _ [x3, x4] Try.sizeOf73 rfl rfl rfl (ones_cons (one_sl (IntsF.isSl hr3)) (ones_cons (one_sl (StepsF.isSl hr4)) ones_nil)) rfl rfl rfl ?_)
 refine XL.as (.bool ((joinF ar rs a b n).2.2.2.2)) rfl ?_
 refine XL.nil (X.seq (X.region ?_))
 refine XL.mv (.bool ((joinF ar rs a b n).2.2.2.2)) rfl ?_
 refine XL.as (.bool ((joinF ar rs a b n).2.2.2.2)) rfl ?_
 refine XL.nil ?_
 refine X.ret (retEnd (L' := L) [.bool ((joinF ar rs a b n).2.2.2.2)] (.bool ((joinF ar rs a b n).2.2.2.2)) (.tmp rfl .nil) rfl le1 rF (Sub.drop (Sub.drop (Sub.drop sR))) ?_)
 exact ⟨rfl, rfl⟩

/- laws.FnExactJoinsIn -/
set_option maxRecDepth 20000 in
theorem FnExactJoinsIn_does {F : FH} {L : List HP} {arv : Value} {ar : List Int} (har : IntsF F arv ar) {rsv : Value} {rs : List (List Int × List Int)} (hrs : PairsF F rsv rs) {av : Value} {a : List Int} (ha : IntsF F av a) {bv : Value} {b : List Int} (hb : IntsF F bv b) {n : Int} (hlar : ar.length ≤ 9223372036854775807) (hlrs : rs.length ≤ 9223372036854775807) (hbrs : ∀ i, i < rs.length → (rs.getD i ([], [])).1.length ≤ 9223372036854775807 ∧ (rs.getD i ([], [])).2.length ≤ 9223372036854775807) (hla : a.length ≤ 9223372036854775807) (hlb : b.length ≤ 9223372036854775807) :
    Does Try.prog 4 [.agg #[arv, rsv], av, bv, .int .i64 (n)] F (L) (fun v F' L' => (.bool (true) : Value) = v ∧ F = F' ∧ L = L') := by
 refine Does.of_X Try.func4 rfl rfl rfl ?_
 refine X.seq (X.region ?_)
 refine XL.cons (XOp.box [arv, rsv] rfl rfl ?_)
 intro b1
 refine XL.as (.bool (false)) rfl ?_
 refine XL.nil (X.seq (X.seq (X.region ?_)))
 refine XL.mv (av) rfl ?_
 refine XL.cons (XOp.lenS (v := av) (n := (a).length) Try.runUnderlying22 rfl ha.slv ?_)
 refine XL.cons (XOp.gtr (a := (a.length : Int)) (b := 1048576) rfl rfl ?_)
 refine XL.nil ?_
 refine X.condD (p := ((a.length : Int) : Int) > 1048576) rfl (fun h1 => ?_) (fun h1 => ?_)
 ·refine X.seq (X.region ?_)
  refine XL.as (.bool (true)) rfl ?_
  refine XL.nil ?_
  refine X.ret (thenQ_ret (retEnd (L' := L) [.bool (true)] (.bool (true)) (.tmp rfl .nil) rfl rF rF (Sub.drop sR) ?_))
  exact ⟨rfl, rfl, rfl⟩
 ·refine X.skip (X.seq (X.seq (X.region ?_)))
  refine XL.mv (bv) rfl ?_
  refine XL.cons (XOp.lenS (v := bv) (n := (b).length) Try.runUnderlying22 rfl hb.slv ?_)
  refine XL.cons (XOp.gtr (a := (b.length : Int)) (b := 1048576) rfl rfl ?_)
  refine XL.nil ?_
  refine X.condD (p := ((b.length : Int) : Int) > 1048576) rfl (fun h2 => ?_) (fun h2 => ?_)
  ·refine X.seq (X.region ?_)
   refine XL.as (.bool (true)) rfl ?_
   refine XL.nil ?_
   refine X.ret (thenQ_ret (retEnd (L' := L) [.bool (true)] (.bool (true)) (.tmp rfl .nil) rfl rF rF (Sub.drop sR) ?_))
   exact ⟨rfl, rfl, rfl⟩
  ·refine X.skip (X.seq (X.region ?_))
   refine XL.as (.int .i64 (1048576)) rfl ?_
   refine XL.nil (X.seq (X.region ?_))
   refine XL.cons (XOp.loadN [arv, rsv] Try.isAgg27 Try.sizeOf27 rfl rfl (Rd.ownN [] rfl rfl) ?_)
   refine XL.mv (.int .i64 (1048576)) rfl ?_
   refine XL.cons (XOp.call (args := [.agg #[arv, rsv], .int .i64 (1048576)]) Try.call11 rfl (szSystem_spec (z := 1048576) har hrs (hz := (by first | assumption | rfl | omega | simp)) (hal := (by first | assumption | rfl | omega | simp)) (hrl := (by first | assumption | rfl | omega | simp)) (hrb := (by first | assumption | rfl | omega | simp))) ?_)
   rintro _ _ _ _ ⟨rfl, rfl, rfl⟩
   refine XL.as (.int .i64 (dec 1048576 (ar.length + szR rs))) rfl ?_
   refine XL.nil (X.seq (X.seq (X.region ?_)))
   refine XL.mv (.int .i64 (dec 1048576 (ar.length + szR rs))) rfl ?_
   refine XL.cons (XOp.lss (a := dec 1048576 (ar.length + szR rs)) (b := 0) rfl rfl ?_)
   refine XL.nil ?_
   refine X.condD (p := (dec 1048576 (ar.length + szR rs) : Int) < 0) rfl (fun h3 => ?_) (fun h3 => ?_)
   ·refine X.seq (X.region ?_)
    refine XL.as (.bool (true)) rfl ?_
    refine XL.nil ?_
    refine X.ret (thenQ_ret (retEnd (L' := L) [.bool (true)] (.bool (true)) (.tmp rfl .nil) rfl rF rF (Sub.drop sR) ?_))
    exact ⟨rfl, rfl, rfl⟩
   ·have hd1 := dec_le2 h3 (by omega)
    have hzrs := szR_le (rs := rs)
    have hirs := hzrs.2
    have hcrs : ∀ i, i < rs.length → (rs.getD i ([], [])).1.length ≤ 4000000 ∧ (rs.getD i ([], [])).2.length ≤ 4000000 := fun i hi => by have := hirs i hi; omega
    have hfrs := flatPair_len rs
    refine X.skip (X.seq (X.region ?_))
    refine XL.cons (XOp.loadN [arv, rsv] Try.isAgg27 Try.sizeOf27 rfl rfl (Rd.ownN [] rfl rfl) ?_)
    refine XL.cons (XOp.thawL ?_)
    refine id (XOp.call (args := [.agg #[arv, rsv]]) Try.call14 rfl (toSystem_spec har hrs (hla := (by first | assumption | rfl | omega | simp)) (hrl := (by first | assumption | rfl | omega | simp)) (hrb := (by first | assumption | rfl | omega | simp))) ?_)
    rintro _ F1 _ le1 ⟨x1, x2, rfl, hr1, hr2, hr3, rfl⟩
    refine ⟨[intsH 2 x1 ar, pairsD 2 98 x2 rs], hr3, ?_⟩
    show XL _ _ _ _ _ _ _ (intsH 2 x1 ar :: pairsD 2 98 x2 rs :: cellsH b1 [arv, rsv] 27 :: L)
    refine XL.mv (av) rfl ?_
    refine XL.cons (XOp.call (args := [av]) Try.call20 rfl (toInt64S_spec ha (hlx := (by first | assumption | rfl | omega | simp))) ?_)
    rintro v1 _ _ _ ⟨rfl, hs1, rfl⟩
    refine XL.mv (bv) rfl ?_
    refine XL.cons (XOp.call (args := [bv]) Try.call20 rfl (toInt64S_spec hb (hlx := (by first | assumption | rfl | omega | simp))) ?_)
    rintro v2 _ _ _ ⟨rfl, hs2, rfl⟩
    refine XL.mv (.int .i64 (n)) rfl ?_
    refine XL.freezeF [_, _] _ _ rfl (fun F2 le2 hz1 => ?_)
    replace har := har.mono le2
    replace hrs := hrs.mono le2
    replace ha := ha.mono le2
    replace hb := hb.mono le2
    have hf1 : IntsF F2 x1 ar := intsH.fz (xs := ar) hz1.fz
    refine XL.freezeF [_, _] _ _ rfl (fun F3 le3 hz2 => ?_)
    replace har := har.mono le3
    replace hrs := hrs.mono le3
    replace ha := ha.mono le3
    replace hb := hb.mono le3
    replace hf1 := hf1.mono le3
    have hf2 : PairsF F3 x2 rs := pairsD.fz hz2.fz
    refine XL.freezeF [_] _ _ rfl (fun F4 le4 hz3 => ?_)
    replace har := har.mono le4
    replace hrs := hrs.mono le4
    replace ha := ha.mono le4
    replace hb := hb.mono le4
    replace hf1 := hf1.mono le4
    replace hf2 := hf2.mono le4
    have hf3 : IntsF F4 v1 ((a)) := intsH.fz (xs := (a)) hz3.fz
    refine XL.freezeF [] _ _ rfl (fun F5 le5 hz4 => ?_)
    replace har := har.mono le5
    replace hrs := hrs.mono le5
    replace ha := ha.mono le5
    replace hb := hb.mono le5
    replace hf1 := hf1.mono le5
    replace hf2 := hf2.mono le5
    replace hf3 := hf3.mono le5
    have hf4 : IntsF F5 v2 ((b)) := intsH.fz (xs := (b)) hz4.fz
    refine XL.cons (XOp.call (args := [.agg #[x1, x2], v1, v2, .int .i64 (n)]) Try.call19 rfl (sJoinsIn_spec (n := n) hf1 hf2 hf3 hf4 (hla := (by first | assumption | rfl | omega | simp)) (hlr := (by first | assumption | rfl | omega | simp)) (hrb := (by first | assumption | rfl | omega | simp)) (hla9 := (by first | assumption | rfl | omega | simp)) (hlb9 := (by first | assumption | rfl | omega | simp))) ?_)
    rintro _ F6 _ le6 ⟨rfl, rfl⟩
    replace har := har.mono le6
    replace hrs := hrs.mono le6
    replace ha := ha.mono le6
    replace hb := hb.mono le6
    replace hf1 := hf1.mono le6
    replace hf2 := hf2.mono le6
    replace hf3 := hf3.mono le6
    replace hf4 := hf4.mono le6
    refine XL.as (.bool ((joinF ar rs ((a)) ((b)) n).2.2.2.2)) rfl ?_
    refine XL.nil (X.seq (X.region ?_))
    refine XL.cons (XOp.loadN [arv, rsv] Try.isAgg27 Try.sizeOf27 rfl rfl (Rd.ownN [] rfl rfl) ?_)
    refine XL.cons (XOp.thawL ?_)
    refine id (XOp.call (args := [.agg #[arv, rsv]]) Try.call14 rfl (toSystem_spec har hrs (hla := (by first | assumption | rfl | omega | simp)) (hrl := (by first | assumption | rfl | omega | simp)) (hrb := (by first | assumption | rfl | omega | simp))) ?_)
    rintro _ F7 _ le7 ⟨x3, x4, rfl, hr4, hr5, hr6, rfl⟩
    refine ⟨[intsH 2 x3 ar, pairsD 2 98 x4 rs], hr6, ?_⟩
    show XL _ _ _ _ _ _ _ (intsH 2 x3 ar :: pairsD 2 98 x4 rs :: cellsH b1 [arv, rsv] 27 :: L)
    refine XL.cons (XOp.alloc [(.slice none 0 0), (.slice none 0 0)] Try.zeroValue36 rfl ?_)
    intro b2
    refine XL.cons (XOp.storeN (vs := [x3, x4]) [] _ [x3, x4] Try.sizeOf36 rfl rfl rfl (ones_cons (one_sl (IntsF.isSl hr4)) (ones_cons (one_sl (PairsF.isSl hr5)) ones_nil)) rfl rfl rfl ?_)
    refine XL.nil (X.seq (X.region ?_))
    refine XL.mv (av) rfl ?_
    refine XL.cons (XOp.call (args := [av]) Try.call20 rfl (toInt64S_spec ha (hlx := (by first | assumption | rfl | omega | simp))) ?_)
    rintro v3 _ _ _ ⟨rfl, hs3, rfl⟩
    refine XL.as (v3) rfl ?_
    refine XL.nil (X.seq (X.region ?_))
    refine XL.mv (bv) rfl ?_
    refine XL.cons (XOp.call (args := [bv]) Try.call20 rfl (toInt64S_spec hb (hlx := (by first | assumption | rfl | omega | simp))) ?_)
    rintro v4 _ _ _ ⟨rfl, hs4, rfl⟩
    refine XL.as (v4) rfl ?_
    refine XL.nil (X.seq (X.region ?_))
    refine XL.cons (XOp.loadN [x3, x4] Try.isAgg36 Try.sizeOf36 rfl rfl (Rd.ownN [_, _] rfl rfl) ?_)
    refine XL.mv (v3) rfl ?_
    refine XL.mv (v4) rfl ?_
    refine XL.mv (.int .i64 (n)) rfl ?_
    refine XL.freezeF [_, _, _] _ _ rfl (fun F8 le8 hz5 => ?_)
    replace har := har.mono le8
    replace hrs := hrs.mono le8
    replace ha := ha.mono le8
    replace hb := hb.mono le8
    replace hf1 := hf1.mono le8
    replace hf2 := hf2.mono le8
    replace hf3 := hf3.mono le8
    replace hf4 := hf4.mono le8
    have hf5 : IntsF F8 x3 ar := intsH.fz (xs := ar) hz5.fz
    refine XL.freezeF [_, _, _] _ _ rfl (fun F9 le9 hz6 => ?_)
    replace har := har.mono le9
    replace hrs := hrs.mono le9
    replace ha := ha.mono le9
    replace hb := hb.mono le9
    replace hf1 := hf1.mono le9
    replace hf2 := hf2.mono le9
    replace hf3 := hf3.mono le9
    replace hf4 := hf4.mono le9
    replace hf5 := hf5.mono le9
    have hf6 : PairsF F9 x4 rs := pairsD.fz hz6.fz
    refine XL.freezeF [_] _ _ rfl (fun F10 le10 hz7 => ?_)
    replace har := har.mono le10
    replace hrs := hrs.mono le10
    replace ha := ha.mono le10
    replace hb := hb.mono le10
    replace hf1 := hf1.mono le10
    replace hf2 := hf2.mono le10
    replace hf3 := hf3.mono le10
    replace hf4 := hf4.mono le10
    replace hf5 := hf5.mono le10
    replace hf6 := hf6.mono le10
    have hf7 : IntsF F10 v3 ((a)) := intsH.fz (xs := (a)) hz7.fz
    refine XL.freezeF [] _ _ rfl (fun F11 le11 hz8 => ?_)
    replace har := har.mono le11
    replace hrs := hrs.mono le11
    replace ha := ha.mono le11
    replace hb := hb.mono le11
    replace hf1 := hf1.mono le11
    replace hf2 := hf2.mono le11
    replace hf3 := hf3.mono le11
    replace hf4 := hf4.mono le11
    replace hf5 := hf5.mono le11
    replace hf6 := hf6.mono le11
    replace hf7 := hf7.mono le11
    have hf8 : IntsF F11 v4 ((b)) := intsH.fz (xs := (b)) hz8.fz
    refine XL.cons (XOp.call (args := [.agg #[x3, x4], v3, v4, .int .i64 (n)]) Try.call21 rfl (JoinsIn_spec (n := n) hf5 hf6 hf7 hf8 (hla9 := (by first | assumption | rfl | omega | simp)) (hlb9 := (by first | assumption | rfl | omega | simp))) ?_)
    rintro _ F12 _ le12 ⟨rfl, rfl⟩
    replace har := har.mono le12
    replace hrs := hrs.mono le12
    replace ha := ha.mono le12
    replace hb := hb.mono le12
    replace hf1 := hf1.mono le12
    replace hf2 := hf2.mono le12
    replace hf3 := hf3.mono le12
    replace hf4 := hf4.mono le12
    replace hf5 := hf5.mono le12
    replace hf6 := hf6.mono le12
    replace hf7 := hf7.mono le12
    replace hf8 := hf8.mono le12
    refine XL.as (.bool ((joinF ar rs ((a)) ((b)) n).2.2.2.2)) rfl ?_
    refine XL.nil (X.seq (X.seq (X.region ?_)))
    refine XL.mv (.bool ((joinF ar rs ((a)) ((b)) n).2.2.2.2)) rfl ?_
    refine XL.mv (.bool ((joinF ar rs ((a)) ((b)) n).2.2.2.2)) rfl ?_
    refine XL.cons (XOp.neB (a := (joinF ar rs ((a)) ((b)) n).2.2.2.2) (b := (joinF ar rs ((a)) ((b)) n).2.2.2.2) Try.runUnderlying4 rfl rfl ?_)
    refine XL.nil ?_
    refine X.condD (p := ((joinF ar rs ((a)) ((b)) n).2.2.2.2) ≠ ((joinF ar rs ((a)) ((b)) n).2.2.2.2)) rfl (fun h4 => ?_) (fun h4 => ?_)
    ·exact absurd rfl h4
    ·refine X.skip (X.seq (X.seq ?_))
     refine X.drawG [cellsH b2 [x3, x4] 36, cellsH b1 [arv, rsv] 27] L 3 [[], [], []] [[], [], [1]] [[], [], []] (phiG [fun FF us v => v = (.agg #[x3, x4] : Value), fun FF us v => v = (.agg #[arv, rsv] : Value), fun FF us v => (.agg #[((aggAt v 0)), ((aggAt v 1))] : Value) = v ∧ (IntsF FF ((aggAt v 0)) ar) ∧ (PairsF FF ((aggAt v 1)) rs)]) (ownL [fun us v => [], fun us v => [], fun us v => []]) mixed rfl rfl (by kernel_rfl) (by kernel_rfl) (MonoG.get (MonoG.cons (fun le h => h) (MonoG.cons (fun le h => h) (MonoG.cons (fun le h => ⟨h.1, h.2.1.mono le, h.2.2.mono le⟩) MonoG.nil)))) ?_ ?_
     ·refine stepsG.cons (fun vals Fs R leFs hpZ => ?_) ?_
      ·replace har := har.mono leFs
       replace hrs := hrs.mono leFs
       replace ha := ha.mono leFs
       replace hb := hb.mono leFs
       replace hf1 := hf1.mono leFs
       replace hf2 := hf2.mono leFs
       replace hf3 := hf3.mono leFs
       replace hf4 := hf4.mono leFs
       replace hf5 := hf5.mono leFs
       replace hf6 := hf6.mono leFs
       replace hf7 := hf7.mono leFs
       replace hf8 := hf8.mono leFs
       refine XG.op (XOp.loadN [x3, x4] Try.isAgg36 Try.sizeOf36 rfl rfl (Rd.ownN [] rfl rfl) ?_)
       exact ⟨rfl, rfl⟩
      refine stepsG.cons (fun vals Fs R leFs hpZ => ?_) ?_
      ·replace har := har.mono leFs
       replace hrs := hrs.mono leFs
       replace ha := ha.mono leFs
       replace hb := hb.mono leFs
       replace hf1 := hf1.mono leFs
       replace hf2 := hf2.mono leFs
       replace hf3 := hf3.mono leFs
       replace hf4 := hf4.mono leFs
       replace hf5 := hf5.mono leFs
       replace hf6 := hf6.mono leFs
       replace hf7 := hf7.mono leFs
       replace hf8 := hf8.mono leFs
       refine XG.op (XOp.loadN [arv, rsv] Try.isAgg27 Try.sizeOf27 rfl rfl (Rd.ownN [_] rfl rfl) ?_)
       exact ⟨rfl, rfl⟩
      refine stepsG.cons (fun vals Fs R leFs hpZ => ?_) ?_
      ·replace har := har.mono leFs
       replace hrs := hrs.mono leFs
       replace ha := ha.mono leFs
       replace hb := hb.mono leFs
       replace hf1 := hf1.mono leFs
       replace hf2 := hf2.mono leFs
       replace hf3 := hf3.mono leFs
       replace hf4 := hf4.mono leFs
       replace hf5 := hf5.mono leFs
       replace hf6 := hf6.mono leFs
       replace hf7 := hf7.mono leFs
       replace hf8 := hf8.mono leFs
       rw [eS (l := [(1, (.agg #[arv, rsv] : Value))]) ⟨(hpZ 1 (by decide)), trivial⟩]
       refine XG.op (XOp.call (args := [.agg #[arv, rsv]]) Try.call14 rfl (toSystem_spec har hrs (hla := (by first | assumption | rfl | omega | simp)) (hrl := (by first | assumption | rfl | omega | simp)) (hrb := (by first | assumption | rfl | omega | simp))) ?_)
       rintro _ F14 _ le14 ⟨x7, x8, rfl, hr10, hr11, hr12, rfl⟩
       replace har := har.mono le14
       replace hrs := hrs.mono le14
       replace ha := ha.mono le14
       replace hb := hb.mono le14
       replace hf1 := hf1.mono le14
       replace hf2 := hf2.mono le14
       replace hf3 := hf3.mono le14
       replace hf4 := hf4.mono le14
       replace hf5 := hf5.mono le14
       replace hf6 := hf6.mono le14
       replace hf7 := hf7.mono le14
       replace hf8 := hf8.mono le14
       exact ⟨⟨rfl, hr10, hr11⟩, rfl⟩
      exact stepsG.nil
     ·intro vals F15 le15 hphi
      obtain ⟨e2, f2_1hr1, f2_1hr2⟩ := hphi 2 (by decide)
      generalize hu1 : ((aggAt (vals 2) 0)) = u1 at e2 f2_1hr1 f2_1hr2
      generalize hu2 : ((aggAt (vals 2) 1)) = u2 at e2 f2_1hr1 f2_1hr2
      rw [eS (l := [(0, (.agg #[x3, x4] : Value)), (1, (.agg #[arv, rsv] : Value)), (2, (.agg #[u1, u2] : Value))]) ⟨(hphi 0 (by decide)), (hphi 1 (by decide)), (e2).symm, trivial⟩]
      replace har := har.mono le15
      replace hrs := hrs.mono le15
      replace ha := ha.mono le15
      replace hb := hb.mono le15
      replace hf1 := hf1.mono le15
      replace hf2 := hf2.mono le15
      replace hf3 := hf3.mono le15
      replace hf4 := hf4.mono le15
      replace hf5 := hf5.mono le15
      replace hf6 := hf6.mono le15
      replace hf7 := hf7.mono le15
      replace hf8 := hf8.mono le15
      show XL _ _ _ _ _ _ _ (cellsH b2 [x3, x4] 36 :: cellsH b1 [arv, rsv] 27 :: L)
      refine XL.cons (XOp.call (args := [.agg #[x3, x4], .agg #[u1, u2]]) Try.call17 rfl (eqSystem_spec hf5 hf6 f2_1hr1 f2_1hr2 (hcl := (by first | assumption | rfl | omega | simp)) (hal := (by first | assumption | rfl | omega | simp)) (hbd := (by first | assumption | rfl | omega | simp))) ?_)
      rintro _ _ _ _ ⟨rfl, rfl, rfl⟩
      refine XL.cons (XOp.notD (p := ar = ar ∧ rs = rs) rfl ?_)
      refine XL.nil ?_
      refine X.condD (p := ¬(ar = ar ∧ rs = rs)) rfl (fun h5 => ?_) (fun h5 => ?_)
      ·exact absurd (by first | rfl | exact ⟨rfl, rfl⟩ | exact ⟨⟨rfl, rfl⟩, rfl, rfl⟩ | simp) h5
      ·refine X.skip (X.seq (X.seq (X.region ?_)))
       refine XL.mv (v3) rfl ?_
       refine XL.mv (av) rfl ?_
       refine XL.cons (XOp.call (args := [av]) Try.call20 rfl (toInt64S_spec ha (hlx := (by first | assumption | rfl | omega | simp))) ?_)
       rintro v5 _ _ _ ⟨rfl, hs5, rfl⟩
       refine XL.cons (XOp.lend [] _ _ rfl (fun F16 le16 hz9 => ?_))
       have hf9 : IntsF _ v5 ((a)) := intsH.fz (xs := (a)) hz9
       refine id (XOp.call (args := [v3, v5]) Try.call22 rfl (eqInt64S_spec ((hf7.mono le16)) hf9 (hbd := (by first | assumption | rfl | omega | (left; simp; done) | (right; simp; done)))) ?_)
       rintro _ _ _ _ ⟨rfl, rfl, rfl⟩
       show XL _ _ _ _ _ _ _ (intsH 2 v5 ((a)) :: cellsH b2 [x3, x4] 36 :: cellsH b1 [arv, rsv] 27 :: L)
       refine XL.cons (XOp.notD (p := ((a)) = ((a))) rfl ?_)
       refine XL.nil ?_
       refine X.condD (p := ¬(((a)) = ((a)))) rfl (fun h6 => ?_) (fun h6 => ?_)
       ·exact absurd (by first | rfl | exact ⟨rfl, rfl⟩ | exact ⟨⟨rfl, rfl⟩, rfl, rfl⟩ | simp) h6
       ·refine X.skip (X.seq (X.seq (X.region ?_)))
        refine XL.mv (v4) rfl ?_
        refine XL.mv (bv) rfl ?_
        refine XL.cons (XOp.call (args := [bv]) Try.call20 rfl (toInt64S_spec hb (hlx := (by first | assumption | rfl | omega | simp))) ?_)
        rintro v6 _ _ _ ⟨rfl, hs6, rfl⟩
        refine XL.cons (XOp.lend [] _ _ rfl (fun F17 le17 hz10 => ?_))
        have hf10 : IntsF _ v6 ((b)) := intsH.fz (xs := (b)) hz10
        refine id (XOp.call (args := [v4, v6]) Try.call22 rfl (eqInt64S_spec ((hf8.mono le17)) hf10 (hbd := (by first | assumption | rfl | omega | (left; simp; done) | (right; simp; done)))) ?_)
        rintro _ _ _ _ ⟨rfl, rfl, rfl⟩
        show XL _ _ _ _ _ _ _ (intsH 2 v6 ((b)) :: intsH 2 v5 ((a)) :: cellsH b2 [x3, x4] 36 :: cellsH b1 [arv, rsv] 27 :: L)
        refine XL.cons (XOp.notD (p := ((b)) = ((b))) rfl ?_)
        refine XL.nil ?_
        refine X.condD (p := ¬(((b)) = ((b)))) rfl (fun h7 => ?_) (fun h7 => ?_)
        ·exact absurd (by first | rfl | exact ⟨rfl, rfl⟩ | exact ⟨⟨rfl, rfl⟩, rfl, rfl⟩ | simp) h7
        ·refine X.skip (X.seq (X.region ?_))
         refine XL.as (.bool (true)) rfl ?_
         refine XL.nil ?_
         refine X.ret (retEnd (L' := L) [.bool (true)] (.bool (true)) (.tmp rfl .nil) rfl rF (FLe.trans (FLe.trans (FLe.trans (FLe.trans (FLe.trans (FLe.trans (FLe.trans (FLe.trans (FLe.trans (FLe.trans le2 le3) le4) le5) le6) le8) le9) le10) le11) le12) le15) (Sub.drop (Sub.drop (Sub.drop (Sub.drop sR)))) ?_)
         exact ⟨rfl, rfl, rfl⟩
end Go.Proofs.Ytnloeeaidknblaa
