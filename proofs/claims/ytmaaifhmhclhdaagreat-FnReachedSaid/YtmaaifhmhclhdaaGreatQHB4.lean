/-
  Walks, one after the other (part 5).
-/
import Derived.Test.YtmaaifhmhclhdaaGreatQHL1
import Derived.Test.YtmaaifhmhclhdaaGreatQHB3
import Derived.Test.YtmaaifhmhclhdaaGreatQHB2
set_option linter.unusedSimpArgs false
set_option linter.unusedVariables false
namespace Go.Proofs.YtmaaifhmhclhdaaGreat
open Go X M Tryz

/- spec.l9Walk -/
theorem l9Walk_spec {F : FH} {L : List HP} {x1v x2v x3v x4v : Value} {al : List FoundT} {ab : Bool} (hx1 : RowsF F x1v (terms al)) (hx2 : IntsF F x2v (froms al)) (hx3 : StepsF F x3v (bys al)) (hx4 : IntsF F x4v (deeps al)) {k : Nat} (hk : k < al.length) (hll : al.length ≤ 60) (hlk : Link al) (hbd : ∀ i, i < al.length → (EL al i).1.length ≤ 60) :
    Does prog 128 [.agg #[x1v, x2v, x3v, x4v, .bool (ab)], .int .i64 ((k : Int))] F (L) (fun v F' L' => ∃ (a : Value), ∃ (b : Value), (.agg #[a, b] : Value) = v ∧ (IntsF F' a (EL al 0).1) ∧ (StepsF F' b (walkL al k)) ∧ (Fresh F F' (star [intsH 2 a (EL al 0).1, stepsD 2 68 b (walkL al k)])) ∧ L = L') := by
 refine Does.of_X func128 rfl rfl rfl ?_
 have htl9 : (terms al).length = al.length := terms_len
 have hfl9 : (froms al).length = al.length := froms_len
 have hbl9 : (bys al).length = al.length := bys_len
 have ht0 : ((terms al).getD 0 []).length ≤ 60 := by rw [terms_get]; exact hbd 0 (by omega)
 refine X.seq (X.region (cX (XOp.box [x1v, x2v, x3v, x4v, .bool (ab)] rfl rfl ?_)))
 intro b1
 refine cX (XOp.alloc [(.slice none 0 0), (.slice none 0 0)] zeroValue34 rfl ?_)
 intro b2
 refine XL.nil (X.seq (X.region (cX (XOp.buildSlice (s := 3) [] [.int .i64 (0), .int .i64 (0), (.slice none 0 0)] [] runUnderlying32 sizeOf68 zeroValue68 rfl (by decide) rfl CellsAre.nil rfl ?_))))
 intro v1 hv1
 refine XL.as (v1) rfl (XL.nil (X.seq (X.block (X.loop (α := Nat × Value × List StepT × List Value × Nat) (fun xQ => [(1, .int .i64 (((xQ.1 : Nat) : Int))), (2, ptr b1 0), (4, ptr b2 0), (5, xQ.2.1)]) (fun xQ => slH 68 3 xQ.2.1 xQ.2.2.2.2 xQ.2.2.2.1 :: cellsH b2 [(.slice none 0 0), (.slice none 0 0)] 34 :: cellsH b1 [x1v, x2v, x3v, x4v, .bool (ab)] 106 :: L) (fun xQ F' => F = F' ∧ (xQ.1 < al.length) ∧ (IsSl xQ.2.1) ∧ (StepsC F xQ.2.2.2.1 xQ.2.2.1) ∧ (xQ.2.2.2.2 = xQ.2.2.1.length) ∧ (xQ.2.2.2.2 + xQ.1 ≤ k) ∧ (backL al k = xQ.2.2.1 ++ backL al xQ.1)) (fun xQ => xQ.1) (k, v1, [], [], 0) ⟨rfl, rfl, rfl, rfl, trivial⟩ (sC (sC (sC sR))) ⟨rfl, (hk), ((isSl_lit hv1)), (CO.nil), (rfl), (by (try dsimp only) <;> omega), (rfl)⟩ ?_))))
 rintro ⟨j, bv, bs, bcs, bm⟩ rE _ _ ⟨rfl, hj, hbv, hB, hbm, hmj, hbk⟩
 show X _ _ _ _ (envs [(1, .int .i64 ((j : Int))), (2, ptr b1 0), (4, ptr b2 0), (5, bv)] rE) _ (slH 68 3 bv bm bcs :: cellsH b2 [(.slice none 0 0), (.slice none 0 0)] 34 :: cellsH b1 [x1v, x2v, x3v, x4v, .bool (ab)] 106 :: L)
 dsimp only at hj hbv hB hbm hmj hbk
 have hlj := fun (h : 0 < j) => hlk.2 j h hj
 have hfj : ((froms al).getD j 0) = (EL al j).2.1 := froms_get hj
 have hljx : 0 < j → 0 ≤ ((froms al).getD j 0) ∧ ((froms al).getD j 0) < (j : Int) := fun h => ⟨by rw [hfj]; exact (hlj h).1, by rw [hfj]; exact (hlj h).2.1⟩
 have hlj0 : j = 0 → ((froms al).getD j 0) = -1 := fun h => by rw [hfj, h]; exact hlk.1.2.1
 refine X.seq (X.seq (X.region (cX (XOp.fieldP (1) runUnderlying106 rfl sizeOf24 (by decide) rfl rfl (cX (XOp.load1 isAgg24 rfl (Rd.own [_, _] rfl rfl) (XL.mv (.int .i64 ((j : Int))) rfl (cX (XOp.indexS j runUnderlying24 sizeOf2 rfl rfl rfl hx2.slv (by omega) (Nat.mul_one _) (cX (XOp.load1 isAgg2 rfl (hx2.rd (by omega)) (cX (XOp.geq rfl rfl (XL.nil ?_))))))))))))))
 refine X.condD (p := ((froms al).getD j 0 : Int) ≥ 0) rfl (fun h1 => ?_) (fun h1 => ?_)
 ·refine X.skip (X.block (X.seq (X.region (XL.mv (bv) rfl (cX (XOp.fieldP (2) runUnderlying106 rfl sizeOf32 (by decide) rfl rfl (cX (XOp.load1 isAgg32 rfl (Rd.own [_, _] rfl rfl) (XL.mv (.int .i64 ((j : Int))) rfl (cX (XOp.indexS j runUnderlying32 sizeOf68 rfl rfl rfl hx3.slv (by omega) rfl ?_)))))))))))
  obtain ⟨a1, ha1, hr1, hr2, hr3⟩ := hx3.rd (i := j) (by omega)
  refine cX (XOp.loadN [.int .i64 (((bys al).getD j (0, 0, [])).1), .int .i64 (((bys al).getD j (0, 0, [])).2.1), a1] isAgg68 sizeOf68 rfl rfl (Rd.three (hr1 _) (hr2 _) (hr3 _)) (cX (XOp.buildSlice (s := 3) [.int .i64 (((bys al).getD j (0, 0, [])).1), .int .i64 (((bys al).getD j (0, 0, [])).2.1), a1] [.int .i64 (0), .int .i64 (0), (.slice none 0 0)] [(0, [.int .i64 (((bys al).getD j (0, 0, [])).1), .int .i64 (((bys al).getD j (0, 0, [])).2.1), a1])] runUnderlying32 sizeOf68 zeroValue68 rfl (by decide) rfl (.cons rfl CellsAre.nil) rfl ?_)))
  intro v2 hv2
  refine cX (XOp.append (m := 1) (bytes := 40) (cs := bcs) [_] _ [.int .i64 (((bys al).getD j (0, 0, [])).1), .int .i64 (((bys al).getD j (0, 0, [])).2.1), a1] runUnderlying32 typeInfo68 rfl rfl rfl rfl rfl rfl rfl (SlV.own [] rfl) rfl (Rd.lit [] rfl) (ones_cons rfl (ones_cons rfl (ones_cons (one_sl (IntsF.isSl ha1)) ones_nil))) (by (try simp only [List.length_append, List.length_nil, List.length_cons, List.length_singleton]); omega) (by (try simp only [List.length_append, List.length_nil, List.length_cons, List.length_singleton]); omega) ?_)
  intro v3 hs1 hn1 hm1
  have hc1 := StepsC.snoc hB (i := ((bys al).getD j (0, 0, [])).1) (j := ((bys al).getD j (0, 0, [])).2.1) ha1
  refine XL.as (v3) rfl (XL.nil (X.region (cX (XOp.fieldP (1) runUnderlying106 rfl sizeOf24 (by decide) rfl rfl (cX (XOp.load1 isAgg24 rfl (Rd.own [_, _, _] rfl rfl) (XL.mv (.int .i64 ((j : Int))) rfl (cX (XOp.indexS j runUnderlying24 sizeOf2 rfl rfl rfl hx2.slv (by omega) (Nat.mul_one _) (cX (XOp.load1 isAgg2 rfl (hx2.rd (by omega)) (XL.as (.int .i64 ((froms al).getD j 0)) rfl (XL.nil ?_)))))))))))))
  exact ⟨(((froms al).getD j 0).toNat, v3, bs ++ [(((bys al).getD j (0, 0, [])).1, ((bys al).getD j (0, 0, [])).2.1, ((bys al).getD j (0, 0, [])).2.2)], bcs ++ [.int .i64 (((bys al).getD j (0, 0, [])).1), .int .i64 (((bys al).getD j (0, 0, [])).2.1), a1], (bm) + 1), _, FLe.refl _, rF, ⟨(vI (by have := hljx (by omega); (try dsimp only); omega)), rfl, rfl, rfl, trivial⟩, (sD (sC (sC (sC sR)))), ⟨rfl, (by have := hljx (by omega); (try dsimp only); omega), (hs1), (hc1), (by (try dsimp only); rw [List.length_append, List.length_singleton]; omega), (by have := hljx (by omega); (try dsimp only); omega), (by (try dsimp only); rw [hbk, backL_succ hlk (by omega) hj, List.append_assoc, bys_get hj, hfj]; rfl)⟩, (by have := hljx (by omega); (try dsimp only); omega)⟩
 refine X.exit (thenQ_exit (thenQ_exit (blockQ_exit (X.seq (X.region (cX (XOp.fieldP (0) runUnderlying106 rfl sizeOf47 (by decide) rfl rfl (cX (XOp.load1 isAgg47 rfl (Rd.own [_, _] rfl rfl) (cX (XOp.indexS 0 runUnderlying47 sizeOf24 rfl rfl rfl hx1.slv (by omega) (Nat.mul_one _) ?_)))))))))))
 obtain ⟨a2, ha2, hr4⟩ := hx1.rd (i := 0) (by omega)
 refine cX (XOp.load1 isAgg24 rfl (hr4 _) (cX (XOp.frzF <| XOp.call (args := [a2]) call52 rfl (l1Copy_spec ha2 (hlt := (by first | omega | (rw [hi9 (by omega)]; have := htbi (by omega); omega)))) ?_)))
 rintro v4 _ _ _ ⟨rfl, hs2, rfl⟩
 refine ⟨_, _, rfl, fun F1 le1 hz1 => ?_⟩
 replace hx1 := hx1.mono le1
 replace hB := hB.mono le1
 have hf1 : IntsF F1 v4 (((((terms al).getD 0 [])))) := intsH.fz (xs := ((((terms al).getD 0 [])))) hz1.fz
 refine cX (XOp.build [v4, (.slice none 0 0)] [(.slice none 0 0), (.slice none 0 0)] [(0, 1), (1, 1)] [(0, [v4])] runUnderlying34 zeroValue34 rfl (.cons rfl sizeOf24 (.cons rfl sizeOf32 PlacesAre.nil)) rfl (.cons (cells_one (IntsF.isSl hf1)) CellsAre.nil) (cX (XOp.alloc [(.slice none 0 0), (.slice none 0 0)] zeroValue34 rfl ?_)))
 intro b3
 refine cX (XOp.storeN [] _ [v4, (.slice none 0 0)] sizeOf34 rfl rfl rfl (ones_cons (one_sl (IntsF.isSl hf1)) (ones_cons rfl ones_nil)) rfl rfl rfl (XL.nil (X.seq (X.seq (X.region ?_)))))
 have hj0 : j = 0 := by omega
 have hssb : bs = backL al k := by rw [hbk, hj0, backL_zero, List.append_nil]
 have htb : ∀ i, i < bs.length → (bs.getD i (0, 0, [])).2.2.length ≤ 60 := fun i hi => by
  obtain ⟨q, hq, he⟩ := backL_mem hlk k k (Nat.le_refl _) hk (bs.getD i (0, 0, [])) (by rw [← hssb]; simp [List.getD, hi])
  rw [he]; exact hbd q hq
 have hbl : bs.length ≤ 60 := by omega
 refine XL.mv (bv) rfl (cX (XOp.lenS runUnderlying32 rfl (SlV.own [_] rfl) (cX (XOp.subR ((((bm : Nat) : Int)) - 1) rfl rfl (by omega) (by omega) (XL.as (.int .i64 ((((bm : Nat) : Int)) - 1)) rfl (XL.nil (X.block (X.loop (α := Nat × Value × List StepT × List Value × List HP × Nat × FH) (fun xQ => [(4, ptr b2 0), (5, bv), (6, ptr b3 0), (7, .int .i64 ((xQ.1 : Int) - 1))]) (fun xQ => slH 68 3 xQ.2.1 xQ.2.2.2.2.2.1 xQ.2.2.2.1 :: cellsH b3 [v4, xQ.2.1] 34 :: slH 68 3 bv bm bcs :: cellsH b2 [(.slice none 0 0), (.slice none 0 0)] 34 :: cellsH b1 [x1v, x2v, x3v, x4v, .bool (ab)] 106 :: L) (fun xQ F' => xQ.2.2.2.2.2.2 = F' ∧ F1 ≤ xQ.2.2.2.2.2.2 ∧ (xQ.1 ≤ bs.length) ∧ (IsSl xQ.2.1) ∧ (StepsC xQ.2.2.2.2.2.2 xQ.2.2.2.1 xQ.2.2.1) ∧ (xQ.2.2.2.2.2.1 = xQ.2.2.1.length) ∧ (DeepL 3 (StepO 2) xQ.2.2.2.1 xQ.2.2.1 xQ.2.2.2.2.1) ∧ (Fresh F1 xQ.2.2.2.2.2.2 (star xQ.2.2.2.2.1)) ∧ (xQ.2.2.1 = (bs.drop xQ.1).reverse) ∧ (xQ.2.2.2.2.2.1 + xQ.1 = bs.length)) (fun xQ => xQ.1) (bs.length, (.slice none 0 0), [], [], [], 0, F1) ⟨rfl, rfl, rfl, (vI (by (try dsimp only); omega)), trivial⟩ (Sub.trans (Sub.addNil 68 3 _ _) (sC (sC (sC (sC (sC sR)))))) ⟨rfl, FLe.refl _, (by (try dsimp only) <;> omega), (⟨_, _, _, rfl⟩), (CO.nil), (rfl), (DeepL.nil), (Fresh.nilL), (by (try dsimp only); simp), (by (try dsimp only); omega)⟩ ?_))))))))
 rintro ⟨i, sv, ss, cs, Ls, m, G1⟩ rE _ _ ⟨rfl, leG, hi, hsv, hC, hm, hD, hZ, hss, hmi⟩
 show X _ _ _ _ (envs [(4, ptr b2 0), (5, bv), (6, ptr b3 0), (7, .int .i64 ((i : Int) - 1))] rE) _ (slH 68 3 sv m cs :: cellsH b3 [v4, sv] 34 :: slH 68 3 bv bm bcs :: cellsH b2 [(.slice none 0 0), (.slice none 0 0)] 34 :: cellsH b1 [x1v, x2v, x3v, x4v, .bool (ab)] 106 :: L)
 replace leG : F1 ≤ G1 := leG
 dsimp only at hi hsv hC hm hD hZ hss hmi
 have htbi := htb (i - 1)
 have hi9 : 0 < i → ((i : Int) - 1).toNat = i - 1 := fun h => by omega
 have hdr9 := fun (h : 0 < i) => drop_rev ((0, 0, []) : StepT) (l := bs) (k := i - 1) (by omega)
 have leG1 := leG
 replace hx1 := hx1.mono leG1
 replace hB := hB.mono leG1
 replace hf1 := hf1.mono leG1
 refine X.seq (X.seq (X.region (XL.mv (.int .i64 ((i : Int) - 1)) rfl (cX (XOp.geq rfl rfl (XL.nil ?_))))))
 refine X.condD (p := ((i : Int) - 1 : Int) ≥ 0) rfl (fun h2 => ?_) (fun h2 => ?_)
 ·refine X.skip (X.seq (X.block ?_))
  obtain ⟨a3, ha3, he1, he2, he3⟩ := hB.get (i := ((i : Int) - 1).toNat) (by omega)
  refine X.drawG [slH 68 3 sv m cs, cellsH b3 [v4, sv] 34, slH 68 3 bv bm bcs, cellsH b2 [(.slice none 0 0), (.slice none 0 0)] 34, cellsH b1 [x1v, x2v, x3v, x4v, .bool (ab)] 106] L 20 [[], [], [], [], [], [], [], [], [], [], [], [], [], [], [], [], [], [], [17], [17]] [[], [0], [], [], [2, 3], [4], [5], [], [], [7, 8], [9], [10], [], [], [12, 13], [14], [15], [16], [6, 11, 17], [17, 18]] [[], [], [], [], [], [], [], [], [], [], [], [], [], [], [], [], [], [], [], []] (phiG [fun FF us v => v = ptr b3 1, fun FF us v => v = sv, fun FF us v => v = bv, fun FF us v => v = (.int .i64 ((i : Int) - 1) : Value), fun FF us v => v = (.pointer (some (elemA bv ((((i : Int) - 1).toNat) * 3))) : Value), fun FF us v => v = (.pointer (some (elemA bv ((((i : Int) - 1).toNat) * 3))) : Value), fun FF us v => v = (.int .i64 ((bs.getD (((i : Int) - 1).toNat) (0, 0, [])).1) : Value), fun FF us v => v = bv, fun FF us v => v = (.int .i64 ((i : Int) - 1) : Value), fun FF us v => v = (.pointer (some (elemA bv ((((i : Int) - 1).toNat) * 3))) : Value), fun FF us v => v = (.pointer (some (elemA bv ((((i : Int) - 1).toNat) * 3 + 1))) : Value), fun FF us v => v = (.int .i64 ((bs.getD (((i : Int) - 1).toNat) (0, 0, [])).2.1) : Value), fun FF us v => v = bv, fun FF us v => v = (.int .i64 ((i : Int) - 1) : Value), fun FF us v => v = (.pointer (some (elemA bv ((((i : Int) - 1).toNat) * 3))) : Value), fun FF us v => v = (.pointer (some (elemA bv ((((i : Int) - 1).toNat) * 3 + 2))) : Value), fun FF us v => v = a3, fun FF us v => ((v) : Value) = v ∧ (IntsF FF (v) (((bs.getD (((i : Int) - 1).toNat) (0, 0, [])).2.2))) ∧ (FrIntsF G1 FF 2 (v) (((bs.getD (((i : Int) - 1).toNat) (0, 0, [])).2.2))), fun FF us v => v = (.agg #[.int .i64 ((bs.getD (((i : Int) - 1).toNat) (0, 0, [])).1), .int .i64 ((bs.getD (((i : Int) - 1).toNat) (0, 0, [])).2.1), ((us.getD 0 undef))] : Value), fun FF us v => ∃ b, v = .slice (some ⟨b, 0, none⟩) 1 1]) (ownL [fun us v => [], fun us v => [], fun us v => [], fun us v => [], fun us v => [], fun us v => [], fun us v => [], fun us v => [], fun us v => [], fun us v => [], fun us v => [], fun us v => [], fun us v => [], fun us v => [], fun us v => [], fun us v => [], fun us v => [], fun us v => [], fun us v => [], fun us v => [slH 68 3 v 1 [.int .i64 ((bs.getD (((i : Int) - 1).toNat) (0, 0, [])).1), .int .i64 ((bs.getD (((i : Int) - 1).toNat) (0, 0, [])).2.1), ((us.getD 0 undef))]]]) mixed rfl rfl (by kernel_rfl) (by kernel_rfl) (MonoG.get (mC (fun le h => h) (mC (fun le h => h) (mC (fun le h => h) (mC (fun le h => h) (mC (fun le h => h) (mC (fun le h => h) (mC (fun le h => h) (mC (fun le h => h) (mC (fun le h => h) (mC (fun le h => h) (mC (fun le h => h) (mC (fun le h => h) (mC (fun le h => h) (mC (fun le h => h) (mC (fun le h => h) (mC (fun le h => h) (mC (fun le h => h) (mC (fun le h => ⟨h.1, h.2.1.mono le, h.2.2.mono le⟩) (mC (fun le h => h) (mC (fun le h => h) MonoG.nil))))))))))))))))))))) ?_ ?_
  ·refine gC (fun vals Fs R leFs hpZ => ?_) ?_
   ·refine XG.op (XOp.fieldP (1) runUnderlying34 rfl sizeOf32 (by decide) rfl rfl ?_)
    exact ⟨rfl, rfl⟩
   refine gC (fun vals Fs R leFs hpZ => ?_) ?_
   ·replace hx1 := hx1.mono leFs
    replace hf1 := hf1.mono leFs
    replace hC := hC.mono leFs
    replace ha3 := ha3.mono leFs
    rw [eS (l := [(0, ptr b3 1)]) ⟨(hpZ 0 (by decide)), trivial⟩]
    refine XG.op (XOp.load1 isAgg32 rfl (Rd.own [_] rfl rfl) ?_)
    exact ⟨rfl, rfl⟩
   refine gC (fun vals Fs R leFs hpZ => ?_) ?_
   ·refine XG.op (XOp.move (bv) rfl ?_)
    exact ⟨rfl, rfl⟩
   refine gC (fun vals Fs R leFs hpZ => ?_) ?_
   ·refine XG.op (XOp.move (.int .i64 ((i : Int) - 1)) rfl ?_)
    exact ⟨rfl, rfl⟩
   refine gC (fun vals Fs R leFs hpZ => ?_) ?_
   ·replace hx1 := hx1.mono leFs
    replace hf1 := hf1.mono leFs
    replace hC := hC.mono leFs
    replace ha3 := ha3.mono leFs
    rw [eS (l := [(2, bv), (3, (.int .i64 ((i : Int) - 1) : Value))]) ⟨(hpZ 2 (by decide)), (hpZ 3 (by decide)), trivial⟩]
    refine XG.op (XOp.indexS (((i : Int) - 1).toNat) runUnderlying32 sizeOf68 rfl rfl (by omega) (SlV.own [_, _] rfl) (by omega) rfl ?_)
    exact ⟨rfl, rfl⟩
   refine gC (fun vals Fs R leFs hpZ => ?_) ?_
   ·rw [eS (l := [(4, (.pointer (some (elemA bv ((((i : Int) - 1).toNat) * 3))) : Value))]) ⟨(hpZ 4 (by decide)), trivial⟩]
    refine XG.op (XOp.fieldE ((((i : Int) - 1).toNat) * 3) runUnderlying68 rfl sizeOf2 (by decide) rfl rfl ?_)
    exact ⟨rfl, rfl⟩
   refine gC (fun vals Fs R leFs hpZ => ?_) ?_
   ·replace hx1 := hx1.mono leFs
    replace hf1 := hf1.mono leFs
    replace hC := hC.mono leFs
    replace ha3 := ha3.mono leFs
    rw [eS (l := [(5, (.pointer (some (elemA bv ((((i : Int) - 1).toNat) * 3))) : Value))]) ⟨(hpZ 5 (by decide)), trivial⟩]
    refine XG.op (XOp.load1 isAgg2 rfl (Rd.sl [_, _] rfl he1) ?_)
    exact ⟨rfl, rfl⟩
   refine gC (fun vals Fs R leFs hpZ => ?_) ?_
   ·refine XG.op (XOp.move (bv) rfl ?_)
    exact ⟨rfl, rfl⟩
   refine gC (fun vals Fs R leFs hpZ => ?_) ?_
   ·refine XG.op (XOp.move (.int .i64 ((i : Int) - 1)) rfl ?_)
    exact ⟨rfl, rfl⟩
   refine gC (fun vals Fs R leFs hpZ => ?_) ?_
   ·replace hx1 := hx1.mono leFs
    replace hf1 := hf1.mono leFs
    replace hC := hC.mono leFs
    replace ha3 := ha3.mono leFs
    rw [eS (l := [(7, bv), (8, (.int .i64 ((i : Int) - 1) : Value))]) ⟨(hpZ 7 (by decide)), (hpZ 8 (by decide)), trivial⟩]
    refine XG.op (XOp.indexS (((i : Int) - 1).toNat) runUnderlying32 sizeOf68 rfl rfl (by omega) (SlV.own [_, _] rfl) (by omega) rfl ?_)
    exact ⟨rfl, rfl⟩
   refine gC (fun vals Fs R leFs hpZ => ?_) ?_
   ·rw [eS (l := [(9, (.pointer (some (elemA bv ((((i : Int) - 1).toNat) * 3))) : Value))]) ⟨(hpZ 9 (by decide)), trivial⟩]
    refine XG.op (XOp.fieldE ((((i : Int) - 1).toNat) * 3 + 1) runUnderlying68 rfl sizeOf2 (by decide) rfl rfl ?_)
    exact ⟨rfl, rfl⟩
   refine gC (fun vals Fs R leFs hpZ => ?_) ?_
   ·replace hx1 := hx1.mono leFs
    replace hf1 := hf1.mono leFs
    replace hC := hC.mono leFs
    replace ha3 := ha3.mono leFs
    rw [eS (l := [(10, (.pointer (some (elemA bv ((((i : Int) - 1).toNat) * 3 + 1))) : Value))]) ⟨(hpZ 10 (by decide)), trivial⟩]
    refine XG.op (XOp.load1 isAgg2 rfl (Rd.sl [_, _] rfl he2) ?_)
    exact ⟨rfl, rfl⟩
   refine gC (fun vals Fs R leFs hpZ => ?_) ?_
   ·refine XG.op (XOp.move (bv) rfl ?_)
    exact ⟨rfl, rfl⟩
   refine gC (fun vals Fs R leFs hpZ => ?_) ?_
   ·refine XG.op (XOp.move (.int .i64 ((i : Int) - 1)) rfl ?_)
    exact ⟨rfl, rfl⟩
   refine gC (fun vals Fs R leFs hpZ => ?_) ?_
   ·replace hx1 := hx1.mono leFs
    replace hf1 := hf1.mono leFs
    replace hC := hC.mono leFs
    replace ha3 := ha3.mono leFs
    rw [eS (l := [(12, bv), (13, (.int .i64 ((i : Int) - 1) : Value))]) ⟨(hpZ 12 (by decide)), (hpZ 13 (by decide)), trivial⟩]
    refine XG.op (XOp.indexS (((i : Int) - 1).toNat) runUnderlying32 sizeOf68 rfl rfl (by omega) (SlV.own [_, _] rfl) (by omega) rfl ?_)
    exact ⟨rfl, rfl⟩
   refine gC (fun vals Fs R leFs hpZ => ?_) ?_
   ·rw [eS (l := [(14, (.pointer (some (elemA bv ((((i : Int) - 1).toNat) * 3))) : Value))]) ⟨(hpZ 14 (by decide)), trivial⟩]
    refine XG.op (XOp.fieldE ((((i : Int) - 1).toNat) * 3 + 2) runUnderlying68 rfl sizeOf24 (by decide) rfl rfl ?_)
    exact ⟨rfl, rfl⟩
   refine gC (fun vals Fs R leFs hpZ => ?_) ?_
   ·replace hx1 := hx1.mono leFs
    replace hf1 := hf1.mono leFs
    replace hC := hC.mono leFs
    replace ha3 := ha3.mono leFs
    rw [eS (l := [(15, (.pointer (some (elemA bv ((((i : Int) - 1).toNat) * 3 + 2))) : Value))]) ⟨(hpZ 15 (by decide)), trivial⟩]
    refine XG.op (XOp.load1 isAgg24 rfl (Rd.sl [_, _] rfl he3) ?_)
    exact ⟨rfl, rfl⟩
   refine gC (fun vals Fs R leFs hpZ => ?_) ?_
   ·replace hx1 := hx1.mono leFs
    replace hf1 := hf1.mono leFs
    replace hC := hC.mono leFs
    replace ha3 := ha3.mono leFs
    rw [eS (l := [(16, a3)]) ⟨(hpZ 16 (by decide)), trivial⟩]
    refine XG.op (XOp.frzF <| XOp.call (args := [a3]) call52 rfl (l1Copy_spec ha3 (hlt := (by first | omega | (rw [hi9 (by omega)]; have := htbi (by omega); omega)))) ?_)
    rintro v7 _ _ _ ⟨rfl, hs4, rfl⟩
    refine ⟨_, _, rfl, fun F2 le2 hz2 => ?_⟩
    replace hf1 := hf1.mono le2
    replace hC := hC.mono le2
    have hf2 : IntsF F2 v7 ((((bs.getD (((i : Int) - 1).toNat) (0, 0, [])).2.2))) := intsH.fz (xs := (((bs.getD (((i : Int) - 1).toNat) (0, 0, [])).2.2))) hz2.fz
    exact ⟨⟨rfl, hf2, (hz2.base leFs)⟩, rfl⟩
   refine gC (fun vals Fs R leFs hpZ => ?_) ?_
   ·obtain ⟨e17, f17_1ha, f17_1hz⟩ := hpZ 17 (by decide)
    replace hf1 := hf1.mono leFs
    replace hC := hC.mono leFs
    rw [eS (l := [(6, (.int .i64 ((bs.getD (((i : Int) - 1).toNat) (0, 0, [])).1) : Value)), (11, (.int .i64 ((bs.getD (((i : Int) - 1).toNat) (0, 0, [])).2.1) : Value)), (17, ((vals 17)))]) ⟨(hpZ 6 (by decide)), (hpZ 11 (by decide)), (e17).symm, trivial⟩]
    refine XG.op (XOp.build [.int .i64 ((bs.getD (((i : Int) - 1).toNat) (0, 0, [])).1), .int .i64 ((bs.getD (((i : Int) - 1).toNat) (0, 0, [])).2.1), ((vals 17))] [.int .i64 (0), .int .i64 (0), (.slice none 0 0)] [(0, 1), (1, 1), (2, 1)] [(0, [.int .i64 ((bs.getD (((i : Int) - 1).toNat) (0, 0, [])).1)]), (1, [.int .i64 ((bs.getD (((i : Int) - 1).toNat) (0, 0, [])).2.1)]), (2, [((vals 17))])] runUnderlying68 zeroValue68 rfl (.cons rfl sizeOf2 (.cons rfl sizeOf2 (.cons rfl sizeOf24 PlacesAre.nil))) rfl (.cons rfl (.cons rfl (.cons (cells_one (IntsF.isSl f17_1ha)) CellsAre.nil))) ?_)
    exact ⟨rfl, rfl⟩
   refine gC (fun vals Fs R leFs hpZ => ?_) ?_
   ·obtain ⟨e17, f17_1ha, f17_1hz⟩ := hpZ 17 (by decide)
    have e18 : vals 18 = (.agg #[.int .i64 ((bs.getD (((i : Int) - 1).toNat) (0, 0, [])).1), .int .i64 ((bs.getD (((i : Int) - 1).toNat) (0, 0, [])).2.1), ((vals 17))] : Value) := hpZ 18 (by decide)
    replace hf1 := hf1.mono leFs
    replace hC := hC.mono leFs
    rw [eS (l := [(17, ((vals 17))), (18, (.agg #[.int .i64 ((bs.getD (((i : Int) - 1).toNat) (0, 0, [])).1), .int .i64 ((bs.getD (((i : Int) - 1).toNat) (0, 0, [])).2.1), ((vals 17))] : Value))]) ⟨(e17).symm, e18, trivial⟩]
    refine XG.op (XOp.buildSlice (s := 3) [.int .i64 ((bs.getD (((i : Int) - 1).toNat) (0, 0, [])).1), .int .i64 ((bs.getD (((i : Int) - 1).toNat) (0, 0, [])).2.1), ((vals 17))] [.int .i64 (0), .int .i64 (0), (.slice none 0 0)] [(0, [.int .i64 ((bs.getD (((i : Int) - 1).toNat) (0, 0, [])).1), .int .i64 ((bs.getD (((i : Int) - 1).toNat) (0, 0, [])).2.1), ((vals 17))])] runUnderlying32 sizeOf68 zeroValue68 rfl (by decide) rfl (.cons rfl CellsAre.nil) rfl ?_)
    intro v8 hv4
    exact ⟨hv4, rfl⟩
   exact stepsG.nil
  intro vals F3 le3 hphi
  obtain ⟨e17, f17_1ha, f17_1hz⟩ := hphi 17 (by decide)
  have e18 : vals 18 = (.agg #[.int .i64 ((bs.getD (((i : Int) - 1).toNat) (0, 0, [])).1), .int .i64 ((bs.getD (((i : Int) - 1).toNat) (0, 0, [])).2.1), ((vals 17))] : Value) := hphi 18 (by decide)
  have f19 : ∃ b, (vals 19) = .slice (some ⟨b, 0, none⟩) 1 1 := hphi 19 (by decide)
  generalize hu1 : ((vals 17)) = u1 at e17 f17_1ha f17_1hz e18 f19
  generalize hu19 : vals 19 = u2 at e17 f17_1ha f17_1hz e18 f19
  rw [eS (l := [(1, sv), (17, u1), (19, u2)]) ⟨(hphi 1 (by decide)), hu1, hu19, trivial⟩]
  replace hf1 := hf1.mono le3
  replace hC := hC.mono le3
  show XL _ _ _ _ _ _ _ (slH 68 3 u2 1 [.int .i64 ((bs.getD (((i : Int) - 1).toNat) (0, 0, [])).1), .int .i64 ((bs.getD (((i : Int) - 1).toNat) (0, 0, [])).2.1), u1] :: slH 68 3 sv m cs :: cellsH b3 [v4, sv] 34 :: slH 68 3 bv bm bcs :: cellsH b2 [(.slice none 0 0), (.slice none 0 0)] 34 :: cellsH b1 [x1v, x2v, x3v, x4v, .bool (ab)] 106 :: L)
  refine cX (XOp.append (m := 1) (bytes := 40) (cs := cs) [_] _ [.int .i64 ((bs.getD (((i : Int) - 1).toNat) (0, 0, [])).1), .int .i64 ((bs.getD (((i : Int) - 1).toNat) (0, 0, [])).2.1), u1] runUnderlying32 typeInfo68 rfl rfl rfl rfl rfl rfl rfl (SlV.own [] rfl) rfl (Rd.lit [] rfl) (ones_cons rfl (ones_cons rfl (ones_cons (one_sl (IntsF.isSl f17_1ha)) ones_nil))) (by (try simp only [List.length_append, List.length_nil, List.length_cons, List.length_singleton]); omega) (by (try simp only [List.length_append, List.length_nil, List.length_cons, List.length_singleton]); omega) ?_)
  intro v9 hs5 hn2 hm2
  have hc2 := StepsC.snoc hC (i := (bs.getD (((i : Int) - 1).toNat) (0, 0, [])).1) (j := (bs.getD (((i : Int) - 1).toNat) (0, 0, [])).2.1) f17_1ha
  skip
  refine cX (XOp.fieldP (1) runUnderlying34 rfl sizeOf32 (by decide) rfl rfl (cX (XOp.store1 [_, _] _ [v4, v9] sizeOf32 rfl rfl (one_sl hs5) rfl rfl rfl (XL.nil (X.region (XL.mv (.int .i64 ((i : Int) - 1)) rfl (cX (XOp.subR (((i : Int) - 1) - 1) rfl rfl (by omega) (by omega) (XL.as (.int .i64 (((i : Int) - 1) - 1)) rfl (XL.nil ?_))))))))))
  exact ⟨(i - 1, v9, ss ++ [((bs.getD (((i : Int) - 1).toNat) (0, 0, [])).1, (bs.getD (((i : Int) - 1).toNat) (0, 0, [])).2.1, (((bs.getD (((i : Int) - 1).toNat) (0, 0, [])).2.2)))], cs ++ [.int .i64 ((bs.getD (((i : Int) - 1).toNat) (0, 0, [])).1), .int .i64 ((bs.getD (((i : Int) - 1).toNat) (0, 0, [])).2.1), u1], Ls ++ [intsH 2 u1 ((((bs.getD (((i : Int) - 1).toNat) (0, 0, [])).2.2)))], (m) + 1, F3), _, (FLe.trans leG1 le3), rF, ⟨rfl, rfl, rfl, (vI (by (try dsimp only); omega)), trivial⟩, (sD (sC (sC (sC (sC (sC sR)))))), ⟨rfl, (FLe.trans leG1 le3), (by (try dsimp only) <;> omega), (hs5), (hc2), (by (try dsimp only); rw [List.length_append]; simp only [List.length_singleton]; omega), (DeepL.snoc hD rfl ⟨_, rfl, rfl⟩), ((Fresh.app hZ leG1 (Fresh.one f17_1hz) le3)), (by (try dsimp only); have h9 := hdr9 (by omega); rw [show i - 1 + 1 = i from by omega] at h9; rw [hss, h9, hi9 (by omega)]), (by (try dsimp only); omega)⟩, (by (try dsimp only); omega)⟩
 refine X.exit (thenQ_exit (thenQ_exit (blockQ_exit (X.seq (X.region (cX (XOp.loadN [v4, sv] isAgg34 sizeOf34 rfl rfl (Rd.ownN [_] rfl rfl) (cX (XOp.storeN [_, _, _] _ [v4, sv] sizeOf34 rfl rfl rfl (ones_cons (one_sl (IntsF.isSl hf1)) (ones_cons (one_sl hsv) ones_nil)) rfl rfl rfl (XL.nil (X.freezeF [] _ _ rfl (fun F4 le4 hz3 => ?_))))))))))))
 replace hf1 := hf1.mono le4
 replace hC := hC.mono le4
 have hf3 : StepsF F4 sv ss := CO.fz hC (by first | rfl | omega | (rw [List.length_set]; omega) | (simp; done)) hz3.fz
 refine X.ret (retEnd (L' := L) [.agg #[v4, sv]] (.agg #[v4, sv]) (.cell rfl (loadNV [v4, sv] isAgg34 sizeOf34 rfl (Rd.ownN [_, _] rfl rfl)) .nil) rfl (FLe.trans (FLe.trans le1 leG1) le4) rF (sD (sD (sD (sD sR)))) ?_)
 have e9 : ss = walkL al k := by rw [hss, show i = 0 from by omega, List.drop_zero, hssb]; rfl
 rw [← e9, ← terms_get 0]
 exact ⟨_, _, rfl, hf1, hf3, (Fresh.app (Fresh.one hz1) le1 (Fresh.one (Fresh.deep hD hZ leG1 hz3 (by omega) le4)) (FLe.trans leG1 le4)), rfl⟩

/- spec.JoinOf -/
set_option maxHeartbeats 2000000 in
set_option maxRecDepth 20000 in
theorem sJoinOf_spec {F : FH} {L : List HP} {arv : Value} {ar : List Int} (har : IntsF F arv ar) {rsv : Value} {rs : List (List Int × List Int)} (hrs : PairsF F rsv rs) {av : Value} {a : List Int} (ha : IntsF F av a) {bv : Value} {b : List Int} (hb : IntsF F bv b) {n : Int} (hla : ar.length ≤ 4000000) (hlr : rs.length ≤ 4000000) (hrb : ∀ i, i < rs.length → (rs.getD i ([], [])).1.length ≤ 4000000 ∧ (rs.getD i ([], [])).2.length ≤ 4000000) (hla9 : a.length ≤ 4000000) (hlb9 : b.length ≤ 4000000) :
    Does prog 72 [.agg #[arv, rsv], av, bv, .int .i64 (n)] F (L) (fun v F' L' => ∃ (a1 : Value), ∃ (b1 : Value), ∃ (a2 : Value), ∃ (b2 : Value), (.tuple #[.agg #[a1, b1], .agg #[a2, b2], .bool ((joinF ar rs a b n).2.2.2.2)] : Value) = v ∧ (IntsF F' a1 (joinF ar rs a b n).1) ∧ (StepsF F' b1 (joinF ar rs a b n).2.1) ∧ (IntsF F' a2 (joinF ar rs a b n).2.2.1) ∧ (StepsF F' b2 (joinF ar rs a b n).2.2.2.1) ∧ L = L') := by
 refine Does.of_X func72 rfl rfl rfl (X.seq (X.region (cX (XOp.box [arv, rsv] rfl rfl ?_))))
 intro b1
 refine cX (XOp.alloc [(.slice none 0 0), (.slice none 0 0)] zeroValue34 rfl ?_)
 intro b2
 refine cX (XOp.alloc [(.slice none 0 0), (.slice none 0 0)] zeroValue34 rfl ?_)
 intro b3
 refine XL.as (.bool (false)) rfl (XL.nil (X.seq (X.seq (X.region (cX (XOp.loadN [arv, rsv] isAgg29 sizeOf29 rfl rfl (Rd.ownN [_, _] rfl rfl) (XL.mv (av) rfl (XL.mv (.int .i64 (n)) rfl (cX (XOp.call (args := [.agg #[arv, rsv], av, .int .i64 (n)]) call67 rfl (l9Right_spec (n := n) har hrs ha (hla := (by first | assumption | rfl | omega | simp)) (hlr := (by first | assumption | rfl | omega | simp)) (hrb := (by first | assumption | rfl | omega | simp)) (hlt := (by first | assumption | rfl | omega | simp))) ?_))))))))))
 rintro _ _ _ _ ⟨rfl, rfl, rfl⟩
 refine cX (XOp.notB rfl (XL.mv (.bool (!(reachOkL ar rs n [a]))) rfl ?_))
 by_cases h1 : (!(reachOkL ar rs n [a])) = true
 ·have hro : reachOkL ar rs n [a, b] = false := by rw [reachOk2]; simp_all
  refine XL.no (t := 20) rfl (vB h1) (XL.no (t := 20) rfl (vB h1) (XL.no (t := 20) rfl (vB h1) (XL.no (t := 20) rfl (vB h1) (XL.no (t := 20) rfl (vB h1) (cX (XOp.pickT (.bool (true)) (vB h1) rfl (XL.nil (X.condT rfl (X.seq (X.region (cX (XOp.build [(.slice none 0 0), (.slice none 0 0)] [(.slice none 0 0), (.slice none 0 0)] [(0, 1), (1, 1)] [] runUnderlying34 zeroValue34 rfl (.cons rfl sizeOf24 (.cons rfl sizeOf32 PlacesAre.nil)) rfl CellsAre.nil ?_))))))))))))
  refine cX (XOp.build [(.slice none 0 0), (.slice none 0 0)] [(.slice none 0 0), (.slice none 0 0)] [(0, 1), (1, 1)] [] runUnderlying34 zeroValue34 rfl (.cons rfl sizeOf24 (.cons rfl sizeOf32 PlacesAre.nil)) rfl CellsAre.nil (cX (XOp.storeN [_] _ [(.slice none 0 0), (.slice none 0 0)] sizeOf34 rfl rfl rfl (ones_cons rfl (ones_cons rfl ones_nil)) rfl rfl rfl (cX (XOp.storeN [] _ [(.slice none 0 0), (.slice none 0 0)] sizeOf34 rfl rfl rfl (ones_cons rfl (ones_cons rfl ones_nil)) rfl rfl rfl (XL.as (.bool (false)) rfl (XL.nil (X.ret (thenQ_ret (retEnd (L' := L) [.agg #[(.slice none 0 0), (.slice none 0 0)], .agg #[(.slice none 0 0), (.slice none 0 0)], .bool (false)] (.tuple #[.agg #[(.slice none 0 0), (.slice none 0 0)], .agg #[(.slice none 0 0), (.slice none 0 0)], .bool (false)]) (.cell rfl (loadNV [(.slice none 0 0), (.slice none 0 0)] isAgg34 sizeOf34 rfl (Rd.ownN [_] rfl rfl)) (.cell rfl (loadNV [(.slice none 0 0), (.slice none 0 0)] isAgg34 sizeOf34 rfl (Rd.ownN [] rfl rfl)) (.tmp rfl .nil))) rfl rF rF (sD (sD (sD sR))) ?_))))))))))
  have e : joinF ar rs a b n = ([], [], [], [], false) := joinF_no hro
  exact ⟨_, _, _, _, by rw [e], by rw [e]; exact IntsF.nilV, by rw [e]; exact SlOf.nilV, by rw [e]; exact IntsF.nilV, by rw [e]; exact SlOf.nilV, rfl⟩
 rw [Bool.not_eq_true] at h1
 refine XL.yes (t := 20) rfl (vB h1) (XOp.loadN [arv, rsv] isAgg29 sizeOf29 rfl rfl (Rd.ownN [_, _] rfl rfl) (XL.yes (t := 20) rfl (vB h1) (XOp.move (bv) rfl (XL.yes (t := 20) rfl (vB h1) (XOp.move (.int .i64 (n)) rfl (XL.yes (t := 20) rfl (vB h1) (XOp.call (args := [.agg #[arv, rsv], bv, .int .i64 (n)]) call67 rfl (l9Right_spec (n := n) har hrs hb (hla := (by first | assumption | rfl | omega | simp)) (hlr := (by first | assumption | rfl | omega | simp)) (hrb := (by first | assumption | rfl | omega | simp)) (hlt := (by first | assumption | rfl | omega | simp))) ?_)))))))
 rintro _ _ _ _ ⟨rfl, rfl, rfl⟩
 refine XL.yes (t := 20) rfl (vB h1) (XOp.notB rfl (cX (XOp.pickF (.bool (!(reachOkL ar rs n [b]))) (vB h1) rfl (XL.nil ?_))))
 refine X.cond (t := !(reachOkL ar rs n [b])) rfl (fun h2 => ?_) (fun h2 => ?_)
 ·have hro : reachOkL ar rs n [a, b] = false := by rw [reachOk2]; simp_all
  refine X.seq (X.region (cX (XOp.build [(.slice none 0 0), (.slice none 0 0)] [(.slice none 0 0), (.slice none 0 0)] [(0, 1), (1, 1)] [] runUnderlying34 zeroValue34 rfl (.cons rfl sizeOf24 (.cons rfl sizeOf32 PlacesAre.nil)) rfl CellsAre.nil (cX (XOp.build [(.slice none 0 0), (.slice none 0 0)] [(.slice none 0 0), (.slice none 0 0)] [(0, 1), (1, 1)] [] runUnderlying34 zeroValue34 rfl (.cons rfl sizeOf24 (.cons rfl sizeOf32 PlacesAre.nil)) rfl CellsAre.nil (cX (XOp.storeN [_] _ [(.slice none 0 0), (.slice none 0 0)] sizeOf34 rfl rfl rfl (ones_cons rfl (ones_cons rfl ones_nil)) rfl rfl rfl (cX (XOp.storeN [] _ [(.slice none 0 0), (.slice none 0 0)] sizeOf34 rfl rfl rfl (ones_cons rfl (ones_cons rfl ones_nil)) rfl rfl rfl (XL.as (.bool (false)) rfl (XL.nil (X.ret (thenQ_ret (retEnd (L' := L) [.agg #[(.slice none 0 0), (.slice none 0 0)], .agg #[(.slice none 0 0), (.slice none 0 0)], .bool (false)] (.tuple #[.agg #[(.slice none 0 0), (.slice none 0 0)], .agg #[(.slice none 0 0), (.slice none 0 0)], .bool (false)]) (.cell rfl (loadNV [(.slice none 0 0), (.slice none 0 0)] isAgg34 sizeOf34 rfl (Rd.ownN [_] rfl rfl)) (.cell rfl (loadNV [(.slice none 0 0), (.slice none 0 0)] isAgg34 sizeOf34 rfl (Rd.ownN [] rfl rfl)) (.tmp rfl .nil))) rfl rF rF (sD (sD (sD sR))) ?_))))))))))))))
  have e : joinF ar rs a b n = ([], [], [], [], false) := joinF_no hro
  exact ⟨_, _, _, _, by rw [e], by rw [e]; exact IntsF.nilV, by rw [e]; exact SlOf.nilV, by rw [e]; exact IntsF.nilV, by rw [e]; exact SlOf.nilV, rfl⟩
 have hro : reachOkL ar rs n [a, b] = true := by rw [reachOk2]; simp_all
 have hr3 := reachOk2_iff.1 hro
 have hsys := hr3.1.1
 have ho := hr3.1.2.1
 have hou := hr3.1.2.2
 have hn20 := hr3.2
 have hgda := reachL_good (ar := ar) (rs := rs) (t := a) (n := n) hn20.1
 have hrka := reachL_ok (n := n) hsys ho
 have hrla := hrka.1
 have hrda : ∀ i, i < (reachL ar rs a n).1.length → (EL (reachL ar rs a n).1 i).1.length ≤ 60 := fun i hi => (termOk_len (hrka.2 i hi)).2
 have htza : (terms (reachL ar rs a n).1).length = (reachL ar rs a n).1.length := terms_len
 have htqa : ∀ i, i < (terms (reachL ar rs a n).1).length → ((terms (reachL ar rs a n).1).getD i []).length ≤ 4000000 := fun i hi => by rw [terms_get]; have := hrda i (by omega); omega
 have hgdb := reachL_good (ar := ar) (rs := rs) (t := b) (n := n) hn20.1
 have hrkb := reachL_ok (n := n) hsys hou
 have hrlb := hrkb.1
 have hrdb : ∀ i, i < (reachL ar rs b n).1.length → (EL (reachL ar rs b n).1 i).1.length ≤ 60 := fun i hi => (termOk_len (hrkb.2 i hi)).2
 have htzb : (terms (reachL ar rs b n).1).length = (reachL ar rs b n).1.length := terms_len
 have htqb : ∀ i, i < (terms (reachL ar rs b n).1).length → ((terms (reachL ar rs b n).1).getD i []).length ≤ 4000000 := fun i hi => by rw [terms_get]; have := hrdb i (by omega); omega
 refine X.skip (X.seq (X.region (cX (XOp.loadN [arv, rsv] isAgg29 sizeOf29 rfl rfl (Rd.ownN [_, _] rfl rfl) (XL.mv (av) rfl (XL.mv (.int .i64 (n)) rfl (cX (XOp.call (args := [.agg #[arv, rsv], av, .int .i64 (n)]) call68 rfl (l9Find_spec (n := n) har hrs ha (hsys := (by first | assumption | rfl | omega | simp)) (ho := (by first | assumption | rfl | omega | simp)) (hn20 := (by first | assumption | rfl | omega | simp))) ?_))))))))
 rintro _ F1 _ le1 ⟨x1, x2, x3, x4, rfl, hr1, hr2, hr3, hr4, rfl⟩
 replace har := har.mono le1
 replace hrs := hrs.mono le1
 replace hb := hb.mono le1
 refine cX (XOp.alloc [(.slice none 0 0), (.slice none 0 0), (.slice none 0 0), (.slice none 0 0), .bool (false)] zeroValue106 rfl ?_)
 intro b4
 refine cX (XOp.storeN [] _ [x1, x2, x3, x4, .bool ((reachL ar rs a n).2)] sizeOf106 rfl rfl rfl (ones_cons (one_sl (RowsF.isSl hr1)) (ones_cons (one_sl (IntsF.isSl hr2)) (ones_cons (one_sl (StepsF.isSl hr3)) (ones_cons (one_sl (IntsF.isSl hr4)) (ones_cons rfl ones_nil))))) rfl rfl rfl (XL.nil (X.seq (X.region (cX (XOp.loadN [arv, rsv] isAgg29 sizeOf29 rfl rfl (Rd.ownN [_, _, _] rfl rfl) (XL.mv (bv) rfl (XL.mv (.int .i64 (n)) rfl (cX (XOp.call (args := [.agg #[arv, rsv], bv, .int .i64 (n)]) call68 rfl (l9Find_spec (n := n) har hrs hb (hsys := (by first | assumption | rfl | omega | simp)) (ho := (by first | assumption | rfl | omega | simp)) (hn20 := (by first | assumption | rfl | omega | simp))) ?_))))))))))
 rintro _ F2 _ le2 ⟨x5, x6, x7, x8, rfl, hr5, hr6, hr7, hr8, rfl⟩
 replace har := har.mono le2
 replace hr1 := hr1.mono le2
 replace hr2 := hr2.mono le2
 replace hr3 := hr3.mono le2
 replace hr4 := hr4.mono le2
 refine cX (XOp.alloc [(.slice none 0 0), (.slice none 0 0), (.slice none 0 0), (.slice none 0 0), .bool (false)] zeroValue106 rfl ?_)
 intro b5
 refine cX (XOp.storeN [] _ [x5, x6, x7, x8, .bool ((reachL ar rs b n).2)] sizeOf106 rfl rfl rfl (ones_cons (one_sl (RowsF.isSl hr5)) (ones_cons (one_sl (IntsF.isSl hr6)) (ones_cons (one_sl (StepsF.isSl hr7)) (ones_cons (one_sl (IntsF.isSl hr8)) (ones_cons rfl ones_nil))))) rfl rfl rfl (XL.nil (X.seq (X.seq (X.region (XL.as (.int .i64 (0)) rfl (XL.nil (X.block (X.loop (α := Nat) (fun k => [(8, ptr b2 0), (9, ptr b3 0), (11, ptr b4 0), (12, ptr b5 0), (13, .int .i64 ((k : Int)))]) (fun k => cellsH b5 [x5, x6, x7, x8, .bool ((reachL ar rs b n).2)] 106 :: cellsH b4 [x1, x2, x3, x4, .bool ((reachL ar rs a n).2)] 106 :: cellsH b3 [(.slice none 0 0), (.slice none 0 0)] 34 :: cellsH b2 [(.slice none 0 0), (.slice none 0 0)] 34 :: cellsH b1 [arv, rsv] 29 :: L) (fun k F' => F2 = F' ∧ (k ≤ (reachL ar rs a n).1.length) ∧ (∀ i, i < k → foundI (reachL ar rs b n).1 (EL (reachL ar rs a n).1 i).1 < 0)) (fun k => (reachL ar rs a n).1.length - k) 0 ⟨rfl, rfl, rfl, rfl, rfl, trivial⟩ (sC (sC (sC (sC (sC sR))))) ⟨rfl, (by (try dsimp only) <;> omega), (fun i hi => absurd hi (by omega))⟩ ?_)))))))))
 rintro k rE _ _ ⟨rfl, hk, hno⟩
 show X _ _ _ _ (envs [(8, ptr b2 0), (9, ptr b3 0), (11, ptr b4 0), (12, ptr b5 0), (13, .int .i64 ((k : Int)))] rE) _ (cellsH b5 [x5, x6, x7, x8, .bool ((reachL ar rs b n).2)] 106 :: cellsH b4 [x1, x2, x3, x4, .bool ((reachL ar rs a n).2)] 106 :: cellsH b3 [(.slice none 0 0), (.slice none 0 0)] 34 :: cellsH b2 [(.slice none 0 0), (.slice none 0 0)] 34 :: cellsH b1 [arv, rsv] 29 :: L)
 have hgk : ((terms (reachL ar rs a n).1).getD k []) = (EL (reachL ar rs a n).1 k).1 := terms_get k
 have hfi : badG (fun y => !decide (y = ((terms (reachL ar rs a n).1).getD k []))) (terms (reachL ar rs b n).1) = foundI (reachL ar rs b n).1 (EL (reachL ar rs a n).1 k).1 := by rw [hgk]; exact foundI_terms
 have hfl := fun (h : 0 ≤ foundI (reachL ar rs b n).1 (EL (reachL ar rs a n).1 k).1) => (foundI_lt h).1
 have hka := fun (h : k < (reachL ar rs a n).1.length) => (show ((terms (reachL ar rs a n).1).getD k []).length ≤ 60 from by rw [hgk]; exact hrda k h)
 refine X.seq (X.seq (X.region (XL.mv (.int .i64 ((k : Int))) rfl (cX (XOp.fieldP (0) runUnderlying106 rfl sizeOf47 (by decide) rfl rfl (cX (XOp.load1 isAgg47 rfl (Rd.own [_] rfl rfl) (cX (XOp.lenS runUnderlying47 rfl hr1.slv (cX (XOp.lss rfl rfl (XL.nil ?_))))))))))))
 refine X.condD (p := (k : Int) < (((terms (reachL ar rs a n).1).length : Nat) : Int)) rfl (fun h3 => ?_) (fun h3 => ?_)
 ·refine X.skip (X.seq (X.block (X.seq ?_)))
  obtain ⟨a1, ha1, hr9⟩ := hr1.rd (i := k) (by omega)
  refine X.draw [cellsH b5 [x5, x6, x7, x8, .bool ((reachL ar rs b n).2)] 106, cellsH b4 [x1, x2, x3, x4, .bool ((reachL ar rs a n).2)] 106, cellsH b3 [(.slice none 0 0), (.slice none 0 0)] 34, cellsH b2 [(.slice none 0 0), (.slice none 0 0)] 34, cellsH b1 [arv, rsv] 29] L 7 [[], [], [], [], [], [], []] [[], [0], [], [2], [], [3, 4], [5]] (phiL [fun us v => v = ptr b5 0, fun us v => v = x5, fun us v => v = ptr b4 0, fun us v => v = x1, fun us v => v = (.int .i64 ((k : Int)) : Value), fun us v => v = (.pointer (some (elemA x1 (k))) : Value), fun us v => v = a1]) (ownL [fun us v => [], fun us v => [], fun us v => [], fun us v => [], fun us v => [], fun us v => [], fun us v => []]) mixed rfl rfl (by kernel_rfl) ?_ ?_
  ·refine pC (fun vals R hpZ => ?_) ?_
   ·refine XG.op (XOp.fieldP (0) runUnderlying106 rfl sizeOf47 (by decide) rfl rfl ?_)
    exact ⟨rfl, rfl, rfl⟩
   refine pC (fun vals R hpZ => ?_) ?_
   ·rw [eS (l := [(0, ptr b5 0)]) ⟨hpZ 0 (by decide), trivial⟩]
    refine XG.op (XOp.load1 isAgg47 rfl (Rd.own [] rfl rfl) ?_)
    exact ⟨rfl, rfl, rfl⟩
   refine pC (fun vals R hpZ => ?_) ?_
   ·refine XG.op (XOp.fieldP (0) runUnderlying106 rfl sizeOf47 (by decide) rfl rfl ?_)
    exact ⟨rfl, rfl, rfl⟩
   refine pC (fun vals R hpZ => ?_) ?_
   ·rw [eS (l := [(2, ptr b4 0)]) ⟨hpZ 2 (by decide), trivial⟩]
    refine XG.op (XOp.load1 isAgg47 rfl (Rd.own [_] rfl rfl) ?_)
    exact ⟨rfl, rfl, rfl⟩
   refine pC (fun vals R hpZ => ?_) ?_
   ·refine XG.op (XOp.move (.int .i64 ((k : Int))) rfl ?_)
    exact ⟨rfl, rfl, rfl⟩
   refine pC (fun vals R hpZ => ?_) ?_
   ·rw [eS (l := [(3, x1), (4, (.int .i64 ((k : Int)) : Value))]) ⟨hpZ 3 (by decide), hpZ 4 (by decide), trivial⟩]
    refine XG.op (XOp.indexS k runUnderlying47 sizeOf24 rfl rfl rfl hr1.slv (by omega) (Nat.mul_one _) ?_)
    exact ⟨rfl, rfl, rfl⟩
   refine pC (fun vals R hpZ => ?_) ?_
   ·rw [eS (l := [(5, (.pointer (some (elemA x1 (k))) : Value))]) ⟨hpZ 5 (by decide), trivial⟩]
    refine XG.op (XOp.load1 isAgg24 rfl (hr9 _) ?_)
    exact ⟨rfl, rfl, rfl⟩
   exact stepsP.nil
  intro vals hphi
  rw [eS (l := [(1, x5), (6, a1)]) ⟨(hphi 1 (by decide)), (hphi 6 (by decide)), trivial⟩]
  show XL _ _ _ _ _ _ _ (cellsH b5 [x5, x6, x7, x8, .bool ((reachL ar rs b n).2)] 106 :: cellsH b4 [x1, x2, x3, x4, .bool ((reachL ar rs a n).2)] 106 :: cellsH b3 [(.slice none 0 0), (.slice none 0 0)] 34 :: cellsH b2 [(.slice none 0 0), (.slice none 0 0)] 34 :: cellsH b1 [arv, rsv] 29 :: L)
  refine cX (XOp.call (args := [x5, a1]) call126 rfl (l1TermPlace_spec hr5 ha1 (hlt := (by omega)) (htb := (htqb)) (hlx := (by have := hka (by omega); omega))) ?_)
  rintro _ _ _ _ ⟨rfl, rfl, rfl⟩
  refine XL.as (.int .i64 (badG (fun y => !decide (y = (((terms (reachL ar rs a n).1).getD k [])))) (terms (reachL ar rs b n).1))) rfl (XL.nil (X.seq (X.region (XL.mv (.int .i64 (badG (fun y => !decide (y = (((terms (reachL ar rs a n).1).getD k [])))) (terms (reachL ar rs b n).1))) rfl (cX (XOp.geq rfl rfl (XL.nil ?_)))))))
  refine X.condD (p := (badG (fun y => !decide (y = (((terms (reachL ar rs a n).1).getD k [])))) (terms (reachL ar rs b n).1) : Int) ≥ 0) rfl (fun h4 => ?_) (fun h4 => ?_)
  ·refine X.seq ?_
   refine X.drawG [cellsH b5 [x5, x6, x7, x8, .bool ((reachL ar rs b n).2)] 106, cellsH b4 [x1, x2, x3, x4, .bool ((reachL ar rs a n).2)] 106, cellsH b3 [(.slice none 0 0), (.slice none 0 0)] 34, cellsH b2 [(.slice none 0 0), (.slice none 0 0)] 34, cellsH b1 [arv, rsv] 29] L 5 [[], [], [], [], []] [[], [], [0, 1], [], []] [[], [], [], [], []] (phiG [fun FF us v => v = (.agg #[x1, x2, x3, x4, .bool ((reachL ar rs a n).2)] : Value), fun FF us v => v = (.int .i64 ((k : Int)) : Value), fun FF us v => (.agg #[((aggAt v 0)), ((aggAt v 1))] : Value) = v ∧ (IntsF FF ((aggAt v 0)) (EL (((reachL ar rs a n).1)) 0).1) ∧ (StepsF FF ((aggAt v 1)) (walkL (((reachL ar rs a n).1)) k)), fun FF us v => v = (.agg #[x5, x6, x7, x8, .bool ((reachL ar rs b n).2)] : Value), fun FF us v => v = (.int .i64 (badG (fun y => !decide (y = (((terms (reachL ar rs a n).1).getD k [])))) (terms (reachL ar rs b n).1)) : Value)]) (ownL [fun us v => [], fun us v => [], fun us v => [], fun us v => [], fun us v => []]) mixed rfl rfl (by kernel_rfl) (by kernel_rfl) (MonoG.get (mC (fun le h => h) (mC (fun le h => h) (mC (fun le h => ⟨h.1, h.2.1.mono le, h.2.2.mono le⟩) (mC (fun le h => h) (mC (fun le h => h) MonoG.nil)))))) ?_ ?_
   ·refine gC (fun vals Fs R leFs hpZ => ?_) ?_
    ·replace har := har.mono leFs
     replace hr1 := hr1.mono leFs
     replace hr2 := hr2.mono leFs
     replace hr3 := hr3.mono leFs
     replace hr4 := hr4.mono leFs
     replace hr5 := hr5.mono leFs
     replace hr6 := hr6.mono leFs
     replace hr7 := hr7.mono leFs
     replace hr8 := hr8.mono leFs
     refine XG.op (XOp.loadN [x1, x2, x3, x4, .bool ((reachL ar rs a n).2)] isAgg106 sizeOf106 rfl rfl (Rd.ownN [_] rfl rfl) ?_)
     exact ⟨rfl, rfl⟩
    refine gC (fun vals Fs R leFs hpZ => ?_) ?_
    ·refine XG.op (XOp.move (.int .i64 ((k : Int))) rfl ?_)
     exact ⟨rfl, rfl⟩
    refine gC (fun vals Fs R leFs hpZ => ?_) ?_
    ·replace har := har.mono leFs
     replace hr1 := hr1.mono leFs
     replace hr2 := hr2.mono leFs
     replace hr3 := hr3.mono leFs
     replace hr4 := hr4.mono leFs
     replace hr5 := hr5.mono leFs
     replace hr6 := hr6.mono leFs
     replace hr7 := hr7.mono leFs
     replace hr8 := hr8.mono leFs
     rw [eS (l := [(0, (.agg #[x1, x2, x3, x4, .bool ((reachL ar rs a n).2)] : Value)), (1, (.int .i64 ((k : Int)) : Value))]) ⟨(hpZ 0 (by decide)), (hpZ 1 (by decide)), trivial⟩]
     refine XG.op (XOp.call (args := [.agg #[x1, x2, x3, x4, .bool ((reachL ar rs a n).2)], .int .i64 (k : Int)]) call128 rfl (l9Walk_spec (k := k) hr1 hr2 hr3 hr4 (hk := (by omega)) (hll := (hrla)) (hlk := (hgda.1)) (hbd := (hrda))) ?_)
     rintro _ F4 _ le4 ⟨x11, x12, rfl, hr13, hr14, hr15, rfl⟩
     replace har := har.mono le4
     replace hr5 := hr5.mono le4
     replace hr6 := hr6.mono le4
     replace hr7 := hr7.mono le4
     replace hr8 := hr8.mono le4
     exact ⟨⟨rfl, hr13, hr14⟩, rfl⟩
    refine gC (fun vals Fs R leFs hpZ => ?_) ?_
    ·replace har := har.mono leFs
     replace hr5 := hr5.mono leFs
     replace hr6 := hr6.mono leFs
     replace hr7 := hr7.mono leFs
     replace hr8 := hr8.mono leFs
     refine XG.op (XOp.loadN [x5, x6, x7, x8, .bool ((reachL ar rs b n).2)] isAgg106 sizeOf106 rfl rfl (Rd.ownN [] rfl rfl) ?_)
     exact ⟨rfl, rfl⟩
    refine gC (fun vals Fs R leFs hpZ => ?_) ?_
    ·refine XG.op (XOp.move (.int .i64 (badG (fun y => !decide (y = (((terms (reachL ar rs a n).1).getD k [])))) (terms (reachL ar rs b n).1))) rfl ?_)
     exact ⟨rfl, rfl⟩
    exact stepsG.nil
   intro vals F5 le5 hphi
   obtain ⟨e2, f2_2hr1, f2_2hr2⟩ := hphi 2 (by decide)
   generalize hu1 : ((aggAt (vals 2) 0)) = u1 at e2 f2_2hr1 f2_2hr2
   generalize hu2 : ((aggAt (vals 2) 1)) = u2 at e2 f2_2hr1 f2_2hr2
   rw [eS (l := [(2, (.agg #[u1, u2] : Value)), (3, (.agg #[x5, x6, x7, x8, .bool ((reachL ar rs b n).2)] : Value)), (4, (.int .i64 (badG (fun y => !decide (y = (((terms (reachL ar rs a n).1).getD k [])))) (terms (reachL ar rs b n).1)) : Value))]) ⟨(e2).symm, (hphi 3 (by decide)), (hphi 4 (by decide)), trivial⟩]
   replace hr5 := hr5.mono le5
   replace hr6 := hr6.mono le5
   replace hr7 := hr7.mono le5
   replace hr8 := hr8.mono le5
   show XL _ _ _ _ _ _ _ (cellsH b5 [x5, x6, x7, x8, .bool ((reachL ar rs b n).2)] 106 :: cellsH b4 [x1, x2, x3, x4, .bool ((reachL ar rs a n).2)] 106 :: cellsH b3 [(.slice none 0 0), (.slice none 0 0)] 34 :: cellsH b2 [(.slice none 0 0), (.slice none 0 0)] 34 :: cellsH b1 [arv, rsv] 29 :: L)
   refine cX (XOp.call (args := [.agg #[x5, x6, x7, x8, .bool ((reachL ar rs b n).2)], .int .i64 (((badG (fun y => !decide (y = (((terms (reachL ar rs a n).1).getD k [])))) (terms (reachL ar rs b n).1)).toNat : Nat) : Int)]) call128 (by rw [show (((badG (fun y => !decide (y = (((terms (reachL ar rs a n).1).getD k [])))) (terms (reachL ar rs b n).1)).toNat : Nat) : Int) = badG (fun y => !decide (y = (((terms (reachL ar rs a n).1).getD k [])))) (terms (reachL ar rs b n).1) from by omega]; rfl) (l9Walk_spec (k := (badG (fun y => !decide (y = (((terms (reachL ar rs a n).1).getD k [])))) (terms (reachL ar rs b n).1)).toNat) hr5 hr6 hr7 hr8 (hk := (by rw [hfi]; exact hfl (by omega))) (hll := (hrlb)) (hlk := (hgdb.1)) (hbd := (hrdb))) ?_)
   rintro _ F6 _ le6 ⟨x13, x14, rfl, hr16, hr17, hr18, rfl⟩
   replace f2_2hr1 := f2_2hr1.mono le6
   replace f2_2hr2 := f2_2hr2.mono le6
   refine cX (XOp.storeN [_, _, _] _ [u1, u2] sizeOf34 rfl rfl rfl (ones_cons (one_sl (IntsF.isSl f2_2hr1)) (ones_cons (one_sl (StepsF.isSl f2_2hr2)) ones_nil)) rfl rfl rfl (cX (XOp.storeN [_, _] _ [x13, x14] sizeOf34 rfl rfl rfl (ones_cons (one_sl (IntsF.isSl hr16)) (ones_cons (one_sl (StepsF.isSl hr17)) ones_nil)) rfl rfl rfl (XL.as (.bool (true)) rfl (XL.nil (X.ret (blockQ_ret (thenQ_ret (thenQ_ret (blockQ_ret (thenQ_ret (retEnd (L' := L) [.agg #[u1, u2], .agg #[x13, x14], .bool (true)] (.tuple #[.agg #[u1, u2], .agg #[x13, x14], .bool (true)]) (.cell rfl (loadNV [u1, u2] isAgg34 sizeOf34 rfl (Rd.ownN [_, _, _] rfl rfl)) (.cell rfl (loadNV [x13, x14] isAgg34 sizeOf34 rfl (Rd.ownN [_, _] rfl rfl)) (.tmp rfl .nil))) rfl (FLe.trans (FLe.trans (FLe.trans le1 le2) le5) le6) rF (sD (sD (sD (sD (sD sR))))) ?_))))))))))))
   have e : joinF ar rs a b n = ((EL (reachL ar rs a n).1 0).1, walkL (reachL ar rs a n).1 k, (EL (reachL ar rs b n).1 0).1, walkL (reachL ar rs b n).1 (badG (fun y => !decide (y = ((terms (reachL ar rs a n).1).getD k []))) (terms (reachL ar rs b n).1)).toNat, true) := by rw [joinF_yes hro, join0_at (k := k) (by omega) (by omega) hno, hgda.2.2.2, hgdb.2.2.2, hfi]
   exact ⟨_, _, _, _, by rw [e], by rw [e]; exact f2_2hr1, by rw [e]; exact f2_2hr2, by rw [e]; exact hr16, by rw [e]; exact hr17, rfl⟩
  refine X.skip (X.region (XL.mv (.int .i64 ((k : Int))) rfl (cX (XOp.addR (((k + 1 : Nat) : Int)) rfl rfl (by omega) (by omega) (XL.as (.int .i64 (((k + 1 : Nat) : Int))) rfl (XL.nil ?_))))))
  exact ⟨k + 1, _, FLe.refl _, rF, ⟨rfl, rfl, rfl, rfl, rfl, trivial⟩, (sC (sC (sC (sC (sC sR))))), ⟨rfl, (by (try dsimp only) <;> omega), (fun i hi => (Nat.lt_or_ge i k).elim (fun h => hno i h) (fun h => by obtain rfl : i = k := (by omega); omega))⟩, (by omega)⟩
 refine X.exit (thenQ_exit (thenQ_exit (blockQ_exit (X.seq (X.region (cX (XOp.build [(.slice none 0 0), (.slice none 0 0)] [(.slice none 0 0), (.slice none 0 0)] [(0, 1), (1, 1)] [] runUnderlying34 zeroValue34 rfl (.cons rfl sizeOf24 (.cons rfl sizeOf32 PlacesAre.nil)) rfl CellsAre.nil (cX (XOp.build [(.slice none 0 0), (.slice none 0 0)] [(.slice none 0 0), (.slice none 0 0)] [(0, 1), (1, 1)] [] runUnderlying34 zeroValue34 rfl (.cons rfl sizeOf24 (.cons rfl sizeOf32 PlacesAre.nil)) rfl CellsAre.nil (cX (XOp.storeN [_, _, _] _ [(.slice none 0 0), (.slice none 0 0)] sizeOf34 rfl rfl rfl (ones_cons rfl (ones_cons rfl ones_nil)) rfl rfl rfl (cX (XOp.storeN [_, _] _ [(.slice none 0 0), (.slice none 0 0)] sizeOf34 rfl rfl rfl (ones_cons rfl (ones_cons rfl ones_nil)) rfl rfl rfl (XL.as (.bool (false)) rfl (XL.nil (X.ret (retEnd (L' := L) [.agg #[(.slice none 0 0), (.slice none 0 0)], .agg #[(.slice none 0 0), (.slice none 0 0)], .bool (false)] (.tuple #[.agg #[(.slice none 0 0), (.slice none 0 0)], .agg #[(.slice none 0 0), (.slice none 0 0)], .bool (false)]) (.cell rfl (loadNV [(.slice none 0 0), (.slice none 0 0)] isAgg34 sizeOf34 rfl (Rd.ownN [_, _, _] rfl rfl)) (.cell rfl (loadNV [(.slice none 0 0), (.slice none 0 0)] isAgg34 sizeOf34 rfl (Rd.ownN [_, _] rfl rfl)) (.tmp rfl .nil))) rfl (FLe.trans le1 le2) rF (sD (sD (sD (sD (sD sR))))) ?_)))))))))))))))))
 have e : joinF ar rs a b n = ([], [], [], [], false) := (joinF_yes hro).trans (join0_none (fun i hi => hno i (by omega)))
 exact ⟨_, _, _, _, by rw [e], by rw [e]; exact IntsF.nilV, by rw [e]; exact SlOf.nilV, by rw [e]; exact IntsF.nilV, by rw [e]; exact SlOf.nilV, rfl⟩

/- spec.JoinsIn -/
set_option maxRecDepth 20000 in
theorem sJoinsIn_spec {F : FH} {L : List HP} {arv : Value} {ar : List Int} (har : IntsF F arv ar) {rsv : Value} {rs : List (List Int × List Int)} (hrs : PairsF F rsv rs) {av : Value} {a : List Int} (ha : IntsF F av a) {bv : Value} {b : List Int} (hb : IntsF F bv b) {n : Int} (hla : ar.length ≤ 4000000) (hlr : rs.length ≤ 4000000) (hrb : ∀ i, i < rs.length → (rs.getD i ([], [])).1.length ≤ 4000000 ∧ (rs.getD i ([], [])).2.length ≤ 4000000) (hla9 : a.length ≤ 4000000) (hlb9 : b.length ≤ 4000000) :
    Does prog 26 [.agg #[arv, rsv], av, bv, .int .i64 (n)] F (L) (fun v F' L' => (.bool ((joinF ar rs a b n).2.2.2.2) : Value) = v ∧ L = L') := by
 refine Does.of_X func26 rfl rfl rfl (X.seq (X.region (cX (XOp.box [arv, rsv] rfl rfl ?_))))
 intro b1
 refine XL.as (.bool (false)) rfl (XL.nil (X.seq (X.region (cX (XOp.loadN [arv, rsv] isAgg29 sizeOf29 rfl rfl (Rd.ownN [] rfl rfl) (XL.mv (av) rfl (XL.mv (bv) rfl (XL.mv (.int .i64 (n)) rfl (cX (XOp.call (args := [.agg #[arv, rsv], av, bv, .int .i64 (n)]) call72 rfl (sJoinOf_spec (n := n) har hrs ha hb (hla := (by first | assumption | rfl | omega | simp)) (hlr := (by first | assumption | rfl | omega | simp)) (hrb := (by first | assumption | rfl | omega | simp)) (hla9 := (by first | assumption | rfl | omega | simp)) (hlb9 := (by first | assumption | rfl | omega | simp))) ?_))))))))))
 rintro _ F1 _ le1 ⟨x1, x2, x3, x4, rfl, hr1, hr2, hr3, hr4, rfl⟩
 refine XL.mv (.tuple #[.agg #[x1, x2], .agg #[x3, x4], .bool ((joinF ar rs a b n).2.2.2.2)]) rfl (cX (XOp.extract (.agg #[x1, x2]) rfl rfl (cX (XOp.extract (.agg #[x3, x4]) rfl rfl (cX (XOp.extract (.bool ((joinF ar rs a b n).2.2.2.2)) rfl rfl (cX (XOp.alloc [(.slice none 0 0), (.slice none 0 0)] zeroValue34 rfl ?_))))))))
 intro b2
 refine cX (XOp.alloc [(.slice none 0 0), (.slice none 0 0)] zeroValue34 rfl ?_)
 intro b3
 refine cX (XOp.storeN [_] _ [x1, x2] sizeOf34 rfl rfl rfl (ones_cons (one_sl (IntsF.isSl hr1)) (ones_cons (one_sl (StepsF.isSl hr2)) ones_nil)) rfl rfl rfl (cX (XOp.storeN [] _ [x3, x4] sizeOf34 rfl rfl rfl (ones_cons (one_sl (IntsF.isSl hr3)) (ones_cons (one_sl (StepsF.isSl hr4)) ones_nil)) rfl rfl rfl (XL.as (.bool ((joinF ar rs a b n).2.2.2.2)) rfl (XL.nil (X.seq (X.region (XL.mv (.bool ((joinF ar rs a b n).2.2.2.2)) rfl (XL.as (.bool ((joinF ar rs a b n).2.2.2.2)) rfl (XL.nil (X.ret (retEnd (L' := L) [.bool ((joinF ar rs a b n).2.2.2.2)] (.bool ((joinF ar rs a b n).2.2.2.2)) (.tmp rfl .nil) rfl le1 rF (sD (sD (sD sR))) ?_))))))))))))
 exact ⟨rfl, rfl⟩
end Go.Proofs.YtmaaifhmhclhdaaGreat
set_option linter.unusedSimpArgs false
set_option linter.unusedVariables false
namespace Go.Proofs.YtmaaifhmhclhdaaGreat
open Go X M Tryz
end Go.Proofs.YtmaaifhmhclhdaaGreat
set_option linter.unusedSimpArgs false
set_option linter.unusedVariables false
namespace Go.Proofs.YtmaaifhmhclhdaaGreat
open Go X M Tryz
end Go.Proofs.YtmaaifhmhclhdaaGreat
set_option linter.unusedSimpArgs false
set_option linter.unusedVariables false
namespace Go.Proofs.YtmaaifhmhclhdaaGreat
open Go X M Tryz

/- laws.big -/
theorem big_spec {F : FH} {L : List HP} {bsv : Value} {bs : List Int} (hbs : BytesF F bsv bs) :
    Does prog 7 [bsv] F (L) (fun v F' L' => (.bool (decide ((bs.length : Int) > 4096)) : Value) = v ∧ F = F' ∧ L = L') := by
 refine Does.of_X func7 rfl rfl rfl (X.seq (X.region (XL.as (.bool (false)) rfl (XL.nil (X.seq (X.region (XL.mv (bsv) rfl (cX (XOp.lenS runUnderlying22 rfl hbs.slv (cX (XOp.gtr rfl rfl (XL.as (.bool (decide (((bs.length : Int) : Int) > 4096))) rfl (XL.nil (X.ret (retEnd (L' := L) [.bool (decide (((bs.length : Int) : Int) > 4096))] (.bool (decide (((bs.length : Int) : Int) > 4096))) (.tmp rfl .nil) rfl rF rF sR ?_)))))))))))))))
 exact ⟨rfl, rfl, rfl⟩

/- laws.roll -/
theorem roll_spec {F : FH} {L : List HP} {bsv : Value} {bs : List Int} (hbs : BytesF F bsv bs) (hlb : bs.length ≤ 4000000) {s : Int} :
    Does prog 22 [bsv, .int .u64 (s)] F (L) (fun v F' L' => ∃ cb : Nat, (ptr cb 0 : Value) = v ∧ F = F' ∧ curH .u64 110 cb bsv bs.length :: L = L') := by
 refine Does.of_X func22 rfl rfl rfl (X.seq (X.region (XL.as ((.pointer none)) rfl (XL.nil (X.seq (X.region (XL.mv (bsv) rfl (XL.mv (.int .u64 (s)) rfl (cX (XOp.mulW (a := s) (b := 7919) rfl rfl ?_))))))))))
 intro r1
 refine XL.mv (bsv) rfl (cX (XOp.lenS runUnderlying22 rfl hbs.slv (cX (XOp.convW (k' := .i64) (a := (bs.length : Int)) runUnderlying3 runUnderlying52 rfl ?_))))
 intro r2
 refine cX (XOp.addW (a := r1) (b := r2) rfl rfl ?_)
 intro r3
 refine cX (XOp.build [bsv, .int .i64 (0), .int .u64 (r3)] [(.slice none 0 0), .int .i64 (0), .int .u64 (0)] [(0, 1), (1, 1), (2, 1)] [(0, [bsv]), (2, [.int .u64 (r3)])] runUnderlying110 zeroValue110 rfl (.cons rfl sizeOf22 (.cons rfl sizeOf3 (.cons rfl sizeOf52 PlacesAre.nil))) rfl (.cons (cells_one (BytesF.isSl hbs)) (.cons rfl CellsAre.nil)) (cX (XOp.box [bsv, .int .i64 (0), .int .u64 (r3)] rfl rfl ?_)))
 intro b1
 refine XL.as (ptr b1 0) rfl (XL.nil (X.seq (X.seq (X.region (XL.as (.int .i64 (0)) rfl (XL.nil (X.block (X.loop (α := Nat × Int) (fun xQ => [(0, bsv), (5, ptr b1 0), (6, .int .i64 (((xQ.1 : Nat) : Int)))]) (fun xQ => cellsH b1 [bsv, .int .i64 (0), .int .u64 (xQ.2)] 110 :: L) (fun xQ F' => F = F' ∧ (xQ.1 ≤ bs.length)) (fun xQ => bs.length - xQ.1) (0, r3) ⟨rfl, rfl, rfl, trivial⟩ (sC sR) ⟨rfl, (Nat.zero_le _)⟩ ?_))))))))
 rintro ⟨k, h⟩ rE _ _ ⟨rfl, hk⟩
 show X _ _ _ _ (envs [(0, bsv), (5, ptr b1 0), (6, .int .i64 ((k : Int)))] rE) _ (cellsH b1 [bsv, .int .i64 (0), .int .u64 (h)] 110 :: L)
 dsimp only at hk
 refine X.seq (X.seq (X.region (XL.mv (.int .i64 ((k : Int))) rfl (XL.mv (bsv) rfl (cX (XOp.lenS runUnderlying22 rfl hbs.slv (cX (XOp.lss rfl rfl (XL.nil ?_)))))))))
 refine X.condD (p := (k : Int) < (bs.length : Int)) rfl (fun h1 => ?_) (fun h1 => ?_)
 ·refine X.skip (X.seq (X.block ?_))
  refine X.drawG [cellsH b1 [bsv, .int .i64 (0), .int .u64 (h)] 110] L 13 [[], [], [], [], [], [], [], [], [], [], [], [], []] [[], [], [1], [2], [3], [4], [], [], [6, 7], [8], [9], [5, 10], [11]] [[], [], [], [], [], [], [], [], [], [], [], [], []] (phiG [fun FF us v => v = ptr b1 0, fun FF us v => v = ptr b1 0, fun FF us v => v = ptr b1 0, fun FF us v => v = ptr b1 2, fun FF us v => v = (.int .u64 (h) : Value), fun FF us v => (.int .u64 ((intAt v)) : Value) = v, fun FF us v => v = bsv, fun FF us v => v = (.int .i64 ((k : Int)) : Value), fun FF us v => v = (.pointer (some (elemA bsv (k))) : Value), fun FF us v => v = (.int .u8 (bs.getD k 0) : Value), fun FF us v => (.int .u64 ((intAt v)) : Value) = v, fun FF us v => (.int .u64 ((intAt v)) : Value) = v, fun FF us v => (.int .u64 ((intAt v)) : Value) = v]) (ownL [fun us v => [], fun us v => [], fun us v => [], fun us v => [], fun us v => [], fun us v => [], fun us v => [], fun us v => [], fun us v => [], fun us v => [], fun us v => [], fun us v => [], fun us v => []]) mixed rfl rfl (by kernel_rfl) (by kernel_rfl) (MonoG.get (mC (fun le h => h) (mC (fun le h => h) (mC (fun le h => h) (mC (fun le h => h) (mC (fun le h => h) (mC (fun le h => h) (mC (fun le h => h) (mC (fun le h => h) (mC (fun le h => h) (mC (fun le h => h) (mC (fun le h => h) (mC (fun le h => h) (mC (fun le h => h) MonoG.nil)))))))))))))) ?_ ?_
  ·refine gC (fun vals Fs R leFs hpZ => ?_) ?_
   ·refine XG.op (XOp.move (ptr b1 0) rfl ?_)
    exact ⟨rfl, rfl⟩
   refine gC (fun vals Fs R leFs hpZ => ?_) ?_
   ·refine XG.op (XOp.move (ptr b1 0) rfl ?_)
    exact ⟨rfl, rfl⟩
   refine gC (fun vals Fs R leFs hpZ => ?_) ?_
   ·replace hbs := hbs.mono leFs
    rw [eS (l := [(1, ptr b1 0)]) ⟨(hpZ 1 (by decide)), trivial⟩]
    refine XG.op (XOp.nilCheck rfl ?_)
    exact ⟨rfl, rfl⟩
   refine gC (fun vals Fs R leFs hpZ => ?_) ?_
   ·rw [eS (l := [(2, ptr b1 0)]) ⟨(hpZ 2 (by decide)), trivial⟩]
    refine XG.op (XOp.fieldP (2) runUnderlying110 rfl sizeOf52 (by decide) rfl rfl ?_)
    exact ⟨rfl, rfl⟩
   refine gC (fun vals Fs R leFs hpZ => ?_) ?_
   ·replace hbs := hbs.mono leFs
    rw [eS (l := [(3, ptr b1 2)]) ⟨(hpZ 3 (by decide)), trivial⟩]
    refine XG.op (XOp.load1 isAgg52 rfl (Rd.own [] rfl rfl) ?_)
    exact ⟨rfl, rfl⟩
   refine gC (fun vals Fs R leFs hpZ => ?_) ?_
   ·rw [eS (l := [(4, (.int .u64 (h) : Value))]) ⟨(hpZ 4 (by decide)), trivial⟩]
    refine XG.op (XOp.mulW (a := h) (b := 1099511628211) rfl rfl ?_)
    intro r8
    exact ⟨rfl, rfl⟩
   refine gC (fun vals Fs R leFs hpZ => ?_) ?_
   ·refine XG.op (XOp.move (bsv) rfl ?_)
    exact ⟨rfl, rfl⟩
   refine gC (fun vals Fs R leFs hpZ => ?_) ?_
   ·refine XG.op (XOp.move (.int .i64 ((k : Int))) rfl ?_)
    exact ⟨rfl, rfl⟩
   refine gC (fun vals Fs R leFs hpZ => ?_) ?_
   ·replace hbs := hbs.mono leFs
    rw [eS (l := [(6, bsv), (7, (.int .i64 ((k : Int)) : Value))]) ⟨(hpZ 6 (by decide)), (hpZ 7 (by decide)), trivial⟩]
    refine XG.op (XOp.indexS k runUnderlying22 sizeOf5 rfl rfl rfl hbs.slv (by omega) (Nat.mul_one _) ?_)
    exact ⟨rfl, rfl⟩
   refine gC (fun vals Fs R leFs hpZ => ?_) ?_
   ·replace hbs := hbs.mono leFs
    rw [eS (l := [(8, (.pointer (some (elemA bsv (k))) : Value))]) ⟨(hpZ 8 (by decide)), trivial⟩]
    refine XG.op (XOp.load1 isAgg5 rfl (hbs.rd (by omega) _) ?_)
    exact ⟨rfl, rfl⟩
   refine gC (fun vals Fs R leFs hpZ => ?_) ?_
   ·replace hbs := hbs.mono leFs
    rw [eS (l := [(9, (.int .u8 (bs.getD k 0) : Value))]) ⟨(hpZ 9 (by decide)), trivial⟩]
    refine XG.op (XOp.convW (k' := .u8) (a := bs.getD k 0) runUnderlying5 runUnderlying52 rfl ?_)
    intro r9
    exact ⟨rfl, rfl⟩
   refine gC (fun vals Fs R leFs hpZ => ?_) ?_
   ·have e5 : (.int .u64 ((intAt (vals 5))) : Value) = (vals 5) := hpZ 5 (by decide)
    have e10 : (.int .u64 ((intAt (vals 10))) : Value) = (vals 10) := hpZ 10 (by decide)
    rw [eS (l := [(5, (.int .u64 ((intAt (vals 5))) : Value)), (10, (.int .u64 ((intAt (vals 10))) : Value))]) ⟨(e5).symm, (e10).symm, trivial⟩]
    refine XG.op (XOp.addW (a := (intAt (vals 5))) (b := (intAt (vals 10))) rfl rfl ?_)
    intro r10
    exact ⟨rfl, rfl⟩
   refine gC (fun vals Fs R leFs hpZ => ?_) ?_
   ·have e11 : (.int .u64 ((intAt (vals 11))) : Value) = (vals 11) := hpZ 11 (by decide)
    rw [eS (l := [(11, (.int .u64 ((intAt (vals 11))) : Value))]) ⟨(e11).symm, trivial⟩]
    refine XG.op (XOp.addW (a := (intAt (vals 11))) (b := 3) rfl rfl ?_)
    intro r11
    exact ⟨rfl, rfl⟩
   exact stepsG.nil
  intro vals F1 le1 hphi
  have e5 : (.int .u64 ((intAt (vals 5))) : Value) = (vals 5) := hphi 5 (by decide)
  have e10 : (.int .u64 ((intAt (vals 10))) : Value) = (vals 10) := hphi 10 (by decide)
  have e11 : (.int .u64 ((intAt (vals 11))) : Value) = (vals 11) := hphi 11 (by decide)
  have e12 : (.int .u64 ((intAt (vals 12))) : Value) = (vals 12) := hphi 12 (by decide)
  generalize hu1 : (intAt (vals 5)) = u1 at e5 e10 e11 e12
  generalize hu2 : (intAt (vals 10)) = u2 at e5 e10 e11 e12
  generalize hu3 : (intAt (vals 11)) = u3 at e5 e10 e11 e12
  generalize hu4 : (intAt (vals 12)) = u4 at e5 e10 e11 e12
  rw [eS (l := [(0, ptr b1 0), (12, (.int .u64 (u4) : Value))]) ⟨(hphi 0 (by decide)), (e12).symm, trivial⟩]
  show XL _ _ _ _ _ _ _ (cellsH b1 [bsv, .int .i64 (0), .int .u64 (h)] 110 :: L)
  refine cX (XOp.nilCheck rfl (cX (XOp.fieldP (2) runUnderlying110 rfl sizeOf52 (by decide) rfl rfl (cX (XOp.store1 [] _ [bsv, .int .i64 (0), .int .u64 (u4)] sizeOf52 rfl rfl rfl rfl rfl rfl (XL.nil (X.region (XL.mv (.int .i64 ((k : Int))) rfl (cX (XOp.addR (((k + 1 : Nat) : Int)) rfl rfl (by omega) (by omega) (XL.as (.int .i64 (((k + 1 : Nat) : Int))) rfl (XL.nil ?_))))))))))))
  exact ⟨(k + 1, u4), _, FLe.refl _, le1, ⟨rfl, rfl, rfl, trivial⟩, (sC sR), ⟨rfl, (by (try dsimp only) <;> omega)⟩, (by omega)⟩
 refine X.exit (thenQ_exit (thenQ_exit (blockQ_exit (X.seq (X.region (XL.mv (ptr b1 0) rfl (XL.as (ptr b1 0) rfl (XL.nil (X.ret (retEnd (L' := curH .u64 110 b1 bsv bs.length :: L) [ptr b1 0] (ptr b1 0) (.tmp rfl .nil) rfl rF rF (Sub.keep (curH.of (by omega) (by omega)) sR) ?_))))))))))
 exact ⟨_, rfl, rfl, rfl⟩

/- (*laws.dice).below -/
theorem below_spec0 {F : FH} {L : List HP} {cb : Nat} {bsv : Value} {bs : List Int} (hbs : BytesF F bsv bs) (hbl : bs.length ≤ 4000000) {i h n : Int} (h0 : 0 ≤ i) (h1 : i ≤ bs.length) (hn : 1 ≤ n ∧ n ≤ 1000000) :
    Does prog 23 [ptr cb 0, .int .i64 (n)] F (cellsH cb [bsv, .int .i64 (i), .int .u64 (h)] 110 :: L) (fun v F' L' => (F = F' ∧ ∃ x : Int, (.int .i64 x : Value) = v ∧ (0 ≤ x ∧ x < n)) ∧ ∃ i' h' : Int, 0 ≤ i' ∧ i' ≤ bs.length ∧ cellsH cb [bsv, .int .i64 (i'), .int .u64 (h')] 110 :: L = L') := by
 refine Does.of_X func23 rfl rfl rfl (X.seq (X.region (XL.as (.int .i64 (0)) rfl (XL.nil (X.seq (X.region (XL.mv (ptr cb 0) rfl (XL.mv (ptr cb 0) rfl (cX (XOp.nilCheck rfl (cX (XOp.fieldP (2) runUnderlying110 rfl sizeOf52 (by decide) rfl rfl (cX (XOp.load1 isAgg52 rfl (Rd.own [] rfl rfl) (cX (XOp.mulW (a := h) (b := 6364136223846793005) rfl rfl ?_))))))))))))))))
 intro r1
 refine cX (XOp.addW (a := r1) (b := 1442695040888963407) rfl rfl ?_)
 intro r2
 refine cX (XOp.nilCheck rfl (cX (XOp.fieldP (2) runUnderlying110 rfl sizeOf52 (by decide) rfl rfl (cX (XOp.store1 [] _ [bsv, .int .i64 (i), .int .u64 (r2)] sizeOf52 rfl rfl rfl rfl rfl rfl (XL.nil (X.seq (X.region (XL.mv (ptr cb 0) rfl (cX (XOp.nilCheck rfl (cX (XOp.fieldP (2) runUnderlying110 rfl sizeOf52 (by decide) rfl rfl (cX (XOp.load1 isAgg52 rfl (Rd.own [] rfl rfl) (cX (XOp.shrW (a := r2) (b := 33) rfl rfl (by decide) ?_)))))))))))))))))
 intro r3
 refine cX (XOp.andW (a := r3) (b := 16777215) rfl rfl rfl (by decide) ?_)
 intro r4 hr1
 refine cX (XOp.convI (k' := .u64) (a := r4) (r4) runUnderlying52 runUnderlying2 rfl (IntWalk.i64_in _ (by omega)) (XL.as (.int .i64 (r4)) rfl (XL.nil (X.seq (X.seq ?_)))))
 refine X.draw [cellsH cb [bsv, .int .i64 (i), .int .u64 (r2)] 110] L 9 [[], [], [], [], [], [], [], [], []] [[], [0], [1], [2], [], [4], [5], [6], [7]] (phiL [fun us v => v = ptr cb 0, fun us v => v = ptr cb 0, fun us v => v = ptr cb 1, fun us v => v = (.int .i64 (i) : Value), fun us v => v = ptr cb 0, fun us v => v = ptr cb 0, fun us v => v = ptr cb 0, fun us v => v = bsv, fun us v => v = (.int .i64 ((bs.length : Int)) : Value)]) (ownL [fun us v => [], fun us v => [], fun us v => [], fun us v => [], fun us v => [], fun us v => [], fun us v => [], fun us v => [], fun us v => []]) mixed rfl rfl (by kernel_rfl) ?_ ?_
 ·refine pC (fun vals R hpZ => ?_) ?_
  ·refine XG.op (XOp.move (ptr cb 0) rfl ?_)
   exact ⟨rfl, rfl, rfl⟩
  refine pC (fun vals R hpZ => ?_) ?_
  ·rw [eS (l := [(0, ptr cb 0)]) ⟨hpZ 0 (by decide), trivial⟩]
   refine XG.op (XOp.nilCheck rfl ?_)
   exact ⟨rfl, rfl, rfl⟩
  refine pC (fun vals R hpZ => ?_) ?_
  ·rw [eS (l := [(1, ptr cb 0)]) ⟨hpZ 1 (by decide), trivial⟩]
   refine XG.op (XOp.fieldP (1) runUnderlying110 rfl sizeOf3 (by decide) rfl rfl ?_)
   exact ⟨rfl, rfl, rfl⟩
  refine pC (fun vals R hpZ => ?_) ?_
  ·rw [eS (l := [(2, ptr cb 1)]) ⟨hpZ 2 (by decide), trivial⟩]
   refine XG.op (XOp.load1 isAgg3 rfl (Rd.own [] rfl rfl) ?_)
   exact ⟨rfl, rfl, rfl⟩
  refine pC (fun vals R hpZ => ?_) ?_
  ·refine XG.op (XOp.move (ptr cb 0) rfl ?_)
   exact ⟨rfl, rfl, rfl⟩
  refine pC (fun vals R hpZ => ?_) ?_
  ·rw [eS (l := [(4, ptr cb 0)]) ⟨hpZ 4 (by decide), trivial⟩]
   refine XG.op (XOp.nilCheck rfl ?_)
   exact ⟨rfl, rfl, rfl⟩
  refine pC (fun vals R hpZ => ?_) ?_
  ·rw [eS (l := [(5, ptr cb 0)]) ⟨hpZ 5 (by decide), trivial⟩]
   refine XG.op (XOp.fieldP (0) runUnderlying110 rfl sizeOf22 (by decide) rfl rfl ?_)
   exact ⟨rfl, rfl, rfl⟩
  refine pC (fun vals R hpZ => ?_) ?_
  ·rw [eS (l := [(6, ptr cb 0)]) ⟨hpZ 6 (by decide), trivial⟩]
   refine XG.op (XOp.load1 isAgg22 rfl (Rd.own [] rfl rfl) ?_)
   exact ⟨rfl, rfl, rfl⟩
  refine pC (fun vals R hpZ => ?_) ?_
  ·rw [eS (l := [(7, bsv)]) ⟨hpZ 7 (by decide), trivial⟩]
   refine XG.op (XOp.lenS runUnderlying22 rfl hbs.slv ?_)
   exact ⟨rfl, rfl, rfl⟩
  exact stepsP.nil
 intro vals hphi
 rw [eS (l := [(3, (.int .i64 (i) : Value)), (8, (.int .i64 ((bs.length : Int)) : Value))]) ⟨(hphi 3 (by decide)), (hphi 8 (by decide)), trivial⟩]
 show XL _ _ _ _ _ _ _ (cellsH cb [bsv, .int .i64 (i), .int .u64 (r2)] 110 :: L)
 refine cX (XOp.lss rfl rfl (XL.nil ?_))
 refine X.condD (p := (i : Int) < (bs.length : Int)) rfl (fun h1 => ?_) (fun h1 => ?_)
 ·have hrg := hbs.range (i := i.toNat) (by omega)
  refine X.seq ?_
  refine X.draw [cellsH cb [bsv, .int .i64 (i), .int .u64 (r2)] 110] L 12 [[], [], [], [], [], [], [], [], [], [], [], []] [[], [], [1], [2], [3], [], [5], [6], [7], [4, 8], [9], [10]] (phiL [fun us v => v = (.int .i64 (r4) : Value), fun us v => v = ptr cb 0, fun us v => v = ptr cb 0, fun us v => v = ptr cb 0, fun us v => v = bsv, fun us v => v = ptr cb 0, fun us v => v = ptr cb 0, fun us v => v = ptr cb 1, fun us v => v = (.int .i64 (i) : Value), fun us v => v = (.pointer (some (elemA bsv ((i).toNat))) : Value), fun us v => v = (.int .u8 (bs.getD ((i).toNat) 0) : Value), fun us v => v = (.int .i64 (bs.getD ((i).toNat) 0) : Value)]) (ownL [fun us v => [], fun us v => [], fun us v => [], fun us v => [], fun us v => [], fun us v => [], fun us v => [], fun us v => [], fun us v => [], fun us v => [], fun us v => [], fun us v => []]) mixed rfl rfl (by kernel_rfl) ?_ ?_
  ·refine pC (fun vals R hpZ => ?_) ?_
   ·refine XG.op (XOp.move (.int .i64 (r4)) rfl ?_)
    exact ⟨rfl, rfl, rfl⟩
   refine pC (fun vals R hpZ => ?_) ?_
   ·refine XG.op (XOp.move (ptr cb 0) rfl ?_)
    exact ⟨rfl, rfl, rfl⟩
   refine pC (fun vals R hpZ => ?_) ?_
   ·rw [eS (l := [(1, ptr cb 0)]) ⟨hpZ 1 (by decide), trivial⟩]
    refine XG.op (XOp.nilCheck rfl ?_)
    exact ⟨rfl, rfl, rfl⟩
   refine pC (fun vals R hpZ => ?_) ?_
   ·rw [eS (l := [(2, ptr cb 0)]) ⟨hpZ 2 (by decide), trivial⟩]
    refine XG.op (XOp.fieldP (0) runUnderlying110 rfl sizeOf22 (by decide) rfl rfl ?_)
    exact ⟨rfl, rfl, rfl⟩
   refine pC (fun vals R hpZ => ?_) ?_
   ·rw [eS (l := [(3, ptr cb 0)]) ⟨hpZ 3 (by decide), trivial⟩]
    refine XG.op (XOp.load1 isAgg22 rfl (Rd.own [] rfl rfl) ?_)
    exact ⟨rfl, rfl, rfl⟩
   refine pC (fun vals R hpZ => ?_) ?_
   ·refine XG.op (XOp.move (ptr cb 0) rfl ?_)
    exact ⟨rfl, rfl, rfl⟩
   refine pC (fun vals R hpZ => ?_) ?_
   ·rw [eS (l := [(5, ptr cb 0)]) ⟨hpZ 5 (by decide), trivial⟩]
    refine XG.op (XOp.nilCheck rfl ?_)
    exact ⟨rfl, rfl, rfl⟩
   refine pC (fun vals R hpZ => ?_) ?_
   ·rw [eS (l := [(6, ptr cb 0)]) ⟨hpZ 6 (by decide), trivial⟩]
    refine XG.op (XOp.fieldP (1) runUnderlying110 rfl sizeOf3 (by decide) rfl rfl ?_)
    exact ⟨rfl, rfl, rfl⟩
   refine pC (fun vals R hpZ => ?_) ?_
   ·rw [eS (l := [(7, ptr cb 1)]) ⟨hpZ 7 (by decide), trivial⟩]
    refine XG.op (XOp.load1 isAgg3 rfl (Rd.own [] rfl rfl) ?_)
    exact ⟨rfl, rfl, rfl⟩
   refine pC (fun vals R hpZ => ?_) ?_
   ·rw [eS (l := [(4, bsv), (8, (.int .i64 (i) : Value))]) ⟨hpZ 4 (by decide), hpZ 8 (by decide), trivial⟩]
    refine XG.op (XOp.indexS ((i).toNat) runUnderlying22 sizeOf5 rfl rfl (by omega) hbs.slv (by omega) (Nat.mul_one _) ?_)
    exact ⟨rfl, rfl, rfl⟩
   refine pC (fun vals R hpZ => ?_) ?_
   ·rw [eS (l := [(9, (.pointer (some (elemA bsv ((i).toNat))) : Value))]) ⟨hpZ 9 (by decide), trivial⟩]
    refine XG.op (XOp.load1 isAgg5 rfl (hbs.rd (by omega) _) ?_)
    exact ⟨rfl, rfl, rfl⟩
   refine pC (fun vals R hpZ => ?_) ?_
   ·rw [eS (l := [(10, (.int .u8 (bs.getD ((i).toNat) 0) : Value))]) ⟨hpZ 10 (by decide), trivial⟩]
    refine XG.op (XOp.convI (k' := .u8) (a := bs.getD ((i).toNat) 0) (bs.getD ((i).toNat) 0) runUnderlying5 runUnderlying2 rfl (IntWalk.i64_in _ (by omega)) ?_)
    exact ⟨rfl, rfl, rfl⟩
   exact stepsP.nil
  intro vals hphi
  rw [eS (l := [(0, (.int .i64 (r4) : Value)), (11, (.int .i64 (bs.getD ((i).toNat) 0) : Value))]) ⟨(hphi 0 (by decide)), (hphi 11 (by decide)), trivial⟩]
  show XL _ _ _ _ _ _ _ (cellsH cb [bsv, .int .i64 (i), .int .u64 (r2)] 110 :: L)
  refine cX (XOp.addR (r4 + (bs.getD ((i).toNat) 0)) rfl rfl (by omega) (by omega) (XL.as (.int .i64 (r4 + (bs.getD ((i).toNat) 0))) rfl (XL.nil (X.region (XL.mv (ptr cb 0) rfl (XL.mv (ptr cb 0) rfl (cX (XOp.nilCheck rfl (cX (XOp.fieldP (1) runUnderlying110 rfl sizeOf3 (by decide) rfl rfl (cX (XOp.load1 isAgg3 rfl (Rd.own [] rfl rfl) (cX (XOp.addR (i + 1) rfl rfl (by omega) (by omega) (cX (XOp.nilCheck rfl ?_))))))))))))))))
  refine cX (XOp.fieldP (1) runUnderlying110 rfl sizeOf3 (by decide) rfl rfl (cX (XOp.store1 [] _ [bsv, .int .i64 (i + 1), .int .u64 (r2)] sizeOf3 rfl rfl rfl rfl rfl rfl (XL.nil (X.seq (X.region (XL.mv (.int .i64 (r4 + (bs.getD ((i).toNat) 0))) rfl (XL.mv (.int .i64 (n)) rfl (cX (XOp.remV (a := r4 + (bs.getD ((i).toNat) 0)) (b := n) rfl rfl (by omega) (by omega) ?_))))))))))
  intro r5 hr2
  refine XL.as (.int .i64 (r5)) rfl (XL.nil (X.ret (retEnd (L' := cellsH cb [bsv, .int .i64 (i + 1), .int .u64 (r2)] 110 :: L) [.int .i64 (r5)] (.int .i64 (r5)) (.tmp rfl .nil) rfl rF rF (sC sR) ?_)))
  exact ⟨⟨rfl, _, rfl, hr2⟩, _, _, by omega, by omega, rfl⟩
 refine X.skip (X.seq (X.region (XL.mv (.int .i64 (r4)) rfl (XL.mv (.int .i64 (n)) rfl (cX (XOp.remV (a := r4) (b := n) rfl rfl (by omega) (by omega) ?_))))))
 intro r6 hr3
 refine XL.as (.int .i64 (r6)) rfl (XL.nil (X.ret (retEnd (L' := cellsH cb [bsv, .int .i64 (i), .int .u64 (r2)] 110 :: L) [.int .i64 (r6)] (.int .i64 (r6)) (.tmp rfl .nil) rfl rF rF (sC sR) ?_)))
 exact ⟨⟨rfl, _, rfl, hr3⟩, _, _, by omega, by omega, rfl⟩
theorem below_spec {F : FH} {L : List HP} {cb : Nat} {bsv : Value} {bs : List Int} (hbs : BytesF F bsv bs) (hbl : bs.length ≤ 4000000) {n : Int} (hn : 1 ≤ n ∧ n ≤ 1000000) : Does prog 23 [ptr cb 0, .int .i64 n] F (curH .u64 110 cb bsv bs.length :: L) (fun v F' L' => (F = F' ∧ ∃ (x : Int), (.int .i64 x : Value) = v ∧ (0 ≤ x ∧ x < n)) ∧ curH .u64 110 cb bsv bs.length :: L = L') :=
  Does.cur (Q := fun v F' => F = F' ∧ ∃ (x : Int), (.int .i64 x : Value) = v ∧ (0 ≤ x ∧ x < n)) fun i h h0 h1 => below_spec0 hbs hbl h0 h1 hn

end Go.Proofs.YtmaaifhmhclhdaaGreat
set_option linter.unusedSimpArgs false
set_option linter.unusedVariables false
namespace Go.Proofs.YtmaaifhmhclhdaaGreat
open Go X M Tryz

/- impl.SameTerm -/
theorem iSameTerm_spec {F : FH} {L : List HP} {av : Value} {a : List Int} (ha : IntsF F av a) {bv : Value} {b : List Int} (hb : IntsF F bv b) (hbd : a.length ≤ 9223372036854775807 ∨ b.length ≤ 9223372036854775807) :
    Does prog 18 [av, bv] F (L) (fun v F' L' => (.bool (decide (a = b)) : Value) = v ∧ F = F' ∧ L = L') := by
 refine Does.of_X func18 rfl rfl rfl (X.seq (X.region (XL.as (.bool (false)) rfl (XL.nil (X.seq (X.region (XL.mv (av) rfl (XL.mv (bv) rfl (cX (XOp.call (args := [av, bv]) call62 rfl (Equal_spec ha hb (hbd := (by first | assumption | rfl | omega | (left; simp; done) | (right; simp; done)))) ?_))))))))))
 rintro _ _ _ _ ⟨rfl, rfl, rfl⟩
 refine XL.as (.bool (decide (a = b))) rfl (XL.nil (X.ret (retEnd (L' := L) [.bool (decide (a = b))] (.bool (decide (a = b))) (.tmp rfl .nil) rfl rF rF sR ?_)))
 exact ⟨rfl, rfl, rfl⟩

/- laws.FnReached -/
set_option maxRecDepth 20000 in
theorem FnReached_does {F : FH} {L : List HP} {bsv : Value} {bs : List Int} (hbs : BytesF F bsv bs) (hlb : bs.length ≤ 9223372036854775807) :
    Does prog 4 [bsv] F (L) (fun v F' L' => (.bool (true) : Value) = v ∧ F = F' ∧ L = L') := by
 refine Does.of_X func4 rfl rfl rfl (X.seq (X.region (XL.as (.bool (false)) rfl (XL.nil (X.seq (X.seq (X.region (XL.mv (bsv) rfl (cX (XOp.call (args := [bsv]) call7 rfl (big_spec hbs) ?_))))))))))
 rintro _ _ _ _ ⟨rfl, rfl, rfl⟩
 refine XL.nil ?_
 refine X.condD (p := (bs.length : Int) > 4096) rfl (fun h1 => ?_) (fun h1 => ?_)
 ·refine X.seq (X.region (XL.as (.bool (true)) rfl (XL.nil (X.ret (thenQ_ret (retEnd (L' := L) [.bool (true)] (.bool (true)) (.tmp rfl .nil) rfl rF rF sR ?_))))))
  exact ⟨rfl, rfl, rfl⟩
 have hbl2 : bs.length ≤ 4000000 := by omega
 refine X.skip (X.seq (X.region (XL.mv (bsv) rfl (cX (XOp.call (args := [bsv]) call19 rfl (DrawReachOf_spec hbs (hbl := (by first | assumption | rfl | omega | simp))) ?_)))))
 rintro _ F1 _ le1 ⟨x1, x2, x3, x4, x5, x6, x7, rfl, hr1, hr2, hr3, hr4, hr5, rfl⟩
 replace hbs := hbs.mono le1
 have hla := hr4.la
 have hlr := hr4.lr
 have hrb := hr4.each
 have hlt9 : x6.length ≤ 4000000 := by omega
 have htl := reachF_len (ar := x4) (rs := x5) (t := x6) (n := x7)
 have htm := fun i => htl.2 i
 have hlw := fun i (h : i < (terms (reachF x4 x5 x6 x7).1).length) => reached_law2 (ar := x4) (rs := x5) (t := x6) (n := x7) h
 refine XL.mv (.tuple #[.agg #[x1, x2], x3, .int .i64 (x7)]) rfl (cX (XOp.extract (.agg #[x1, x2]) rfl rfl (cX (XOp.extract (x3) rfl rfl (cX (XOp.extract (.int .i64 (x7)) rfl rfl (cX (XOp.alloc [(.slice none 0 0), (.slice none 0 0)] zeroValue29 rfl ?_))))))))
 intro b1
 refine cX (XOp.storeN [] _ [x1, x2] sizeOf29 rfl rfl rfl (ones_cons (one_sl (IntsF.isSl hr1)) (ones_cons (one_sl (PairsF.isSl hr2)) ones_nil)) rfl rfl rfl (XL.as (x3) rfl (XL.as (.int .i64 (x7)) rfl (XL.nil (X.seq (X.region (cX (XOp.loadN [x1, x2] isAgg29 sizeOf29 rfl rfl (Rd.ownN [] rfl rfl) (XL.mv (x3) rfl (XL.mv (.int .i64 (x7)) rfl (cX (XOp.call (args := [.agg #[x1, x2], x3, .int .i64 (x7)]) call20 rfl (ReachOf_spec (n := x7) hr1 hr2 hr3 (hlt9 := (by first | assumption | rfl | omega | simp))) ?_))))))))))))
 rintro _ F2 _ le2 ⟨x8, rfl, hr6, hr7, rfl⟩
 replace hbs := hbs.mono le2
 replace hr1 := hr1.mono le2
 replace hr2 := hr2.mono le2
 replace hr3 := hr3.mono le2
 refine XL.mv (.tuple #[x8, .bool ((reachF x4 x5 x6 x7).2)]) rfl (cX (XOp.extract (x8) rfl rfl (cX (XOp.extract (.bool ((reachF x4 x5 x6 x7).2)) rfl rfl (XL.as (x8) rfl (XL.as (.bool ((reachF x4 x5 x6 x7).2)) rfl (XL.nil (X.seq (X.region (cX (XOp.loadN [x1, x2] isAgg29 sizeOf29 rfl rfl (Rd.ownN [] rfl rfl) (XL.mv (x3) rfl (XL.mv (.int .i64 (x7)) rfl (cX (XOp.call (args := [.agg #[x1, x2], x3, .int .i64 (x7)]) call21 rfl (sReachOf_spec (n := x7) hr1 hr2 hr3 (hla := (by first | assumption | rfl | omega | simp)) (hlr := (by first | assumption | rfl | omega | simp)) (hrb := (by first | assumption | rfl | omega | simp)) (hlt := (by first | assumption | rfl | omega | simp))) ?_)))))))))))))))
 rintro _ F3 _ le3 ⟨x9, rfl, hr8, rfl⟩
 replace hbs := hbs.mono le3
 replace hr1 := hr1.mono le3
 replace hr2 := hr2.mono le3
 replace hr3 := hr3.mono le3
 replace hr6 := hr6.mono le3
 refine XL.mv (.tuple #[x9, .bool ((reachF x4 x5 x6 x7).2)]) rfl (cX (XOp.extract (x9) rfl rfl (cX (XOp.extract (.bool ((reachF x4 x5 x6 x7).2)) rfl rfl (XL.as (x9) rfl (XL.as (.bool ((reachF x4 x5 x6 x7).2)) rfl (XL.nil (X.seq (X.seq (X.region (XL.mv (.bool ((reachF x4 x5 x6 x7).2)) rfl (XL.mv (.bool ((reachF x4 x5 x6 x7).2)) rfl (cX (XOp.neB (a := (reachF x4 x5 x6 x7).2) (b := (reachF x4 x5 x6 x7).2) runUnderlying4 rfl rfl (XL.mv (.bool (decide (((reachF x4 x5 x6 x7).2) ≠ ((reachF x4 x5 x6 x7).2)))) rfl ?_)))))))))))))))
 by_cases h2 : ((reachF x4 x5 x6 x7).2) ≠ ((reachF x4 x5 x6 x7).2)
 ·exact absurd rfl h2
 refine XL.yes (t := 43) rfl (vF h2) (XOp.move (x8) rfl (XL.yes (t := 43) rfl (vF h2) (XOp.lenS runUnderlying47 rfl hr6.slv (XL.yes (t := 43) rfl (vF h2) (XOp.move (x9) rfl (XL.yes (t := 43) rfl (vF h2) (XOp.lenS runUnderlying47 rfl hr8.slv (XL.yes (t := 43) rfl (vF h2) (XOp.neq rfl rfl (cX (XOp.pickF (.bool (decide (((((terms (reachF x4 x5 x6 x7).1).length : Nat) : Int) : Int) ≠ (((terms (reachF x4 x5 x6 x7).1).length : Nat) : Int)))) (vF h2) rfl (XL.nil ?_))))))))))))
 refine X.condD (p := ((((terms (reachF x4 x5 x6 x7).1).length : Nat) : Int) : Int) ≠ (((terms (reachF x4 x5 x6 x7).1).length : Nat) : Int)) rfl (fun h3 => ?_) (fun h3 => ?_)
 ·exact absurd rfl h3
 refine X.skip (X.seq (X.seq (X.region (XL.mv (x8) rfl (cX (XOp.lenS runUnderlying47 rfl hr6.slv (cX (XOp.eql rfl rfl (XL.nil ?_)))))))))
 refine X.condD (p := ((((terms (reachF x4 x5 x6 x7).1).length : Nat) : Int) : Int) = 0) rfl (fun h4 => ?_) (fun h4 => ?_)
 ·have hz9 := reached_none (ar := x4) (rs := x5) (t := x6) (n := x7) (by omega)
  refine X.seq (X.region (XL.mv (.bool ((reachF x4 x5 x6 x7).2)) rfl (cX (XOp.notB rfl (XL.as (.bool (!((reachF x4 x5 x6 x7).2))) rfl (XL.nil (X.ret (thenQ_ret (retEnd (L' := L) [.bool (!((reachF x4 x5 x6 x7).2))] (.bool (!((reachF x4 x5 x6 x7).2))) (.tmp rfl .nil) rfl rF (FLe.trans (FLe.trans le1 le2) le3) (sD sR) ?_)))))))))
  exact ⟨(vB (by rw [hz9]; rfl)), rfl, rfl⟩
 refine X.skip (X.seq (X.region (XL.mv (bsv) rfl (cX (XOp.call (args := [bsv, .int .u64 (702)]) call22 rfl (roll_spec hbs (by omega)) ?_)))))
 rintro _ _ _ _ ⟨cb1, rfl, rfl, rfl⟩
 show XL _ _ _ _ _ _ _ (curH .u64 110 cb1 bsv bs.length :: cellsH b1 [x1, x2] 29 :: L)
 refine XL.as (ptr cb1 0) rfl (XL.nil (X.seq (X.region (XL.mv (ptr cb1 0) rfl (XL.mv (x8) rfl (cX (XOp.lenS runUnderlying47 rfl hr6.slv (cX (XOp.call (args := [ptr cb1 0, .int .i64 ((((terms (reachF x4 x5 x6 x7).1).length : Nat) : Int))]) call23 rfl (Does.at [] (below_spec (n := (((terms (reachF x4 x5 x6 x7).1).length : Nat) : Int)) hbs (by omega) (hn := (by first | assumption | rfl | omega | simp)))) ?_)))))))))
 rintro _ _ _ _ ⟨⟨rfl, x10, rfl, hr9⟩, rfl⟩
 show XL _ _ _ _ _ _ _ (curH .u64 110 cb1 bsv bs.length :: cellsH b1 [x1, x2] 29 :: L)
 refine XL.as (.int .i64 (x10)) rfl (XL.nil (X.seq (X.region (XL.mv (ptr cb1 0) rfl (XL.mv (x8) rfl (cX (XOp.lenS runUnderlying47 rfl hr6.slv (cX (XOp.call (args := [ptr cb1 0, .int .i64 ((((terms (reachF x4 x5 x6 x7).1).length : Nat) : Int))]) call23 rfl (Does.at [] (below_spec (n := (((terms (reachF x4 x5 x6 x7).1).length : Nat) : Int)) hbs (by omega) (hn := (by first | assumption | rfl | omega | simp)))) ?_)))))))))
 rintro _ _ _ _ ⟨⟨rfl, x11, rfl, hr10⟩, rfl⟩
 show XL _ _ _ _ _ _ _ (curH .u64 110 cb1 bsv bs.length :: cellsH b1 [x1, x2] 29 :: L)
 refine XL.as (.int .i64 (x11)) rfl ?_
 have hk9 : (x10).toNat < (terms (reachF x4 x5 x6 x7).1).length := by omega
 have hm9 : (x11).toNat < (terms (reachF x4 x5 x6 x7).1).length := by omega
 have hlk := hlw _ hk9
 have hlm := hlw _ hm9
 have hk60 := htm (x10).toNat
 have hm60 := htm (x11).toNat
 have hwb := walkToF_bound (ar := x4) (rs := x5) (t := x6) (u := ((terms (reachF x4 x5 x6 x7).1).getD (x10).toNat [])) (n := x7)
 have hjb := joinF_bound (ar := x4) (rs := x5) (a := ((terms (reachF x4 x5 x6 x7).1).getD (x10).toNat [])) (b := ((terms (reachF x4 x5 x6 x7).1).getD (x11).toNat [])) (n := x7)
 have hbl09 : (walkToF x4 x5 x6 ((terms (reachF x4 x5 x6 x7).1).getD (x10).toNat []) x7).1.length ≤ 4000000 := by have h9 := hwb.1; omega
 have hbl19 : (joinF x4 x5 ((terms (reachF x4 x5 x6 x7).1).getD (x10).toNat []) ((terms (reachF x4 x5 x6 x7).1).getD (x11).toNat []) x7).1.length ≤ 4000000 := by have h9 := hjb.1.1; omega
 have hbl29 : (joinF x4 x5 ((terms (reachF x4 x5 x6 x7).1).getD (x10).toNat []) ((terms (reachF x4 x5 x6 x7).1).getD (x11).toNat []) x7).2.2.1.length ≤ 4000000 := by have h9 := hjb.2.1; omega
 have hbs09 : ∀ i, i < (walkToF x4 x5 x6 ((terms (reachF x4 x5 x6 x7).1).getD (x10).toNat []) x7).2.1.length → ((walkToF x4 x5 x6 ((terms (reachF x4 x5 x6 x7).1).getD (x10).toNat []) x7).2.1.getD i (0, 0, [])).2.2.length ≤ 4000000 := fun i hi => by have h9 := hwb.2.2.1 i hi; omega
 have hbs19 : ∀ i, i < (joinF x4 x5 ((terms (reachF x4 x5 x6 x7).1).getD (x10).toNat []) ((terms (reachF x4 x5 x6 x7).1).getD (x11).toNat []) x7).2.1.length → ((joinF x4 x5 ((terms (reachF x4 x5 x6 x7).1).getD (x10).toNat []) ((terms (reachF x4 x5 x6 x7).1).getD (x11).toNat []) x7).2.1.getD i (0, 0, [])).2.2.length ≤ 4000000 := fun i hi => by have h9 := hjb.1.2.2.1 i hi; omega
 have hbs29 : ∀ i, i < (joinF x4 x5 ((terms (reachF x4 x5 x6 x7).1).getD (x10).toNat []) ((terms (reachF x4 x5 x6 x7).1).getD (x11).toNat []) x7).2.2.2.1.length → ((joinF x4 x5 ((terms (reachF x4 x5 x6 x7).1).getD (x10).toNat []) ((terms (reachF x4 x5 x6 x7).1).getD (x11).toNat []) x7).2.2.2.1.getD i (0, 0, [])).2.2.length ≤ 4000000 := fun i hi => by have h9 := hjb.2.2.2.1 i hi; omega
 have hel9 := endT_len (ar := x4) (rs := x5) (f := (joinF x4 x5 ((terms (reachF x4 x5 x6 x7).1).getD (x10).toNat []) ((terms (reachF x4 x5 x6 x7).1).getD (x11).toNat []) x7).1) (ss := (joinF x4 x5 ((terms (reachF x4 x5 x6 x7).1).getD (x10).toNat []) ((terms (reachF x4 x5 x6 x7).1).getD (x11).toNat []) x7).2.1)
 refine XL.nil (X.seq ?_)
 obtain ⟨a1, ha1, hr11⟩ := hr6.rd (i := (x10).toNat) (by omega)
 refine X.drawG [curH .u64 110 cb1 bsv bs.length, cellsH b1 [x1, x2] 29] L 13 [[], [], [], [], [], [], [], [], [7], [7], [], [], [7, 11]] [[], [], [], [], [2, 3], [4], [], [0, 1, 5, 6], [7], [7, 8], [7, 8], [], [7, 9, 11]] [[], [], [], [], [], [], [], [], [], [], [], [], [11]] (phiG [fun FF us v => v = (.agg #[x1, x2] : Value), fun FF us v => v = x3, fun FF us v => v = x8, fun FF us v => v = (.int .i64 (x10) : Value), fun FF us v => v = (.pointer (some (elemA x8 ((x10).toNat))) : Value), fun FF us v => v = a1, fun FF us v => v = (.int .i64 (x7) : Value), fun FF us v => (.tuple #[.agg #[((aggAt (tupAt v 0) 0)), ((aggAt (tupAt v 0) 1))], .bool ((walkToF x4 x5 x6 (((terms (reachF x4 x5 x6 x7).1).getD ((x10).toNat) [])) x7).2.2)] : Value) = v ∧ (IntsF FF ((aggAt (tupAt v 0) 0)) (walkToF x4 x5 x6 (((terms (reachF x4 x5 x6 x7).1).getD ((x10).toNat) [])) x7).1) ∧ (StepsF FF ((aggAt (tupAt v 0) 1)) (walkToF x4 x5 x6 (((terms (reachF x4 x5 x6 x7).1).getD ((x10).toNat) [])) x7).2.1), fun FF us v => v = (.tuple #[.agg #[((aggAt (tupAt (us.getD 0 undef) 0) 0)), ((aggAt (tupAt (us.getD 0 undef) 0) 1))], .bool ((walkToF x4 x5 x6 (((terms (reachF x4 x5 x6 x7).1).getD ((x10).toNat) [])) x7).2.2)] : Value), fun FF us v => v = (.agg #[((aggAt (tupAt (us.getD 0 undef) 0) 0)), ((aggAt (tupAt (us.getD 0 undef) 0) 1))] : Value), fun FF us v => v = (.bool ((walkToF x4 x5 x6 (((terms (reachF x4 x5 x6 x7).1).getD ((x10).toNat) [])) x7).2.2) : Value), fun FF us v => v = ptr (blk v) 0, fun FF us v => True]) (ownL [fun us v => [], fun us v => [], fun us v => [], fun us v => [], fun us v => [], fun us v => [], fun us v => [], fun us v => [], fun us v => [], fun us v => [], fun us v => [], fun us v => [cellsH (blk v) [(.slice none 0 0), (.slice none 0 0)] 34], fun us v => [cellsH (blk (us.getD 1 undef)) [((aggAt (tupAt (us.getD 0 undef) 0) 0)), ((aggAt (tupAt (us.getD 0 undef) 0) 1))] 34]]) mixed rfl rfl (by kernel_rfl) (by kernel_rfl) (MonoG.get (mC (fun le h => h) (mC (fun le h => h) (mC (fun le h => h) (mC (fun le h => h) (mC (fun le h => h) (mC (fun le h => h) (mC (fun le h => h) (mC (fun le h => ⟨h.1, h.2.1.mono le, h.2.2.mono le⟩) (mC (fun le h => h) (mC (fun le h => h) (mC (fun le h => h) (mC (fun le h => h) (mC (fun le h => h) MonoG.nil)))))))))))))) ?_ ?_
 ·refine gC (fun vals Fs R leFs hpZ => ?_) ?_
  ·replace hbs := hbs.mono leFs
   replace hr1 := hr1.mono leFs
   replace hr2 := hr2.mono leFs
   replace hr3 := hr3.mono leFs
   replace hr6 := hr6.mono leFs
   replace hr8 := hr8.mono leFs
   replace ha1 := ha1.mono leFs
   replace hr11 := Rd.monoA hr11 leFs
   refine XG.op (XOp.loadN [x1, x2] isAgg29 sizeOf29 rfl rfl (Rd.ownN [_] rfl rfl) ?_)
   exact ⟨rfl, rfl⟩
  refine gC (fun vals Fs R leFs hpZ => ?_) ?_
  ·refine XG.op (XOp.move (x3) rfl ?_)
   exact ⟨rfl, rfl⟩
  refine gC (fun vals Fs R leFs hpZ => ?_) ?_
  ·refine XG.op (XOp.move (x8) rfl ?_)
   exact ⟨rfl, rfl⟩
  refine gC (fun vals Fs R leFs hpZ => ?_) ?_
  ·refine XG.op (XOp.move (.int .i64 (x10)) rfl ?_)
   exact ⟨rfl, rfl⟩
  refine gC (fun vals Fs R leFs hpZ => ?_) ?_
  ·replace hbs := hbs.mono leFs
   replace hr1 := hr1.mono leFs
   replace hr2 := hr2.mono leFs
   replace hr3 := hr3.mono leFs
   replace hr6 := hr6.mono leFs
   replace hr8 := hr8.mono leFs
   replace ha1 := ha1.mono leFs
   replace hr11 := Rd.monoA hr11 leFs
   rw [eS (l := [(2, x8), (3, (.int .i64 (x10) : Value))]) ⟨(hpZ 2 (by decide)), (hpZ 3 (by decide)), trivial⟩]
   refine XG.op (XOp.indexS ((x10).toNat) runUnderlying47 sizeOf24 rfl rfl (by omega) hr6.slv (by omega) (Nat.mul_one _) ?_)
   exact ⟨rfl, rfl⟩
  refine gC (fun vals Fs R leFs hpZ => ?_) ?_
  ·replace hbs := hbs.mono leFs
   replace hr1 := hr1.mono leFs
   replace hr2 := hr2.mono leFs
   replace hr3 := hr3.mono leFs
   replace hr6 := hr6.mono leFs
   replace hr8 := hr8.mono leFs
   replace ha1 := ha1.mono leFs
   replace hr11 := Rd.monoA hr11 leFs
   rw [eS (l := [(4, (.pointer (some (elemA x8 ((x10).toNat))) : Value))]) ⟨(hpZ 4 (by decide)), trivial⟩]
   refine XG.op (XOp.load1 isAgg24 rfl (hr11 _) ?_)
   exact ⟨rfl, rfl⟩
  refine gC (fun vals Fs R leFs hpZ => ?_) ?_
  ·refine XG.op (XOp.move (.int .i64 (x7)) rfl ?_)
   exact ⟨rfl, rfl⟩
  refine gC (fun vals Fs R leFs hpZ => ?_) ?_
  ·replace hbs := hbs.mono leFs
   replace hr1 := hr1.mono leFs
   replace hr2 := hr2.mono leFs
   replace hr3 := hr3.mono leFs
   replace hr6 := hr6.mono leFs
   replace hr8 := hr8.mono leFs
   replace ha1 := ha1.mono leFs
   replace hr11 := Rd.monoA hr11 leFs
   rw [eS (l := [(0, (.agg #[x1, x2] : Value)), (1, x3), (5, a1), (6, (.int .i64 (x7) : Value))]) ⟨(hpZ 0 (by decide)), (hpZ 1 (by decide)), (hpZ 5 (by decide)), (hpZ 6 (by decide)), trivial⟩]
   refine XG.op (XOp.call (args := [.agg #[x1, x2], x3, a1, .int .i64 (x7)]) call24 rfl (WalkTo_spec (n := x7) hr1 hr2 hr3 ha1 (hlt := (by first | assumption | rfl | omega | simp)) (hlu := (by first | assumption | rfl | omega | simp))) ?_)
   rintro _ F7 _ le7 ⟨x14, x15, rfl, hr15, hr16, hr17, rfl⟩
   replace hbs := hbs.mono le7
   replace hr1 := hr1.mono le7
   replace hr2 := hr2.mono le7
   replace hr6 := hr6.mono le7
   replace hr8 := hr8.mono le7
   replace ha1 := ha1.mono le7
   replace hr11 := Rd.monoA hr11 le7
   exact ⟨⟨rfl, hr15, hr16⟩, rfl⟩
  refine gC (fun vals Fs R leFs hpZ => ?_) ?_
  ·obtain ⟨e7, f7_1hr1, f7_1hr2⟩ := hpZ 7 (by decide)
   rw [eS (l := [(7, (.tuple #[.agg #[((aggAt (tupAt (vals 7) 0) 0)), ((aggAt (tupAt (vals 7) 0) 1))], .bool ((walkToF x4 x5 x6 (((terms (reachF x4 x5 x6 x7).1).getD ((x10).toNat) [])) x7).2.2)] : Value))]) ⟨(e7).symm, trivial⟩]
   refine XG.op (XOp.move (.tuple #[.agg #[((aggAt (tupAt (vals 7) 0) 0)), ((aggAt (tupAt (vals 7) 0) 1))], .bool ((walkToF x4 x5 x6 (((terms (reachF x4 x5 x6 x7).1).getD ((x10).toNat) [])) x7).2.2)]) rfl ?_)
   exact ⟨rfl, rfl⟩
  refine gC (fun vals Fs R leFs hpZ => ?_) ?_
  ·obtain ⟨e7, f7_1hr1, f7_1hr2⟩ := hpZ 7 (by decide)
   have e8 : vals 8 = (.tuple #[.agg #[((aggAt (tupAt (vals 7) 0) 0)), ((aggAt (tupAt (vals 7) 0) 1))], .bool ((walkToF x4 x5 x6 (((terms (reachF x4 x5 x6 x7).1).getD ((x10).toNat) [])) x7).2.2)] : Value) := hpZ 8 (by decide)
   rw [eS (l := [(7, (.tuple #[.agg #[((aggAt (tupAt (vals 7) 0) 0)), ((aggAt (tupAt (vals 7) 0) 1))], .bool ((walkToF x4 x5 x6 (((terms (reachF x4 x5 x6 x7).1).getD ((x10).toNat) [])) x7).2.2)] : Value)), (8, (.tuple #[.agg #[((aggAt (tupAt (vals 7) 0) 0)), ((aggAt (tupAt (vals 7) 0) 1))], .bool ((walkToF x4 x5 x6 (((terms (reachF x4 x5 x6 x7).1).getD ((x10).toNat) [])) x7).2.2)] : Value))]) ⟨(e7).symm, e8, trivial⟩]
   refine XG.op (XOp.extract (.agg #[((aggAt (tupAt (vals 7) 0) 0)), ((aggAt (tupAt (vals 7) 0) 1))]) rfl rfl ?_)
   exact ⟨rfl, rfl⟩
  refine gC (fun vals Fs R leFs hpZ => ?_) ?_
  ·obtain ⟨e7, f7_1hr1, f7_1hr2⟩ := hpZ 7 (by decide)
   have e8 : vals 8 = (.tuple #[.agg #[((aggAt (tupAt (vals 7) 0) 0)), ((aggAt (tupAt (vals 7) 0) 1))], .bool ((walkToF x4 x5 x6 (((terms (reachF x4 x5 x6 x7).1).getD ((x10).toNat) [])) x7).2.2)] : Value) := hpZ 8 (by decide)
   rw [eS (l := [(7, (.tuple #[.agg #[((aggAt (tupAt (vals 7) 0) 0)), ((aggAt (tupAt (vals 7) 0) 1))], .bool ((walkToF x4 x5 x6 (((terms (reachF x4 x5 x6 x7).1).getD ((x10).toNat) [])) x7).2.2)] : Value)), (8, (.tuple #[.agg #[((aggAt (tupAt (vals 7) 0) 0)), ((aggAt (tupAt (vals 7) 0) 1))], .bool ((walkToF x4 x5 x6 (((terms (reachF x4 x5 x6 x7).1).getD ((x10).toNat) [])) x7).2.2)] : Value))]) ⟨(e7).symm, e8, trivial⟩]
   refine XG.op (XOp.extract (.bool ((walkToF x4 x5 x6 (((terms (reachF x4 x5 x6 x7).1).getD ((x10).toNat) [])) x7).2.2)) rfl rfl ?_)
   exact ⟨rfl, rfl⟩
  refine gC (fun vals Fs R leFs hpZ => ?_) ?_
  ·replace hbs := hbs.mono leFs
   replace hr1 := hr1.mono leFs
   replace hr2 := hr2.mono leFs
   replace hr6 := hr6.mono leFs
   replace hr8 := hr8.mono leFs
   replace ha1 := ha1.mono leFs
   replace hr11 := Rd.monoA hr11 leFs
   refine XG.op (XOp.alloc [(.slice none 0 0), (.slice none 0 0)] zeroValue34 rfl ?_)
   intro b3
   exact ⟨rfl, rfl⟩
  refine gC (fun vals Fs R leFs hpZ => ?_) ?_
  ·obtain ⟨e7, f7_1hr1, f7_1hr2⟩ := hpZ 7 (by decide)
   have e9 : vals 9 = (.agg #[((aggAt (tupAt (vals 7) 0) 0)), ((aggAt (tupAt (vals 7) 0) 1))] : Value) := hpZ 9 (by decide)
   have e11 : vals 11 = ptr (blk (vals 11)) 0 := hpZ 11 (by decide)
   replace hbs := hbs.mono leFs
   replace hr1 := hr1.mono leFs
   replace hr2 := hr2.mono leFs
   replace hr6 := hr6.mono leFs
   replace hr8 := hr8.mono leFs
   replace ha1 := ha1.mono leFs
   replace hr11 := Rd.monoA hr11 leFs
   rw [eS (l := [(7, (.tuple #[.agg #[((aggAt (tupAt (vals 7) 0) 0)), ((aggAt (tupAt (vals 7) 0) 1))], .bool ((walkToF x4 x5 x6 (((terms (reachF x4 x5 x6 x7).1).getD ((x10).toNat) [])) x7).2.2)] : Value)), (9, (.agg #[((aggAt (tupAt (vals 7) 0) 0)), ((aggAt (tupAt (vals 7) 0) 1))] : Value)), (11, ptr (blk (vals 11)) 0)]) ⟨(e7).symm, e9, e11, trivial⟩]
   show XG _ _ _ _ _ (cellsH (blk (vals 11)) [(.slice none 0 0), (.slice none 0 0)] 34 :: ([curH .u64 110 cb1 bsv bs.length, cellsH b1 [x1, x2] 29] ++ R)) _
   refine XG.op (XOp.storeN [] _ [((aggAt (tupAt (vals 7) 0) 0)), ((aggAt (tupAt (vals 7) 0) 1))] sizeOf34 rfl rfl rfl (ones_cons (one_sl (IntsF.isSl f7_1hr1)) (ones_cons (one_sl (StepsF.isSl f7_1hr2)) ones_nil)) rfl rfl rfl ?_)
   exact ⟨trivial, rfl⟩
  exact stepsG.nil
 intro vals F8 le8 hphi
 obtain ⟨e7, f7_1hr1, f7_1hr2⟩ := hphi 7 (by decide)
 have e8 : vals 8 = (.tuple #[.agg #[((aggAt (tupAt (vals 7) 0) 0)), ((aggAt (tupAt (vals 7) 0) 1))], .bool ((walkToF x4 x5 x6 (((terms (reachF x4 x5 x6 x7).1).getD ((x10).toNat) [])) x7).2.2)] : Value) := hphi 8 (by decide)
 have e9 : vals 9 = (.agg #[((aggAt (tupAt (vals 7) 0) 0)), ((aggAt (tupAt (vals 7) 0) 1))] : Value) := hphi 9 (by decide)
 have e11 : vals 11 = ptr (blk (vals 11)) 0 := hphi 11 (by decide)
 generalize hu1 : ((aggAt (tupAt (vals 7) 0) 0)) = u1 at e7 f7_1hr1 f7_1hr2 e8 e9 e11
 generalize hu2 : ((aggAt (tupAt (vals 7) 0) 1)) = u2 at e7 f7_1hr1 f7_1hr2 e8 e9 e11
 generalize hu3 : blk (vals 11) = b4 at e7 f7_1hr1 f7_1hr2 e8 e9 e11
 rw [eS (l := [(7, (.tuple #[.agg #[u1, u2], .bool ((walkToF x4 x5 x6 (((terms (reachF x4 x5 x6 x7).1).getD ((x10).toNat) [])) x7).2.2)] : Value)), (10, (.bool ((walkToF x4 x5 x6 (((terms (reachF x4 x5 x6 x7).1).getD ((x10).toNat) [])) x7).2.2) : Value)), (11, ptr b4 0)]) ⟨(e7).symm, (hphi 10 (by decide)), e11, trivial⟩]
 replace hbs := hbs.mono le8
 replace hr1 := hr1.mono le8
 replace hr2 := hr2.mono le8
 replace hr6 := hr6.mono le8
 replace hr8 := hr8.mono le8
 replace ha1 := ha1.mono le8
 replace hr11 := Rd.monoA hr11 le8
 show XL _ _ _ _ _ _ _ (cellsH b4 [u1, u2] 34 :: curH .u64 110 cb1 bsv bs.length :: cellsH b1 [x1, x2] 29 :: L)
 refine XL.as (.bool ((walkToF x4 x5 x6 (((terms (reachF x4 x5 x6 x7).1).getD ((x10).toNat) [])) x7).2.2)) rfl (XL.nil (X.seq (X.seq ?_)))
 by_cases h5 : (!((walkToF x4 x5 x6 (((terms (reachF x4 x5 x6 x7).1).getD ((x10).toNat) [])) x7).2.2)) = true
 ·exact absurd hlk.1 (by simpa using h5)
 rw [Bool.not_eq_true] at h5
 obtain ⟨a2, ha2, hr18⟩ := hr8.rd (i := (x10).toNat) (by omega)
 by_cases h6 : ¬((((terms (reachF x4 x5 x6 x7).1).getD ((x10).toNat) [])) = (((terms (reachF x4 x5 x6 x7).1).getD ((x10).toNat) [])))
 ·exact absurd rfl h6
 by_cases h7 : (!(walkOkL x4 x5 ((walkToF x4 x5 x6 (((terms (reachF x4 x5 x6 x7).1).getD ((x10).toNat) [])) x7).1) ((walkToF x4 x5 x6 (((terms (reachF x4 x5 x6 x7).1).getD ((x10).toNat) [])) x7).2.1))) = true
 ·exact absurd hlk.2.1 (by simpa using h7)
 rw [Bool.not_eq_true] at h7
 by_cases h8 : ¬(((endT x4 x5 ((walkToF x4 x5 x6 (((terms (reachF x4 x5 x6 x7).1).getD ((x10).toNat) [])) x7).1) ((walkToF x4 x5 x6 (((terms (reachF x4 x5 x6 x7).1).getD ((x10).toNat) [])) x7).2.1))) = (((terms (reachF x4 x5 x6 x7).1).getD ((x10).toNat) [])))
 ·exact absurd hlk.2.2.1 h8
 refine X.drawG [cellsH b4 [u1, u2] 34, curH .u64 110 cb1 bsv bs.length, cellsH b1 [x1, x2] 29] L 36 [[], [], [], [], [], [], [], [], [], [], [], [], [], [], [], [], [], [], [], [], [], [], [], [], [], [], [], [], [], [], [], [], [], [], [], []] [[], [0], [1], [2], [2], [2, 3, 4], [2, 5], [2], [2], [2, 7, 8], [2, 9], [2, 6, 10], [2, 11], [2, 12], [13], [14], [14], [14, 15, 16], [14, 17], [14, 18], [19], [20], [20], [20, 21, 22], [20], [20], [20, 24, 25], [20, 26], [20, 23, 27], [20, 28], [20, 29], [30], [31], [31, 32], [31, 33], [31]] [[], [], [], [], [], [], [], [], [], [], [], [], [], [], [], [], [], [], [], [], [], [], [], [], [], [], [], [], [], [], [], [], [], [], [], []] (phiG [fun FF us v => v = (.bool ((walkToF x4 x5 x6 (((terms (reachF x4 x5 x6 x7).1).getD ((x10).toNat) [])) x7).2.2) : Value), fun FF us v => v = (.bool (!((walkToF x4 x5 x6 (((terms (reachF x4 x5 x6 x7).1).getD ((x10).toNat) [])) x7).2.2)) : Value), fun FF us v => v = (.bool (!((walkToF x4 x5 x6 (((terms (reachF x4 x5 x6 x7).1).getD ((x10).toNat) [])) x7).2.2)) : Value), fun FF us v => v = x8, fun FF us v => v = (.int .i64 (x10) : Value), fun FF us v => v = (.pointer (some (elemA x8 ((x10).toNat))) : Value), fun FF us v => v = a1, fun FF us v => v = x9, fun FF us v => v = (.int .i64 (x10) : Value), fun FF us v => v = (.pointer (some (elemA x9 ((x10).toNat))) : Value), fun FF us v => v = a2, fun FF us v => v = (.bool (decide ((((terms (reachF x4 x5 x6 x7).1).getD ((x10).toNat) [])) = (((terms (reachF x4 x5 x6 x7).1).getD ((x10).toNat) [])))) : Value), fun FF us v => v = (.bool (decide (¬((((terms (reachF x4 x5 x6 x7).1).getD ((x10).toNat) [])) = (((terms (reachF x4 x5 x6 x7).1).getD ((x10).toNat) []))))) : Value), fun FF us v => v = (.bool (decide (¬((((terms (reachF x4 x5 x6 x7).1).getD ((x10).toNat) [])) = (((terms (reachF x4 x5 x6 x7).1).getD ((x10).toNat) []))))) : Value), fun FF us v => v = (.bool (decide (¬((((terms (reachF x4 x5 x6 x7).1).getD ((x10).toNat) [])) = (((terms (reachF x4 x5 x6 x7).1).getD ((x10).toNat) []))))) : Value), fun FF us v => v = (.agg #[x1, x2] : Value), fun FF us v => v = (.agg #[u1, u2] : Value), fun FF us v => v = (.bool (walkOkL x4 x5 ((walkToF x4 x5 x6 (((terms (reachF x4 x5 x6 x7).1).getD ((x10).toNat) [])) x7).1) ((walkToF x4 x5 x6 (((terms (reachF x4 x5 x6 x7).1).getD ((x10).toNat) [])) x7).2.1)) : Value), fun FF us v => v = (.bool (!(walkOkL x4 x5 ((walkToF x4 x5 x6 (((terms (reachF x4 x5 x6 x7).1).getD ((x10).toNat) [])) x7).1) ((walkToF x4 x5 x6 (((terms (reachF x4 x5 x6 x7).1).getD ((x10).toNat) [])) x7).2.1))) : Value), fun FF us v => v = (.bool (!(walkOkL x4 x5 ((walkToF x4 x5 x6 (((terms (reachF x4 x5 x6 x7).1).getD ((x10).toNat) [])) x7).1) ((walkToF x4 x5 x6 (((terms (reachF x4 x5 x6 x7).1).getD ((x10).toNat) [])) x7).2.1))) : Value), fun FF us v => v = (.bool (!(walkOkL x4 x5 ((walkToF x4 x5 x6 (((terms (reachF x4 x5 x6 x7).1).getD ((x10).toNat) [])) x7).1) ((walkToF x4 x5 x6 (((terms (reachF x4 x5 x6 x7).1).getD ((x10).toNat) [])) x7).2.1))) : Value), fun FF us v => v = (.agg #[x1, x2] : Value), fun FF us v => v = (.agg #[u1, u2] : Value), fun FF us v => ((v) : Value) = v ∧ (IntsF FF (v) (endT x4 x5 ((walkToF x4 x5 x6 (((terms (reachF x4 x5 x6 x7).1).getD ((x10).toNat) [])) x7).1) ((walkToF x4 x5 x6 (((terms (reachF x4 x5 x6 x7).1).getD ((x10).toNat) [])) x7).2.1))), fun FF us v => v = x8, fun FF us v => v = (.int .i64 (x10) : Value), fun FF us v => v = (.pointer (some (elemA x8 ((x10).toNat))) : Value), fun FF us v => v = a1, fun FF us v => v = (.bool (decide (((endT x4 x5 ((walkToF x4 x5 x6 (((terms (reachF x4 x5 x6 x7).1).getD ((x10).toNat) [])) x7).1) ((walkToF x4 x5 x6 (((terms (reachF x4 x5 x6 x7).1).getD ((x10).toNat) [])) x7).2.1))) = (((terms (reachF x4 x5 x6 x7).1).getD ((x10).toNat) [])))) : Value), fun FF us v => v = (.bool (decide (¬(((endT x4 x5 ((walkToF x4 x5 x6 (((terms (reachF x4 x5 x6 x7).1).getD ((x10).toNat) [])) x7).1) ((walkToF x4 x5 x6 (((terms (reachF x4 x5 x6 x7).1).getD ((x10).toNat) [])) x7).2.1))) = (((terms (reachF x4 x5 x6 x7).1).getD ((x10).toNat) []))))) : Value), fun FF us v => v = (.bool (decide (¬(((endT x4 x5 ((walkToF x4 x5 x6 (((terms (reachF x4 x5 x6 x7).1).getD ((x10).toNat) [])) x7).1) ((walkToF x4 x5 x6 (((terms (reachF x4 x5 x6 x7).1).getD ((x10).toNat) [])) x7).2.1))) = (((terms (reachF x4 x5 x6 x7).1).getD ((x10).toNat) []))))) : Value), fun FF us v => v = (.bool (decide (¬(((endT x4 x5 ((walkToF x4 x5 x6 (((terms (reachF x4 x5 x6 x7).1).getD ((x10).toNat) [])) x7).1) ((walkToF x4 x5 x6 (((terms (reachF x4 x5 x6 x7).1).getD ((x10).toNat) [])) x7).2.1))) = (((terms (reachF x4 x5 x6 x7).1).getD ((x10).toNat) []))))) : Value), fun FF us v => v = ptr b4 1, fun FF us v => v = u2, fun FF us v => v = (.int .i64 (((((walkToF x4 x5 x6 (((terms (reachF x4 x5 x6 x7).1).getD ((x10).toNat) [])) x7).2.1).length : Nat) : Int)) : Value), fun FF us v => v = (.int .i64 (x7) : Value)]) (ownL [fun us v => [], fun us v => [], fun us v => [], fun us v => [], fun us v => [], fun us v => [], fun us v => [], fun us v => [], fun us v => [], fun us v => [], fun us v => [], fun us v => [], fun us v => [], fun us v => [], fun us v => [], fun us v => [], fun us v => [], fun us v => [], fun us v => [], fun us v => [], fun us v => [], fun us v => [], fun us v => [], fun us v => [], fun us v => [], fun us v => [], fun us v => [], fun us v => [], fun us v => [], fun us v => [], fun us v => [], fun us v => [], fun us v => [], fun us v => [], fun us v => [], fun us v => []]) mixed rfl rfl (by kernel_rfl) (by kernel_rfl) (MonoG.get (mC (fun le h => h) (mC (fun le h => h) (mC (fun le h => h) (mC (fun le h => h) (mC (fun le h => h) (mC (fun le h => h) (mC (fun le h => h) (mC (fun le h => h) (mC (fun le h => h) (mC (fun le h => h) (mC (fun le h => h) (mC (fun le h => h) (mC (fun le h => h) (mC (fun le h => h) (mC (fun le h => h) (mC (fun le h => h) (mC (fun le h => h) (mC (fun le h => h) (mC (fun le h => h) (mC (fun le h => h) (mC (fun le h => h) (mC (fun le h => h) (mC (fun le h => h) (mC (fun le h => ⟨h.1, h.2.mono le⟩) (mC (fun le h => h) (mC (fun le h => h) (mC (fun le h => h) (mC (fun le h => h) (mC (fun le h => h) (mC (fun le h => h) (mC (fun le h => h) (mC (fun le h => h) (mC (fun le h => h) (mC (fun le h => h) (mC (fun le h => h) (mC (fun le h => h) MonoG.nil))))))))))))))))))))))))))))))))))))) ?_ ?_
 ·refine gC (fun vals Fs R leFs hpZ => ?_) ?_
  ·refine XG.op (XOp.move (.bool ((walkToF x4 x5 x6 (((terms (reachF x4 x5 x6 x7).1).getD ((x10).toNat) [])) x7).2.2)) rfl ?_)
   exact ⟨rfl, rfl⟩
  refine gC (fun vals Fs R leFs hpZ => ?_) ?_
  ·rw [eS (l := [(0, (.bool ((walkToF x4 x5 x6 (((terms (reachF x4 x5 x6 x7).1).getD ((x10).toNat) [])) x7).2.2) : Value))]) ⟨(hpZ 0 (by decide)), trivial⟩]
   refine XG.op (XOp.notB rfl ?_)
   exact ⟨rfl, rfl⟩
  refine gC (fun vals Fs R leFs hpZ => ?_) ?_
  ·rw [eS (l := [(1, (.bool (!((walkToF x4 x5 x6 (((terms (reachF x4 x5 x6 x7).1).getD ((x10).toNat) [])) x7).2.2)) : Value))]) ⟨(hpZ 1 (by decide)), trivial⟩]
   refine XG.op (XOp.move (.bool (!((walkToF x4 x5 x6 (((terms (reachF x4 x5 x6 x7).1).getD ((x10).toNat) [])) x7).2.2))) rfl ?_)
   exact ⟨rfl, rfl⟩
  refine gC (fun vals Fs R leFs hpZ => ?_) ?_
  ·rw [eS (l := [(2, (.bool (!((walkToF x4 x5 x6 (((terms (reachF x4 x5 x6 x7).1).getD ((x10).toNat) [])) x7).2.2)) : Value))]) ⟨(hpZ 2 (by decide)), trivial⟩]
   refine XG.yes (t := 78) rfl (vB h5) (XOp.move (x8) rfl ?_)
   exact ⟨rfl, rfl⟩
  refine gC (fun vals Fs R leFs hpZ => ?_) ?_
  ·rw [eS (l := [(2, (.bool (!((walkToF x4 x5 x6 (((terms (reachF x4 x5 x6 x7).1).getD ((x10).toNat) [])) x7).2.2)) : Value))]) ⟨(hpZ 2 (by decide)), trivial⟩]
   refine XG.yes (t := 78) rfl (vB h5) (XOp.move (.int .i64 (x10)) rfl ?_)
   exact ⟨rfl, rfl⟩
  refine gC (fun vals Fs R leFs hpZ => ?_) ?_
  ·replace hbs := hbs.mono leFs
   replace hr1 := hr1.mono leFs
   replace hr2 := hr2.mono leFs
   replace hr6 := hr6.mono leFs
   replace hr8 := hr8.mono leFs
   replace ha1 := ha1.mono leFs
   replace f7_1hr1 := f7_1hr1.mono leFs
   replace f7_1hr2 := f7_1hr2.mono leFs
   replace ha2 := ha2.mono leFs
   replace hr11 := Rd.monoA hr11 leFs
   replace hr18 := Rd.monoA hr18 leFs
   rw [eS (l := [(2, (.bool (!((walkToF x4 x5 x6 (((terms (reachF x4 x5 x6 x7).1).getD ((x10).toNat) [])) x7).2.2)) : Value)), (3, x8), (4, (.int .i64 (x10) : Value))]) ⟨(hpZ 2 (by decide)), (hpZ 3 (by decide)), (hpZ 4 (by decide)), trivial⟩]
   refine XG.yes (t := 78) rfl (vB h5) (XOp.indexS ((x10).toNat) runUnderlying47 sizeOf24 rfl rfl (by omega) hr6.slv (by omega) (Nat.mul_one _) ?_)
   exact ⟨rfl, rfl⟩
  refine gC (fun vals Fs R leFs hpZ => ?_) ?_
  ·replace hbs := hbs.mono leFs
   replace hr1 := hr1.mono leFs
   replace hr2 := hr2.mono leFs
   replace hr6 := hr6.mono leFs
   replace hr8 := hr8.mono leFs
   replace ha1 := ha1.mono leFs
   replace f7_1hr1 := f7_1hr1.mono leFs
   replace f7_1hr2 := f7_1hr2.mono leFs
   replace ha2 := ha2.mono leFs
   replace hr11 := Rd.monoA hr11 leFs
   replace hr18 := Rd.monoA hr18 leFs
   rw [eS (l := [(2, (.bool (!((walkToF x4 x5 x6 (((terms (reachF x4 x5 x6 x7).1).getD ((x10).toNat) [])) x7).2.2)) : Value)), (5, (.pointer (some (elemA x8 ((x10).toNat))) : Value))]) ⟨(hpZ 2 (by decide)), (hpZ 5 (by decide)), trivial⟩]
   refine XG.yes (t := 78) rfl (vB h5) (XOp.load1 isAgg24 rfl (hr11 _) ?_)
   exact ⟨rfl, rfl⟩
  refine gC (fun vals Fs R leFs hpZ => ?_) ?_
  ·rw [eS (l := [(2, (.bool (!((walkToF x4 x5 x6 (((terms (reachF x4 x5 x6 x7).1).getD ((x10).toNat) [])) x7).2.2)) : Value))]) ⟨(hpZ 2 (by decide)), trivial⟩]
   refine XG.yes (t := 78) rfl (vB h5) (XOp.move (x9) rfl ?_)
   exact ⟨rfl, rfl⟩
  refine gC (fun vals Fs R leFs hpZ => ?_) ?_
  ·rw [eS (l := [(2, (.bool (!((walkToF x4 x5 x6 (((terms (reachF x4 x5 x6 x7).1).getD ((x10).toNat) [])) x7).2.2)) : Value))]) ⟨(hpZ 2 (by decide)), trivial⟩]
   refine XG.yes (t := 78) rfl (vB h5) (XOp.move (.int .i64 (x10)) rfl ?_)
   exact ⟨rfl, rfl⟩
  refine gC (fun vals Fs R leFs hpZ => ?_) ?_
  ·replace hbs := hbs.mono leFs
   replace hr1 := hr1.mono leFs
   replace hr2 := hr2.mono leFs
   replace hr6 := hr6.mono leFs
   replace hr8 := hr8.mono leFs
   replace ha1 := ha1.mono leFs
   replace f7_1hr1 := f7_1hr1.mono leFs
   replace f7_1hr2 := f7_1hr2.mono leFs
   replace ha2 := ha2.mono leFs
   replace hr11 := Rd.monoA hr11 leFs
   replace hr18 := Rd.monoA hr18 leFs
   rw [eS (l := [(2, (.bool (!((walkToF x4 x5 x6 (((terms (reachF x4 x5 x6 x7).1).getD ((x10).toNat) [])) x7).2.2)) : Value)), (7, x9), (8, (.int .i64 (x10) : Value))]) ⟨(hpZ 2 (by decide)), (hpZ 7 (by decide)), (hpZ 8 (by decide)), trivial⟩]
   refine XG.yes (t := 78) rfl (vB h5) (XOp.indexS ((x10).toNat) runUnderlying47 sizeOf24 rfl rfl (by omega) hr8.slv (by omega) (Nat.mul_one _) ?_)
   exact ⟨rfl, rfl⟩
  refine gC (fun vals Fs R leFs hpZ => ?_) ?_
  ·replace hbs := hbs.mono leFs
   replace hr1 := hr1.mono leFs
   replace hr2 := hr2.mono leFs
   replace hr6 := hr6.mono leFs
   replace ha1 := ha1.mono leFs
   replace f7_1hr1 := f7_1hr1.mono leFs
   replace f7_1hr2 := f7_1hr2.mono leFs
   replace ha2 := ha2.mono leFs
   replace hr11 := Rd.monoA hr11 leFs
   replace hr18 := Rd.monoA hr18 leFs
   rw [eS (l := [(2, (.bool (!((walkToF x4 x5 x6 (((terms (reachF x4 x5 x6 x7).1).getD ((x10).toNat) [])) x7).2.2)) : Value)), (9, (.pointer (some (elemA x9 ((x10).toNat))) : Value))]) ⟨(hpZ 2 (by decide)), (hpZ 9 (by decide)), trivial⟩]
   refine XG.yes (t := 78) rfl (vB h5) (XOp.load1 isAgg24 rfl (hr18 _) ?_)
   exact ⟨rfl, rfl⟩
  refine gC (fun vals Fs R leFs hpZ => ?_) ?_
  ·replace hbs := hbs.mono leFs
   replace hr1 := hr1.mono leFs
   replace hr2 := hr2.mono leFs
   replace hr6 := hr6.mono leFs
   replace ha1 := ha1.mono leFs
   replace f7_1hr1 := f7_1hr1.mono leFs
   replace f7_1hr2 := f7_1hr2.mono leFs
   replace ha2 := ha2.mono leFs
   replace hr11 := Rd.monoA hr11 leFs
   rw [eS (l := [(2, (.bool (!((walkToF x4 x5 x6 (((terms (reachF x4 x5 x6 x7).1).getD ((x10).toNat) [])) x7).2.2)) : Value)), (6, a1), (10, a2)]) ⟨(hpZ 2 (by decide)), (hpZ 6 (by decide)), (hpZ 10 (by decide)), trivial⟩]
   refine XG.yes (t := 78) rfl (vB h5) (XOp.call (args := [a1, a2]) call18 rfl (iSameTerm_spec ha1 ha2 (hbd := (by first | (refine Or.inl ?_; omega) | (refine Or.inr ?_; omega)))) ?_)
   rintro _ _ _ _ ⟨rfl, rfl, rfl⟩
   exact ⟨rfl, rfl⟩
  refine gC (fun vals Fs R leFs hpZ => ?_) ?_
  ·rw [eS (l := [(2, (.bool (!((walkToF x4 x5 x6 (((terms (reachF x4 x5 x6 x7).1).getD ((x10).toNat) [])) x7).2.2)) : Value)), (11, (.bool (decide ((((terms (reachF x4 x5 x6 x7).1).getD ((x10).toNat) [])) = (((terms (reachF x4 x5 x6 x7).1).getD ((x10).toNat) [])))) : Value))]) ⟨(hpZ 2 (by decide)), (hpZ 11 (by decide)), trivial⟩]
   refine XG.yes (t := 78) rfl (vB h5) (XOp.notD rfl ?_)
   exact ⟨rfl, rfl⟩
  refine gC (fun vals Fs R leFs hpZ => ?_) ?_
  ·rw [eS (l := [(2, (.bool (!((walkToF x4 x5 x6 (((terms (reachF x4 x5 x6 x7).1).getD ((x10).toNat) [])) x7).2.2)) : Value)), (12, (.bool (decide (¬((((terms (reachF x4 x5 x6 x7).1).getD ((x10).toNat) [])) = (((terms (reachF x4 x5 x6 x7).1).getD ((x10).toNat) []))))) : Value))]) ⟨(hpZ 2 (by decide)), (hpZ 12 (by decide)), trivial⟩]
   refine XG.op (XOp.pickF (.bool (decide (¬((((terms (reachF x4 x5 x6 x7).1).getD ((x10).toNat) [])) = (((terms (reachF x4 x5 x6 x7).1).getD ((x10).toNat) [])))))) (vB h5) rfl ?_)
   exact ⟨rfl, rfl⟩
  refine gC (fun vals Fs R leFs hpZ => ?_) ?_
  ·rw [eS (l := [(13, (.bool (decide (¬((((terms (reachF x4 x5 x6 x7).1).getD ((x10).toNat) [])) = (((terms (reachF x4 x5 x6 x7).1).getD ((x10).toNat) []))))) : Value))]) ⟨(hpZ 13 (by decide)), trivial⟩]
   refine XG.op (XOp.move (.bool (decide (¬((((terms (reachF x4 x5 x6 x7).1).getD ((x10).toNat) [])) = (((terms (reachF x4 x5 x6 x7).1).getD ((x10).toNat) [])))))) rfl ?_)
   exact ⟨rfl, rfl⟩
  refine gC (fun vals Fs R leFs hpZ => ?_) ?_
  ·replace hbs := hbs.mono leFs
   replace hr1 := hr1.mono leFs
   replace hr2 := hr2.mono leFs
   replace hr6 := hr6.mono leFs
   replace ha1 := ha1.mono leFs
   replace f7_1hr1 := f7_1hr1.mono leFs
   replace f7_1hr2 := f7_1hr2.mono leFs
   replace hr11 := Rd.monoA hr11 leFs
   rw [eS (l := [(14, (.bool (decide (¬((((terms (reachF x4 x5 x6 x7).1).getD ((x10).toNat) [])) = (((terms (reachF x4 x5 x6 x7).1).getD ((x10).toNat) []))))) : Value))]) ⟨(hpZ 14 (by decide)), trivial⟩]
   refine XG.yes (t := 90) rfl (vF h6) (XOp.loadN [x1, x2] isAgg29 sizeOf29 rfl rfl (Rd.ownN [_, _] rfl rfl) ?_)
   exact ⟨rfl, rfl⟩
  refine gC (fun vals Fs R leFs hpZ => ?_) ?_
  ·replace hbs := hbs.mono leFs
   replace hr1 := hr1.mono leFs
   replace hr2 := hr2.mono leFs
   replace hr6 := hr6.mono leFs
   replace ha1 := ha1.mono leFs
   replace f7_1hr1 := f7_1hr1.mono leFs
   replace f7_1hr2 := f7_1hr2.mono leFs
   replace hr11 := Rd.monoA hr11 leFs
   rw [eS (l := [(14, (.bool (decide (¬((((terms (reachF x4 x5 x6 x7).1).getD ((x10).toNat) [])) = (((terms (reachF x4 x5 x6 x7).1).getD ((x10).toNat) []))))) : Value))]) ⟨(hpZ 14 (by decide)), trivial⟩]
   refine XG.yes (t := 90) rfl (vF h6) (XOp.loadN [u1, u2] isAgg34 sizeOf34 rfl rfl (Rd.ownN [] rfl rfl) ?_)
   exact ⟨rfl, rfl⟩
  refine gC (fun vals Fs R leFs hpZ => ?_) ?_
  ·replace hbs := hbs.mono leFs
   replace hr1 := hr1.mono leFs
   replace hr2 := hr2.mono leFs
   replace hr6 := hr6.mono leFs
   replace ha1 := ha1.mono leFs
   replace f7_1hr1 := f7_1hr1.mono leFs
   replace f7_1hr2 := f7_1hr2.mono leFs
   replace hr11 := Rd.monoA hr11 leFs
   rw [eS (l := [(14, (.bool (decide (¬((((terms (reachF x4 x5 x6 x7).1).getD ((x10).toNat) [])) = (((terms (reachF x4 x5 x6 x7).1).getD ((x10).toNat) []))))) : Value)), (15, (.agg #[x1, x2] : Value)), (16, (.agg #[u1, u2] : Value))]) ⟨(hpZ 14 (by decide)), (hpZ 15 (by decide)), (hpZ 16 (by decide)), trivial⟩]
   refine XG.yes (t := 90) rfl (vF h6) (XOp.call (args := [.agg #[x1, x2], .agg #[u1, u2]]) call14 rfl (WalkOk_spec hr1 hr2 f7_1hr1 f7_1hr2 (hlf := (by first | assumption | rfl | omega | simp)) (hsb := (by first | assumption | rfl | omega | simp))) ?_)
   rintro _ _ _ _ ⟨rfl, rfl, rfl⟩
   exact ⟨rfl, rfl⟩
  refine gC (fun vals Fs R leFs hpZ => ?_) ?_
  ·rw [eS (l := [(14, (.bool (decide (¬((((terms (reachF x4 x5 x6 x7).1).getD ((x10).toNat) [])) = (((terms (reachF x4 x5 x6 x7).1).getD ((x10).toNat) []))))) : Value)), (17, (.bool (walkOkL x4 x5 ((walkToF x4 x5 x6 (((terms (reachF x4 x5 x6 x7).1).getD ((x10).toNat) [])) x7).1) ((walkToF x4 x5 x6 (((terms (reachF x4 x5 x6 x7).1).getD ((x10).toNat) [])) x7).2.1)) : Value))]) ⟨(hpZ 14 (by decide)), (hpZ 17 (by decide)), trivial⟩]
   refine XG.yes (t := 90) rfl (vF h6) (XOp.notB rfl ?_)
   exact ⟨rfl, rfl⟩
  refine gC (fun vals Fs R leFs hpZ => ?_) ?_
  ·rw [eS (l := [(14, (.bool (decide (¬((((terms (reachF x4 x5 x6 x7).1).getD ((x10).toNat) [])) = (((terms (reachF x4 x5 x6 x7).1).getD ((x10).toNat) []))))) : Value)), (18, (.bool (!(walkOkL x4 x5 ((walkToF x4 x5 x6 (((terms (reachF x4 x5 x6 x7).1).getD ((x10).toNat) [])) x7).1) ((walkToF x4 x5 x6 (((terms (reachF x4 x5 x6 x7).1).getD ((x10).toNat) [])) x7).2.1))) : Value))]) ⟨(hpZ 14 (by decide)), (hpZ 18 (by decide)), trivial⟩]
   refine XG.op (XOp.pickF (.bool (!(walkOkL x4 x5 ((walkToF x4 x5 x6 (((terms (reachF x4 x5 x6 x7).1).getD ((x10).toNat) [])) x7).1) ((walkToF x4 x5 x6 (((terms (reachF x4 x5 x6 x7).1).getD ((x10).toNat) [])) x7).2.1)))) (vF h6) rfl ?_)
   exact ⟨rfl, rfl⟩
  refine gC (fun vals Fs R leFs hpZ => ?_) ?_
  ·rw [eS (l := [(19, (.bool (!(walkOkL x4 x5 ((walkToF x4 x5 x6 (((terms (reachF x4 x5 x6 x7).1).getD ((x10).toNat) [])) x7).1) ((walkToF x4 x5 x6 (((terms (reachF x4 x5 x6 x7).1).getD ((x10).toNat) [])) x7).2.1))) : Value))]) ⟨(hpZ 19 (by decide)), trivial⟩]
   refine XG.op (XOp.move (.bool (!(walkOkL x4 x5 ((walkToF x4 x5 x6 (((terms (reachF x4 x5 x6 x7).1).getD ((x10).toNat) [])) x7).1) ((walkToF x4 x5 x6 (((terms (reachF x4 x5 x6 x7).1).getD ((x10).toNat) [])) x7).2.1)))) rfl ?_)
   exact ⟨rfl, rfl⟩
  refine gC (fun vals Fs R leFs hpZ => ?_) ?_
  ·replace hbs := hbs.mono leFs
   replace hr1 := hr1.mono leFs
   replace hr2 := hr2.mono leFs
   replace hr6 := hr6.mono leFs
   replace ha1 := ha1.mono leFs
   replace f7_1hr1 := f7_1hr1.mono leFs
   replace f7_1hr2 := f7_1hr2.mono leFs
   replace hr11 := Rd.monoA hr11 leFs
   rw [eS (l := [(20, (.bool (!(walkOkL x4 x5 ((walkToF x4 x5 x6 (((terms (reachF x4 x5 x6 x7).1).getD ((x10).toNat) [])) x7).1) ((walkToF x4 x5 x6 (((terms (reachF x4 x5 x6 x7).1).getD ((x10).toNat) [])) x7).2.1))) : Value))]) ⟨(hpZ 20 (by decide)), trivial⟩]
   refine XG.yes (t := 96) rfl (vB h7) (XOp.loadN [x1, x2] isAgg29 sizeOf29 rfl rfl (Rd.ownN [_, _] rfl rfl) ?_)
   exact ⟨rfl, rfl⟩
  refine gC (fun vals Fs R leFs hpZ => ?_) ?_
  ·replace hbs := hbs.mono leFs
   replace hr1 := hr1.mono leFs
   replace hr2 := hr2.mono leFs
   replace hr6 := hr6.mono leFs
   replace ha1 := ha1.mono leFs
   replace f7_1hr1 := f7_1hr1.mono leFs
   replace f7_1hr2 := f7_1hr2.mono leFs
   replace hr11 := Rd.monoA hr11 leFs
   rw [eS (l := [(20, (.bool (!(walkOkL x4 x5 ((walkToF x4 x5 x6 (((terms (reachF x4 x5 x6 x7).1).getD ((x10).toNat) [])) x7).1) ((walkToF x4 x5 x6 (((terms (reachF x4 x5 x6 x7).1).getD ((x10).toNat) [])) x7).2.1))) : Value))]) ⟨(hpZ 20 (by decide)), trivial⟩]
   refine XG.yes (t := 96) rfl (vB h7) (XOp.loadN [u1, u2] isAgg34 sizeOf34 rfl rfl (Rd.ownN [] rfl rfl) ?_)
   exact ⟨rfl, rfl⟩
  refine gC (fun vals Fs R leFs hpZ => ?_) ?_
  ·replace hbs := hbs.mono leFs
   replace hr1 := hr1.mono leFs
   replace hr2 := hr2.mono leFs
   replace hr6 := hr6.mono leFs
   replace ha1 := ha1.mono leFs
   replace f7_1hr1 := f7_1hr1.mono leFs
   replace f7_1hr2 := f7_1hr2.mono leFs
   replace hr11 := Rd.monoA hr11 leFs
   rw [eS (l := [(20, (.bool (!(walkOkL x4 x5 ((walkToF x4 x5 x6 (((terms (reachF x4 x5 x6 x7).1).getD ((x10).toNat) [])) x7).1) ((walkToF x4 x5 x6 (((terms (reachF x4 x5 x6 x7).1).getD ((x10).toNat) [])) x7).2.1))) : Value)), (21, (.agg #[x1, x2] : Value)), (22, (.agg #[u1, u2] : Value))]) ⟨(hpZ 20 (by decide)), (hpZ 21 (by decide)), (hpZ 22 (by decide)), trivial⟩]
   refine XG.yes (t := 96) rfl (vB h7) (XOp.frzF <| XOp.call (args := [.agg #[x1, x2], .agg #[u1, u2]]) call16 rfl (EndTerm_spec hr1 hr2 f7_1hr1 f7_1hr2 (hlf := (by first | assumption | rfl | omega | simp)) (hsb := (by first | assumption | rfl | omega | simp))) ?_)
   rintro v3 _ _ _ ⟨rfl, hs3, rfl⟩
   refine ⟨_, _, rfl, fun F9 le9 hz1 => ?_⟩
   replace hbs := hbs.mono le9
   replace hr1 := hr1.mono le9
   replace hr2 := hr2.mono le9
   replace hr6 := hr6.mono le9
   replace ha1 := ha1.mono le9
   replace f7_1hr2 := f7_1hr2.mono le9
   replace hr11 := Rd.monoA hr11 le9
   have hf1 : IntsF F9 v3 ((endT x4 x5 ((walkToF x4 x5 x6 (((terms (reachF x4 x5 x6 x7).1).getD ((x10).toNat) [])) x7).1) ((walkToF x4 x5 x6 (((terms (reachF x4 x5 x6 x7).1).getD ((x10).toNat) [])) x7).2.1))) := intsH.fz (xs := (endT x4 x5 ((walkToF x4 x5 x6 (((terms (reachF x4 x5 x6 x7).1).getD ((x10).toNat) [])) x7).1) ((walkToF x4 x5 x6 (((terms (reachF x4 x5 x6 x7).1).getD ((x10).toNat) [])) x7).2.1))) hz1.fz
   exact ⟨⟨rfl, hf1⟩, rfl⟩
  refine gC (fun vals Fs R leFs hpZ => ?_) ?_
  ·rw [eS (l := [(20, (.bool (!(walkOkL x4 x5 ((walkToF x4 x5 x6 (((terms (reachF x4 x5 x6 x7).1).getD ((x10).toNat) [])) x7).1) ((walkToF x4 x5 x6 (((terms (reachF x4 x5 x6 x7).1).getD ((x10).toNat) [])) x7).2.1))) : Value))]) ⟨(hpZ 20 (by decide)), trivial⟩]
   refine XG.yes (t := 96) rfl (vB h7) (XOp.move (x8) rfl ?_)
   exact ⟨rfl, rfl⟩
  refine gC (fun vals Fs R leFs hpZ => ?_) ?_
  ·rw [eS (l := [(20, (.bool (!(walkOkL x4 x5 ((walkToF x4 x5 x6 (((terms (reachF x4 x5 x6 x7).1).getD ((x10).toNat) [])) x7).1) ((walkToF x4 x5 x6 (((terms (reachF x4 x5 x6 x7).1).getD ((x10).toNat) [])) x7).2.1))) : Value))]) ⟨(hpZ 20 (by decide)), trivial⟩]
   refine XG.yes (t := 96) rfl (vB h7) (XOp.move (.int .i64 (x10)) rfl ?_)
   exact ⟨rfl, rfl⟩
  refine gC (fun vals Fs R leFs hpZ => ?_) ?_
  ·replace hbs := hbs.mono leFs
   replace hr1 := hr1.mono leFs
   replace hr2 := hr2.mono leFs
   replace hr6 := hr6.mono leFs
   replace ha1 := ha1.mono leFs
   replace f7_1hr2 := f7_1hr2.mono leFs
   replace hr11 := Rd.monoA hr11 leFs
   rw [eS (l := [(20, (.bool (!(walkOkL x4 x5 ((walkToF x4 x5 x6 (((terms (reachF x4 x5 x6 x7).1).getD ((x10).toNat) [])) x7).1) ((walkToF x4 x5 x6 (((terms (reachF x4 x5 x6 x7).1).getD ((x10).toNat) [])) x7).2.1))) : Value)), (24, x8), (25, (.int .i64 (x10) : Value))]) ⟨(hpZ 20 (by decide)), (hpZ 24 (by decide)), (hpZ 25 (by decide)), trivial⟩]
   refine XG.yes (t := 96) rfl (vB h7) (XOp.indexS ((x10).toNat) runUnderlying47 sizeOf24 rfl rfl (by omega) hr6.slv (by omega) (Nat.mul_one _) ?_)
   exact ⟨rfl, rfl⟩
  refine gC (fun vals Fs R leFs hpZ => ?_) ?_
  ·replace hbs := hbs.mono leFs
   replace hr1 := hr1.mono leFs
   replace hr2 := hr2.mono leFs
   replace hr6 := hr6.mono leFs
   replace ha1 := ha1.mono leFs
   replace f7_1hr2 := f7_1hr2.mono leFs
   replace hr11 := Rd.monoA hr11 leFs
   rw [eS (l := [(20, (.bool (!(walkOkL x4 x5 ((walkToF x4 x5 x6 (((terms (reachF x4 x5 x6 x7).1).getD ((x10).toNat) [])) x7).1) ((walkToF x4 x5 x6 (((terms (reachF x4 x5 x6 x7).1).getD ((x10).toNat) [])) x7).2.1))) : Value)), (26, (.pointer (some (elemA x8 ((x10).toNat))) : Value))]) ⟨(hpZ 20 (by decide)), (hpZ 26 (by decide)), trivial⟩]
   refine XG.yes (t := 96) rfl (vB h7) (XOp.load1 isAgg24 rfl (hr11 _) ?_)
   exact ⟨rfl, rfl⟩
  refine gC (fun vals Fs R leFs hpZ => ?_) ?_
  ·obtain ⟨e23, f23_6ha⟩ := hpZ 23 (by decide)
   replace hbs := hbs.mono leFs
   replace hr1 := hr1.mono leFs
   replace hr2 := hr2.mono leFs
   replace hr6 := hr6.mono leFs
   replace ha1 := ha1.mono leFs
   replace f7_1hr2 := f7_1hr2.mono leFs
   replace hr11 := Rd.monoA hr11 leFs
   rw [eS (l := [(20, (.bool (!(walkOkL x4 x5 ((walkToF x4 x5 x6 (((terms (reachF x4 x5 x6 x7).1).getD ((x10).toNat) [])) x7).1) ((walkToF x4 x5 x6 (((terms (reachF x4 x5 x6 x7).1).getD ((x10).toNat) [])) x7).2.1))) : Value)), (23, ((vals 23))), (27, a1)]) ⟨(hpZ 20 (by decide)), (e23).symm, (hpZ 27 (by decide)), trivial⟩]
   refine XG.yes (t := 96) rfl (vB h7) (XOp.call (args := [((vals 23)), a1]) call18 rfl (iSameTerm_spec f23_6ha ha1 (hbd := (by first | (refine Or.inl ?_; omega) | (refine Or.inr ?_; omega)))) ?_)
   rintro _ _ _ _ ⟨rfl, rfl, rfl⟩
   exact ⟨rfl, rfl⟩
  refine gC (fun vals Fs R leFs hpZ => ?_) ?_
  ·rw [eS (l := [(20, (.bool (!(walkOkL x4 x5 ((walkToF x4 x5 x6 (((terms (reachF x4 x5 x6 x7).1).getD ((x10).toNat) [])) x7).1) ((walkToF x4 x5 x6 (((terms (reachF x4 x5 x6 x7).1).getD ((x10).toNat) [])) x7).2.1))) : Value)), (28, (.bool (decide (((endT x4 x5 ((walkToF x4 x5 x6 (((terms (reachF x4 x5 x6 x7).1).getD ((x10).toNat) [])) x7).1) ((walkToF x4 x5 x6 (((terms (reachF x4 x5 x6 x7).1).getD ((x10).toNat) [])) x7).2.1))) = (((terms (reachF x4 x5 x6 x7).1).getD ((x10).toNat) [])))) : Value))]) ⟨(hpZ 20 (by decide)), (hpZ 28 (by decide)), trivial⟩]
   refine XG.yes (t := 96) rfl (vB h7) (XOp.notD rfl ?_)
   exact ⟨rfl, rfl⟩
  refine gC (fun vals Fs R leFs hpZ => ?_) ?_
  ·rw [eS (l := [(20, (.bool (!(walkOkL x4 x5 ((walkToF x4 x5 x6 (((terms (reachF x4 x5 x6 x7).1).getD ((x10).toNat) [])) x7).1) ((walkToF x4 x5 x6 (((terms (reachF x4 x5 x6 x7).1).getD ((x10).toNat) [])) x7).2.1))) : Value)), (29, (.bool (decide (¬(((endT x4 x5 ((walkToF x4 x5 x6 (((terms (reachF x4 x5 x6 x7).1).getD ((x10).toNat) [])) x7).1) ((walkToF x4 x5 x6 (((terms (reachF x4 x5 x6 x7).1).getD ((x10).toNat) [])) x7).2.1))) = (((terms (reachF x4 x5 x6 x7).1).getD ((x10).toNat) []))))) : Value))]) ⟨(hpZ 20 (by decide)), (hpZ 29 (by decide)), trivial⟩]
   refine XG.op (XOp.pickF (.bool (decide (¬(((endT x4 x5 ((walkToF x4 x5 x6 (((terms (reachF x4 x5 x6 x7).1).getD ((x10).toNat) [])) x7).1) ((walkToF x4 x5 x6 (((terms (reachF x4 x5 x6 x7).1).getD ((x10).toNat) [])) x7).2.1))) = (((terms (reachF x4 x5 x6 x7).1).getD ((x10).toNat) [])))))) (vB h7) rfl ?_)
   exact ⟨rfl, rfl⟩
  refine gC (fun vals Fs R leFs hpZ => ?_) ?_
  ·rw [eS (l := [(30, (.bool (decide (¬(((endT x4 x5 ((walkToF x4 x5 x6 (((terms (reachF x4 x5 x6 x7).1).getD ((x10).toNat) [])) x7).1) ((walkToF x4 x5 x6 (((terms (reachF x4 x5 x6 x7).1).getD ((x10).toNat) [])) x7).2.1))) = (((terms (reachF x4 x5 x6 x7).1).getD ((x10).toNat) []))))) : Value))]) ⟨(hpZ 30 (by decide)), trivial⟩]
   refine XG.op (XOp.move (.bool (decide (¬(((endT x4 x5 ((walkToF x4 x5 x6 (((terms (reachF x4 x5 x6 x7).1).getD ((x10).toNat) [])) x7).1) ((walkToF x4 x5 x6 (((terms (reachF x4 x5 x6 x7).1).getD ((x10).toNat) [])) x7).2.1))) = (((terms (reachF x4 x5 x6 x7).1).getD ((x10).toNat) [])))))) rfl ?_)
   exact ⟨rfl, rfl⟩
  refine gC (fun vals Fs R leFs hpZ => ?_) ?_
  ·rw [eS (l := [(31, (.bool (decide (¬(((endT x4 x5 ((walkToF x4 x5 x6 (((terms (reachF x4 x5 x6 x7).1).getD ((x10).toNat) [])) x7).1) ((walkToF x4 x5 x6 (((terms (reachF x4 x5 x6 x7).1).getD ((x10).toNat) [])) x7).2.1))) = (((terms (reachF x4 x5 x6 x7).1).getD ((x10).toNat) []))))) : Value))]) ⟨(hpZ 31 (by decide)), trivial⟩]
   refine XG.yes (t := 107) rfl (vF h8) (XOp.fieldP (1) runUnderlying34 rfl sizeOf32 (by decide) rfl rfl ?_)
   exact ⟨rfl, rfl⟩
  refine gC (fun vals Fs R leFs hpZ => ?_) ?_
  ·replace hbs := hbs.mono leFs
   replace hr1 := hr1.mono leFs
   replace hr2 := hr2.mono leFs
   replace hr6 := hr6.mono leFs
   replace ha1 := ha1.mono leFs
   replace f7_1hr2 := f7_1hr2.mono leFs
   replace hr11 := Rd.monoA hr11 leFs
   rw [eS (l := [(31, (.bool (decide (¬(((endT x4 x5 ((walkToF x4 x5 x6 (((terms (reachF x4 x5 x6 x7).1).getD ((x10).toNat) [])) x7).1) ((walkToF x4 x5 x6 (((terms (reachF x4 x5 x6 x7).1).getD ((x10).toNat) [])) x7).2.1))) = (((terms (reachF x4 x5 x6 x7).1).getD ((x10).toNat) []))))) : Value)), (32, ptr b4 1)]) ⟨(hpZ 31 (by decide)), (hpZ 32 (by decide)), trivial⟩]
   refine XG.yes (t := 107) rfl (vF h8) (XOp.load1 isAgg32 rfl (Rd.own [] rfl rfl) ?_)
   exact ⟨rfl, rfl⟩
  refine gC (fun vals Fs R leFs hpZ => ?_) ?_
  ·replace hbs := hbs.mono leFs
   replace hr1 := hr1.mono leFs
   replace hr2 := hr2.mono leFs
   replace hr6 := hr6.mono leFs
   replace ha1 := ha1.mono leFs
   replace f7_1hr2 := f7_1hr2.mono leFs
   replace hr11 := Rd.monoA hr11 leFs
   rw [eS (l := [(31, (.bool (decide (¬(((endT x4 x5 ((walkToF x4 x5 x6 (((terms (reachF x4 x5 x6 x7).1).getD ((x10).toNat) [])) x7).1) ((walkToF x4 x5 x6 (((terms (reachF x4 x5 x6 x7).1).getD ((x10).toNat) [])) x7).2.1))) = (((terms (reachF x4 x5 x6 x7).1).getD ((x10).toNat) []))))) : Value)), (33, u2)]) ⟨(hpZ 31 (by decide)), (hpZ 33 (by decide)), trivial⟩]
   refine XG.yes (t := 107) rfl (vF h8) (XOp.lenS runUnderlying32 rfl f7_1hr2.slv ?_)
   exact ⟨rfl, rfl⟩
  refine gC (fun vals Fs R leFs hpZ => ?_) ?_
  ·rw [eS (l := [(31, (.bool (decide (¬(((endT x4 x5 ((walkToF x4 x5 x6 (((terms (reachF x4 x5 x6 x7).1).getD ((x10).toNat) [])) x7).1) ((walkToF x4 x5 x6 (((terms (reachF x4 x5 x6 x7).1).getD ((x10).toNat) [])) x7).2.1))) = (((terms (reachF x4 x5 x6 x7).1).getD ((x10).toNat) []))))) : Value))]) ⟨(hpZ 31 (by decide)), trivial⟩]
   refine XG.yes (t := 107) rfl (vF h8) (XOp.move (.int .i64 (x7)) rfl ?_)
   exact ⟨rfl, rfl⟩
  exact stepsG.nil
 intro vals F10 le10 hphi
 obtain ⟨e23, f23_6ha⟩ := hphi 23 (by decide)
 generalize hu4 : ((vals 23)) = u3 at e23 f23_6ha
 rw [eS (l := [(31, (.bool (decide (¬(((endT x4 x5 ((walkToF x4 x5 x6 (((terms (reachF x4 x5 x6 x7).1).getD ((x10).toNat) [])) x7).1) ((walkToF x4 x5 x6 (((terms (reachF x4 x5 x6 x7).1).getD ((x10).toNat) [])) x7).2.1))) = (((terms (reachF x4 x5 x6 x7).1).getD ((x10).toNat) []))))) : Value)), (34, (.int .i64 (((((walkToF x4 x5 x6 (((terms (reachF x4 x5 x6 x7).1).getD ((x10).toNat) [])) x7).2.1).length : Nat) : Int)) : Value)), (35, (.int .i64 (x7) : Value))]) ⟨(hphi 31 (by decide)), (hphi 34 (by decide)), (hphi 35 (by decide)), trivial⟩]
 replace hbs := hbs.mono le10
 replace hr1 := hr1.mono le10
 replace hr2 := hr2.mono le10
 replace hr6 := hr6.mono le10
 replace ha1 := ha1.mono le10
 replace hr11 := Rd.monoA hr11 le10
 show XL _ _ _ _ _ _ _ (cellsH b4 [u1, u2] 34 :: curH .u64 110 cb1 bsv bs.length :: cellsH b1 [x1, x2] 29 :: L)
 refine XL.yes (t := 107) rfl (vF h8) (XOp.gtr rfl rfl (cX (XOp.pickF (.bool (decide ((((((walkToF x4 x5 x6 (((terms (reachF x4 x5 x6 x7).1).getD ((x10).toNat) [])) x7).2.1).length : Nat) : Int) : Int) > x7))) (vF h8) rfl (XL.nil ?_))))
 refine X.condD (p := (((((walkToF x4 x5 x6 (((terms (reachF x4 x5 x6 x7).1).getD ((x10).toNat) [])) x7).2.1).length : Nat) : Int) : Int) > x7) rfl (fun h9 => ?_) (fun h9 => ?_)
 ·exact absurd hlk.2.2.2.1 (by omega)
 refine X.skip (X.seq ?_)
 obtain ⟨a3, ha3, hr19⟩ := hr6.rd (i := (x11).toNat) (by omega)
 refine X.drawG [cellsH b4 [u1, u2] 34, curH .u64 110 cb1 bsv bs.length, cellsH b1 [x1, x2] 29] L 19 [[], [], [], [], [], [], [], [], [], [], [], [10], [10], [10], [], [], [], [10, 15], [10, 16]] [[], [], [], [1, 2], [3], [], [], [5, 6], [7], [], [0, 4, 8, 9], [10], [10, 11], [10, 11], [10, 11], [], [], [10, 12, 15], [10, 13, 16]] [[], [], [], [], [], [], [], [], [], [], [], [], [], [], [], [], [], [15], [16]] (phiG [fun FF us v => v = (.agg #[x1, x2] : Value), fun FF us v => v = x8, fun FF us v => v = (.int .i64 (x10) : Value), fun FF us v => v = (.pointer (some (elemA x8 ((x10).toNat))) : Value), fun FF us v => v = a1, fun FF us v => v = x8, fun FF us v => v = (.int .i64 (x11) : Value), fun FF us v => v = (.pointer (some (elemA x8 ((x11).toNat))) : Value), fun FF us v => v = a3, fun FF us v => v = (.int .i64 (x7) : Value), fun FF us v => (.tuple #[.agg #[((aggAt (tupAt v 0) 0)), ((aggAt (tupAt v 0) 1))], .agg #[((aggAt (tupAt v 1) 0)), ((aggAt (tupAt v 1) 1))], .bool ((joinF x4 x5 (((terms (reachF x4 x5 x6 x7).1).getD ((x10).toNat) [])) (((terms (reachF x4 x5 x6 x7).1).getD ((x11).toNat) [])) x7).2.2.2.2)] : Value) = v ∧ (IntsF FF ((aggAt (tupAt v 0) 0)) (joinF x4 x5 (((terms (reachF x4 x5 x6 x7).1).getD ((x10).toNat) [])) (((terms (reachF x4 x5 x6 x7).1).getD ((x11).toNat) [])) x7).1) ∧ (StepsF FF ((aggAt (tupAt v 0) 1)) (joinF x4 x5 (((terms (reachF x4 x5 x6 x7).1).getD ((x10).toNat) [])) (((terms (reachF x4 x5 x6 x7).1).getD ((x11).toNat) [])) x7).2.1) ∧ (IntsF FF ((aggAt (tupAt v 1) 0)) (joinF x4 x5 (((terms (reachF x4 x5 x6 x7).1).getD ((x10).toNat) [])) (((terms (reachF x4 x5 x6 x7).1).getD ((x11).toNat) [])) x7).2.2.1) ∧ (StepsF FF ((aggAt (tupAt v 1) 1)) (joinF x4 x5 (((terms (reachF x4 x5 x6 x7).1).getD ((x10).toNat) [])) (((terms (reachF x4 x5 x6 x7).1).getD ((x11).toNat) [])) x7).2.2.2.1), fun FF us v => v = (.tuple #[.agg #[((aggAt (tupAt (us.getD 0 undef) 0) 0)), ((aggAt (tupAt (us.getD 0 undef) 0) 1))], .agg #[((aggAt (tupAt (us.getD 0 undef) 1) 0)), ((aggAt (tupAt (us.getD 0 undef) 1) 1))], .bool ((joinF x4 x5 (((terms (reachF x4 x5 x6 x7).1).getD ((x10).toNat) [])) (((terms (reachF x4 x5 x6 x7).1).getD ((x11).toNat) [])) x7).2.2.2.2)] : Value), fun FF us v => v = (.agg #[((aggAt (tupAt (us.getD 0 undef) 0) 0)), ((aggAt (tupAt (us.getD 0 undef) 0) 1))] : Value), fun FF us v => v = (.agg #[((aggAt (tupAt (us.getD 0 undef) 1) 0)), ((aggAt (tupAt (us.getD 0 undef) 1) 1))] : Value), fun FF us v => v = (.bool ((joinF x4 x5 (((terms (reachF x4 x5 x6 x7).1).getD ((x10).toNat) [])) (((terms (reachF x4 x5 x6 x7).1).getD ((x11).toNat) [])) x7).2.2.2.2) : Value), fun FF us v => v = ptr (blk v) 0, fun FF us v => v = ptr (blk v) 0, fun FF us v => True, fun FF us v => True]) (ownL [fun us v => [], fun us v => [], fun us v => [], fun us v => [], fun us v => [], fun us v => [], fun us v => [], fun us v => [], fun us v => [], fun us v => [], fun us v => [], fun us v => [], fun us v => [], fun us v => [], fun us v => [], fun us v => [cellsH (blk v) [(.slice none 0 0), (.slice none 0 0)] 34], fun us v => [cellsH (blk v) [(.slice none 0 0), (.slice none 0 0)] 34], fun us v => [cellsH (blk (us.getD 1 undef)) [((aggAt (tupAt (us.getD 0 undef) 0) 0)), ((aggAt (tupAt (us.getD 0 undef) 0) 1))] 34], fun us v => [cellsH (blk (us.getD 1 undef)) [((aggAt (tupAt (us.getD 0 undef) 1) 0)), ((aggAt (tupAt (us.getD 0 undef) 1) 1))] 34]]) mixed rfl rfl (by kernel_rfl) (by kernel_rfl) (MonoG.get (mC (fun le h => h) (mC (fun le h => h) (mC (fun le h => h) (mC (fun le h => h) (mC (fun le h => h) (mC (fun le h => h) (mC (fun le h => h) (mC (fun le h => h) (mC (fun le h => h) (mC (fun le h => h) (mC (fun le h => ⟨h.1, h.2.1.mono le, h.2.2.1.mono le, h.2.2.2.1.mono le, h.2.2.2.2.mono le⟩) (mC (fun le h => h) (mC (fun le h => h) (mC (fun le h => h) (mC (fun le h => h) (mC (fun le h => h) (mC (fun le h => h) (mC (fun le h => h) (mC (fun le h => h) MonoG.nil)))))))))))))))))))) ?_ ?_
 ·refine gC (fun vals Fs R leFs hpZ => ?_) ?_
  ·replace hbs := hbs.mono leFs
   replace hr1 := hr1.mono leFs
   replace hr2 := hr2.mono leFs
   replace hr6 := hr6.mono leFs
   replace ha1 := ha1.mono leFs
   replace ha3 := ha3.mono leFs
   replace hr11 := Rd.monoA hr11 leFs
   replace hr19 := Rd.monoA hr19 leFs
   refine XG.op (XOp.loadN [x1, x2] isAgg29 sizeOf29 rfl rfl (Rd.ownN [_, _] rfl rfl) ?_)
   exact ⟨rfl, rfl⟩
  refine gC (fun vals Fs R leFs hpZ => ?_) ?_
  ·refine XG.op (XOp.move (x8) rfl ?_)
   exact ⟨rfl, rfl⟩
  refine gC (fun vals Fs R leFs hpZ => ?_) ?_
  ·refine XG.op (XOp.move (.int .i64 (x10)) rfl ?_)
   exact ⟨rfl, rfl⟩
  refine gC (fun vals Fs R leFs hpZ => ?_) ?_
  ·replace hbs := hbs.mono leFs
   replace hr1 := hr1.mono leFs
   replace hr2 := hr2.mono leFs
   replace hr6 := hr6.mono leFs
   replace ha1 := ha1.mono leFs
   replace ha3 := ha3.mono leFs
   replace hr11 := Rd.monoA hr11 leFs
   replace hr19 := Rd.monoA hr19 leFs
   rw [eS (l := [(1, x8), (2, (.int .i64 (x10) : Value))]) ⟨(hpZ 1 (by decide)), (hpZ 2 (by decide)), trivial⟩]
   refine XG.op (XOp.indexS ((x10).toNat) runUnderlying47 sizeOf24 rfl rfl (by omega) hr6.slv (by omega) (Nat.mul_one _) ?_)
   exact ⟨rfl, rfl⟩
  refine gC (fun vals Fs R leFs hpZ => ?_) ?_
  ·replace hbs := hbs.mono leFs
   replace hr1 := hr1.mono leFs
   replace hr2 := hr2.mono leFs
   replace hr6 := hr6.mono leFs
   replace ha1 := ha1.mono leFs
   replace ha3 := ha3.mono leFs
   replace hr11 := Rd.monoA hr11 leFs
   replace hr19 := Rd.monoA hr19 leFs
   rw [eS (l := [(3, (.pointer (some (elemA x8 ((x10).toNat))) : Value))]) ⟨(hpZ 3 (by decide)), trivial⟩]
   refine XG.op (XOp.load1 isAgg24 rfl (hr11 _) ?_)
   exact ⟨rfl, rfl⟩
  refine gC (fun vals Fs R leFs hpZ => ?_) ?_
  ·refine XG.op (XOp.move (x8) rfl ?_)
   exact ⟨rfl, rfl⟩
  refine gC (fun vals Fs R leFs hpZ => ?_) ?_
  ·refine XG.op (XOp.move (.int .i64 (x11)) rfl ?_)
   exact ⟨rfl, rfl⟩
  refine gC (fun vals Fs R leFs hpZ => ?_) ?_
  ·replace hbs := hbs.mono leFs
   replace hr1 := hr1.mono leFs
   replace hr2 := hr2.mono leFs
   replace hr6 := hr6.mono leFs
   replace ha1 := ha1.mono leFs
   replace ha3 := ha3.mono leFs
   replace hr11 := Rd.monoA hr11 leFs
   replace hr19 := Rd.monoA hr19 leFs
   rw [eS (l := [(5, x8), (6, (.int .i64 (x11) : Value))]) ⟨(hpZ 5 (by decide)), (hpZ 6 (by decide)), trivial⟩]
   refine XG.op (XOp.indexS ((x11).toNat) runUnderlying47 sizeOf24 rfl rfl (by omega) hr6.slv (by omega) (Nat.mul_one _) ?_)
   exact ⟨rfl, rfl⟩
  refine gC (fun vals Fs R leFs hpZ => ?_) ?_
  ·replace hbs := hbs.mono leFs
   replace hr1 := hr1.mono leFs
   replace hr2 := hr2.mono leFs
   replace hr6 := hr6.mono leFs
   replace ha1 := ha1.mono leFs
   replace ha3 := ha3.mono leFs
   replace hr11 := Rd.monoA hr11 leFs
   replace hr19 := Rd.monoA hr19 leFs
   rw [eS (l := [(7, (.pointer (some (elemA x8 ((x11).toNat))) : Value))]) ⟨(hpZ 7 (by decide)), trivial⟩]
   refine XG.op (XOp.load1 isAgg24 rfl (hr19 _) ?_)
   exact ⟨rfl, rfl⟩
  refine gC (fun vals Fs R leFs hpZ => ?_) ?_
  ·refine XG.op (XOp.move (.int .i64 (x7)) rfl ?_)
   exact ⟨rfl, rfl⟩
  refine gC (fun vals Fs R leFs hpZ => ?_) ?_
  ·replace hbs := hbs.mono leFs
   replace hr1 := hr1.mono leFs
   replace hr2 := hr2.mono leFs
   replace hr6 := hr6.mono leFs
   replace ha1 := ha1.mono leFs
   replace ha3 := ha3.mono leFs
   replace hr11 := Rd.monoA hr11 leFs
   replace hr19 := Rd.monoA hr19 leFs
   rw [eS (l := [(0, (.agg #[x1, x2] : Value)), (4, a1), (8, a3), (9, (.int .i64 (x7) : Value))]) ⟨(hpZ 0 (by decide)), (hpZ 4 (by decide)), (hpZ 8 (by decide)), (hpZ 9 (by decide)), trivial⟩]
   refine XG.op (XOp.call (args := [.agg #[x1, x2], a1, a3, .int .i64 (x7)]) call25 rfl (JoinOf_spec (n := x7) hr1 hr2 ha1 ha3 (hla9 := (by first | assumption | rfl | omega | simp)) (hlb9 := (by first | assumption | rfl | omega | simp))) ?_)
   rintro _ F12 _ le12 ⟨x20, x21, x22, x23, rfl, hr25, hr26, hr27, hr28, hr29, rfl⟩
   replace hbs := hbs.mono le12
   replace hr1 := hr1.mono le12
   replace hr2 := hr2.mono le12
   replace hr6 := hr6.mono le12
   replace ha1 := ha1.mono le12
   replace ha3 := ha3.mono le12
   replace hr11 := Rd.monoA hr11 le12
   replace hr19 := Rd.monoA hr19 le12
   exact ⟨⟨rfl, hr25, hr26, hr27, hr28⟩, rfl⟩
  refine gC (fun vals Fs R leFs hpZ => ?_) ?_
  ·obtain ⟨e10, f10_7hr1, f10_7hr2, f10_7hr3, f10_7hr4⟩ := hpZ 10 (by decide)
   rw [eS (l := [(10, (.tuple #[.agg #[((aggAt (tupAt (vals 10) 0) 0)), ((aggAt (tupAt (vals 10) 0) 1))], .agg #[((aggAt (tupAt (vals 10) 1) 0)), ((aggAt (tupAt (vals 10) 1) 1))], .bool ((joinF x4 x5 (((terms (reachF x4 x5 x6 x7).1).getD ((x10).toNat) [])) (((terms (reachF x4 x5 x6 x7).1).getD ((x11).toNat) [])) x7).2.2.2.2)] : Value))]) ⟨(e10).symm, trivial⟩]
   refine XG.op (XOp.move (.tuple #[.agg #[((aggAt (tupAt (vals 10) 0) 0)), ((aggAt (tupAt (vals 10) 0) 1))], .agg #[((aggAt (tupAt (vals 10) 1) 0)), ((aggAt (tupAt (vals 10) 1) 1))], .bool ((joinF x4 x5 (((terms (reachF x4 x5 x6 x7).1).getD ((x10).toNat) [])) (((terms (reachF x4 x5 x6 x7).1).getD ((x11).toNat) [])) x7).2.2.2.2)]) rfl ?_)
   exact ⟨rfl, rfl⟩
  refine gC (fun vals Fs R leFs hpZ => ?_) ?_
  ·obtain ⟨e10, f10_7hr1, f10_7hr2, f10_7hr3, f10_7hr4⟩ := hpZ 10 (by decide)
   have e11 : vals 11 = (.tuple #[.agg #[((aggAt (tupAt (vals 10) 0) 0)), ((aggAt (tupAt (vals 10) 0) 1))], .agg #[((aggAt (tupAt (vals 10) 1) 0)), ((aggAt (tupAt (vals 10) 1) 1))], .bool ((joinF x4 x5 (((terms (reachF x4 x5 x6 x7).1).getD ((x10).toNat) [])) (((terms (reachF x4 x5 x6 x7).1).getD ((x11).toNat) [])) x7).2.2.2.2)] : Value) := hpZ 11 (by decide)
   rw [eS (l := [(10, (.tuple #[.agg #[((aggAt (tupAt (vals 10) 0) 0)), ((aggAt (tupAt (vals 10) 0) 1))], .agg #[((aggAt (tupAt (vals 10) 1) 0)), ((aggAt (tupAt (vals 10) 1) 1))], .bool ((joinF x4 x5 (((terms (reachF x4 x5 x6 x7).1).getD ((x10).toNat) [])) (((terms (reachF x4 x5 x6 x7).1).getD ((x11).toNat) [])) x7).2.2.2.2)] : Value)), (11, (.tuple #[.agg #[((aggAt (tupAt (vals 10) 0) 0)), ((aggAt (tupAt (vals 10) 0) 1))], .agg #[((aggAt (tupAt (vals 10) 1) 0)), ((aggAt (tupAt (vals 10) 1) 1))], .bool ((joinF x4 x5 (((terms (reachF x4 x5 x6 x7).1).getD ((x10).toNat) [])) (((terms (reachF x4 x5 x6 x7).1).getD ((x11).toNat) [])) x7).2.2.2.2)] : Value))]) ⟨(e10).symm, e11, trivial⟩]
   refine XG.op (XOp.extract (.agg #[((aggAt (tupAt (vals 10) 0) 0)), ((aggAt (tupAt (vals 10) 0) 1))]) rfl rfl ?_)
   exact ⟨rfl, rfl⟩
  refine gC (fun vals Fs R leFs hpZ => ?_) ?_
  ·obtain ⟨e10, f10_7hr1, f10_7hr2, f10_7hr3, f10_7hr4⟩ := hpZ 10 (by decide)
   have e11 : vals 11 = (.tuple #[.agg #[((aggAt (tupAt (vals 10) 0) 0)), ((aggAt (tupAt (vals 10) 0) 1))], .agg #[((aggAt (tupAt (vals 10) 1) 0)), ((aggAt (tupAt (vals 10) 1) 1))], .bool ((joinF x4 x5 (((terms (reachF x4 x5 x6 x7).1).getD ((x10).toNat) [])) (((terms (reachF x4 x5 x6 x7).1).getD ((x11).toNat) [])) x7).2.2.2.2)] : Value) := hpZ 11 (by decide)
   rw [eS (l := [(10, (.tuple #[.agg #[((aggAt (tupAt (vals 10) 0) 0)), ((aggAt (tupAt (vals 10) 0) 1))], .agg #[((aggAt (tupAt (vals 10) 1) 0)), ((aggAt (tupAt (vals 10) 1) 1))], .bool ((joinF x4 x5 (((terms (reachF x4 x5 x6 x7).1).getD ((x10).toNat) [])) (((terms (reachF x4 x5 x6 x7).1).getD ((x11).toNat) [])) x7).2.2.2.2)] : Value)), (11, (.tuple #[.agg #[((aggAt (tupAt (vals 10) 0) 0)), ((aggAt (tupAt (vals 10) 0) 1))], .agg #[((aggAt (tupAt (vals 10) 1) 0)), ((aggAt (tupAt (vals 10) 1) 1))], .bool ((joinF x4 x5 (((terms (reachF x4 x5 x6 x7).1).getD ((x10).toNat) [])) (((terms (reachF x4 x5 x6 x7).1).getD ((x11).toNat) [])) x7).2.2.2.2)] : Value))]) ⟨(e10).symm, e11, trivial⟩]
   refine XG.op (XOp.extract (.agg #[((aggAt (tupAt (vals 10) 1) 0)), ((aggAt (tupAt (vals 10) 1) 1))]) rfl rfl ?_)
   exact ⟨rfl, rfl⟩
  refine gC (fun vals Fs R leFs hpZ => ?_) ?_
  ·obtain ⟨e10, f10_7hr1, f10_7hr2, f10_7hr3, f10_7hr4⟩ := hpZ 10 (by decide)
   have e11 : vals 11 = (.tuple #[.agg #[((aggAt (tupAt (vals 10) 0) 0)), ((aggAt (tupAt (vals 10) 0) 1))], .agg #[((aggAt (tupAt (vals 10) 1) 0)), ((aggAt (tupAt (vals 10) 1) 1))], .bool ((joinF x4 x5 (((terms (reachF x4 x5 x6 x7).1).getD ((x10).toNat) [])) (((terms (reachF x4 x5 x6 x7).1).getD ((x11).toNat) [])) x7).2.2.2.2)] : Value) := hpZ 11 (by decide)
   rw [eS (l := [(10, (.tuple #[.agg #[((aggAt (tupAt (vals 10) 0) 0)), ((aggAt (tupAt (vals 10) 0) 1))], .agg #[((aggAt (tupAt (vals 10) 1) 0)), ((aggAt (tupAt (vals 10) 1) 1))], .bool ((joinF x4 x5 (((terms (reachF x4 x5 x6 x7).1).getD ((x10).toNat) [])) (((terms (reachF x4 x5 x6 x7).1).getD ((x11).toNat) [])) x7).2.2.2.2)] : Value)), (11, (.tuple #[.agg #[((aggAt (tupAt (vals 10) 0) 0)), ((aggAt (tupAt (vals 10) 0) 1))], .agg #[((aggAt (tupAt (vals 10) 1) 0)), ((aggAt (tupAt (vals 10) 1) 1))], .bool ((joinF x4 x5 (((terms (reachF x4 x5 x6 x7).1).getD ((x10).toNat) [])) (((terms (reachF x4 x5 x6 x7).1).getD ((x11).toNat) [])) x7).2.2.2.2)] : Value))]) ⟨(e10).symm, e11, trivial⟩]
   refine XG.op (XOp.extract (.bool ((joinF x4 x5 (((terms (reachF x4 x5 x6 x7).1).getD ((x10).toNat) [])) (((terms (reachF x4 x5 x6 x7).1).getD ((x11).toNat) [])) x7).2.2.2.2)) rfl rfl ?_)
   exact ⟨rfl, rfl⟩
  refine gC (fun vals Fs R leFs hpZ => ?_) ?_
  ·replace hbs := hbs.mono leFs
   replace hr1 := hr1.mono leFs
   replace hr2 := hr2.mono leFs
   replace hr6 := hr6.mono leFs
   replace ha1 := ha1.mono leFs
   replace ha3 := ha3.mono leFs
   replace hr11 := Rd.monoA hr11 leFs
   replace hr19 := Rd.monoA hr19 leFs
   refine XG.op (XOp.alloc [(.slice none 0 0), (.slice none 0 0)] zeroValue34 rfl ?_)
   intro b7
   exact ⟨rfl, rfl⟩
  refine gC (fun vals Fs R leFs hpZ => ?_) ?_
  ·replace hbs := hbs.mono leFs
   replace hr1 := hr1.mono leFs
   replace hr2 := hr2.mono leFs
   replace hr6 := hr6.mono leFs
   replace ha1 := ha1.mono leFs
   replace ha3 := ha3.mono leFs
   replace hr11 := Rd.monoA hr11 leFs
   replace hr19 := Rd.monoA hr19 leFs
   refine XG.op (XOp.alloc [(.slice none 0 0), (.slice none 0 0)] zeroValue34 rfl ?_)
   intro b8
   exact ⟨rfl, rfl⟩
  refine gC (fun vals Fs R leFs hpZ => ?_) ?_
  ·obtain ⟨e10, f10_7hr1, f10_7hr2, f10_7hr3, f10_7hr4⟩ := hpZ 10 (by decide)
   have e12 : vals 12 = (.agg #[((aggAt (tupAt (vals 10) 0) 0)), ((aggAt (tupAt (vals 10) 0) 1))] : Value) := hpZ 12 (by decide)
   have e15 : vals 15 = ptr (blk (vals 15)) 0 := hpZ 15 (by decide)
   replace hbs := hbs.mono leFs
   replace hr1 := hr1.mono leFs
   replace hr2 := hr2.mono leFs
   replace hr6 := hr6.mono leFs
   replace ha1 := ha1.mono leFs
   replace ha3 := ha3.mono leFs
   replace hr11 := Rd.monoA hr11 leFs
   replace hr19 := Rd.monoA hr19 leFs
   rw [eS (l := [(10, (.tuple #[.agg #[((aggAt (tupAt (vals 10) 0) 0)), ((aggAt (tupAt (vals 10) 0) 1))], .agg #[((aggAt (tupAt (vals 10) 1) 0)), ((aggAt (tupAt (vals 10) 1) 1))], .bool ((joinF x4 x5 (((terms (reachF x4 x5 x6 x7).1).getD ((x10).toNat) [])) (((terms (reachF x4 x5 x6 x7).1).getD ((x11).toNat) [])) x7).2.2.2.2)] : Value)), (12, (.agg #[((aggAt (tupAt (vals 10) 0) 0)), ((aggAt (tupAt (vals 10) 0) 1))] : Value)), (15, ptr (blk (vals 15)) 0)]) ⟨(e10).symm, e12, e15, trivial⟩]
   show XG _ _ _ _ _ (cellsH (blk (vals 15)) [(.slice none 0 0), (.slice none 0 0)] 34 :: ([cellsH b4 [u1, u2] 34, curH .u64 110 cb1 bsv bs.length, cellsH b1 [x1, x2] 29] ++ R)) _
   refine XG.op (XOp.storeN [] _ [((aggAt (tupAt (vals 10) 0) 0)), ((aggAt (tupAt (vals 10) 0) 1))] sizeOf34 rfl rfl rfl (ones_cons (one_sl (IntsF.isSl f10_7hr1)) (ones_cons (one_sl (StepsF.isSl f10_7hr2)) ones_nil)) rfl rfl rfl ?_)
   exact ⟨trivial, rfl⟩
  refine gC (fun vals Fs R leFs hpZ => ?_) ?_
  ·obtain ⟨e10, f10_7hr1, f10_7hr2, f10_7hr3, f10_7hr4⟩ := hpZ 10 (by decide)
   have e13 : vals 13 = (.agg #[((aggAt (tupAt (vals 10) 1) 0)), ((aggAt (tupAt (vals 10) 1) 1))] : Value) := hpZ 13 (by decide)
   have e16 : vals 16 = ptr (blk (vals 16)) 0 := hpZ 16 (by decide)
   replace hbs := hbs.mono leFs
   replace hr1 := hr1.mono leFs
   replace hr2 := hr2.mono leFs
   replace hr6 := hr6.mono leFs
   replace ha1 := ha1.mono leFs
   replace ha3 := ha3.mono leFs
   replace hr11 := Rd.monoA hr11 leFs
   replace hr19 := Rd.monoA hr19 leFs
   rw [eS (l := [(10, (.tuple #[.agg #[((aggAt (tupAt (vals 10) 0) 0)), ((aggAt (tupAt (vals 10) 0) 1))], .agg #[((aggAt (tupAt (vals 10) 1) 0)), ((aggAt (tupAt (vals 10) 1) 1))], .bool ((joinF x4 x5 (((terms (reachF x4 x5 x6 x7).1).getD ((x10).toNat) [])) (((terms (reachF x4 x5 x6 x7).1).getD ((x11).toNat) [])) x7).2.2.2.2)] : Value)), (13, (.agg #[((aggAt (tupAt (vals 10) 1) 0)), ((aggAt (tupAt (vals 10) 1) 1))] : Value)), (16, ptr (blk (vals 16)) 0)]) ⟨(e10).symm, e13, e16, trivial⟩]
   show XG _ _ _ _ _ (cellsH (blk (vals 16)) [(.slice none 0 0), (.slice none 0 0)] 34 :: ([cellsH b4 [u1, u2] 34, curH .u64 110 cb1 bsv bs.length, cellsH b1 [x1, x2] 29] ++ R)) _
   refine XG.op (XOp.storeN [] _ [((aggAt (tupAt (vals 10) 1) 0)), ((aggAt (tupAt (vals 10) 1) 1))] sizeOf34 rfl rfl rfl (ones_cons (one_sl (IntsF.isSl f10_7hr3)) (ones_cons (one_sl (StepsF.isSl f10_7hr4)) ones_nil)) rfl rfl rfl ?_)
   exact ⟨trivial, rfl⟩
  exact stepsG.nil
 intro vals F13 le13 hphi
 obtain ⟨e10, f10_7hr1, f10_7hr2, f10_7hr3, f10_7hr4⟩ := hphi 10 (by decide)
 have e11 : vals 11 = (.tuple #[.agg #[((aggAt (tupAt (vals 10) 0) 0)), ((aggAt (tupAt (vals 10) 0) 1))], .agg #[((aggAt (tupAt (vals 10) 1) 0)), ((aggAt (tupAt (vals 10) 1) 1))], .bool ((joinF x4 x5 (((terms (reachF x4 x5 x6 x7).1).getD ((x10).toNat) [])) (((terms (reachF x4 x5 x6 x7).1).getD ((x11).toNat) [])) x7).2.2.2.2)] : Value) := hphi 11 (by decide)
 have e12 : vals 12 = (.agg #[((aggAt (tupAt (vals 10) 0) 0)), ((aggAt (tupAt (vals 10) 0) 1))] : Value) := hphi 12 (by decide)
 have e13 : vals 13 = (.agg #[((aggAt (tupAt (vals 10) 1) 0)), ((aggAt (tupAt (vals 10) 1) 1))] : Value) := hphi 13 (by decide)
 have e15 : vals 15 = ptr (blk (vals 15)) 0 := hphi 15 (by decide)
 have e16 : vals 16 = ptr (blk (vals 16)) 0 := hphi 16 (by decide)
 generalize hu5 : ((aggAt (tupAt (vals 10) 0) 0)) = u4 at e10 f10_7hr1 f10_7hr2 f10_7hr3 f10_7hr4 e11 e12 e13 e15 e16
 generalize hu6 : ((aggAt (tupAt (vals 10) 0) 1)) = u5 at e10 f10_7hr1 f10_7hr2 f10_7hr3 f10_7hr4 e11 e12 e13 e15 e16
 generalize hu7 : ((aggAt (tupAt (vals 10) 1) 0)) = u6 at e10 f10_7hr1 f10_7hr2 f10_7hr3 f10_7hr4 e11 e12 e13 e15 e16
 generalize hu8 : ((aggAt (tupAt (vals 10) 1) 1)) = u7 at e10 f10_7hr1 f10_7hr2 f10_7hr3 f10_7hr4 e11 e12 e13 e15 e16
 generalize hu9 : blk (vals 15) = b9 at e10 f10_7hr1 f10_7hr2 f10_7hr3 f10_7hr4 e11 e12 e13 e15 e16
 generalize hu10 : blk (vals 16) = b10 at e10 f10_7hr1 f10_7hr2 f10_7hr3 f10_7hr4 e11 e12 e13 e15 e16
 rw [eS (l := [(10, (.tuple #[.agg #[u4, u5], .agg #[u6, u7], .bool ((joinF x4 x5 (((terms (reachF x4 x5 x6 x7).1).getD ((x10).toNat) [])) (((terms (reachF x4 x5 x6 x7).1).getD ((x11).toNat) [])) x7).2.2.2.2)] : Value)), (14, (.bool ((joinF x4 x5 (((terms (reachF x4 x5 x6 x7).1).getD ((x10).toNat) [])) (((terms (reachF x4 x5 x6 x7).1).getD ((x11).toNat) [])) x7).2.2.2.2) : Value)), (15, ptr b9 0), (16, ptr b10 0)]) ⟨(e10).symm, (hphi 14 (by decide)), e15, e16, trivial⟩]
 replace hbs := hbs.mono le13
 replace hr1 := hr1.mono le13
 replace hr2 := hr2.mono le13
 replace hr6 := hr6.mono le13
 replace ha1 := ha1.mono le13
 replace ha3 := ha3.mono le13
 replace hr11 := Rd.monoA hr11 le13
 replace hr19 := Rd.monoA hr19 le13
 show XL _ _ _ _ _ _ _ (cellsH b9 [u4, u5] 34 :: cellsH b10 [u6, u7] 34 :: cellsH b4 [u1, u2] 34 :: curH .u64 110 cb1 bsv bs.length :: cellsH b1 [x1, x2] 29 :: L)
 refine XL.as (.bool ((joinF x4 x5 (((terms (reachF x4 x5 x6 x7).1).getD ((x10).toNat) [])) (((terms (reachF x4 x5 x6 x7).1).getD ((x11).toNat) [])) x7).2.2.2.2)) rfl (XL.nil (X.seq (X.seq ?_)))
 by_cases h10 : ((joinF x4 x5 (((terms (reachF x4 x5 x6 x7).1).getD ((x10).toNat) [])) (((terms (reachF x4 x5 x6 x7).1).getD ((x11).toNat) [])) x7).2.2.2.2) ≠ ((joinF x4 x5 (((terms (reachF x4 x5 x6 x7).1).getD ((x10).toNat) [])) (((terms (reachF x4 x5 x6 x7).1).getD ((x11).toNat) [])) x7).2.2.2.2)
 ·exact absurd rfl h10
 refine X.drawG [cellsH b9 [u4, u5] 34, cellsH b10 [u6, u7] 34, cellsH b4 [u1, u2] 34, curH .u64 110 cb1 bsv bs.length, cellsH b1 [x1, x2] 29] L 26 [[], [], [], [], [], [], [], [], [], [], [], [], [], [], [], [], [], [], [], [], [], [], [], [], [], []] [[], [], [], [], [2, 3], [4], [], [], [6, 7], [8], [], [1, 5, 9, 10], [0, 11], [12], [13], [13], [13], [13], [13, 16, 17], [13, 18], [13], [13], [13, 20, 21], [13, 22], [13], [13, 15, 19, 23, 24]] [[], [], [], [], [], [], [], [], [], [], [], [], [], [], [], [], [], [], [], [], [], [], [], [], [], []] (phiG [fun FF us v => v = (.bool ((joinF x4 x5 (((terms (reachF x4 x5 x6 x7).1).getD ((x10).toNat) [])) (((terms (reachF x4 x5 x6 x7).1).getD ((x11).toNat) [])) x7).2.2.2.2) : Value), fun FF us v => v = (.agg #[x1, x2] : Value), fun FF us v => v = x8, fun FF us v => v = (.int .i64 (x10) : Value), fun FF us v => v = (.pointer (some (elemA x8 ((x10).toNat))) : Value), fun FF us v => v = a1, fun FF us v => v = x8, fun FF us v => v = (.int .i64 (x11) : Value), fun FF us v => v = (.pointer (some (elemA x8 ((x11).toNat))) : Value), fun FF us v => v = a3, fun FF us v => v = (.int .i64 (x7) : Value), fun FF us v => (.bool ((joinF x4 x5 (((terms (reachF x4 x5 x6 x7).1).getD ((x10).toNat) [])) (((terms (reachF x4 x5 x6 x7).1).getD ((x11).toNat) [])) x7).2.2.2.2) : Value) = v, fun FF us v => v = (.bool (decide (((joinF x4 x5 (((terms (reachF x4 x5 x6 x7).1).getD ((x10).toNat) [])) (((terms (reachF x4 x5 x6 x7).1).getD ((x11).toNat) [])) x7).2.2.2.2) ≠ ((joinF x4 x5 (((terms (reachF x4 x5 x6 x7).1).getD ((x10).toNat) [])) (((terms (reachF x4 x5 x6 x7).1).getD ((x11).toNat) [])) x7).2.2.2.2))) : Value), fun FF us v => v = (.bool (decide (((joinF x4 x5 (((terms (reachF x4 x5 x6 x7).1).getD ((x10).toNat) [])) (((terms (reachF x4 x5 x6 x7).1).getD ((x11).toNat) [])) x7).2.2.2.2) ≠ ((joinF x4 x5 (((terms (reachF x4 x5 x6 x7).1).getD ((x10).toNat) [])) (((terms (reachF x4 x5 x6 x7).1).getD ((x11).toNat) [])) x7).2.2.2.2))) : Value), fun FF us v => v = (.bool ((joinF x4 x5 (((terms (reachF x4 x5 x6 x7).1).getD ((x10).toNat) [])) (((terms (reachF x4 x5 x6 x7).1).getD ((x11).toNat) [])) x7).2.2.2.2) : Value), fun FF us v => v = (.agg #[x1, x2] : Value), fun FF us v => v = x8, fun FF us v => v = (.int .i64 (x10) : Value), fun FF us v => v = (.pointer (some (elemA x8 ((x10).toNat))) : Value), fun FF us v => v = a1, fun FF us v => v = x8, fun FF us v => v = (.int .i64 (x11) : Value), fun FF us v => v = (.pointer (some (elemA x8 ((x11).toNat))) : Value), fun FF us v => v = a3, fun FF us v => v = (.int .i64 (x7) : Value), fun FF us v => (.bool ((joinF x4 x5 (((terms (reachF x4 x5 x6 x7).1).getD ((x10).toNat) [])) (((terms (reachF x4 x5 x6 x7).1).getD ((x11).toNat) [])) x7).2.2.2.2) : Value) = v]) (ownL [fun us v => [], fun us v => [], fun us v => [], fun us v => [], fun us v => [], fun us v => [], fun us v => [], fun us v => [], fun us v => [], fun us v => [], fun us v => [], fun us v => [], fun us v => [], fun us v => [], fun us v => [], fun us v => [], fun us v => [], fun us v => [], fun us v => [], fun us v => [], fun us v => [], fun us v => [], fun us v => [], fun us v => [], fun us v => [], fun us v => []]) mixed rfl rfl (by kernel_rfl) (by kernel_rfl) (MonoG.get (mC (fun le h => h) (mC (fun le h => h) (mC (fun le h => h) (mC (fun le h => h) (mC (fun le h => h) (mC (fun le h => h) (mC (fun le h => h) (mC (fun le h => h) (mC (fun le h => h) (mC (fun le h => h) (mC (fun le h => h) (mC (fun le h => h) (mC (fun le h => h) (mC (fun le h => h) (mC (fun le h => h) (mC (fun le h => h) (mC (fun le h => h) (mC (fun le h => h) (mC (fun le h => h) (mC (fun le h => h) (mC (fun le h => h) (mC (fun le h => h) (mC (fun le h => h) (mC (fun le h => h) (mC (fun le h => h) (mC (fun le h => h) MonoG.nil))))))))))))))))))))))))))) ?_ ?_
 ·refine gC (fun vals Fs R leFs hpZ => ?_) ?_
  ·refine XG.op (XOp.move (.bool ((joinF x4 x5 (((terms (reachF x4 x5 x6 x7).1).getD ((x10).toNat) [])) (((terms (reachF x4 x5 x6 x7).1).getD ((x11).toNat) [])) x7).2.2.2.2)) rfl ?_)
   exact ⟨rfl, rfl⟩
  refine gC (fun vals Fs R leFs hpZ => ?_) ?_
  ·replace hbs := hbs.mono leFs
   replace hr1 := hr1.mono leFs
   replace hr2 := hr2.mono leFs
   replace hr6 := hr6.mono leFs
   replace ha1 := ha1.mono leFs
   replace ha3 := ha3.mono leFs
   replace f10_7hr1 := f10_7hr1.mono leFs
   replace f10_7hr2 := f10_7hr2.mono leFs
   replace f10_7hr3 := f10_7hr3.mono leFs
   replace f10_7hr4 := f10_7hr4.mono leFs
   replace hr11 := Rd.monoA hr11 leFs
   replace hr19 := Rd.monoA hr19 leFs
   refine XG.op (XOp.loadN [x1, x2] isAgg29 sizeOf29 rfl rfl (Rd.ownN [_, _, _, _] rfl rfl) ?_)
   exact ⟨rfl, rfl⟩
  refine gC (fun vals Fs R leFs hpZ => ?_) ?_
  ·refine XG.op (XOp.move (x8) rfl ?_)
   exact ⟨rfl, rfl⟩
  refine gC (fun vals Fs R leFs hpZ => ?_) ?_
  ·refine XG.op (XOp.move (.int .i64 (x10)) rfl ?_)
   exact ⟨rfl, rfl⟩
  refine gC (fun vals Fs R leFs hpZ => ?_) ?_
  ·replace hbs := hbs.mono leFs
   replace hr1 := hr1.mono leFs
   replace hr2 := hr2.mono leFs
   replace hr6 := hr6.mono leFs
   replace ha1 := ha1.mono leFs
   replace ha3 := ha3.mono leFs
   replace f10_7hr1 := f10_7hr1.mono leFs
   replace f10_7hr2 := f10_7hr2.mono leFs
   replace f10_7hr3 := f10_7hr3.mono leFs
   replace f10_7hr4 := f10_7hr4.mono leFs
   replace hr11 := Rd.monoA hr11 leFs
   replace hr19 := Rd.monoA hr19 leFs
   rw [eS (l := [(2, x8), (3, (.int .i64 (x10) : Value))]) ⟨(hpZ 2 (by decide)), (hpZ 3 (by decide)), trivial⟩]
   refine XG.op (XOp.indexS ((x10).toNat) runUnderlying47 sizeOf24 rfl rfl (by omega) hr6.slv (by omega) (Nat.mul_one _) ?_)
   exact ⟨rfl, rfl⟩
  refine gC (fun vals Fs R leFs hpZ => ?_) ?_
  ·replace hbs := hbs.mono leFs
   replace hr1 := hr1.mono leFs
   replace hr2 := hr2.mono leFs
   replace hr6 := hr6.mono leFs
   replace ha1 := ha1.mono leFs
   replace ha3 := ha3.mono leFs
   replace f10_7hr1 := f10_7hr1.mono leFs
   replace f10_7hr2 := f10_7hr2.mono leFs
   replace f10_7hr3 := f10_7hr3.mono leFs
   replace f10_7hr4 := f10_7hr4.mono leFs
   replace hr11 := Rd.monoA hr11 leFs
   replace hr19 := Rd.monoA hr19 leFs
   rw [eS (l := [(4, (.pointer (some (elemA x8 ((x10).toNat))) : Value))]) ⟨(hpZ 4 (by decide)), trivial⟩]
   refine XG.op (XOp.load1 isAgg24 rfl (hr11 _) ?_)
   exact ⟨rfl, rfl⟩
  refine gC (fun vals Fs R leFs hpZ => ?_) ?_
  ·refine XG.op (XOp.move (x8) rfl ?_)
   exact ⟨rfl, rfl⟩
  refine gC (fun vals Fs R leFs hpZ => ?_) ?_
  ·refine XG.op (XOp.move (.int .i64 (x11)) rfl ?_)
   exact ⟨rfl, rfl⟩
  refine gC (fun vals Fs R leFs hpZ => ?_) ?_
  ·replace hbs := hbs.mono leFs
   replace hr1 := hr1.mono leFs
   replace hr2 := hr2.mono leFs
   replace hr6 := hr6.mono leFs
   replace ha1 := ha1.mono leFs
   replace ha3 := ha3.mono leFs
   replace f10_7hr1 := f10_7hr1.mono leFs
   replace f10_7hr2 := f10_7hr2.mono leFs
   replace f10_7hr3 := f10_7hr3.mono leFs
   replace f10_7hr4 := f10_7hr4.mono leFs
   replace hr11 := Rd.monoA hr11 leFs
   replace hr19 := Rd.monoA hr19 leFs
   rw [eS (l := [(6, x8), (7, (.int .i64 (x11) : Value))]) ⟨(hpZ 6 (by decide)), (hpZ 7 (by decide)), trivial⟩]
   refine XG.op (XOp.indexS ((x11).toNat) runUnderlying47 sizeOf24 rfl rfl (by omega) hr6.slv (by omega) (Nat.mul_one _) ?_)
   exact ⟨rfl, rfl⟩
  refine gC (fun vals Fs R leFs hpZ => ?_) ?_
  ·replace hbs := hbs.mono leFs
   replace hr1 := hr1.mono leFs
   replace hr2 := hr2.mono leFs
   replace hr6 := hr6.mono leFs
   replace ha1 := ha1.mono leFs
   replace ha3 := ha3.mono leFs
   replace f10_7hr1 := f10_7hr1.mono leFs
   replace f10_7hr2 := f10_7hr2.mono leFs
   replace f10_7hr3 := f10_7hr3.mono leFs
   replace f10_7hr4 := f10_7hr4.mono leFs
   replace hr11 := Rd.monoA hr11 leFs
   replace hr19 := Rd.monoA hr19 leFs
   rw [eS (l := [(8, (.pointer (some (elemA x8 ((x11).toNat))) : Value))]) ⟨(hpZ 8 (by decide)), trivial⟩]
   refine XG.op (XOp.load1 isAgg24 rfl (hr19 _) ?_)
   exact ⟨rfl, rfl⟩
  refine gC (fun vals Fs R leFs hpZ => ?_) ?_
  ·refine XG.op (XOp.move (.int .i64 (x7)) rfl ?_)
   exact ⟨rfl, rfl⟩
  refine gC (fun vals Fs R leFs hpZ => ?_) ?_
  ·replace hbs := hbs.mono leFs
   replace hr1 := hr1.mono leFs
   replace hr2 := hr2.mono leFs
   replace hr6 := hr6.mono leFs
   replace ha1 := ha1.mono leFs
   replace ha3 := ha3.mono leFs
   replace f10_7hr1 := f10_7hr1.mono leFs
   replace f10_7hr2 := f10_7hr2.mono leFs
   replace f10_7hr3 := f10_7hr3.mono leFs
   replace f10_7hr4 := f10_7hr4.mono leFs
   replace hr11 := Rd.monoA hr11 leFs
   replace hr19 := Rd.monoA hr19 leFs
   rw [eS (l := [(1, (.agg #[x1, x2] : Value)), (5, a1), (9, a3), (10, (.int .i64 (x7) : Value))]) ⟨(hpZ 1 (by decide)), (hpZ 5 (by decide)), (hpZ 9 (by decide)), (hpZ 10 (by decide)), trivial⟩]
   refine XG.op (XOp.call (args := [.agg #[x1, x2], a1, a3, .int .i64 (x7)]) call26 rfl (sJoinsIn_spec (n := x7) hr1 hr2 ha1 ha3 (hla := (by first | assumption | rfl | omega | simp)) (hlr := (by first | assumption | rfl | omega | simp)) (hrb := (by first | assumption | rfl | omega | simp)) (hla9 := (by first | assumption | rfl | omega | simp)) (hlb9 := (by first | assumption | rfl | omega | simp))) ?_)
   rintro _ F17 _ le17 ⟨rfl, rfl⟩
   replace hbs := hbs.mono le17
   replace hr1 := hr1.mono le17
   replace hr2 := hr2.mono le17
   replace hr6 := hr6.mono le17
   replace ha1 := ha1.mono le17
   replace ha3 := ha3.mono le17
   replace f10_7hr1 := f10_7hr1.mono le17
   replace f10_7hr2 := f10_7hr2.mono le17
   replace f10_7hr3 := f10_7hr3.mono le17
   replace f10_7hr4 := f10_7hr4.mono le17
   replace hr11 := Rd.monoA hr11 le17
   replace hr19 := Rd.monoA hr19 le17
   exact ⟨rfl, rfl⟩
  refine gC (fun vals Fs R leFs hpZ => ?_) ?_
  ·have e11 : (.bool ((joinF x4 x5 (((terms (reachF x4 x5 x6 x7).1).getD ((x10).toNat) [])) (((terms (reachF x4 x5 x6 x7).1).getD ((x11).toNat) [])) x7).2.2.2.2) : Value) = (vals 11) := hpZ 11 (by decide)
   rw [eS (l := [(0, (.bool ((joinF x4 x5 (((terms (reachF x4 x5 x6 x7).1).getD ((x10).toNat) [])) (((terms (reachF x4 x5 x6 x7).1).getD ((x11).toNat) [])) x7).2.2.2.2) : Value)), (11, (.bool ((joinF x4 x5 (((terms (reachF x4 x5 x6 x7).1).getD ((x10).toNat) [])) (((terms (reachF x4 x5 x6 x7).1).getD ((x11).toNat) [])) x7).2.2.2.2) : Value))]) ⟨(hpZ 0 (by decide)), (e11).symm, trivial⟩]
   refine XG.op (XOp.neB (a := (joinF x4 x5 (((terms (reachF x4 x5 x6 x7).1).getD ((x10).toNat) [])) (((terms (reachF x4 x5 x6 x7).1).getD ((x11).toNat) [])) x7).2.2.2.2) (b := (joinF x4 x5 (((terms (reachF x4 x5 x6 x7).1).getD ((x10).toNat) [])) (((terms (reachF x4 x5 x6 x7).1).getD ((x11).toNat) [])) x7).2.2.2.2) runUnderlying4 rfl rfl ?_)
   exact ⟨rfl, rfl⟩
  refine gC (fun vals Fs R leFs hpZ => ?_) ?_
  ·rw [eS (l := [(12, (.bool (decide (((joinF x4 x5 (((terms (reachF x4 x5 x6 x7).1).getD ((x10).toNat) [])) (((terms (reachF x4 x5 x6 x7).1).getD ((x11).toNat) [])) x7).2.2.2.2) ≠ ((joinF x4 x5 (((terms (reachF x4 x5 x6 x7).1).getD ((x10).toNat) [])) (((terms (reachF x4 x5 x6 x7).1).getD ((x11).toNat) [])) x7).2.2.2.2))) : Value))]) ⟨(hpZ 12 (by decide)), trivial⟩]
   refine XG.op (XOp.move (.bool (decide (((joinF x4 x5 (((terms (reachF x4 x5 x6 x7).1).getD ((x10).toNat) [])) (((terms (reachF x4 x5 x6 x7).1).getD ((x11).toNat) [])) x7).2.2.2.2) ≠ ((joinF x4 x5 (((terms (reachF x4 x5 x6 x7).1).getD ((x10).toNat) [])) (((terms (reachF x4 x5 x6 x7).1).getD ((x11).toNat) [])) x7).2.2.2.2)))) rfl ?_)
   exact ⟨rfl, rfl⟩
  refine gC (fun vals Fs R leFs hpZ => ?_) ?_
  ·rw [eS (l := [(13, (.bool (decide (((joinF x4 x5 (((terms (reachF x4 x5 x6 x7).1).getD ((x10).toNat) [])) (((terms (reachF x4 x5 x6 x7).1).getD ((x11).toNat) [])) x7).2.2.2.2) ≠ ((joinF x4 x5 (((terms (reachF x4 x5 x6 x7).1).getD ((x10).toNat) [])) (((terms (reachF x4 x5 x6 x7).1).getD ((x11).toNat) [])) x7).2.2.2.2))) : Value))]) ⟨(hpZ 13 (by decide)), trivial⟩]
   refine XG.yes (t := 142) rfl (vF h10) (XOp.move (.bool ((joinF x4 x5 (((terms (reachF x4 x5 x6 x7).1).getD ((x10).toNat) [])) (((terms (reachF x4 x5 x6 x7).1).getD ((x11).toNat) [])) x7).2.2.2.2)) rfl ?_)
   exact ⟨rfl, rfl⟩
  refine gC (fun vals Fs R leFs hpZ => ?_) ?_
  ·replace hbs := hbs.mono leFs
   replace hr1 := hr1.mono leFs
   replace hr2 := hr2.mono leFs
   replace hr6 := hr6.mono leFs
   replace ha1 := ha1.mono leFs
   replace ha3 := ha3.mono leFs
   replace f10_7hr1 := f10_7hr1.mono leFs
   replace f10_7hr2 := f10_7hr2.mono leFs
   replace f10_7hr3 := f10_7hr3.mono leFs
   replace f10_7hr4 := f10_7hr4.mono leFs
   replace hr11 := Rd.monoA hr11 leFs
   replace hr19 := Rd.monoA hr19 leFs
   rw [eS (l := [(13, (.bool (decide (((joinF x4 x5 (((terms (reachF x4 x5 x6 x7).1).getD ((x10).toNat) [])) (((terms (reachF x4 x5 x6 x7).1).getD ((x11).toNat) [])) x7).2.2.2.2) ≠ ((joinF x4 x5 (((terms (reachF x4 x5 x6 x7).1).getD ((x10).toNat) [])) (((terms (reachF x4 x5 x6 x7).1).getD ((x11).toNat) [])) x7).2.2.2.2))) : Value))]) ⟨(hpZ 13 (by decide)), trivial⟩]
   refine XG.yes (t := 142) rfl (vF h10) (XOp.loadN [x1, x2] isAgg29 sizeOf29 rfl rfl (Rd.ownN [_, _, _, _] rfl rfl) ?_)
   exact ⟨rfl, rfl⟩
  refine gC (fun vals Fs R leFs hpZ => ?_) ?_
  ·rw [eS (l := [(13, (.bool (decide (((joinF x4 x5 (((terms (reachF x4 x5 x6 x7).1).getD ((x10).toNat) [])) (((terms (reachF x4 x5 x6 x7).1).getD ((x11).toNat) [])) x7).2.2.2.2) ≠ ((joinF x4 x5 (((terms (reachF x4 x5 x6 x7).1).getD ((x10).toNat) [])) (((terms (reachF x4 x5 x6 x7).1).getD ((x11).toNat) [])) x7).2.2.2.2))) : Value))]) ⟨(hpZ 13 (by decide)), trivial⟩]
   refine XG.yes (t := 142) rfl (vF h10) (XOp.move (x8) rfl ?_)
   exact ⟨rfl, rfl⟩
  refine gC (fun vals Fs R leFs hpZ => ?_) ?_
  ·rw [eS (l := [(13, (.bool (decide (((joinF x4 x5 (((terms (reachF x4 x5 x6 x7).1).getD ((x10).toNat) [])) (((terms (reachF x4 x5 x6 x7).1).getD ((x11).toNat) [])) x7).2.2.2.2) ≠ ((joinF x4 x5 (((terms (reachF x4 x5 x6 x7).1).getD ((x10).toNat) [])) (((terms (reachF x4 x5 x6 x7).1).getD ((x11).toNat) [])) x7).2.2.2.2))) : Value))]) ⟨(hpZ 13 (by decide)), trivial⟩]
   refine XG.yes (t := 142) rfl (vF h10) (XOp.move (.int .i64 (x10)) rfl ?_)
   exact ⟨rfl, rfl⟩
  refine gC (fun vals Fs R leFs hpZ => ?_) ?_
  ·replace hbs := hbs.mono leFs
   replace hr1 := hr1.mono leFs
   replace hr2 := hr2.mono leFs
   replace hr6 := hr6.mono leFs
   replace ha1 := ha1.mono leFs
   replace ha3 := ha3.mono leFs
   replace f10_7hr1 := f10_7hr1.mono leFs
   replace f10_7hr2 := f10_7hr2.mono leFs
   replace f10_7hr3 := f10_7hr3.mono leFs
   replace f10_7hr4 := f10_7hr4.mono leFs
   replace hr11 := Rd.monoA hr11 leFs
   replace hr19 := Rd.monoA hr19 leFs
   rw [eS (l := [(13, (.bool (decide (((joinF x4 x5 (((terms (reachF x4 x5 x6 x7).1).getD ((x10).toNat) [])) (((terms (reachF x4 x5 x6 x7).1).getD ((x11).toNat) [])) x7).2.2.2.2) ≠ ((joinF x4 x5 (((terms (reachF x4 x5 x6 x7).1).getD ((x10).toNat) [])) (((terms (reachF x4 x5 x6 x7).1).getD ((x11).toNat) [])) x7).2.2.2.2))) : Value)), (16, x8), (17, (.int .i64 (x10) : Value))]) ⟨(hpZ 13 (by decide)), (hpZ 16 (by decide)), (hpZ 17 (by decide)), trivial⟩]
   refine XG.yes (t := 142) rfl (vF h10) (XOp.indexS ((x10).toNat) runUnderlying47 sizeOf24 rfl rfl (by omega) hr6.slv (by omega) (Nat.mul_one _) ?_)
   exact ⟨rfl, rfl⟩
  refine gC (fun vals Fs R leFs hpZ => ?_) ?_
  ·replace hbs := hbs.mono leFs
   replace hr1 := hr1.mono leFs
   replace hr2 := hr2.mono leFs
   replace hr6 := hr6.mono leFs
   replace ha1 := ha1.mono leFs
   replace ha3 := ha3.mono leFs
   replace f10_7hr1 := f10_7hr1.mono leFs
   replace f10_7hr2 := f10_7hr2.mono leFs
   replace f10_7hr3 := f10_7hr3.mono leFs
   replace f10_7hr4 := f10_7hr4.mono leFs
   replace hr11 := Rd.monoA hr11 leFs
   replace hr19 := Rd.monoA hr19 leFs
   rw [eS (l := [(13, (.bool (decide (((joinF x4 x5 (((terms (reachF x4 x5 x6 x7).1).getD ((x10).toNat) [])) (((terms (reachF x4 x5 x6 x7).1).getD ((x11).toNat) [])) x7).2.2.2.2) ≠ ((joinF x4 x5 (((terms (reachF x4 x5 x6 x7).1).getD ((x10).toNat) [])) (((terms (reachF x4 x5 x6 x7).1).getD ((x11).toNat) [])) x7).2.2.2.2))) : Value)), (18, (.pointer (some (elemA x8 ((x10).toNat))) : Value))]) ⟨(hpZ 13 (by decide)), (hpZ 18 (by decide)), trivial⟩]
   refine XG.yes (t := 142) rfl (vF h10) (XOp.load1 isAgg24 rfl (hr11 _) ?_)
   exact ⟨rfl, rfl⟩
  refine gC (fun vals Fs R leFs hpZ => ?_) ?_
  ·rw [eS (l := [(13, (.bool (decide (((joinF x4 x5 (((terms (reachF x4 x5 x6 x7).1).getD ((x10).toNat) [])) (((terms (reachF x4 x5 x6 x7).1).getD ((x11).toNat) [])) x7).2.2.2.2) ≠ ((joinF x4 x5 (((terms (reachF x4 x5 x6 x7).1).getD ((x10).toNat) [])) (((terms (reachF x4 x5 x6 x7).1).getD ((x11).toNat) [])) x7).2.2.2.2))) : Value))]) ⟨(hpZ 13 (by decide)), trivial⟩]
   refine XG.yes (t := 142) rfl (vF h10) (XOp.move (x8) rfl ?_)
   exact ⟨rfl, rfl⟩
  refine gC (fun vals Fs R leFs hpZ => ?_) ?_
  ·rw [eS (l := [(13, (.bool (decide (((joinF x4 x5 (((terms (reachF x4 x5 x6 x7).1).getD ((x10).toNat) [])) (((terms (reachF x4 x5 x6 x7).1).getD ((x11).toNat) [])) x7).2.2.2.2) ≠ ((joinF x4 x5 (((terms (reachF x4 x5 x6 x7).1).getD ((x10).toNat) [])) (((terms (reachF x4 x5 x6 x7).1).getD ((x11).toNat) [])) x7).2.2.2.2))) : Value))]) ⟨(hpZ 13 (by decide)), trivial⟩]
   refine XG.yes (t := 142) rfl (vF h10) (XOp.move (.int .i64 (x11)) rfl ?_)
   exact ⟨rfl, rfl⟩
  refine gC (fun vals Fs R leFs hpZ => ?_) ?_
  ·replace hbs := hbs.mono leFs
   replace hr1 := hr1.mono leFs
   replace hr2 := hr2.mono leFs
   replace hr6 := hr6.mono leFs
   replace ha1 := ha1.mono leFs
   replace ha3 := ha3.mono leFs
   replace f10_7hr1 := f10_7hr1.mono leFs
   replace f10_7hr2 := f10_7hr2.mono leFs
   replace f10_7hr3 := f10_7hr3.mono leFs
   replace f10_7hr4 := f10_7hr4.mono leFs
   replace hr19 := Rd.monoA hr19 leFs
   rw [eS (l := [(13, (.bool (decide (((joinF x4 x5 (((terms (reachF x4 x5 x6 x7).1).getD ((x10).toNat) [])) (((terms (reachF x4 x5 x6 x7).1).getD ((x11).toNat) [])) x7).2.2.2.2) ≠ ((joinF x4 x5 (((terms (reachF x4 x5 x6 x7).1).getD ((x10).toNat) [])) (((terms (reachF x4 x5 x6 x7).1).getD ((x11).toNat) [])) x7).2.2.2.2))) : Value)), (20, x8), (21, (.int .i64 (x11) : Value))]) ⟨(hpZ 13 (by decide)), (hpZ 20 (by decide)), (hpZ 21 (by decide)), trivial⟩]
   refine XG.yes (t := 142) rfl (vF h10) (XOp.indexS ((x11).toNat) runUnderlying47 sizeOf24 rfl rfl (by omega) hr6.slv (by omega) (Nat.mul_one _) ?_)
   exact ⟨rfl, rfl⟩
  refine gC (fun vals Fs R leFs hpZ => ?_) ?_
  ·replace hbs := hbs.mono leFs
   replace hr1 := hr1.mono leFs
   replace hr2 := hr2.mono leFs
   replace ha1 := ha1.mono leFs
   replace ha3 := ha3.mono leFs
   replace f10_7hr1 := f10_7hr1.mono leFs
   replace f10_7hr2 := f10_7hr2.mono leFs
   replace f10_7hr3 := f10_7hr3.mono leFs
   replace f10_7hr4 := f10_7hr4.mono leFs
   replace hr19 := Rd.monoA hr19 leFs
   rw [eS (l := [(13, (.bool (decide (((joinF x4 x5 (((terms (reachF x4 x5 x6 x7).1).getD ((x10).toNat) [])) (((terms (reachF x4 x5 x6 x7).1).getD ((x11).toNat) [])) x7).2.2.2.2) ≠ ((joinF x4 x5 (((terms (reachF x4 x5 x6 x7).1).getD ((x10).toNat) [])) (((terms (reachF x4 x5 x6 x7).1).getD ((x11).toNat) [])) x7).2.2.2.2))) : Value)), (22, (.pointer (some (elemA x8 ((x11).toNat))) : Value))]) ⟨(hpZ 13 (by decide)), (hpZ 22 (by decide)), trivial⟩]
   refine XG.yes (t := 142) rfl (vF h10) (XOp.load1 isAgg24 rfl (hr19 _) ?_)
   exact ⟨rfl, rfl⟩
  refine gC (fun vals Fs R leFs hpZ => ?_) ?_
  ·rw [eS (l := [(13, (.bool (decide (((joinF x4 x5 (((terms (reachF x4 x5 x6 x7).1).getD ((x10).toNat) [])) (((terms (reachF x4 x5 x6 x7).1).getD ((x11).toNat) [])) x7).2.2.2.2) ≠ ((joinF x4 x5 (((terms (reachF x4 x5 x6 x7).1).getD ((x10).toNat) [])) (((terms (reachF x4 x5 x6 x7).1).getD ((x11).toNat) [])) x7).2.2.2.2))) : Value))]) ⟨(hpZ 13 (by decide)), trivial⟩]
   refine XG.yes (t := 142) rfl (vF h10) (XOp.move (.int .i64 (x7)) rfl ?_)
   exact ⟨rfl, rfl⟩
  refine gC (fun vals Fs R leFs hpZ => ?_) ?_
  ·replace hbs := hbs.mono leFs
   replace hr1 := hr1.mono leFs
   replace hr2 := hr2.mono leFs
   replace ha1 := ha1.mono leFs
   replace ha3 := ha3.mono leFs
   replace f10_7hr1 := f10_7hr1.mono leFs
   replace f10_7hr2 := f10_7hr2.mono leFs
   replace f10_7hr3 := f10_7hr3.mono leFs
   replace f10_7hr4 := f10_7hr4.mono leFs
   rw [eS (l := [(13, (.bool (decide (((joinF x4 x5 (((terms (reachF x4 x5 x6 x7).1).getD ((x10).toNat) [])) (((terms (reachF x4 x5 x6 x7).1).getD ((x11).toNat) [])) x7).2.2.2.2) ≠ ((joinF x4 x5 (((terms (reachF x4 x5 x6 x7).1).getD ((x10).toNat) [])) (((terms (reachF x4 x5 x6 x7).1).getD ((x11).toNat) [])) x7).2.2.2.2))) : Value)), (15, (.agg #[x1, x2] : Value)), (19, a1), (23, a3), (24, (.int .i64 (x7) : Value))]) ⟨(hpZ 13 (by decide)), (hpZ 15 (by decide)), (hpZ 19 (by decide)), (hpZ 23 (by decide)), (hpZ 24 (by decide)), trivial⟩]
   refine XG.yes (t := 142) rfl (vF h10) (XOp.call (args := [.agg #[x1, x2], a1, a3, .int .i64 (x7)]) call27 rfl (JoinsIn_spec (n := x7) hr1 hr2 ha1 ha3 (hla9 := (by first | assumption | rfl | omega | simp)) (hlb9 := (by first | assumption | rfl | omega | simp))) ?_)
   rintro _ F18 _ le18 ⟨rfl, rfl⟩
   replace hbs := hbs.mono le18
   replace hr1 := hr1.mono le18
   replace hr2 := hr2.mono le18
   replace f10_7hr1 := f10_7hr1.mono le18
   replace f10_7hr2 := f10_7hr2.mono le18
   replace f10_7hr3 := f10_7hr3.mono le18
   replace f10_7hr4 := f10_7hr4.mono le18
   exact ⟨rfl, rfl⟩
  exact stepsG.nil
 intro vals F19 le19 hphi
 have e11 : (.bool ((joinF x4 x5 (((terms (reachF x4 x5 x6 x7).1).getD ((x10).toNat) [])) (((terms (reachF x4 x5 x6 x7).1).getD ((x11).toNat) [])) x7).2.2.2.2) : Value) = (vals 11) := hphi 11 (by decide)
 have e25 : (.bool ((joinF x4 x5 (((terms (reachF x4 x5 x6 x7).1).getD ((x10).toNat) [])) (((terms (reachF x4 x5 x6 x7).1).getD ((x11).toNat) [])) x7).2.2.2.2) : Value) = (vals 25) := hphi 25 (by decide)
 rw [eS (l := [(13, (.bool (decide (((joinF x4 x5 (((terms (reachF x4 x5 x6 x7).1).getD ((x10).toNat) [])) (((terms (reachF x4 x5 x6 x7).1).getD ((x11).toNat) [])) x7).2.2.2.2) ≠ ((joinF x4 x5 (((terms (reachF x4 x5 x6 x7).1).getD ((x10).toNat) [])) (((terms (reachF x4 x5 x6 x7).1).getD ((x11).toNat) [])) x7).2.2.2.2))) : Value)), (14, (.bool ((joinF x4 x5 (((terms (reachF x4 x5 x6 x7).1).getD ((x10).toNat) [])) (((terms (reachF x4 x5 x6 x7).1).getD ((x11).toNat) [])) x7).2.2.2.2) : Value)), (25, (.bool ((joinF x4 x5 (((terms (reachF x4 x5 x6 x7).1).getD ((x10).toNat) [])) (((terms (reachF x4 x5 x6 x7).1).getD ((x11).toNat) [])) x7).2.2.2.2) : Value))]) ⟨(hphi 13 (by decide)), (hphi 14 (by decide)), (e25).symm, trivial⟩]
 replace hbs := hbs.mono le19
 replace hr1 := hr1.mono le19
 replace hr2 := hr2.mono le19
 replace f10_7hr1 := f10_7hr1.mono le19
 replace f10_7hr2 := f10_7hr2.mono le19
 replace f10_7hr3 := f10_7hr3.mono le19
 replace f10_7hr4 := f10_7hr4.mono le19
 show XL _ _ _ _ _ _ _ (cellsH b9 [u4, u5] 34 :: cellsH b10 [u6, u7] 34 :: cellsH b4 [u1, u2] 34 :: curH .u64 110 cb1 bsv bs.length :: cellsH b1 [x1, x2] 29 :: L)
 refine XL.yes (t := 142) rfl (vF h10) (XOp.neB (a := (joinF x4 x5 (((terms (reachF x4 x5 x6 x7).1).getD ((x10).toNat) [])) (((terms (reachF x4 x5 x6 x7).1).getD ((x11).toNat) [])) x7).2.2.2.2) (b := (joinF x4 x5 (((terms (reachF x4 x5 x6 x7).1).getD ((x10).toNat) [])) (((terms (reachF x4 x5 x6 x7).1).getD ((x11).toNat) [])) x7).2.2.2.2) runUnderlying4 rfl rfl (cX (XOp.pickF (.bool (decide (((joinF x4 x5 (((terms (reachF x4 x5 x6 x7).1).getD ((x10).toNat) [])) (((terms (reachF x4 x5 x6 x7).1).getD ((x11).toNat) [])) x7).2.2.2.2) ≠ ((joinF x4 x5 (((terms (reachF x4 x5 x6 x7).1).getD ((x10).toNat) [])) (((terms (reachF x4 x5 x6 x7).1).getD ((x11).toNat) [])) x7).2.2.2.2)))) (vF h10) rfl (XL.nil (X.condF (vF h10) (X.skip (X.seq ?_)))))))
 by_cases h11 : (!((joinF x4 x5 (((terms (reachF x4 x5 x6 x7).1).getD ((x10).toNat) [])) (((terms (reachF x4 x5 x6 x7).1).getD ((x11).toNat) [])) x7).2.2.2.2)) = true
 ·refine X.draw [cellsH b9 [u4, u5] 34, cellsH b10 [u6, u7] 34, cellsH b4 [u1, u2] 34, curH .u64 110 cb1 bsv bs.length, cellsH b1 [x1, x2] 29] L 17 [[], [], [], [], [], [], [], [], [], [], [], [], [], [], [], [], []] [[], [0], [1], [2], [2], [2, 3, 4], [2, 5], [6], [6], [6, 7, 8], [2, 6, 9], [2, 10], [11], [11], [11, 12, 13], [11], [11]] (phiL [fun us v => v = (.bool ((joinF x4 x5 (((terms (reachF x4 x5 x6 x7).1).getD ((x10).toNat) [])) (((terms (reachF x4 x5 x6 x7).1).getD ((x11).toNat) [])) x7).2.2.2.2) : Value), fun us v => v = (.bool (!((joinF x4 x5 (((terms (reachF x4 x5 x6 x7).1).getD ((x10).toNat) [])) (((terms (reachF x4 x5 x6 x7).1).getD ((x11).toNat) [])) x7).2.2.2.2)) : Value), fun us v => v = (.bool (!((joinF x4 x5 (((terms (reachF x4 x5 x6 x7).1).getD ((x10).toNat) [])) (((terms (reachF x4 x5 x6 x7).1).getD ((x11).toNat) [])) x7).2.2.2.2)) : Value), fun us v => v = undef, fun us v => v = undef, fun us v => v = undef, fun us v => v = undef, fun us v => v = undef, fun us v => v = undef, fun us v => v = undef, fun us v => v = undef, fun us v => v = undef, fun us v => v = undef, fun us v => v = undef, fun us v => v = undef, fun us v => v = undef, fun us v => v = undef]) (ownL [fun us v => [], fun us v => [], fun us v => [], fun us v => [], fun us v => [], fun us v => [], fun us v => [], fun us v => [], fun us v => [], fun us v => [], fun us v => [], fun us v => [], fun us v => [], fun us v => [], fun us v => [], fun us v => [], fun us v => []]) mixed rfl rfl (by kernel_rfl) ?_ ?_
  ·refine pC (fun vals R hpZ => ?_) ?_
   ·refine XG.op (XOp.move (.bool ((joinF x4 x5 (((terms (reachF x4 x5 x6 x7).1).getD ((x10).toNat) [])) (((terms (reachF x4 x5 x6 x7).1).getD ((x11).toNat) [])) x7).2.2.2.2)) rfl ?_)
    exact ⟨rfl, rfl, rfl⟩
   refine pC (fun vals R hpZ => ?_) ?_
   ·rw [eS (l := [(0, (.bool ((joinF x4 x5 (((terms (reachF x4 x5 x6 x7).1).getD ((x10).toNat) [])) (((terms (reachF x4 x5 x6 x7).1).getD ((x11).toNat) [])) x7).2.2.2.2) : Value))]) ⟨hpZ 0 (by decide), trivial⟩]
    refine XG.op (XOp.notB rfl ?_)
    exact ⟨rfl, rfl, rfl⟩
   refine pC (fun vals R hpZ => ?_) ?_
   ·rw [eS (l := [(1, (.bool (!((joinF x4 x5 (((terms (reachF x4 x5 x6 x7).1).getD ((x10).toNat) [])) (((terms (reachF x4 x5 x6 x7).1).getD ((x11).toNat) [])) x7).2.2.2.2)) : Value))]) ⟨hpZ 1 (by decide), trivial⟩]
    refine XG.op (XOp.move (.bool (!((joinF x4 x5 (((terms (reachF x4 x5 x6 x7).1).getD ((x10).toNat) [])) (((terms (reachF x4 x5 x6 x7).1).getD ((x11).toNat) [])) x7).2.2.2.2))) rfl ?_)
    exact ⟨rfl, rfl, rfl⟩
   refine pC (fun vals R hpZ => ?_) ?_
   ·rw [eS (l := [(2, (.bool (!((joinF x4 x5 (((terms (reachF x4 x5 x6 x7).1).getD ((x10).toNat) [])) (((terms (reachF x4 x5 x6 x7).1).getD ((x11).toNat) [])) x7).2.2.2.2)) : Value))]) ⟨hpZ 2 (by decide), trivial⟩]
    exact XG.no (t := 159) rfl (vB h11) ⟨rfl, rfl, rfl⟩
   refine pC (fun vals R hpZ => ?_) ?_
   ·rw [eS (l := [(2, (.bool (!((joinF x4 x5 (((terms (reachF x4 x5 x6 x7).1).getD ((x10).toNat) [])) (((terms (reachF x4 x5 x6 x7).1).getD ((x11).toNat) [])) x7).2.2.2.2)) : Value))]) ⟨hpZ 2 (by decide), trivial⟩]
    exact XG.no (t := 159) rfl (vB h11) ⟨rfl, rfl, rfl⟩
   refine pC (fun vals R hpZ => ?_) ?_
   ·rw [eS (l := [(2, (.bool (!((joinF x4 x5 (((terms (reachF x4 x5 x6 x7).1).getD ((x10).toNat) [])) (((terms (reachF x4 x5 x6 x7).1).getD ((x11).toNat) [])) x7).2.2.2.2)) : Value)), (3, undef), (4, undef)]) ⟨hpZ 2 (by decide), hpZ 3 (by decide), hpZ 4 (by decide), trivial⟩]
    exact XG.no (t := 159) rfl (vB h11) ⟨rfl, rfl, rfl⟩
   refine pC (fun vals R hpZ => ?_) ?_
   ·rw [eS (l := [(2, (.bool (!((joinF x4 x5 (((terms (reachF x4 x5 x6 x7).1).getD ((x10).toNat) [])) (((terms (reachF x4 x5 x6 x7).1).getD ((x11).toNat) [])) x7).2.2.2.2)) : Value)), (5, undef)]) ⟨hpZ 2 (by decide), hpZ 5 (by decide), trivial⟩]
    exact XG.no (t := 159) rfl (vB h11) ⟨rfl, rfl, rfl⟩
   refine pC (fun vals R hpZ => ?_) ?_
   ·rw [eS (l := [(6, undef)]) ⟨hpZ 6 (by decide), trivial⟩]
    exact XG.noU (t := 163) rfl rfl ⟨rfl, rfl, rfl⟩
   refine pC (fun vals R hpZ => ?_) ?_
   ·rw [eS (l := [(6, undef)]) ⟨hpZ 6 (by decide), trivial⟩]
    exact XG.noU (t := 163) rfl rfl ⟨rfl, rfl, rfl⟩
   refine pC (fun vals R hpZ => ?_) ?_
   ·rw [eS (l := [(6, undef), (7, undef), (8, undef)]) ⟨hpZ 6 (by decide), hpZ 7 (by decide), hpZ 8 (by decide), trivial⟩]
    exact XG.noU (t := 163) rfl rfl ⟨rfl, rfl, rfl⟩
   refine pC (fun vals R hpZ => ?_) ?_
   ·rw [eS (l := [(2, (.bool (!((joinF x4 x5 (((terms (reachF x4 x5 x6 x7).1).getD ((x10).toNat) [])) (((terms (reachF x4 x5 x6 x7).1).getD ((x11).toNat) [])) x7).2.2.2.2)) : Value)), (6, undef), (9, undef)]) ⟨hpZ 2 (by decide), hpZ 6 (by decide), hpZ 9 (by decide), trivial⟩]
    exact XG.no (t := 159) rfl (vB h11) ⟨rfl, rfl, rfl⟩
   refine pC (fun vals R hpZ => ?_) ?_
   ·rw [eS (l := [(2, (.bool (!((joinF x4 x5 (((terms (reachF x4 x5 x6 x7).1).getD ((x10).toNat) [])) (((terms (reachF x4 x5 x6 x7).1).getD ((x11).toNat) [])) x7).2.2.2.2)) : Value)), (10, undef)]) ⟨hpZ 2 (by decide), hpZ 10 (by decide), trivial⟩]
    exact XG.no (t := 159) rfl (vB h11) ⟨rfl, rfl, rfl⟩
   refine pC (fun vals R hpZ => ?_) ?_
   ·rw [eS (l := [(11, undef)]) ⟨hpZ 11 (by decide), trivial⟩]
    exact XG.noU (t := 168) rfl rfl ⟨rfl, rfl, rfl⟩
   refine pC (fun vals R hpZ => ?_) ?_
   ·rw [eS (l := [(11, undef)]) ⟨hpZ 11 (by decide), trivial⟩]
    exact XG.noU (t := 168) rfl rfl ⟨rfl, rfl, rfl⟩
   refine pC (fun vals R hpZ => ?_) ?_
   ·rw [eS (l := [(11, undef), (12, undef), (13, undef)]) ⟨hpZ 11 (by decide), hpZ 12 (by decide), hpZ 13 (by decide), trivial⟩]
    exact XG.noU (t := 168) rfl rfl ⟨rfl, rfl, rfl⟩
   refine pC (fun vals R hpZ => ?_) ?_
   ·rw [eS (l := [(11, undef)]) ⟨hpZ 11 (by decide), trivial⟩]
    exact XG.noU (t := 168) rfl rfl ⟨rfl, rfl, rfl⟩
   refine pC (fun vals R hpZ => ?_) ?_
   ·rw [eS (l := [(11, undef)]) ⟨hpZ 11 (by decide), trivial⟩]
    exact XG.noU (t := 168) rfl rfl ⟨rfl, rfl, rfl⟩
   exact stepsP.nil
  intro vals hphi
  rw [eS (l := [(2, (.bool (!((joinF x4 x5 (((terms (reachF x4 x5 x6 x7).1).getD ((x10).toNat) [])) (((terms (reachF x4 x5 x6 x7).1).getD ((x11).toNat) [])) x7).2.2.2.2)) : Value)), (11, undef), (14, undef), (15, undef), (16, undef)]) ⟨(hphi 2 (by decide)), (hphi 11 (by decide)), (hphi 14 (by decide)), (hphi 15 (by decide)), (hphi 16 (by decide)), trivial⟩]
  show XL _ _ _ _ _ _ _ (cellsH b9 [u4, u5] 34 :: cellsH b10 [u6, u7] 34 :: cellsH b4 [u1, u2] 34 :: curH .u64 110 cb1 bsv bs.length :: cellsH b1 [x1, x2] 29 :: L)
  refine XL.noU (t := 168) rfl rfl (XL.noU (t := 168) rfl rfl (XL.no (t := 159) rfl (vB h11) (cX (XOp.pickT (.bool (true)) (vB h11) rfl (XL.as (.bool (true)) rfl (XL.nil (X.ret (retEnd (L' := L) [.bool (true)] (.bool (true)) (.tmp rfl .nil) rfl rF (FLe.trans (FLe.trans (FLe.trans (FLe.trans (FLe.trans (FLe.trans le1 le2) le3) le8) le10) le13) le19) (sD (sD (sD (sD (sD sR))))) ?_))))))))
  exact ⟨rfl, rfl, rfl⟩
 rw [Bool.not_eq_true] at h11
 have hjl := joined_law (Bool.not_inj (y := true) h11)
 by_cases h12 : (walkOkL x4 x5 ((joinF x4 x5 (((terms (reachF x4 x5 x6 x7).1).getD ((x10).toNat) [])) (((terms (reachF x4 x5 x6 x7).1).getD ((x11).toNat) [])) x7).1) ((joinF x4 x5 (((terms (reachF x4 x5 x6 x7).1).getD ((x10).toNat) [])) (((terms (reachF x4 x5 x6 x7).1).getD ((x11).toNat) [])) x7).2.1)) = true
 ·by_cases h13 : (walkOkL x4 x5 ((joinF x4 x5 (((terms (reachF x4 x5 x6 x7).1).getD ((x10).toNat) [])) (((terms (reachF x4 x5 x6 x7).1).getD ((x11).toNat) [])) x7).2.2.1) ((joinF x4 x5 (((terms (reachF x4 x5 x6 x7).1).getD ((x10).toNat) [])) (((terms (reachF x4 x5 x6 x7).1).getD ((x11).toNat) [])) x7).2.2.2.1)) = true
  ·refine X.drawG [cellsH b9 [u4, u5] 34, cellsH b10 [u6, u7] 34, cellsH b4 [u1, u2] 34, curH .u64 110 cb1 bsv bs.length, cellsH b1 [x1, x2] 29] L 17 [[], [], [], [], [], [], [], [], [], [], [], [], [], [], [], [], []] [[], [0], [1], [2], [2], [2, 3, 4], [2, 5], [6], [6], [6, 7, 8], [2, 6, 9], [2, 10], [11], [11], [11, 12, 13], [11], [11]] [[], [], [], [], [], [], [], [], [], [], [], [], [], [], [], [], []] (phiG [fun FF us v => v = (.bool ((joinF x4 x5 (((terms (reachF x4 x5 x6 x7).1).getD ((x10).toNat) [])) (((terms (reachF x4 x5 x6 x7).1).getD ((x11).toNat) [])) x7).2.2.2.2) : Value), fun FF us v => v = (.bool (!((joinF x4 x5 (((terms (reachF x4 x5 x6 x7).1).getD ((x10).toNat) [])) (((terms (reachF x4 x5 x6 x7).1).getD ((x11).toNat) [])) x7).2.2.2.2)) : Value), fun FF us v => v = (.bool (!((joinF x4 x5 (((terms (reachF x4 x5 x6 x7).1).getD ((x10).toNat) [])) (((terms (reachF x4 x5 x6 x7).1).getD ((x11).toNat) [])) x7).2.2.2.2)) : Value), fun FF us v => v = (.agg #[x1, x2] : Value), fun FF us v => v = (.agg #[u4, u5] : Value), fun FF us v => v = (.bool (walkOkL x4 x5 ((joinF x4 x5 (((terms (reachF x4 x5 x6 x7).1).getD ((x10).toNat) [])) (((terms (reachF x4 x5 x6 x7).1).getD ((x11).toNat) [])) x7).1) ((joinF x4 x5 (((terms (reachF x4 x5 x6 x7).1).getD ((x10).toNat) [])) (((terms (reachF x4 x5 x6 x7).1).getD ((x11).toNat) [])) x7).2.1)) : Value), fun FF us v => v = (.bool (walkOkL x4 x5 ((joinF x4 x5 (((terms (reachF x4 x5 x6 x7).1).getD ((x10).toNat) [])) (((terms (reachF x4 x5 x6 x7).1).getD ((x11).toNat) [])) x7).1) ((joinF x4 x5 (((terms (reachF x4 x5 x6 x7).1).getD ((x10).toNat) [])) (((terms (reachF x4 x5 x6 x7).1).getD ((x11).toNat) [])) x7).2.1)) : Value), fun FF us v => v = (.agg #[x1, x2] : Value), fun FF us v => v = (.agg #[u6, u7] : Value), fun FF us v => v = (.bool (walkOkL x4 x5 ((joinF x4 x5 (((terms (reachF x4 x5 x6 x7).1).getD ((x10).toNat) [])) (((terms (reachF x4 x5 x6 x7).1).getD ((x11).toNat) [])) x7).2.2.1) ((joinF x4 x5 (((terms (reachF x4 x5 x6 x7).1).getD ((x10).toNat) [])) (((terms (reachF x4 x5 x6 x7).1).getD ((x11).toNat) [])) x7).2.2.2.1)) : Value), fun FF us v => v = (.bool (walkOkL x4 x5 ((joinF x4 x5 (((terms (reachF x4 x5 x6 x7).1).getD ((x10).toNat) [])) (((terms (reachF x4 x5 x6 x7).1).getD ((x11).toNat) [])) x7).2.2.1) ((joinF x4 x5 (((terms (reachF x4 x5 x6 x7).1).getD ((x10).toNat) [])) (((terms (reachF x4 x5 x6 x7).1).getD ((x11).toNat) [])) x7).2.2.2.1)) : Value), fun FF us v => v = (.bool (walkOkL x4 x5 ((joinF x4 x5 (((terms (reachF x4 x5 x6 x7).1).getD ((x10).toNat) [])) (((terms (reachF x4 x5 x6 x7).1).getD ((x11).toNat) [])) x7).2.2.1) ((joinF x4 x5 (((terms (reachF x4 x5 x6 x7).1).getD ((x10).toNat) [])) (((terms (reachF x4 x5 x6 x7).1).getD ((x11).toNat) [])) x7).2.2.2.1)) : Value), fun FF us v => v = (.agg #[x1, x2] : Value), fun FF us v => v = (.agg #[u4, u5] : Value), fun FF us v => ((v) : Value) = v ∧ (IntsF FF (v) (endT x4 x5 ((joinF x4 x5 (((terms (reachF x4 x5 x6 x7).1).getD ((x10).toNat) [])) (((terms (reachF x4 x5 x6 x7).1).getD ((x11).toNat) [])) x7).1) ((joinF x4 x5 (((terms (reachF x4 x5 x6 x7).1).getD ((x10).toNat) [])) (((terms (reachF x4 x5 x6 x7).1).getD ((x11).toNat) [])) x7).2.1))), fun FF us v => v = (.agg #[x1, x2] : Value), fun FF us v => v = (.agg #[u6, u7] : Value)]) (ownL [fun us v => [], fun us v => [], fun us v => [], fun us v => [], fun us v => [], fun us v => [], fun us v => [], fun us v => [], fun us v => [], fun us v => [], fun us v => [], fun us v => [], fun us v => [], fun us v => [], fun us v => [], fun us v => [], fun us v => []]) mixed rfl rfl (by kernel_rfl) (by kernel_rfl) (MonoG.get (mC (fun le h => h) (mC (fun le h => h) (mC (fun le h => h) (mC (fun le h => h) (mC (fun le h => h) (mC (fun le h => h) (mC (fun le h => h) (mC (fun le h => h) (mC (fun le h => h) (mC (fun le h => h) (mC (fun le h => h) (mC (fun le h => h) (mC (fun le h => h) (mC (fun le h => h) (mC (fun le h => ⟨h.1, h.2.mono le⟩) (mC (fun le h => h) (mC (fun le h => h) MonoG.nil)))))))))))))))))) ?_ ?_
   ·refine gC (fun vals Fs R leFs hpZ => ?_) ?_
    ·refine XG.op (XOp.move (.bool ((joinF x4 x5 (((terms (reachF x4 x5 x6 x7).1).getD ((x10).toNat) [])) (((terms (reachF x4 x5 x6 x7).1).getD ((x11).toNat) [])) x7).2.2.2.2)) rfl ?_)
     exact ⟨rfl, rfl⟩
    refine gC (fun vals Fs R leFs hpZ => ?_) ?_
    ·rw [eS (l := [(0, (.bool ((joinF x4 x5 (((terms (reachF x4 x5 x6 x7).1).getD ((x10).toNat) [])) (((terms (reachF x4 x5 x6 x7).1).getD ((x11).toNat) [])) x7).2.2.2.2) : Value))]) ⟨(hpZ 0 (by decide)), trivial⟩]
     refine XG.op (XOp.notB rfl ?_)
     exact ⟨rfl, rfl⟩
    refine gC (fun vals Fs R leFs hpZ => ?_) ?_
    ·rw [eS (l := [(1, (.bool (!((joinF x4 x5 (((terms (reachF x4 x5 x6 x7).1).getD ((x10).toNat) [])) (((terms (reachF x4 x5 x6 x7).1).getD ((x11).toNat) [])) x7).2.2.2.2)) : Value))]) ⟨(hpZ 1 (by decide)), trivial⟩]
     refine XG.op (XOp.move (.bool (!((joinF x4 x5 (((terms (reachF x4 x5 x6 x7).1).getD ((x10).toNat) [])) (((terms (reachF x4 x5 x6 x7).1).getD ((x11).toNat) [])) x7).2.2.2.2))) rfl ?_)
     exact ⟨rfl, rfl⟩
    refine gC (fun vals Fs R leFs hpZ => ?_) ?_
    ·replace hbs := hbs.mono leFs
     replace hr1 := hr1.mono leFs
     replace hr2 := hr2.mono leFs
     replace f10_7hr1 := f10_7hr1.mono leFs
     replace f10_7hr2 := f10_7hr2.mono leFs
     replace f10_7hr3 := f10_7hr3.mono leFs
     replace f10_7hr4 := f10_7hr4.mono leFs
     rw [eS (l := [(2, (.bool (!((joinF x4 x5 (((terms (reachF x4 x5 x6 x7).1).getD ((x10).toNat) [])) (((terms (reachF x4 x5 x6 x7).1).getD ((x11).toNat) [])) x7).2.2.2.2)) : Value))]) ⟨(hpZ 2 (by decide)), trivial⟩]
     refine XG.yes (t := 159) rfl (vB h11) (XOp.loadN [x1, x2] isAgg29 sizeOf29 rfl rfl (Rd.ownN [_, _, _, _] rfl rfl) ?_)
     exact ⟨rfl, rfl⟩
    refine gC (fun vals Fs R leFs hpZ => ?_) ?_
    ·replace hbs := hbs.mono leFs
     replace hr1 := hr1.mono leFs
     replace hr2 := hr2.mono leFs
     replace f10_7hr1 := f10_7hr1.mono leFs
     replace f10_7hr2 := f10_7hr2.mono leFs
     replace f10_7hr3 := f10_7hr3.mono leFs
     replace f10_7hr4 := f10_7hr4.mono leFs
     rw [eS (l := [(2, (.bool (!((joinF x4 x5 (((terms (reachF x4 x5 x6 x7).1).getD ((x10).toNat) [])) (((terms (reachF x4 x5 x6 x7).1).getD ((x11).toNat) [])) x7).2.2.2.2)) : Value))]) ⟨(hpZ 2 (by decide)), trivial⟩]
     refine XG.yes (t := 159) rfl (vB h11) (XOp.loadN [u4, u5] isAgg34 sizeOf34 rfl rfl (Rd.ownN [] rfl rfl) ?_)
     exact ⟨rfl, rfl⟩
    refine gC (fun vals Fs R leFs hpZ => ?_) ?_
    ·replace hbs := hbs.mono leFs
     replace hr1 := hr1.mono leFs
     replace hr2 := hr2.mono leFs
     replace f10_7hr1 := f10_7hr1.mono leFs
     replace f10_7hr2 := f10_7hr2.mono leFs
     replace f10_7hr3 := f10_7hr3.mono leFs
     replace f10_7hr4 := f10_7hr4.mono leFs
     rw [eS (l := [(2, (.bool (!((joinF x4 x5 (((terms (reachF x4 x5 x6 x7).1).getD ((x10).toNat) [])) (((terms (reachF x4 x5 x6 x7).1).getD ((x11).toNat) [])) x7).2.2.2.2)) : Value)), (3, (.agg #[x1, x2] : Value)), (4, (.agg #[u4, u5] : Value))]) ⟨(hpZ 2 (by decide)), (hpZ 3 (by decide)), (hpZ 4 (by decide)), trivial⟩]
     refine XG.yes (t := 159) rfl (vB h11) (XOp.call (args := [.agg #[x1, x2], .agg #[u4, u5]]) call14 rfl (WalkOk_spec hr1 hr2 f10_7hr1 f10_7hr2 (hlf := (by first | assumption | rfl | omega | simp)) (hsb := (by first | assumption | rfl | omega | simp))) ?_)
     rintro _ _ _ _ ⟨rfl, rfl, rfl⟩
     exact ⟨rfl, rfl⟩
    refine gC (fun vals Fs R leFs hpZ => ?_) ?_
    ·rw [eS (l := [(2, (.bool (!((joinF x4 x5 (((terms (reachF x4 x5 x6 x7).1).getD ((x10).toNat) [])) (((terms (reachF x4 x5 x6 x7).1).getD ((x11).toNat) [])) x7).2.2.2.2)) : Value)), (5, (.bool (walkOkL x4 x5 ((joinF x4 x5 (((terms (reachF x4 x5 x6 x7).1).getD ((x10).toNat) [])) (((terms (reachF x4 x5 x6 x7).1).getD ((x11).toNat) [])) x7).1) ((joinF x4 x5 (((terms (reachF x4 x5 x6 x7).1).getD ((x10).toNat) [])) (((terms (reachF x4 x5 x6 x7).1).getD ((x11).toNat) [])) x7).2.1)) : Value))]) ⟨(hpZ 2 (by decide)), (hpZ 5 (by decide)), trivial⟩]
     refine XG.yes (t := 159) rfl (vB h11) (XOp.move (.bool (walkOkL x4 x5 ((joinF x4 x5 (((terms (reachF x4 x5 x6 x7).1).getD ((x10).toNat) [])) (((terms (reachF x4 x5 x6 x7).1).getD ((x11).toNat) [])) x7).1) ((joinF x4 x5 (((terms (reachF x4 x5 x6 x7).1).getD ((x10).toNat) [])) (((terms (reachF x4 x5 x6 x7).1).getD ((x11).toNat) [])) x7).2.1))) rfl ?_)
     exact ⟨rfl, rfl⟩
    refine gC (fun vals Fs R leFs hpZ => ?_) ?_
    ·replace hbs := hbs.mono leFs
     replace hr1 := hr1.mono leFs
     replace hr2 := hr2.mono leFs
     replace f10_7hr1 := f10_7hr1.mono leFs
     replace f10_7hr2 := f10_7hr2.mono leFs
     replace f10_7hr3 := f10_7hr3.mono leFs
     replace f10_7hr4 := f10_7hr4.mono leFs
     rw [eS (l := [(6, (.bool (walkOkL x4 x5 ((joinF x4 x5 (((terms (reachF x4 x5 x6 x7).1).getD ((x10).toNat) [])) (((terms (reachF x4 x5 x6 x7).1).getD ((x11).toNat) [])) x7).1) ((joinF x4 x5 (((terms (reachF x4 x5 x6 x7).1).getD ((x10).toNat) [])) (((terms (reachF x4 x5 x6 x7).1).getD ((x11).toNat) [])) x7).2.1)) : Value))]) ⟨(hpZ 6 (by decide)), trivial⟩]
     refine XG.yes (t := 163) rfl (vB h12) (XOp.loadN [x1, x2] isAgg29 sizeOf29 rfl rfl (Rd.ownN [_, _, _, _] rfl rfl) ?_)
     exact ⟨rfl, rfl⟩
    refine gC (fun vals Fs R leFs hpZ => ?_) ?_
    ·replace hbs := hbs.mono leFs
     replace hr1 := hr1.mono leFs
     replace hr2 := hr2.mono leFs
     replace f10_7hr1 := f10_7hr1.mono leFs
     replace f10_7hr2 := f10_7hr2.mono leFs
     replace f10_7hr3 := f10_7hr3.mono leFs
     replace f10_7hr4 := f10_7hr4.mono leFs
     rw [eS (l := [(6, (.bool (walkOkL x4 x5 ((joinF x4 x5 (((terms (reachF x4 x5 x6 x7).1).getD ((x10).toNat) [])) (((terms (reachF x4 x5 x6 x7).1).getD ((x11).toNat) [])) x7).1) ((joinF x4 x5 (((terms (reachF x4 x5 x6 x7).1).getD ((x10).toNat) [])) (((terms (reachF x4 x5 x6 x7).1).getD ((x11).toNat) [])) x7).2.1)) : Value))]) ⟨(hpZ 6 (by decide)), trivial⟩]
     refine XG.yes (t := 163) rfl (vB h12) (XOp.loadN [u6, u7] isAgg34 sizeOf34 rfl rfl (Rd.ownN [_] rfl rfl) ?_)
     exact ⟨rfl, rfl⟩
    refine gC (fun vals Fs R leFs hpZ => ?_) ?_
    ·replace hbs := hbs.mono leFs
     replace hr1 := hr1.mono leFs
     replace hr2 := hr2.mono leFs
     replace f10_7hr1 := f10_7hr1.mono leFs
     replace f10_7hr2 := f10_7hr2.mono leFs
     replace f10_7hr3 := f10_7hr3.mono leFs
     replace f10_7hr4 := f10_7hr4.mono leFs
     rw [eS (l := [(6, (.bool (walkOkL x4 x5 ((joinF x4 x5 (((terms (reachF x4 x5 x6 x7).1).getD ((x10).toNat) [])) (((terms (reachF x4 x5 x6 x7).1).getD ((x11).toNat) [])) x7).1) ((joinF x4 x5 (((terms (reachF x4 x5 x6 x7).1).getD ((x10).toNat) [])) (((terms (reachF x4 x5 x6 x7).1).getD ((x11).toNat) [])) x7).2.1)) : Value)), (7, (.agg #[x1, x2] : Value)), (8, (.agg #[u6, u7] : Value))]) ⟨(hpZ 6 (by decide)), (hpZ 7 (by decide)), (hpZ 8 (by decide)), trivial⟩]
     refine XG.yes (t := 163) rfl (vB h12) (XOp.call (args := [.agg #[x1, x2], .agg #[u6, u7]]) call14 rfl (WalkOk_spec hr1 hr2 f10_7hr3 f10_7hr4 (hlf := (by first | assumption | rfl | omega | simp)) (hsb := (by first | assumption | rfl | omega | simp))) ?_)
     rintro _ _ _ _ ⟨rfl, rfl, rfl⟩
     exact ⟨rfl, rfl⟩
    refine gC (fun vals Fs R leFs hpZ => ?_) ?_
    ·rw [eS (l := [(2, (.bool (!((joinF x4 x5 (((terms (reachF x4 x5 x6 x7).1).getD ((x10).toNat) [])) (((terms (reachF x4 x5 x6 x7).1).getD ((x11).toNat) [])) x7).2.2.2.2)) : Value)), (6, (.bool (walkOkL x4 x5 ((joinF x4 x5 (((terms (reachF x4 x5 x6 x7).1).getD ((x10).toNat) [])) (((terms (reachF x4 x5 x6 x7).1).getD ((x11).toNat) [])) x7).1) ((joinF x4 x5 (((terms (reachF x4 x5 x6 x7).1).getD ((x10).toNat) [])) (((terms (reachF x4 x5 x6 x7).1).getD ((x11).toNat) [])) x7).2.1)) : Value)), (9, (.bool (walkOkL x4 x5 ((joinF x4 x5 (((terms (reachF x4 x5 x6 x7).1).getD ((x10).toNat) [])) (((terms (reachF x4 x5 x6 x7).1).getD ((x11).toNat) [])) x7).2.2.1) ((joinF x4 x5 (((terms (reachF x4 x5 x6 x7).1).getD ((x10).toNat) [])) (((terms (reachF x4 x5 x6 x7).1).getD ((x11).toNat) [])) x7).2.2.2.1)) : Value))]) ⟨(hpZ 2 (by decide)), (hpZ 6 (by decide)), (hpZ 9 (by decide)), trivial⟩]
     refine XG.yes (t := 159) rfl (vB h11) (XOp.pickT (.bool (walkOkL x4 x5 ((joinF x4 x5 (((terms (reachF x4 x5 x6 x7).1).getD ((x10).toNat) [])) (((terms (reachF x4 x5 x6 x7).1).getD ((x11).toNat) [])) x7).2.2.1) ((joinF x4 x5 (((terms (reachF x4 x5 x6 x7).1).getD ((x10).toNat) [])) (((terms (reachF x4 x5 x6 x7).1).getD ((x11).toNat) [])) x7).2.2.2.1))) (vB h12) rfl ?_)
     exact ⟨rfl, rfl⟩
    refine gC (fun vals Fs R leFs hpZ => ?_) ?_
    ·rw [eS (l := [(2, (.bool (!((joinF x4 x5 (((terms (reachF x4 x5 x6 x7).1).getD ((x10).toNat) [])) (((terms (reachF x4 x5 x6 x7).1).getD ((x11).toNat) [])) x7).2.2.2.2)) : Value)), (10, (.bool (walkOkL x4 x5 ((joinF x4 x5 (((terms (reachF x4 x5 x6 x7).1).getD ((x10).toNat) [])) (((terms (reachF x4 x5 x6 x7).1).getD ((x11).toNat) [])) x7).2.2.1) ((joinF x4 x5 (((terms (reachF x4 x5 x6 x7).1).getD ((x10).toNat) [])) (((terms (reachF x4 x5 x6 x7).1).getD ((x11).toNat) [])) x7).2.2.2.1)) : Value))]) ⟨(hpZ 2 (by decide)), (hpZ 10 (by decide)), trivial⟩]
     refine XG.yes (t := 159) rfl (vB h11) (XOp.move (.bool (walkOkL x4 x5 ((joinF x4 x5 (((terms (reachF x4 x5 x6 x7).1).getD ((x10).toNat) [])) (((terms (reachF x4 x5 x6 x7).1).getD ((x11).toNat) [])) x7).2.2.1) ((joinF x4 x5 (((terms (reachF x4 x5 x6 x7).1).getD ((x10).toNat) [])) (((terms (reachF x4 x5 x6 x7).1).getD ((x11).toNat) [])) x7).2.2.2.1))) rfl ?_)
     exact ⟨rfl, rfl⟩
    refine gC (fun vals Fs R leFs hpZ => ?_) ?_
    ·replace hbs := hbs.mono leFs
     replace hr1 := hr1.mono leFs
     replace hr2 := hr2.mono leFs
     replace f10_7hr1 := f10_7hr1.mono leFs
     replace f10_7hr2 := f10_7hr2.mono leFs
     replace f10_7hr3 := f10_7hr3.mono leFs
     replace f10_7hr4 := f10_7hr4.mono leFs
     rw [eS (l := [(11, (.bool (walkOkL x4 x5 ((joinF x4 x5 (((terms (reachF x4 x5 x6 x7).1).getD ((x10).toNat) [])) (((terms (reachF x4 x5 x6 x7).1).getD ((x11).toNat) [])) x7).2.2.1) ((joinF x4 x5 (((terms (reachF x4 x5 x6 x7).1).getD ((x10).toNat) [])) (((terms (reachF x4 x5 x6 x7).1).getD ((x11).toNat) [])) x7).2.2.2.1)) : Value))]) ⟨(hpZ 11 (by decide)), trivial⟩]
     refine XG.yes (t := 168) rfl (vB h13) (XOp.loadN [x1, x2] isAgg29 sizeOf29 rfl rfl (Rd.ownN [_, _, _, _] rfl rfl) ?_)
     exact ⟨rfl, rfl⟩
    refine gC (fun vals Fs R leFs hpZ => ?_) ?_
    ·replace hbs := hbs.mono leFs
     replace hr1 := hr1.mono leFs
     replace hr2 := hr2.mono leFs
     replace f10_7hr1 := f10_7hr1.mono leFs
     replace f10_7hr2 := f10_7hr2.mono leFs
     replace f10_7hr3 := f10_7hr3.mono leFs
     replace f10_7hr4 := f10_7hr4.mono leFs
     rw [eS (l := [(11, (.bool (walkOkL x4 x5 ((joinF x4 x5 (((terms (reachF x4 x5 x6 x7).1).getD ((x10).toNat) [])) (((terms (reachF x4 x5 x6 x7).1).getD ((x11).toNat) [])) x7).2.2.1) ((joinF x4 x5 (((terms (reachF x4 x5 x6 x7).1).getD ((x10).toNat) [])) (((terms (reachF x4 x5 x6 x7).1).getD ((x11).toNat) [])) x7).2.2.2.1)) : Value))]) ⟨(hpZ 11 (by decide)), trivial⟩]
     refine XG.yes (t := 168) rfl (vB h13) (XOp.loadN [u4, u5] isAgg34 sizeOf34 rfl rfl (Rd.ownN [] rfl rfl) ?_)
     exact ⟨rfl, rfl⟩
    refine gC (fun vals Fs R leFs hpZ => ?_) ?_
    ·replace hbs := hbs.mono leFs
     replace hr1 := hr1.mono leFs
     replace hr2 := hr2.mono leFs
     replace f10_7hr1 := f10_7hr1.mono leFs
     replace f10_7hr2 := f10_7hr2.mono leFs
     replace f10_7hr3 := f10_7hr3.mono leFs
     replace f10_7hr4 := f10_7hr4.mono leFs
     rw [eS (l := [(11, (.bool (walkOkL x4 x5 ((joinF x4 x5 (((terms (reachF x4 x5 x6 x7).1).getD ((x10).toNat) [])) (((terms (reachF x4 x5 x6 x7).1).getD ((x11).toNat) [])) x7).2.2.1) ((joinF x4 x5 (((terms (reachF x4 x5 x6 x7).1).getD ((x10).toNat) [])) (((terms (reachF x4 x5 x6 x7).1).getD ((x11).toNat) [])) x7).2.2.2.1)) : Value)), (12, (.agg #[x1, x2] : Value)), (13, (.agg #[u4, u5] : Value))]) ⟨(hpZ 11 (by decide)), (hpZ 12 (by decide)), (hpZ 13 (by decide)), trivial⟩]
     refine XG.yes (t := 168) rfl (vB h13) (XOp.frzF <| XOp.call (args := [.agg #[x1, x2], .agg #[u4, u5]]) call16 rfl (EndTerm_spec hr1 hr2 f10_7hr1 f10_7hr2 (hlf := (by first | assumption | rfl | omega | simp)) (hsb := (by first | assumption | rfl | omega | simp))) ?_)
     rintro v5 _ _ _ ⟨rfl, hs5, rfl⟩
     refine ⟨_, _, rfl, fun F20 le20 hz2 => ?_⟩
     replace hbs := hbs.mono le20
     replace hr1 := hr1.mono le20
     replace hr2 := hr2.mono le20
     replace f10_7hr3 := f10_7hr3.mono le20
     replace f10_7hr4 := f10_7hr4.mono le20
     have hf2 : IntsF F20 v5 ((endT x4 x5 ((joinF x4 x5 (((terms (reachF x4 x5 x6 x7).1).getD ((x10).toNat) [])) (((terms (reachF x4 x5 x6 x7).1).getD ((x11).toNat) [])) x7).1) ((joinF x4 x5 (((terms (reachF x4 x5 x6 x7).1).getD ((x10).toNat) [])) (((terms (reachF x4 x5 x6 x7).1).getD ((x11).toNat) [])) x7).2.1))) := intsH.fz (xs := (endT x4 x5 ((joinF x4 x5 (((terms (reachF x4 x5 x6 x7).1).getD ((x10).toNat) [])) (((terms (reachF x4 x5 x6 x7).1).getD ((x11).toNat) [])) x7).1) ((joinF x4 x5 (((terms (reachF x4 x5 x6 x7).1).getD ((x10).toNat) [])) (((terms (reachF x4 x5 x6 x7).1).getD ((x11).toNat) [])) x7).2.1))) hz2.fz
     exact ⟨⟨rfl, hf2⟩, rfl⟩
    refine gC (fun vals Fs R leFs hpZ => ?_) ?_
    ·replace hbs := hbs.mono leFs
     replace hr1 := hr1.mono leFs
     replace hr2 := hr2.mono leFs
     replace f10_7hr3 := f10_7hr3.mono leFs
     replace f10_7hr4 := f10_7hr4.mono leFs
     rw [eS (l := [(11, (.bool (walkOkL x4 x5 ((joinF x4 x5 (((terms (reachF x4 x5 x6 x7).1).getD ((x10).toNat) [])) (((terms (reachF x4 x5 x6 x7).1).getD ((x11).toNat) [])) x7).2.2.1) ((joinF x4 x5 (((terms (reachF x4 x5 x6 x7).1).getD ((x10).toNat) [])) (((terms (reachF x4 x5 x6 x7).1).getD ((x11).toNat) [])) x7).2.2.2.1)) : Value))]) ⟨(hpZ 11 (by decide)), trivial⟩]
     refine XG.yes (t := 168) rfl (vB h13) (XOp.loadN [x1, x2] isAgg29 sizeOf29 rfl rfl (Rd.ownN [_, _, _, _] rfl rfl) ?_)
     exact ⟨rfl, rfl⟩
    refine gC (fun vals Fs R leFs hpZ => ?_) ?_
    ·replace hbs := hbs.mono leFs
     replace hr1 := hr1.mono leFs
     replace hr2 := hr2.mono leFs
     replace f10_7hr3 := f10_7hr3.mono leFs
     replace f10_7hr4 := f10_7hr4.mono leFs
     rw [eS (l := [(11, (.bool (walkOkL x4 x5 ((joinF x4 x5 (((terms (reachF x4 x5 x6 x7).1).getD ((x10).toNat) [])) (((terms (reachF x4 x5 x6 x7).1).getD ((x11).toNat) [])) x7).2.2.1) ((joinF x4 x5 (((terms (reachF x4 x5 x6 x7).1).getD ((x10).toNat) [])) (((terms (reachF x4 x5 x6 x7).1).getD ((x11).toNat) [])) x7).2.2.2.1)) : Value))]) ⟨(hpZ 11 (by decide)), trivial⟩]
     refine XG.yes (t := 168) rfl (vB h13) (XOp.loadN [u6, u7] isAgg34 sizeOf34 rfl rfl (Rd.ownN [_] rfl rfl) ?_)
     exact ⟨rfl, rfl⟩
    exact stepsG.nil
   intro vals F21 le21 hphi
   obtain ⟨e14, f14_14ha⟩ := hphi 14 (by decide)
   generalize hu11 : ((vals 14)) = u8 at e14 f14_14ha
   rw [eS (l := [(2, (.bool (!((joinF x4 x5 (((terms (reachF x4 x5 x6 x7).1).getD ((x10).toNat) [])) (((terms (reachF x4 x5 x6 x7).1).getD ((x11).toNat) [])) x7).2.2.2.2)) : Value)), (11, (.bool (walkOkL x4 x5 ((joinF x4 x5 (((terms (reachF x4 x5 x6 x7).1).getD ((x10).toNat) [])) (((terms (reachF x4 x5 x6 x7).1).getD ((x11).toNat) [])) x7).2.2.1) ((joinF x4 x5 (((terms (reachF x4 x5 x6 x7).1).getD ((x10).toNat) [])) (((terms (reachF x4 x5 x6 x7).1).getD ((x11).toNat) [])) x7).2.2.2.1)) : Value)), (14, u8), (15, (.agg #[x1, x2] : Value)), (16, (.agg #[u6, u7] : Value))]) ⟨(hphi 2 (by decide)), (hphi 11 (by decide)), hu11, (hphi 15 (by decide)), (hphi 16 (by decide)), trivial⟩]
   replace hr1 := hr1.mono le21
   replace hr2 := hr2.mono le21
   replace f10_7hr3 := f10_7hr3.mono le21
   replace f10_7hr4 := f10_7hr4.mono le21
   show XL _ _ _ _ _ _ _ (cellsH b9 [u4, u5] 34 :: cellsH b10 [u6, u7] 34 :: cellsH b4 [u1, u2] 34 :: curH .u64 110 cb1 bsv bs.length :: cellsH b1 [x1, x2] 29 :: L)
   refine XL.yes (t := 168) rfl (vB h13) (XOp.frzF <| XOp.call (args := [.agg #[x1, x2], .agg #[u6, u7]]) call16 rfl (EndTerm_spec hr1 hr2 f10_7hr3 f10_7hr4 (hlf := (by first | assumption | rfl | omega | simp)) (hsb := (by first | assumption | rfl | omega | simp))) ?_)
   rintro v6 _ _ _ ⟨rfl, hs6, rfl⟩
   refine ⟨_, _, rfl, fun F22 le22 hz3 => ?_⟩
   replace f14_14ha := f14_14ha.mono le22
   have hf3 : IntsF F22 v6 ((endT x4 x5 ((joinF x4 x5 (((terms (reachF x4 x5 x6 x7).1).getD ((x10).toNat) [])) (((terms (reachF x4 x5 x6 x7).1).getD ((x11).toNat) [])) x7).2.2.1) ((joinF x4 x5 (((terms (reachF x4 x5 x6 x7).1).getD ((x10).toNat) [])) (((terms (reachF x4 x5 x6 x7).1).getD ((x11).toNat) [])) x7).2.2.2.1))) := intsH.fz (xs := (endT x4 x5 ((joinF x4 x5 (((terms (reachF x4 x5 x6 x7).1).getD ((x10).toNat) [])) (((terms (reachF x4 x5 x6 x7).1).getD ((x11).toNat) [])) x7).2.2.1) ((joinF x4 x5 (((terms (reachF x4 x5 x6 x7).1).getD ((x10).toNat) [])) (((terms (reachF x4 x5 x6 x7).1).getD ((x11).toNat) [])) x7).2.2.2.1))) hz3.fz
   refine XL.yes (t := 168) rfl (vB h13) (XOp.call (args := [u8, v6]) call18 rfl (iSameTerm_spec f14_14ha hf3 (hbd := (by first | (refine Or.inl ?_; omega) | (refine Or.inr ?_; omega)))) ?_)
   rintro _ _ _ _ ⟨rfl, rfl, rfl⟩
   refine XL.yes (t := 159) rfl (vB h11) (XOp.pickT (.bool (decide (((endT x4 x5 ((joinF x4 x5 (((terms (reachF x4 x5 x6 x7).1).getD ((x10).toNat) [])) (((terms (reachF x4 x5 x6 x7).1).getD ((x11).toNat) [])) x7).1) ((joinF x4 x5 (((terms (reachF x4 x5 x6 x7).1).getD ((x10).toNat) [])) (((terms (reachF x4 x5 x6 x7).1).getD ((x11).toNat) [])) x7).2.1))) = ((endT x4 x5 ((joinF x4 x5 (((terms (reachF x4 x5 x6 x7).1).getD ((x10).toNat) [])) (((terms (reachF x4 x5 x6 x7).1).getD ((x11).toNat) [])) x7).2.2.1) ((joinF x4 x5 (((terms (reachF x4 x5 x6 x7).1).getD ((x10).toNat) [])) (((terms (reachF x4 x5 x6 x7).1).getD ((x11).toNat) [])) x7).2.2.2.1)))))) (vB h13) rfl (cX (XOp.pickF (.bool (decide (((endT x4 x5 ((joinF x4 x5 (((terms (reachF x4 x5 x6 x7).1).getD ((x10).toNat) [])) (((terms (reachF x4 x5 x6 x7).1).getD ((x11).toNat) [])) x7).1) ((joinF x4 x5 (((terms (reachF x4 x5 x6 x7).1).getD ((x10).toNat) [])) (((terms (reachF x4 x5 x6 x7).1).getD ((x11).toNat) [])) x7).2.1))) = ((endT x4 x5 ((joinF x4 x5 (((terms (reachF x4 x5 x6 x7).1).getD ((x10).toNat) [])) (((terms (reachF x4 x5 x6 x7).1).getD ((x11).toNat) [])) x7).2.2.1) ((joinF x4 x5 (((terms (reachF x4 x5 x6 x7).1).getD ((x10).toNat) [])) (((terms (reachF x4 x5 x6 x7).1).getD ((x11).toNat) [])) x7).2.2.2.1)))))) (vB h11) rfl (XL.as (.bool (decide (((endT x4 x5 ((joinF x4 x5 (((terms (reachF x4 x5 x6 x7).1).getD ((x10).toNat) [])) (((terms (reachF x4 x5 x6 x7).1).getD ((x11).toNat) [])) x7).1) ((joinF x4 x5 (((terms (reachF x4 x5 x6 x7).1).getD ((x10).toNat) [])) (((terms (reachF x4 x5 x6 x7).1).getD ((x11).toNat) [])) x7).2.1))) = ((endT x4 x5 ((joinF x4 x5 (((terms (reachF x4 x5 x6 x7).1).getD ((x10).toNat) [])) (((terms (reachF x4 x5 x6 x7).1).getD ((x11).toNat) [])) x7).2.2.1) ((joinF x4 x5 (((terms (reachF x4 x5 x6 x7).1).getD ((x10).toNat) [])) (((terms (reachF x4 x5 x6 x7).1).getD ((x11).toNat) [])) x7).2.2.2.1)))))) rfl ?_))))
   refine XL.nil (X.ret (retEnd (L' := L) [.bool (decide (((endT x4 x5 ((joinF x4 x5 (((terms (reachF x4 x5 x6 x7).1).getD ((x10).toNat) [])) (((terms (reachF x4 x5 x6 x7).1).getD ((x11).toNat) [])) x7).1) ((joinF x4 x5 (((terms (reachF x4 x5 x6 x7).1).getD ((x10).toNat) [])) (((terms (reachF x4 x5 x6 x7).1).getD ((x11).toNat) [])) x7).2.1))) = ((endT x4 x5 ((joinF x4 x5 (((terms (reachF x4 x5 x6 x7).1).getD ((x10).toNat) [])) (((terms (reachF x4 x5 x6 x7).1).getD ((x11).toNat) [])) x7).2.2.1) ((joinF x4 x5 (((terms (reachF x4 x5 x6 x7).1).getD ((x10).toNat) [])) (((terms (reachF x4 x5 x6 x7).1).getD ((x11).toNat) [])) x7).2.2.2.1)))))] (.bool (decide (((endT x4 x5 ((joinF x4 x5 (((terms (reachF x4 x5 x6 x7).1).getD ((x10).toNat) [])) (((terms (reachF x4 x5 x6 x7).1).getD ((x11).toNat) [])) x7).1) ((joinF x4 x5 (((terms (reachF x4 x5 x6 x7).1).getD ((x10).toNat) [])) (((terms (reachF x4 x5 x6 x7).1).getD ((x11).toNat) [])) x7).2.1))) = ((endT x4 x5 ((joinF x4 x5 (((terms (reachF x4 x5 x6 x7).1).getD ((x10).toNat) [])) (((terms (reachF x4 x5 x6 x7).1).getD ((x11).toNat) [])) x7).2.2.1) ((joinF x4 x5 (((terms (reachF x4 x5 x6 x7).1).getD ((x10).toNat) [])) (((terms (reachF x4 x5 x6 x7).1).getD ((x11).toNat) [])) x7).2.2.2.1)))))) (.tmp rfl .nil) rfl rF (FLe.trans (FLe.trans (FLe.trans (FLe.trans (FLe.trans (FLe.trans (FLe.trans (FLe.trans le1 le2) le3) le8) le10) le13) le19) le21) le22) (sD (sD (sD (sD (sD sR))))) ?_))
   exact ⟨(vB ((decide_eq_true hjl.2.2).symm)), rfl, rfl⟩
  rw [Bool.not_eq_true] at h13
  exact absurd hjl.2.1 (by rw [h13]; simp)
 rw [Bool.not_eq_true] at h12
 exact absurd hjl.1 (by rw [h12]; simp)
end Go.Proofs.YtmaaifhmhclhdaaGreat
