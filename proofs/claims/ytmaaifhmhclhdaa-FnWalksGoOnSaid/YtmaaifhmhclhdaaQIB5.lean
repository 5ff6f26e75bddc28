/-
  Walks, one after the other (part 6).
-/
import Derived.Test.YtmaaifhmhclhdaaQIL1
import Derived.Test.YtmaaifhmhclhdaaQIB3
import Derived.Test.YtmaaifhmhclhdaaQIB4
set_option linter.unusedSimpArgs false
set_option linter.unusedVariables false
namespace Go.Proofs.Ytmaaifhmhclhdaa
open Go X M Try

/- spec.l7DrawWalk -/
set_option maxHeartbeats 1000000 in
set_option maxRecDepth 20000 in
theorem l7DrawWalk_spec {F : FH} {L : List HP} {cb : Nat} {bsv : Value} {bs : List Int} (hbs : BytesF F bsv bs) (hbl : bs.length ≤ 4000000) {arv : Value} {ar : List Int} (har : IntsF F arv ar) {rsv : Value} {rs : List (List Int × List Int)} (hrs : PairsF F rsv rs) (hsm : smallS ar rs) :
    Does prog 88 [ptr cb 0, .agg #[arv, rsv]] F (curH .i64 123 cb bsv bs.length :: L) (fun v F' L' => (∃ (a : Value), ∃ (b : Value), ∃ (f : List Int), ∃ (xs : List StepT), (.agg #[a, b] : Value) = v ∧ (IntsF F' a f) ∧ (StepsF F' b xs) ∧ (smallW f xs)) ∧ curH .i64 123 cb bsv bs.length :: L = L') := by
 refine Does.of_X func88 rfl rfl rfl ?_
 have hla := hsm.la
 have hlr := hsm.lr
 have hrb := hsm.each
 refine X.seq (X.region (cX (XOp.box [arv, rsv] rfl rfl ?_)))
 intro b1
 refine cX (XOp.alloc [(.slice none 0 0), (.slice none 0 0)] zeroValue60 rfl ?_)
 intro b2
 refine XL.nil (X.seq (X.region (XL.mv (ptr cb 0) rfl (cX (XOp.loadN [arv, rsv] isAgg29 sizeOf29 rfl rfl (Rd.ownN [_] rfl rfl) (cX (XOp.call (args := [ptr cb 0, .agg #[arv, rsv]]) call105 rfl (Does.at [_, _] (l7DrawTerm_spec hbs (by omega) har hrs (hsm := (by first | assumption | rfl | omega | simp)))) ?_)))))))
 rintro _ F1 _ le1 ⟨⟨x1, rfl, hr1⟩, rfl⟩
 obtain ⟨t1, hr1, q1⟩ := hr1
 replace hbs := hbs.mono le1
 replace har := har.mono le1
 replace hrs := hrs.mono le1
 show XL _ _ _ _ _ _ _ (cellsH b2 [(.slice none 0 0), (.slice none 0 0)] 60 :: cellsH b1 [arv, rsv] 29 :: curH .i64 123 cb bsv bs.length :: L)
 refine cX (XOp.build [x1, (.slice none 0 0)] [(.slice none 0 0), (.slice none 0 0)] [(0, 1), (1, 1)] [(0, [x1])] runUnderlying60 zeroValue60 rfl (.cons rfl sizeOf24 (.cons rfl sizeOf45 PlacesAre.nil)) rfl (.cons (cells_one (IntsF.isSl hr1)) CellsAre.nil) (cX (XOp.alloc [(.slice none 0 0), (.slice none 0 0)] zeroValue60 rfl ?_)))
 intro b3
 refine cX (XOp.storeN [] _ [x1, (.slice none 0 0)] sizeOf60 rfl rfl rfl (ones_cons (one_sl (IntsF.isSl hr1)) (ones_cons rfl ones_nil)) rfl rfl rfl (XL.nil (X.seq (X.region (cX (XOp.fieldP (0) runUnderlying60 rfl sizeOf24 (by decide) rfl rfl (cX (XOp.load1 isAgg24 rfl (Rd.own [] rfl rfl) (XL.as (x1) rfl (XL.nil (X.seq (X.seq (X.region (XL.mv (ptr cb 0) rfl (cX (XOp.call (args := [ptr cb 0, .int .i64 (5)]) call137 rfl (Does.at [_, _, _] (l1Below_spec (n := 5) hbs (by omega) (hn := (by first | assumption | rfl | omega | simp)))) ?_))))))))))))))))
 rintro _ _ _ _ ⟨⟨rfl, x2, rfl, hr2⟩, rfl⟩
 show XL _ _ _ _ _ _ _ (cellsH b3 [x1, (.slice none 0 0)] 60 :: cellsH b2 [(.slice none 0 0), (.slice none 0 0)] 60 :: cellsH b1 [arv, rsv] 29 :: curH .i64 123 cb bsv bs.length :: L)
 refine XL.as (.int .i64 (x2)) rfl (XL.nil (X.block (X.loop (α := Nat × Value × List Int × Value × List StepT × List Value × Nat × FH) (fun xQ => [(0, ptr cb 0), (3, ptr b1 0), (4, ptr b2 0), (5, ptr b3 0), (6, xQ.2.1), (7, .int .i64 (((xQ.1 : Nat) : Int)))]) (fun xQ => slH 48 3 xQ.2.2.2.1 xQ.2.2.2.2.2.2.1 xQ.2.2.2.2.2.1 :: cellsH b3 [x1, xQ.2.2.2.1] 60 :: cellsH b2 [(.slice none 0 0), (.slice none 0 0)] 60 :: cellsH b1 [arv, rsv] 29 :: curH .i64 123 cb bsv bs.length :: L) (fun xQ F' => xQ.2.2.2.2.2.2.2 = F' ∧ F1 ≤ xQ.2.2.2.2.2.2.2 ∧ (IntsF xQ.2.2.2.2.2.2.2 xQ.2.1 xQ.2.2.1) ∧ (xQ.2.2.1.length ≤ 2000) ∧ (IsSl xQ.2.2.2.1) ∧ (StepsC xQ.2.2.2.2.2.2.2 xQ.2.2.2.2.2.1 xQ.2.2.2.2.1) ∧ (xQ.2.2.2.2.2.2.1 = xQ.2.2.2.2.1.length) ∧ (xQ.2.2.2.2.1.length + xQ.1 ≤ 4) ∧ (smallT xQ.2.2.2.2.1)) (fun xQ => xQ.1) (x2.toNat, x1, t1, (.slice none 0 0), [], [], 0, F1) ⟨rfl, rfl, rfl, rfl, rfl, (vI (by omega)), trivial⟩ (Sub.trans (Sub.addNil 48 3 _ _) (sC (sC (sC (sC (sC sR)))))) ⟨rfl, FLe.refl _, (hr1), (by omega), (⟨_, _, _, rfl⟩), (CO.nil), (rfl), (by (try dsimp only); simp only [List.length_nil]; omega), (smallT.nil)⟩ ?_)))
 rintro ⟨n, cv, cur, sv, ss, cs, m, G1⟩ rE _ _ ⟨rfl, leG, hcv, hcl, hsv, hC, hm, hon, hsw⟩
 show X _ _ _ _ (envs [(0, ptr cb 0), (3, ptr b1 0), (4, ptr b2 0), (5, ptr b3 0), (6, cv), (7, .int .i64 ((n : Int)))] rE) _ (slH 48 3 sv m cs :: cellsH b3 [x1, sv] 60 :: cellsH b2 [(.slice none 0 0), (.slice none 0 0)] 60 :: cellsH b1 [arv, rsv] 29 :: curH .i64 123 cb bsv bs.length :: L)
 replace leG : F1 ≤ G1 := leG
 dsimp only at hcv hcl hsv hC hm hon hsw
 have hsl9 := stepsS_len2 (ar := ar) (rs := rs) (t := cur)
 have hto9 : ∀ i, i < (stepsS ar rs cur).length → ((stepsS ar rs cur).getD i (0, 0, [])).2.2.length ≤ 60 := fun i hi => (termOk_len (right_iff.1 (stepAtL_ok (steps_law hi).1).1).2).2
 have leG1 := leG
 replace hbs := hbs.mono leG1
 replace har := har.mono leG1
 replace hrs := hrs.mono leG1
 replace hr1 := hr1.mono leG1
 refine X.seq (X.seq ?_)
 apply cutX (R := fun r9 F9 L9 => (∃ rE, r9 = envs [(0, ptr cb 0), (3, ptr b1 0), (4, ptr b2 0), (5, ptr b3 0)] rE) ∧ G1 ≤ F9 ∧ L9 = slH 48 3 sv m cs :: cellsH b3 [x1, sv] 60 :: cellsH b2 [(.slice none 0 0), (.slice none 0 0)] 60 :: cellsH b1 [arv, rsv] 29 :: curH .i64 123 cb bsv bs.length :: L)
 ·intro tail1
  refine X.region (XL.mv (.int .i64 ((n : Int))) rfl (cX (XOp.gtr rfl rfl (XL.nil ?_))))
  refine X.condD (p := (n : Int) > 0) rfl (fun h1 => ?_) (fun h1 => ?_)
  ·refine X.skip (X.seq (X.block (X.seq (X.region (cX (XOp.loadN [arv, rsv] isAgg29 sizeOf29 rfl rfl (Rd.ownN [_, _, _] rfl rfl) (XL.mv (cv) rfl (cX (XOp.call (args := [.agg #[arv, rsv], cv]) call24 rfl (sStepsFromS_spec har hrs hcv (hla := (by first | assumption | rfl | omega | simp)) (hlr := (by first | assumption | rfl | omega | simp)) (hrb := (by first | assumption | rfl | omega | simp)) (hlt := (by first | assumption | rfl | omega | simp))) ?_)))))))))
   rintro _ F3 _ le3 ⟨x3, rfl, hr3, rfl⟩
   replace hbs := hbs.mono le3
   replace har := har.mono le3
   replace hr1 := hr1.mono le3
   replace hC := hC.mono le3
   refine XL.as (x3) rfl (XL.nil (X.seq (X.seq (X.region (XL.mv (x3) rfl (cX (XOp.lenS runUnderlying45 rfl hr3.slv (cX (XOp.eql rfl rfl (XL.nil ?_))))))))))
   refine X.condD (p := ((((stepsS ar rs cur).length : Nat) : Int) : Int) = 0) rfl (fun h2 => ?_) (fun h2 => ?_)
   ·refine X.exit (thenQ_exit (blockQ_other (by decide) (thenQ_exit (thenQ_exit (blockQ_exit (X.seq (X.seq ?_)))))))
    exact X.weaken (L' := slH 48 3 sv m cs :: cellsH b3 [x1, sv] 60 :: cellsH b2 [(.slice none 0 0), (.slice none 0 0)] 60 :: cellsH b1 [arv, rsv] 29 :: curH .i64 123 cb bsv bs.length :: L) ((sC (sC (sC (sC (sC sR)))))) (tail1 _ _ _ ⟨⟨_, (envs_of_sat (l := [(0, ptr cb 0), (3, ptr b1 0), (4, ptr b2 0), (5, ptr b3 0)]) ⟨rfl, rfl, rfl, rfl, trivial⟩).symm⟩, le3, rfl⟩)
   refine X.skip (X.seq (X.region (XL.mv (x3) rfl (XL.mv (ptr cb 0) rfl (XL.mv (x3) rfl (cX (XOp.lenS runUnderlying45 rfl hr3.slv (cX (XOp.call (args := [ptr cb 0, .int .i64 ((((stepsS ar rs cur).length : Nat) : Int))]) call137 rfl (Does.at [_, _, _, _] (l1Below_spec (n := (((stepsS ar rs cur).length : Nat) : Int)) hbs (by omega) (hn := (by first | assumption | rfl | omega | simp)))) ?_)))))))))
   rintro _ _ _ _ ⟨⟨rfl, x4, rfl, hr4⟩, rfl⟩
   show XL _ _ _ _ _ _ _ (slH 48 3 sv m cs :: cellsH b3 [x1, sv] 60 :: cellsH b2 [(.slice none 0 0), (.slice none 0 0)] 60 :: cellsH b1 [arv, rsv] 29 :: curH .i64 123 cb bsv bs.length :: L)
   skip
   refine cX (XOp.indexS ((x4).toNat) runUnderlying45 sizeOf48 rfl rfl (by omega) hr3.slv (by omega) rfl ?_)
   obtain ⟨a1, ha1, hr5, hr6, hr7⟩ := hr3.rd (i := (x4).toNat) (by omega)
   refine cX (XOp.loadN [.int .i64 (((stepsS ar rs cur).getD ((x4).toNat) (0, 0, [])).1), .int .i64 (((stepsS ar rs cur).getD ((x4).toNat) (0, 0, [])).2.1), a1] isAgg48 sizeOf48 rfl rfl (Rd.three (hr5 _) (hr6 _) (hr7 _)) (cX (XOp.alloc [.int .i64 (0), .int .i64 (0), (.slice none 0 0)] zeroValue48 rfl ?_)))
   intro b4
   refine cX (XOp.storeN [] _ [.int .i64 (((stepsS ar rs cur).getD ((x4).toNat) (0, 0, [])).1), .int .i64 (((stepsS ar rs cur).getD ((x4).toNat) (0, 0, [])).2.1), a1] sizeOf48 rfl rfl rfl (ones_cons rfl (ones_cons rfl (ones_cons (one_sl (IntsF.isSl ha1)) ones_nil))) rfl rfl rfl (XL.nil (X.seq (X.region (cX (XOp.fieldP (1) runUnderlying60 rfl sizeOf45 (by decide) rfl rfl (cX (XOp.load1 isAgg45 rfl (Rd.own [_, _] rfl rfl) (cX (XOp.loadN [.int .i64 (((stepsS ar rs cur).getD ((x4).toNat) (0, 0, [])).1), .int .i64 (((stepsS ar rs cur).getD ((x4).toNat) (0, 0, [])).2.1), a1] isAgg48 sizeOf48 rfl rfl (Rd.ownN [] rfl rfl) (cX (XOp.buildSlice (s := 3) [.int .i64 (((stepsS ar rs cur).getD ((x4).toNat) (0, 0, [])).1), .int .i64 (((stepsS ar rs cur).getD ((x4).toNat) (0, 0, [])).2.1), a1] [.int .i64 (0), .int .i64 (0), (.slice none 0 0)] [(0, [.int .i64 (((stepsS ar rs cur).getD ((x4).toNat) (0, 0, [])).1), .int .i64 (((stepsS ar rs cur).getD ((x4).toNat) (0, 0, [])).2.1), a1])] runUnderlying45 sizeOf48 zeroValue48 rfl (by decide) rfl (.cons rfl CellsAre.nil) rfl ?_))))))))))))
   intro v1 hv1
   refine cX (XOp.append (m := 1) (bytes := 40) (cs := cs) [_, _] _ [.int .i64 (((stepsS ar rs cur).getD ((x4).toNat) (0, 0, [])).1), .int .i64 (((stepsS ar rs cur).getD ((x4).toNat) (0, 0, [])).2.1), a1] runUnderlying45 typeInfo48 rfl rfl rfl rfl rfl rfl rfl (SlV.own [] rfl) rfl (Rd.lit [] rfl) (ones_cons rfl (ones_cons rfl (ones_cons (one_sl (IntsF.isSl ha1)) ones_nil))) (by (try simp only [List.length_append, List.length_nil, List.length_cons, List.length_singleton]); omega) (by (try simp only [List.length_append, List.length_nil, List.length_cons, List.length_singleton]); omega) ?_)
   intro v2 hs1 hn1 hm1
   have hc1 := StepsC.snoc hC (i := ((stepsS ar rs cur).getD ((x4).toNat) (0, 0, [])).1) (j := ((stepsS ar rs cur).getD ((x4).toNat) (0, 0, [])).2.1) ha1
   refine cX (XOp.fieldP (1) runUnderlying60 rfl sizeOf45 (by decide) rfl rfl (cX (XOp.store1 [_, _, _] _ [x1, v2] sizeOf45 rfl rfl (one_sl hs1) rfl rfl rfl (XL.nil (X.region (cX (XOp.fieldP (2) runUnderlying48 rfl sizeOf24 (by decide) rfl rfl (cX (XOp.load1 isAgg24 rfl (Rd.own [_] rfl rfl) (XL.as (a1) rfl (XL.nil (X.region (XL.mv (.int .i64 ((n : Int))) rfl (cX (XOp.subR (((n : Int)) - 1) rfl rfl (by omega) (by omega) (XL.as (.int .i64 (((n : Int)) - 1)) rfl ?_))))))))))))))))
   refine XL.nil ?_
   exact ⟨(n - 1, a1, ((stepsS ar rs cur).getD ((x4).toNat) (0, 0, [])).2.2, v2, ss ++ [(((stepsS ar rs cur).getD ((x4).toNat) (0, 0, [])).1, ((stepsS ar rs cur).getD ((x4).toNat) (0, 0, [])).2.1, ((stepsS ar rs cur).getD ((x4).toNat) (0, 0, [])).2.2)], cs ++ [.int .i64 (((stepsS ar rs cur).getD ((x4).toNat) (0, 0, [])).1), .int .i64 (((stepsS ar rs cur).getD ((x4).toNat) (0, 0, [])).2.1), a1], (m) + 1, F3), _, (FLe.trans leG1 le3), rF, ⟨rfl, rfl, rfl, rfl, rfl, (vI (by (try dsimp only); omega)), trivial⟩, (sD (sD (sC (sC (sC (sC (sC sR))))))), ⟨rfl, (FLe.trans leG1 le3), (ha1), (by have h9 := hto9 (x4).toNat (by omega); (try dsimp only); omega), (hs1), (hc1), (by (try dsimp only); rw [List.length_append]; simp only [List.length_singleton]; omega), (by (try dsimp only); rw [List.length_append]; simp only [List.length_singleton]; omega), (hsw.snoc (by have h9 := hto9 (x4).toNat (by omega); (try dsimp only); omega))⟩, (by (try dsimp only); omega)⟩
  refine X.exit (thenQ_exit (thenQ_exit (blockQ_exit (X.seq (X.seq ?_)))))
  exact X.weaken (L' := slH 48 3 sv m cs :: cellsH b3 [x1, sv] 60 :: cellsH b2 [(.slice none 0 0), (.slice none 0 0)] 60 :: cellsH b1 [arv, rsv] 29 :: curH .i64 123 cb bsv bs.length :: L) ((sC (sC (sC (sC (sC sR)))))) (tail1 _ _ _ ⟨⟨_, (envs_of_sat (l := [(0, ptr cb 0), (3, ptr b1 0), (4, ptr b2 0), (5, ptr b3 0)]) ⟨rfl, rfl, rfl, rfl, trivial⟩).symm⟩, rF, rfl⟩)
 rintro _ F5 _ ⟨⟨rE, rfl⟩, le5, rfl⟩
 replace hbs := hbs.mono le5
 replace har := har.mono le5
 replace hr1 := hr1.mono le5
 replace hC := hC.mono le5
 refine X.region (XL.mv (ptr cb 0) rfl (cX (XOp.call (args := [ptr cb 0, .int .i64 (12)]) call136 rfl (Does.at [_, _, _, _] (l1Once_spec (n := 12) hbs (by omega) (hn := (by first | assumption | rfl | omega | simp)))) ?_)))
 rintro _ _ _ _ ⟨⟨rfl, x5, rfl⟩, rfl⟩
 show XL _ _ _ _ _ _ _ (slH 48 3 sv m cs :: cellsH b3 [x1, sv] 60 :: cellsH b2 [(.slice none 0 0), (.slice none 0 0)] 60 :: cellsH b1 [arv, rsv] 29 :: curH .i64 123 cb bsv bs.length :: L)
 refine XL.mv (.bool (x5)) rfl ?_
 by_cases h3 : (x5) = true
 ·refine XL.yes (t := 46) rfl (vB h3) (XOp.fieldP (1) runUnderlying60 rfl sizeOf45 (by decide) rfl rfl (XL.yes (t := 46) rfl (vB h3) (XOp.load1 isAgg45 rfl (Rd.own [_] rfl rfl) (XL.yes (t := 46) rfl (vB h3) (XOp.lenS runUnderlying45 rfl (SlV.own [] rfl) (XL.yes (t := 46) rfl (vB h3) (XOp.gtr rfl rfl (cX (XOp.pickT (.bool (decide ((m : Int) > 0))) (vB h3) rfl (XL.nil ?_))))))))))
  refine X.condD (p := (m : Int) > 0) rfl (fun h4 => ?_) (fun h4 => ?_)
  ·refine X.seq (X.region (XL.mv (ptr cb 0) rfl (cX (XOp.fieldP (1) runUnderlying60 rfl sizeOf45 (by decide) rfl rfl (cX (XOp.load1 isAgg45 rfl (Rd.own [_] rfl rfl) (cX (XOp.lenS runUnderlying45 rfl (SlV.own [] rfl) (cX (XOp.call (args := [ptr cb 0, .int .i64 ((m : Int))]) call137 rfl (Does.at [_, _, _, _] (l1Below_spec (n := (m : Int)) hbs (by omega) (hn := (by first | assumption | rfl | omega | simp)))) ?_))))))))))
   rintro _ _ _ _ ⟨⟨rfl, x6, rfl, hr8⟩, rfl⟩
   show XL _ _ _ _ _ _ _ (slH 48 3 sv m cs :: cellsH b3 [x1, sv] 60 :: cellsH b2 [(.slice none 0 0), (.slice none 0 0)] 60 :: cellsH b1 [arv, rsv] 29 :: curH .i64 123 cb bsv bs.length :: L)
   refine XL.as (.int .i64 (x6)) rfl (XL.nil (X.seq (X.region (XL.mv (ptr cb 0) rfl (cX (XOp.call (args := [ptr cb 0, .int .i64 (3)]) call137 rfl (Does.at [_, _, _, _] (l1Below_spec (n := 3) hbs (by omega) (hn := (by first | assumption | rfl | omega | simp)))) ?_))))))
   rintro _ _ _ _ ⟨⟨rfl, x7, rfl, hr9⟩, rfl⟩
   show XL _ _ _ _ _ _ _ (slH 48 3 sv m cs :: cellsH b3 [x1, sv] 60 :: cellsH b2 [(.slice none 0 0), (.slice none 0 0)] 60 :: cellsH b1 [arv, rsv] 29 :: curH .i64 123 cb bsv bs.length :: L)
   refine XL.nil (X.block (X.seq (X.region (cX (XOp.eql rfl rfl (XL.as (.bool (decide ((x7 : Int) = 0))) rfl (XL.nil ?_)))))))
   refine X.condD (p := (x7 : Int) = 0) rfl (fun h5 => ?_) (fun h5 => ?_)
   ·refine X.drawG [slH 48 3 sv m cs, cellsH b3 [x1, sv] 60, cellsH b2 [(.slice none 0 0), (.slice none 0 0)] 60, cellsH b1 [arv, rsv] 29, curH .i64 123 cb bsv bs.length] L 5 [[], [], [], [], []] [[], [0], [], [], [3]] [[], [], [], [], []] (phiG [fun FF us v => v = ptr b3 1, fun FF us v => v = sv, fun FF us v => v = (.int .i64 (x6) : Value), fun FF us v => v = ptr cb 0, fun FF us v => (.int .i64 (((intAt v))) : Value) = v ∧ ((-1) ≤ ((intAt v)) ∧ (((intAt v)) ≤ 5 ∨ ((intAt v)) = (-1)))]) (ownL [fun us v => [], fun us v => [], fun us v => [], fun us v => [], fun us v => []]) mixed rfl rfl (by kernel_rfl) (by kernel_rfl) (MonoG.get (mC (fun le h => h) (mC (fun le h => h) (mC (fun le h => h) (mC (fun le h => h) (mC (fun le h => ⟨h.1, h.2⟩) MonoG.nil)))))) ?_ ?_
    ·refine gC (fun vals Fs R leFs hpZ => ?_) ?_
     ·refine XG.op (XOp.fieldP (1) runUnderlying60 rfl sizeOf45 (by decide) rfl rfl ?_)
      exact ⟨rfl, rfl⟩
     refine gC (fun vals Fs R leFs hpZ => ?_) ?_
     ·replace hbs := hbs.mono leFs
      replace har := har.mono leFs
      replace hr1 := hr1.mono leFs
      replace hC := hC.mono leFs
      rw [eS (l := [(0, ptr b3 1)]) ⟨(hpZ 0 (by decide)), trivial⟩]
      refine XG.op (XOp.load1 isAgg45 rfl (Rd.own [_] rfl rfl) ?_)
      exact ⟨rfl, rfl⟩
     refine gC (fun vals Fs R leFs hpZ => ?_) ?_
     ·refine XG.op (XOp.move (.int .i64 (x6)) rfl ?_)
      exact ⟨rfl, rfl⟩
     refine gC (fun vals Fs R leFs hpZ => ?_) ?_
     ·refine XG.op (XOp.move (ptr cb 0) rfl ?_)
      exact ⟨rfl, rfl⟩
     refine gC (fun vals Fs R leFs hpZ => ?_) ?_
     ·replace hbs := hbs.mono leFs
      replace har := har.mono leFs
      replace hr1 := hr1.mono leFs
      replace hC := hC.mono leFs
      rw [eS (l := [(3, ptr cb 0)]) ⟨(hpZ 3 (by decide)), trivial⟩]
      refine XG.op (XOp.call (args := [ptr cb 0, .int .i64 (-1), .int .i64 (5)]) call90 rfl (Does.at [_, _, _, _] (l1From_spec (lo := -1) (hi := 5) hbs (by omega) (hlo := (by first | assumption | rfl | omega | simp)))) ?_)
      rintro _ _ _ _ ⟨⟨rfl, x9, rfl, hr11⟩, rfl⟩
      exact ⟨⟨rfl, hr11⟩, rfl⟩
     exact stepsG.nil
    intro vals F11 le11 hphi
    obtain ⟨e4, f4_1hx⟩ := hphi 4 (by decide)
    generalize hu1 : (intAt (vals 4)) = u1 at e4 f4_1hx
    rw [eS (l := [(1, sv), (2, (.int .i64 (x6) : Value)), (4, (.int .i64 ((u1)) : Value))]) ⟨(hphi 1 (by decide)), (hphi 2 (by decide)), (e4).symm, trivial⟩]
    replace hbs := hbs.mono le11
    replace har := har.mono le11
    replace hr1 := hr1.mono le11
    replace hC := hC.mono le11
    show XL _ _ _ _ _ _ _ (slH 48 3 sv m cs :: cellsH b3 [x1, sv] 60 :: cellsH b2 [(.slice none 0 0), (.slice none 0 0)] 60 :: cellsH b1 [arv, rsv] 29 :: curH .i64 123 cb bsv bs.length :: L)
    refine cX (XOp.indexS ((x6).toNat) runUnderlying45 sizeOf48 rfl rfl (by omega) (SlV.own [] rfl) (by omega) rfl (cX (XOp.fieldE (((x6).toNat) * 3) runUnderlying48 rfl sizeOf2 (by decide) rfl rfl (cX (XOp.storeS (i := ((x6).toNat) * 3) (cs := cs) [] _ sizeOf2 rfl rfl rfl rfl (by have h9 := CO.len hC; (try simp only [List.length_set, List.length_replicate] at h9 ⊢) <;> omega) ?_)))))
    have hc2 := hC.setAt (j := ((x6).toNat)) (a := (u1)) (by (try simp only [List.length_set, List.length_replicate]); omega)
    refine XL.nil (X.seq (X.region (cX (XOp.loadN [x1, sv] isAgg60 sizeOf60 rfl rfl (Rd.ownN [_] rfl rfl) (cX (XOp.storeN [_, _] _ [x1, sv] sizeOf60 rfl rfl rfl (ones_cons (one_sl (IntsF.isSl hr1)) (ones_cons (one_sl hsv) ones_nil)) rfl rfl rfl (XL.nil (X.freezeF [] _ _ rfl (fun F12 le12 hz1 => ?_)))))))))
    replace hbs := hbs.mono le12
    replace har := har.mono le12
    replace hr1 := hr1.mono le12
    replace hC := hC.mono le12
    replace hc2 := hc2.mono le12
    have hf1 : StepsF F12 sv ((ss.set ((x6).toNat) ((u1), (ss.getD ((x6).toNat) (0, 0, [])).2))) := CO.fz hc2 (by first | rfl | omega | (rw [List.length_set]; omega) | (simp; done)) hz1.fz
    refine X.ret (retEnd (L' := curH .i64 123 cb bsv bs.length :: L) [.agg #[x1, sv]] (.agg #[x1, sv]) (.cell rfl (loadNV [x1, sv] isAgg60 sizeOf60 rfl (Rd.ownN [_] rfl rfl)) .nil) rfl (FLe.trans (FLe.trans (FLe.trans (FLe.trans le1 leG1) le5) le11) le12) rF (sD (sD (sD (sC sR)))) ?_)
    exact ⟨⟨_, _, _, _, rfl, hr1, hf1, by omega, by (try rw [List.length_set]); omega, hsw.set (by (try dsimp only); first | exact hsw _ | omega) _⟩, rfl⟩
   refine X.seq (X.region (cX (XOp.eql rfl rfl (XL.as (.bool (decide ((x7 : Int) = 1))) rfl (XL.nil ?_)))))
   refine X.condD (p := (x7 : Int) = 1) rfl (fun h6 => ?_) (fun h6 => ?_)
   ·refine X.drawG [slH 48 3 sv m cs, cellsH b3 [x1, sv] 60, cellsH b2 [(.slice none 0 0), (.slice none 0 0)] 60, cellsH b1 [arv, rsv] 29, curH .i64 123 cb bsv bs.length] L 5 [[], [], [], [], []] [[], [0], [], [], [3]] [[], [], [], [], []] (phiG [fun FF us v => v = ptr b3 1, fun FF us v => v = sv, fun FF us v => v = (.int .i64 (x6) : Value), fun FF us v => v = ptr cb 0, fun FF us v => (.int .i64 (((intAt v))) : Value) = v ∧ ((-1) ≤ ((intAt v)) ∧ (((intAt v)) ≤ 3 ∨ ((intAt v)) = (-1)))]) (ownL [fun us v => [], fun us v => [], fun us v => [], fun us v => [], fun us v => []]) mixed rfl rfl (by kernel_rfl) (by kernel_rfl) (MonoG.get (mC (fun le h => h) (mC (fun le h => h) (mC (fun le h => h) (mC (fun le h => h) (mC (fun le h => ⟨h.1, h.2⟩) MonoG.nil)))))) ?_ ?_
    ·refine gC (fun vals Fs R leFs hpZ => ?_) ?_
     ·refine XG.op (XOp.fieldP (1) runUnderlying60 rfl sizeOf45 (by decide) rfl rfl ?_)
      exact ⟨rfl, rfl⟩
     refine gC (fun vals Fs R leFs hpZ => ?_) ?_
     ·replace hbs := hbs.mono leFs
      replace har := har.mono leFs
      replace hr1 := hr1.mono leFs
      replace hC := hC.mono leFs
      rw [eS (l := [(0, ptr b3 1)]) ⟨(hpZ 0 (by decide)), trivial⟩]
      refine XG.op (XOp.load1 isAgg45 rfl (Rd.own [_] rfl rfl) ?_)
      exact ⟨rfl, rfl⟩
     refine gC (fun vals Fs R leFs hpZ => ?_) ?_
     ·refine XG.op (XOp.move (.int .i64 (x6)) rfl ?_)
      exact ⟨rfl, rfl⟩
     refine gC (fun vals Fs R leFs hpZ => ?_) ?_
     ·refine XG.op (XOp.move (ptr cb 0) rfl ?_)
      exact ⟨rfl, rfl⟩
     refine gC (fun vals Fs R leFs hpZ => ?_) ?_
     ·replace hbs := hbs.mono leFs
      replace har := har.mono leFs
      replace hr1 := hr1.mono leFs
      replace hC := hC.mono leFs
      rw [eS (l := [(3, ptr cb 0)]) ⟨(hpZ 3 (by decide)), trivial⟩]
      refine XG.op (XOp.call (args := [ptr cb 0, .int .i64 (-1), .int .i64 (3)]) call90 rfl (Does.at [_, _, _, _] (l1From_spec (lo := -1) (hi := 3) hbs (by omega) (hlo := (by first | assumption | rfl | omega | simp)))) ?_)
      rintro _ _ _ _ ⟨⟨rfl, x11, rfl, hr13⟩, rfl⟩
      exact ⟨⟨rfl, hr13⟩, rfl⟩
     exact stepsG.nil
    intro vals F15 le15 hphi
    obtain ⟨e4, f4_2hx⟩ := hphi 4 (by decide)
    generalize hu2 : (intAt (vals 4)) = u2 at e4 f4_2hx
    rw [eS (l := [(1, sv), (2, (.int .i64 (x6) : Value)), (4, (.int .i64 ((u2)) : Value))]) ⟨(hphi 1 (by decide)), (hphi 2 (by decide)), (e4).symm, trivial⟩]
    replace hbs := hbs.mono le15
    replace har := har.mono le15
    replace hr1 := hr1.mono le15
    replace hC := hC.mono le15
    show XL _ _ _ _ _ _ _ (slH 48 3 sv m cs :: cellsH b3 [x1, sv] 60 :: cellsH b2 [(.slice none 0 0), (.slice none 0 0)] 60 :: cellsH b1 [arv, rsv] 29 :: curH .i64 123 cb bsv bs.length :: L)
    refine cX (XOp.indexS ((x6).toNat) runUnderlying45 sizeOf48 rfl rfl (by omega) (SlV.own [] rfl) (by omega) rfl (cX (XOp.fieldE (((x6).toNat) * 3 + 1) runUnderlying48 rfl sizeOf2 (by decide) rfl rfl (cX (XOp.storeS (i := ((x6).toNat) * 3 + 1) (cs := cs) [] _ sizeOf2 rfl rfl rfl rfl (by have h9 := CO.len hC; (try simp only [List.length_set, List.length_replicate] at h9 ⊢) <;> omega) ?_)))))
    have hc3 := hC.setRule (j := ((x6).toNat)) (a := (u2)) (by (try simp only [List.length_set, List.length_replicate]); omega)
    refine XL.nil (X.seq (X.region (cX (XOp.loadN [x1, sv] isAgg60 sizeOf60 rfl rfl (Rd.ownN [_] rfl rfl) (cX (XOp.storeN [_, _] _ [x1, sv] sizeOf60 rfl rfl rfl (ones_cons (one_sl (IntsF.isSl hr1)) (ones_cons (one_sl hsv) ones_nil)) rfl rfl rfl (XL.nil (X.freezeF [] _ _ rfl (fun F16 le16 hz2 => ?_)))))))))
    replace hbs := hbs.mono le16
    replace har := har.mono le16
    replace hr1 := hr1.mono le16
    replace hC := hC.mono le16
    replace hc3 := hc3.mono le16
    have hf2 : StepsF F16 sv ((ss.set ((x6).toNat) ((ss.getD ((x6).toNat) (0, 0, [])).1, (u2), (ss.getD ((x6).toNat) (0, 0, [])).2.2))) := CO.fz hc3 (by first | rfl | omega | (rw [List.length_set]; omega) | (simp; done)) hz2.fz
    refine X.ret (retEnd (L' := curH .i64 123 cb bsv bs.length :: L) [.agg #[x1, sv]] (.agg #[x1, sv]) (.cell rfl (loadNV [x1, sv] isAgg60 sizeOf60 rfl (Rd.ownN [_] rfl rfl)) .nil) rfl (FLe.trans (FLe.trans (FLe.trans (FLe.trans le1 leG1) le5) le15) le16) rF (sD (sD (sD (sC sR)))) ?_)
    exact ⟨⟨_, _, _, _, rfl, hr1, hf2, by omega, by (try rw [List.length_set]); omega, hsw.set (by (try dsimp only); first | exact hsw _ | omega) _⟩, rfl⟩
   refine X.seq (X.region (cX (XOp.eql rfl rfl (XL.as (.bool (decide ((x7 : Int) = 2))) rfl (XL.nil ?_)))))
   refine X.condD (p := (x7 : Int) = 2) rfl (fun h7 => ?_) (fun h7 => ?_)
   ·refine X.drawG [slH 48 3 sv m cs, cellsH b3 [x1, sv] 60, cellsH b2 [(.slice none 0 0), (.slice none 0 0)] 60, cellsH b1 [arv, rsv] 29, curH .i64 123 cb bsv bs.length] L 7 [[], [], [], [], [], [], []] [[], [0], [], [], [], [4], [3, 5]] [[], [], [], [], [], [], []] (phiG [fun FF us v => v = ptr b3 1, fun FF us v => v = sv, fun FF us v => v = (.int .i64 (x6) : Value), fun FF us v => v = ptr cb 0, fun FF us v => v = ptr b1 0, fun FF us v => v = (.agg #[arv] : Value), fun FF us v => ((v) : Value) = v ∧ (SomesF FF (v) (fun u => u.length ≤ 2000))]) (ownL [fun us v => [], fun us v => [], fun us v => [], fun us v => [], fun us v => [], fun us v => [], fun us v => []]) mixed rfl rfl (by kernel_rfl) (by kernel_rfl) (MonoG.get (mC (fun le h => h) (mC (fun le h => h) (mC (fun le h => h) (mC (fun le h => h) (mC (fun le h => h) (mC (fun le h => h) (mC (fun le h => ⟨h.1, h.2.mono le⟩) MonoG.nil)))))))) ?_ ?_
    ·refine gC (fun vals Fs R leFs hpZ => ?_) ?_
     ·refine XG.op (XOp.fieldP (1) runUnderlying60 rfl sizeOf45 (by decide) rfl rfl ?_)
      exact ⟨rfl, rfl⟩
     refine gC (fun vals Fs R leFs hpZ => ?_) ?_
     ·replace hbs := hbs.mono leFs
      replace har := har.mono leFs
      replace hr1 := hr1.mono leFs
      replace hC := hC.mono leFs
      rw [eS (l := [(0, ptr b3 1)]) ⟨(hpZ 0 (by decide)), trivial⟩]
      refine XG.op (XOp.load1 isAgg45 rfl (Rd.own [_] rfl rfl) ?_)
      exact ⟨rfl, rfl⟩
     refine gC (fun vals Fs R leFs hpZ => ?_) ?_
     ·refine XG.op (XOp.move (.int .i64 (x6)) rfl ?_)
      exact ⟨rfl, rfl⟩
     refine gC (fun vals Fs R leFs hpZ => ?_) ?_
     ·refine XG.op (XOp.move (ptr cb 0) rfl ?_)
      exact ⟨rfl, rfl⟩
     refine gC (fun vals Fs R leFs hpZ => ?_) ?_
     ·refine XG.op (XOp.fieldP (0) runUnderlying29 rfl sizeOf26 (by decide) rfl rfl ?_)
      exact ⟨rfl, rfl⟩
     refine gC (fun vals Fs R leFs hpZ => ?_) ?_
     ·replace hbs := hbs.mono leFs
      replace har := har.mono leFs
      replace hr1 := hr1.mono leFs
      replace hC := hC.mono leFs
      rw [eS (l := [(4, ptr b1 0)]) ⟨(hpZ 4 (by decide)), trivial⟩]
      refine XG.op (XOp.loadN [arv] isAgg26 sizeOf26 rfl rfl (Rd.ownN [_, _, _] rfl rfl) ?_)
      exact ⟨rfl, rfl⟩
     refine gC (fun vals Fs R leFs hpZ => ?_) ?_
     ·replace hbs := hbs.mono leFs
      replace har := har.mono leFs
      replace hr1 := hr1.mono leFs
      replace hC := hC.mono leFs
      rw [eS (l := [(3, ptr cb 0), (5, (.agg #[arv] : Value))]) ⟨(hpZ 3 (by decide)), (hpZ 5 (by decide)), trivial⟩]
      refine XG.op (XOp.call (args := [ptr cb 0, .agg #[arv]]) call89 rfl (Does.at [_, _, _, _] (l1DrawAny_spec hbs (by omega) har (hal := (by first | assumption | rfl | omega | simp)))) ?_)
      rintro _ F18 _ le18 ⟨⟨x13, rfl, hr15⟩, rfl⟩
      replace hr1 := hr1.mono le18
      replace hC := hC.mono le18
      exact ⟨⟨rfl, hr15⟩, rfl⟩
     exact stepsG.nil
    intro vals F19 le19 hphi
    obtain ⟨e6, f6_3hp_a⟩ := hphi 6 (by decide)
    obtain ⟨t6X3_a, f6_3hp_a, q6_3_a0⟩ := f6_3hp_a
    generalize hu3 : ((vals 6)) = u3 at e6 f6_3hp_a
    rw [eS (l := [(1, sv), (2, (.int .i64 (x6) : Value)), (6, u3)]) ⟨(hphi 1 (by decide)), (hphi 2 (by decide)), hu3, trivial⟩]
    replace hr1 := hr1.mono le19
    replace hC := hC.mono le19
    show XL _ _ _ _ _ _ _ (slH 48 3 sv m cs :: cellsH b3 [x1, sv] 60 :: cellsH b2 [(.slice none 0 0), (.slice none 0 0)] 60 :: cellsH b1 [arv, rsv] 29 :: curH .i64 123 cb bsv bs.length :: L)
    refine cX (XOp.indexS ((x6).toNat) runUnderlying45 sizeOf48 rfl rfl (by omega) (SlV.own [] rfl) (by omega) rfl (cX (XOp.fieldE (((x6).toNat) * 3 + 2) runUnderlying48 rfl sizeOf24 (by decide) rfl rfl (cX (XOp.storeS (i := ((x6).toNat) * 3 + 2) (cs := cs) [] _ sizeOf24 rfl rfl (one_sl (IntsF.isSl f6_3hp_a)) rfl (by have h9 := CO.len hC; (try simp only [List.length_set, List.length_replicate] at h9 ⊢) <;> omega) ?_)))))
    have hc4 := hC.setTo (j := ((x6).toNat)) (by (try simp only [List.length_set, List.length_replicate]); omega) f6_3hp_a
    refine XL.nil (X.seq (X.region (cX (XOp.loadN [x1, sv] isAgg60 sizeOf60 rfl rfl (Rd.ownN [_] rfl rfl) (cX (XOp.storeN [_, _] _ [x1, sv] sizeOf60 rfl rfl rfl (ones_cons (one_sl (IntsF.isSl hr1)) (ones_cons (one_sl hsv) ones_nil)) rfl rfl rfl (XL.nil (X.freezeF [] _ _ rfl (fun F20 le20 hz3 => ?_)))))))))
    replace hr1 := hr1.mono le20
    replace hC := hC.mono le20
    replace hc4 := hc4.mono le20
    have hf3 : StepsF F20 sv ((ss.set ((x6).toNat) ((ss.getD ((x6).toNat) (0, 0, [])).1, (ss.getD ((x6).toNat) (0, 0, [])).2.1, t6X3_a))) := CO.fz hc4 (by first | rfl | omega | (rw [List.length_set]; omega) | (simp; done)) hz3.fz
    refine X.ret (retEnd (L' := curH .i64 123 cb bsv bs.length :: L) [.agg #[x1, sv]] (.agg #[x1, sv]) (.cell rfl (loadNV [x1, sv] isAgg60 sizeOf60 rfl (Rd.ownN [_] rfl rfl)) .nil) rfl (FLe.trans (FLe.trans (FLe.trans (FLe.trans le1 leG1) le5) le19) le20) rF (sD (sD (sD (sC sR)))) ?_)
    exact ⟨⟨_, _, _, _, rfl, hr1, hf3, by omega, by (try rw [List.length_set]); omega, hsw.set (by (try dsimp only); first | exact hsw _ | omega) _⟩, rfl⟩
   refine X.skip (X.seq (X.region (cX (XOp.loadN [x1, sv] isAgg60 sizeOf60 rfl rfl (Rd.ownN [_] rfl rfl) (cX (XOp.storeN [_, _] _ [x1, sv] sizeOf60 rfl rfl rfl (ones_cons (one_sl (IntsF.isSl hr1)) (ones_cons (one_sl hsv) ones_nil)) rfl rfl rfl (XL.nil (X.freezeF [] _ _ rfl (fun F21 le21 hz4 => ?_)))))))))
   replace hr1 := hr1.mono le21
   replace hC := hC.mono le21
   have hf4 : StepsF F21 sv ss := CO.fz hC (by first | rfl | omega | (rw [List.length_set]; omega) | (simp; done)) hz4.fz
   refine X.ret (retEnd (L' := curH .i64 123 cb bsv bs.length :: L) [.agg #[x1, sv]] (.agg #[x1, sv]) (.cell rfl (loadNV [x1, sv] isAgg60 sizeOf60 rfl (Rd.ownN [_] rfl rfl)) .nil) rfl (FLe.trans (FLe.trans (FLe.trans le1 leG1) le5) le21) rF (sD (sD (sD (sC sR)))) ?_)
   exact ⟨⟨_, _, _, _, rfl, hr1, hf4, by omega, by omega, hsw⟩, rfl⟩
  refine X.skip (X.seq (X.region (cX (XOp.loadN [x1, sv] isAgg60 sizeOf60 rfl rfl (Rd.ownN [_] rfl rfl) (cX (XOp.storeN [_, _] _ [x1, sv] sizeOf60 rfl rfl rfl (ones_cons (one_sl (IntsF.isSl hr1)) (ones_cons (one_sl hsv) ones_nil)) rfl rfl rfl (XL.nil (X.freezeF [] _ _ rfl (fun F22 le22 hz5 => ?_)))))))))
  replace hr1 := hr1.mono le22
  replace hC := hC.mono le22
  have hf5 : StepsF F22 sv ss := CO.fz hC (by first | rfl | omega | (rw [List.length_set]; omega) | (simp; done)) hz5.fz
  refine X.ret (retEnd (L' := curH .i64 123 cb bsv bs.length :: L) [.agg #[x1, sv]] (.agg #[x1, sv]) (.cell rfl (loadNV [x1, sv] isAgg60 sizeOf60 rfl (Rd.ownN [_] rfl rfl)) .nil) rfl (FLe.trans (FLe.trans (FLe.trans le1 leG1) le5) le22) rF (sD (sD (sD (sC sR)))) ?_)
  exact ⟨⟨_, _, _, _, rfl, hr1, hf5, by omega, by omega, hsw⟩, rfl⟩
 rw [Bool.not_eq_true] at h3
 refine XL.no (t := 46) rfl (vB h3) (XL.no (t := 46) rfl (vB h3) (XL.no (t := 46) rfl (vB h3) (XL.no (t := 46) rfl (vB h3) (cX (XOp.pickF (.bool (false)) (vB h3) rfl (XL.nil (X.condF rfl (X.skip (X.seq (X.region (cX (XOp.loadN [x1, sv] isAgg60 sizeOf60 rfl rfl (Rd.ownN [_] rfl rfl) (cX (XOp.storeN [_, _] _ [x1, sv] sizeOf60 rfl rfl rfl (ones_cons (one_sl (IntsF.isSl hr1)) (ones_cons (one_sl hsv) ones_nil)) rfl rfl rfl ?_))))))))))))))
 refine XL.nil (X.freezeF [] _ _ rfl (fun F23 le23 hz6 => ?_))
 replace hr1 := hr1.mono le23
 replace hC := hC.mono le23
 have hf6 : StepsF F23 sv ss := CO.fz hC (by first | rfl | omega | (rw [List.length_set]; omega) | (simp; done)) hz6.fz
 refine X.ret (retEnd (L' := curH .i64 123 cb bsv bs.length :: L) [.agg #[x1, sv]] (.agg #[x1, sv]) (.cell rfl (loadNV [x1, sv] isAgg60 sizeOf60 rfl (Rd.ownN [_] rfl rfl)) .nil) rfl (FLe.trans (FLe.trans (FLe.trans le1 leG1) le5) le23) rF (sD (sD (sD (sC sR)))) ?_)
 exact ⟨⟨_, _, _, _, rfl, hr1, hf6, by omega, by omega, hsw⟩, rfl⟩

/- spec.l2Draw -/
theorem l2DrawO_spec {F : FH} {L : List HP} {cb : Nat} {bsv : Value} {bs : List Int} (hbs : BytesF F bsv bs) (hbl : bs.length ≤ 4000000) {arv : Value} {ar : List Int} (har : IntsF F arv ar) (hso : sigOk ar = true) :
    Does prog 142 [ptr cb 0, .agg #[arv]] F (curH .i64 123 cb bsv bs.length :: L) (fun v F' L' => ∃ (a : Value) (s : List (List Int)) (cs : List Value), ((.agg #[a] : Value) = v ∧ IsSl a ∧ RowsC F' cs s ∧ s.length ≤ 4 ∧ ∀ i, (s.getD i []).length ≤ 2000) ∧ slH 24 1 a s.length cs :: curH .i64 123 cb bsv bs.length :: L = L') := by
 refine Does.of_X func142 rfl rfl rfl (X.seq (X.region (cX (XOp.box [arv] rfl rfl ?_))))
 intro b1
 refine cX (XOp.alloc [(.slice none 0 0)] zeroValue57 rfl ?_)
 intro b2
 refine XL.nil (X.seq (X.region (cX (XOp.build [(.slice none 0 0)] [(.slice none 0 0)] [(0, 1)] [] runUnderlying57 zeroValue57 rfl (.cons rfl sizeOf42 PlacesAre.nil) rfl CellsAre.nil (cX (XOp.alloc [(.slice none 0 0)] zeroValue57 rfl ?_))))))
 intro b3
 refine cX (XOp.storeN [] _ [(.slice none 0 0)] sizeOf57 rfl rfl rfl (ones_cons rfl ones_nil) rfl rfl rfl (XL.nil (X.seq (X.seq (X.region (XL.mv (ptr cb 0) rfl (cX (XOp.call (args := [ptr cb 0, .int .i64 (4)]) call137 rfl (Does.at [_, _, _] (l1Below_spec (n := 4) hbs (by omega) (hn := (by first | assumption | rfl | omega | simp)))) ?_))))))))
 rintro _ _ _ _ ⟨⟨rfl, x1, rfl, hr1⟩, rfl⟩
 show XL _ _ _ _ _ _ _ (cellsH b3 [(.slice none 0 0)] 57 :: cellsH b2 [(.slice none 0 0)] 57 :: cellsH b1 [arv] 26 :: curH .i64 123 cb bsv bs.length :: L)
 refine XL.as (.int .i64 (x1)) rfl (XL.nil (X.block (X.loop (α := Nat × Value × List (List Int) × List Value × Nat × FH) (fun xQ => [(0, ptr cb 0), (3, ptr b1 0), (4, ptr b2 0), (5, ptr b3 0), (6, .int .i64 (((xQ.1 : Nat) : Int)))]) (fun xQ => slH 24 1 xQ.2.1 xQ.2.2.2.2.1 xQ.2.2.2.1 :: cellsH b3 [xQ.2.1] 57 :: cellsH b2 [(.slice none 0 0)] 57 :: cellsH b1 [arv] 26 :: curH .i64 123 cb bsv bs.length :: L) (fun xQ F' => xQ.2.2.2.2.2 = F' ∧ F ≤ xQ.2.2.2.2.2 ∧ (IsSl xQ.2.1) ∧ (RowsC xQ.2.2.2.2.2 xQ.2.2.2.1 xQ.2.2.1) ∧ (xQ.2.2.2.2.1 = xQ.2.2.1.length) ∧ (xQ.2.2.1.length + xQ.1 ≤ 4) ∧ (∀ i, (xQ.2.2.1.getD i []).length ≤ 2000)) (fun xQ => xQ.1) (x1.toNat, (.slice none 0 0), [], [], 0, F) ⟨rfl, rfl, rfl, rfl, (vI (by omega)), trivial⟩ (Sub.trans (Sub.addNil 24 1 _ _) (sC (sC (sC (sC (sC sR)))))) ⟨rfl, FLe.refl _, (⟨_, _, _, rfl⟩), (CO.nil), (rfl), (by (try dsimp only); simp only [List.length_nil]; omega), (fun i => by simp)⟩ ?_)))
 rintro ⟨n, ov, os, cs, m, G1⟩ rE _ _ ⟨rfl, leG, hov, hC, hm, hon, hob⟩
 show X _ _ _ _ (envs [(0, ptr cb 0), (3, ptr b1 0), (4, ptr b2 0), (5, ptr b3 0), (6, .int .i64 ((n : Int)))] rE) _ (slH 24 1 ov m cs :: cellsH b3 [ov] 57 :: cellsH b2 [(.slice none 0 0)] 57 :: cellsH b1 [arv] 26 :: curH .i64 123 cb bsv bs.length :: L)
 replace leG : F ≤ G1 := leG
 dsimp only at hov hC hm hon hob
 have leG1 := leG
 replace hbs := hbs.mono leG1
 replace har := har.mono leG1
 refine X.seq (X.seq (X.region (XL.mv (.int .i64 ((n : Int))) rfl (cX (XOp.gtr rfl rfl (XL.nil ?_))))))
 refine X.condD (p := (n : Int) > 0) rfl (fun h1 => ?_) (fun h1 => ?_)
 ·refine X.skip (X.seq (X.block (X.seq (X.region (cX (XOp.buildSlice (s := 1) [] [.int .i64 (0)] [] runUnderlying24 sizeOf2 zeroValue2 rfl (by decide) rfl CellsAre.nil rfl ?_))))))
  intro v1 hv1
  refine XL.as (v1) rfl (XL.nil (X.seq (X.seq (X.region (XL.mv (ptr cb 0) rfl (cX (XOp.call (args := [ptr cb 0, .int .i64 (3)]) call136 rfl (Does.at [_, _, _, _, _] (l1Once_spec (n := 3) hbs (by omega) (hn := (by first | assumption | rfl | omega | simp)))) ?_)))))))
  rintro _ _ _ _ ⟨⟨rfl, x2, rfl⟩, rfl⟩
  show XL _ _ _ _ _ _ _ (slH 2 1 v1 0 [] :: slH 24 1 ov m cs :: cellsH b3 [ov] 57 :: cellsH b2 [(.slice none 0 0)] 57 :: cellsH b1 [arv] 26 :: curH .i64 123 cb bsv bs.length :: L)
  refine cX (XOp.notB rfl (XL.nil ?_))
  refine X.cond (t := !(x2)) rfl (fun h2 => ?_) (fun h2 => ?_)
  ·refine X.drawG [slH 2 1 v1 0 [], slH 24 1 ov m cs, cellsH b3 [ov] 57, cellsH b2 [(.slice none 0 0)] 57, cellsH b1 [arv] 26, curH .i64 123 cb bsv bs.length] L 5 [[], [], [], [], [3]] [[], [], [], [2], [3]] [[], [], [], [], []] (phiG [fun FF us v => v = ptr cb 0, fun FF us v => v = (.agg #[arv] : Value), fun FF us v => v = ptr cb 0, fun FF us v => (.int .i64 (((intAt v))) : Value) = v ∧ (0 ≤ ((intAt v)) ∧ (((intAt v)) < 3 ∨ ((intAt v)) = 0)), fun FF us v => v = (.int .i64 (1 + (((intAt (us.getD 0 undef))))) : Value)]) (ownL [fun us v => [], fun us v => [], fun us v => [], fun us v => [], fun us v => []]) mixed rfl rfl (by kernel_rfl) (by kernel_rfl) (MonoG.get (mC (fun le h => h) (mC (fun le h => h) (mC (fun le h => h) (mC (fun le h => ⟨h.1, h.2⟩) (mC (fun le h => h) MonoG.nil)))))) ?_ ?_
   ·refine gC (fun vals Fs R leFs hpZ => ?_) ?_
    ·refine XG.op (XOp.move (ptr cb 0) rfl ?_)
     exact ⟨rfl, rfl⟩
    refine gC (fun vals Fs R leFs hpZ => ?_) ?_
    ·replace hbs := hbs.mono leFs
     replace har := har.mono leFs
     replace hC := hC.mono leFs
     refine XG.op (XOp.loadN [arv] isAgg26 sizeOf26 rfl rfl (Rd.ownN [_, _, _, _] rfl rfl) ?_)
     exact ⟨rfl, rfl⟩
    refine gC (fun vals Fs R leFs hpZ => ?_) ?_
    ·refine XG.op (XOp.move (ptr cb 0) rfl ?_)
     exact ⟨rfl, rfl⟩
    refine gC (fun vals Fs R leFs hpZ => ?_) ?_
    ·replace hbs := hbs.mono leFs
     replace har := har.mono leFs
     replace hC := hC.mono leFs
     rw [eS (l := [(2, ptr cb 0)]) ⟨(hpZ 2 (by decide)), trivial⟩]
     refine XG.op (XOp.call (args := [ptr cb 0, .int .i64 (3)]) call137 rfl (Does.at [_, _, _, _, _] (l1Below_spec (n := 3) hbs (by omega) (hn := (by first | assumption | rfl | omega | simp)))) ?_)
     rintro _ _ _ _ ⟨⟨rfl, x4, rfl, hr3⟩, rfl⟩
     exact ⟨⟨rfl, hr3⟩, rfl⟩
    refine gC (fun vals Fs R leFs hpZ => ?_) ?_
    ·obtain ⟨e3, f3_1hx⟩ := hpZ 3 (by decide)
     rw [eS (l := [(3, (.int .i64 (((intAt (vals 3)))) : Value))]) ⟨(e3).symm, trivial⟩]
     refine XG.op (XOp.addR (1 + (((intAt (vals 3))))) rfl rfl (by omega) (by omega) ?_)
     exact ⟨rfl, rfl⟩
    exact stepsG.nil
   intro vals F5 le5 hphi
   obtain ⟨e3, f3_1hx⟩ := hphi 3 (by decide)
   have e4 : vals 4 = (.int .i64 (1 + (((intAt (vals 3))))) : Value) := hphi 4 (by decide)
   generalize hu1 : (intAt (vals 3)) = u1 at e3 f3_1hx e4
   rw [eS (l := [(0, ptr cb 0), (1, (.agg #[arv] : Value)), (3, (.int .i64 ((u1)) : Value)), (4, (.int .i64 (1 + ((u1))) : Value))]) ⟨(hphi 0 (by decide)), (hphi 1 (by decide)), (e3).symm, e4, trivial⟩]
   replace hbs := hbs.mono le5
   replace har := har.mono le5
   replace hC := hC.mono le5
   show XL _ _ _ _ _ _ _ (slH 2 1 v1 0 [] :: slH 24 1 ov m cs :: cellsH b3 [ov] 57 :: cellsH b2 [(.slice none 0 0)] 57 :: cellsH b1 [arv] 26 :: curH .i64 123 cb bsv bs.length :: L)
   refine cX (XOp.call (args := [ptr cb 0, .agg #[arv], .int .i64 (((1 + ((u1))).toNat : Nat) : Int), .int .i64 (3)]) call139 (by rw [show (((1 + ((u1))).toNat : Nat) : Int) = 1 + ((u1)) from by omega]; rfl) (Does.atO [_, _, _, _, _] (l1DrawTerm_spec ((1 + ((u1))).toNat) (vs := 3) hbs (by omega) har (hso := (by first | assumption | rfl | omega | simp)) (hdp := (by first | assumption | rfl | omega | simp)) (hvs := (by first | assumption | rfl | omega | simp)))) ?_)
   rintro _ F6 _ le6 ⟨x6, ⟨rfl, hsl1⟩, rfl⟩
   replace hC := hC.mono le6
   show XL _ _ _ _ _ _ _ (drawnH 2 x6 (fun t => goodT ar t ∧ 1 ≤ t.length ∧ t.length ≤ szT ((1 + ((u1))).toNat)) :: slH 2 1 v1 0 [] :: slH 24 1 ov m cs :: cellsH b3 [ov] 57 :: cellsH b2 [(.slice none 0 0)] 57 :: cellsH b1 [arv] 26 :: curH .i64 123 cb bsv bs.length :: L)
   refine XL.undraw [] rfl (fun t1 hq9 => ?_)
   obtain ⟨q1, q2, q3⟩ := hq9
   show XL _ _ _ _ _ _ _ (intsH 2 x6 t1 :: slH 2 1 v1 0 [] :: slH 24 1 ov m cs :: cellsH b3 [ov] 57 :: cellsH b2 [(.slice none 0 0)] 57 :: cellsH b1 [arv] 26 :: curH .i64 123 cb bsv bs.length :: L)
   have hz9 := szT_le (d := (1 + ((u1))).toNat) (e := 4) (by omega)
   have hz8 : szT 4 = 121 := rfl
   refine XL.as (x6) rfl (XL.nil (X.region (cX (XOp.fieldP (0) runUnderlying57 rfl sizeOf42 (by decide) rfl rfl (cX (XOp.load1 isAgg42 rfl (Rd.own [_, _, _] rfl rfl) (XL.mv (x6) rfl (cX (XOp.buildSlice (s := 1) [x6] [(.slice none 0 0)] [(0, [x6])] runUnderlying42 sizeOf24 zeroValue24 rfl (by decide) rfl (.cons (cells_one hsl1) CellsAre.nil) rfl ?_)))))))))
   intro v2 hv2
   refine XL.freezeF [_] _ _ rfl (fun F7 le7 hz1 => ?_)
   replace hC := hC.mono le7
   have hf1 : IntsF F7 x6 t1 := intsH.fz (xs := t1) hz1.fz
   refine cX (XOp.append (m := 1) (bytes := 24) (cs := cs) [_, _] _ [x6] runUnderlying42 typeInfo24 rfl rfl rfl rfl rfl rfl rfl (SlV.own [] rfl) rfl (Rd.lit [] rfl) (ones_cons (one_sl (IntsF.isSl hf1)) ones_nil) (by (try simp only [List.length_append, List.length_nil, List.length_cons, List.length_singleton]); omega) (by (try simp only [List.length_append, List.length_nil, List.length_cons, List.length_singleton]); omega) ?_)
   intro v3 hs1 hn1 hm1
   have hc1 := RowsC.snoc hC hf1
   refine cX (XOp.fieldP (0) runUnderlying57 rfl sizeOf42 (by decide) rfl rfl (cX (XOp.store1 [_, _, _] _ [v3] sizeOf42 rfl rfl (one_sl hs1) rfl rfl rfl (XL.nil (X.region (XL.mv (.int .i64 ((n : Int))) rfl (cX (XOp.subR (((n : Int)) - 1) rfl rfl (by omega) (by omega) (XL.as (.int .i64 (((n : Int)) - 1)) rfl (XL.nil ?_))))))))))
   exact ⟨(n - 1, v3, os ++ [t1], cs ++ [x6], (m) + 1, F7), _, (FLe.trans (FLe.trans (FLe.trans leG1 le5) le6) le7), rF, ⟨rfl, rfl, rfl, rfl, (vI (by (try dsimp only); omega)), trivial⟩, (sD (sD (sC (sC (sC (sC (sC sR))))))), ⟨rfl, (FLe.trans (FLe.trans (FLe.trans leG1 le5) le6) le7), (hs1), (hc1), (by (try dsimp only); rw [List.length_append]; simp only [List.length_singleton]; omega), (by (try dsimp only); rw [List.length_append]; simp only [List.length_singleton]; omega), (rows_snoc hob (by (try simp only [List.length_nil]); omega))⟩, (by (try dsimp only); omega)⟩
  refine X.skip (X.region (cX (XOp.fieldP (0) runUnderlying57 rfl sizeOf42 (by decide) rfl rfl (cX (XOp.load1 isAgg42 rfl (Rd.own [_, _] rfl rfl) (XL.mv (v1) rfl (cX (XOp.buildSlice (s := 1) [v1] [(.slice none 0 0)] [(0, [v1])] runUnderlying42 sizeOf24 zeroValue24 rfl (by decide) rfl (.cons (cells_one (isSl_lit hv1)) CellsAre.nil) rfl ?_))))))))
  intro v4 hv3
  show XL _ _ _ _ _ _ _ (slH 24 1 v4 1 [v1] :: intsH 2 v1 ([] : List Int) :: slH 24 1 ov m cs :: cellsH b3 [ov] 57 :: cellsH b2 [(.slice none 0 0)] 57 :: cellsH b1 [arv] 26 :: curH .i64 123 cb bsv bs.length :: L)
  refine XL.freezeF [_] _ _ rfl (fun F8 le8 hz2 => ?_)
  replace hC := hC.mono le8
  have hf2 : IntsF F8 v1 ([]) := intsH.fz (xs := []) hz2.fz
  refine cX (XOp.append (m := 1) (bytes := 24) (cs := cs) [_] _ [v1] runUnderlying42 typeInfo24 rfl rfl rfl rfl rfl rfl rfl (SlV.own [] rfl) rfl (Rd.lit [] rfl) (ones_cons (one_sl (IntsF.isSl hf2)) ones_nil) (by (try simp only [List.length_append, List.length_nil, List.length_cons, List.length_singleton]); omega) (by (try simp only [List.length_append, List.length_nil, List.length_cons, List.length_singleton]); omega) ?_)
  intro v5 hs2 hn2 hm2
  have hc2 := RowsC.snoc hC hf2
  refine cX (XOp.fieldP (0) runUnderlying57 rfl sizeOf42 (by decide) rfl rfl (cX (XOp.store1 [_, _] _ [v5] sizeOf42 rfl rfl (one_sl hs2) rfl rfl rfl (XL.nil (X.region (XL.mv (.int .i64 ((n : Int))) rfl (cX (XOp.subR (((n : Int)) - 1) rfl rfl (by omega) (by omega) (XL.as (.int .i64 (((n : Int)) - 1)) rfl (XL.nil ?_))))))))))
  exact ⟨(n - 1, v5, os ++ [[]], cs ++ [v1], (m) + 1, F8), _, (FLe.trans leG1 le8), rF, ⟨rfl, rfl, rfl, rfl, (vI (by (try dsimp only); omega)), trivial⟩, (sD (sC (sC (sC (sC (sC sR)))))), ⟨rfl, (FLe.trans leG1 le8), (hs2), (hc2), (by (try dsimp only); rw [List.length_append]; simp only [List.length_singleton]; omega), (by (try dsimp only); rw [List.length_append]; simp only [List.length_singleton]; omega), (rows_snoc hob (by (try simp only [List.length_nil]); omega))⟩, (by (try dsimp only); omega)⟩
 refine X.exit (thenQ_exit (thenQ_exit (blockQ_exit (X.seq (X.region (cX (XOp.loadN [ov] isAgg57 sizeOf57 rfl rfl (Rd.ownN [_] rfl rfl) (cX (XOp.storeN [_, _] _ [ov] sizeOf57 rfl rfl rfl (ones_cons (one_sl hov) ones_nil) rfl rfl rfl (XL.nil (X.ret (retEnd (L' := slH 24 1 ov os.length cs :: curH .i64 123 cb bsv bs.length :: L) [.agg #[ov]] (.agg #[ov]) (.cell rfl (loadNV [ov] isAgg57 sizeOf57 rfl (Rd.ownN [_, _] rfl rfl)) .nil) rfl leG1 rF (Sub.trans (sC (sD (sD (sD (sC sR))))) (Sub.keep (fun l hl => by first | exact hl | (rw [show m = os.length from by first | rfl | assumption | omega] at hl; exact hl)) sR)) ?_))))))))))))
 exact ⟨_, os, _, ⟨rfl, hov, hC, by omega, hob⟩, rfl⟩

/- spec.l2DrawAny -/
set_option maxHeartbeats 1000000 in
set_option maxRecDepth 20000 in
theorem l2DrawAny_spec {F : FH} {L : List HP} {cb : Nat} {bsv : Value} {bs : List Int} (hbs : BytesF F bsv bs) (hbl : bs.length ≤ 4000000) {arv : Value} {ar : List Int} (har : IntsF F arv ar) (hal : ar.length ≤ 20) :
    Does prog 100 [ptr cb 0, .agg #[arv]] F (curH .i64 123 cb bsv bs.length :: L) (fun v F' L' => (∃ (a : Value), (.agg #[a] : Value) = v ∧ (SomeRowsF F' a (fun s => s.length ≤ 26 ∧ ∀ i, (s.getD i []).length ≤ 2000))) ∧ curH .i64 123 cb bsv bs.length :: L = L') := by
 refine Does.of_X func100 rfl rfl rfl (X.seq (X.region (cX (XOp.box [arv] rfl rfl ?_))))
 intro b1
 refine cX (XOp.alloc [(.slice none 0 0)] zeroValue57 rfl ?_)
 intro b2
 refine XL.nil (X.seq (X.seq (X.region (cX (XOp.loadN [arv] isAgg26 sizeOf26 rfl rfl (Rd.ownN [_] rfl rfl) (cX (XOp.call (args := [.agg #[arv]]) call131 rfl (sSigOk_spec har (hla := (by first | assumption | rfl | omega | simp))) ?_)))))))
 rintro _ _ _ _ ⟨rfl, rfl, rfl⟩
 refine cX (XOp.notB rfl (XL.nil ?_))
 refine X.cond (t := !(sigOk ar)) rfl (fun h1 => ?_) (fun h1 => ?_)
 ·refine X.seq (X.region (cX (XOp.build [(.slice none 0 0)] [(.slice none 0 0)] [(0, 1)] [] runUnderlying57 zeroValue57 rfl (.cons rfl sizeOf42 PlacesAre.nil) rfl CellsAre.nil (cX (XOp.storeN [] _ [(.slice none 0 0)] sizeOf57 rfl rfl rfl (ones_cons rfl ones_nil) rfl rfl rfl (XL.nil (X.ret (thenQ_ret (retEnd (L' := curH .i64 123 cb bsv bs.length :: L) [.agg #[(.slice none 0 0)]] (.agg #[(.slice none 0 0)]) (.cell rfl (loadNV [(.slice none 0 0)] isAgg57 sizeOf57 rfl (Rd.ownN [] rfl rfl)) .nil) rfl rF rF (sD (sD (sC sR))) ?_)))))))))
  exact ⟨⟨_, rfl, ⟨[], SlOf.nilV, by simp, fun i => by simp⟩⟩, rfl⟩
 have hso : sigOk ar = true := by simpa using h1
 refine X.skip (X.seq (X.region (XL.mv (ptr cb 0) rfl (cX (XOp.loadN [arv] isAgg26 sizeOf26 rfl rfl (Rd.ownN [_] rfl rfl) (cX (XOp.call (args := [ptr cb 0, .agg #[arv]]) call142 rfl ((Does.weaken (Sub.front (A := [_, _])) (l2DrawO_spec hbs (by omega) har (hso := (by first | assumption | rfl | omega | simp))))) ?_)))))))
 rintro _ F1 _ le1 ⟨x1, os1, cs1, ⟨rfl, hsl1, hc1, h_1, h_2⟩, rfl⟩
 replace hbs := hbs.mono le1
 replace har := har.mono le1
 show XL _ _ _ _ _ _ _ (slH 24 1 x1 os1.length cs1 :: curH .i64 123 cb bsv bs.length :: cellsH b2 [(.slice none 0 0)] 57 :: cellsH b1 [arv] 26 :: L)
 refine cX (XOp.alloc [(.slice none 0 0)] zeroValue57 rfl ?_)
 intro b3
 refine cX (XOp.storeN [] _ [x1] sizeOf57 rfl rfl rfl (ones_cons (one_sl hsl1) ones_nil) rfl rfl rfl (XL.nil (X.seq (X.seq (X.region (XL.mv (ptr cb 0) rfl (cX (XOp.call (args := [ptr cb 0, .int .i64 (12)]) call136 rfl (Does.at [_, _] (l1Once_spec (n := 12) hbs (by omega) (hn := (by first | assumption | rfl | omega | simp)))) ?_))))))))
 rintro _ _ _ _ ⟨⟨rfl, x2, rfl⟩, rfl⟩
 show XL _ _ _ _ _ _ _ (cellsH b3 [x1] 57 :: slH 24 1 x1 os1.length cs1 :: curH .i64 123 cb bsv bs.length :: cellsH b2 [(.slice none 0 0)] 57 :: cellsH b1 [arv] 26 :: L)
 refine XL.nil ?_
 refine X.cond (t := x2) rfl (fun h2 => ?_) (fun h2 => ?_)
 ·refine X.seq (X.region (XL.mv (ptr cb 0) rfl (cX (XOp.call (args := [ptr cb 0, .int .i64 (3)]) call137 rfl (Does.at [_, _] (l1Below_spec (n := 3) hbs (by omega) (hn := (by first | assumption | rfl | omega | simp)))) ?_))))
  rintro _ _ _ _ ⟨⟨rfl, x3, rfl, hr1⟩, rfl⟩
  show XL _ _ _ _ _ _ _ (cellsH b3 [x1] 57 :: slH 24 1 x1 os1.length cs1 :: curH .i64 123 cb bsv bs.length :: cellsH b2 [(.slice none 0 0)] 57 :: cellsH b1 [arv] 26 :: L)
  refine XL.nil (X.block (X.seq (X.region (cX (XOp.eql rfl rfl (XL.as (.bool (decide ((x3 : Int) = 0))) rfl (XL.nil ?_)))))))
  refine X.condD (p := (x3 : Int) = 0) rfl (fun h3 => ?_) (fun h3 => ?_)
  ·refine X.drawG [cellsH b3 [x1] 57, slH 24 1 x1 os1.length cs1, curH .i64 123 cb bsv bs.length, cellsH b2 [(.slice none 0 0)] 57, cellsH b1 [arv] 26] L 6 [[], [], [], [], [], [4]] [[], [0], [], [], [2, 3], [4]] [[], [], [], [], [], []] (phiG [fun FF us v => v = ptr b3 0, fun FF us v => v = x1, fun FF us v => v = ptr cb 0, fun FF us v => v = (.agg #[arv] : Value), fun FF us v => ((v) : Value) = v ∧ (SomesF FF (v) (fun u => u.length ≤ 2000)), fun FF us v => ∃ b, v = .slice (some ⟨b, 0, none⟩) 1 1]) (ownL [fun us v => [], fun us v => [], fun us v => [], fun us v => [], fun us v => [], fun us v => [slH 24 1 v 1 [((us.getD 0 undef))]]]) mixed rfl rfl (by kernel_rfl) (by kernel_rfl) (MonoG.get (mC (fun le h => h) (mC (fun le h => h) (mC (fun le h => h) (mC (fun le h => h) (mC (fun le h => ⟨h.1, h.2.mono le⟩) (mC (fun le h => h) MonoG.nil))))))) ?_ ?_
   ·refine gC (fun vals Fs R leFs hpZ => ?_) ?_
    ·refine XG.op (XOp.fieldP (0) runUnderlying57 rfl sizeOf42 (by decide) rfl rfl ?_)
     exact ⟨rfl, rfl⟩
    refine gC (fun vals Fs R leFs hpZ => ?_) ?_
    ·replace hbs := hbs.mono leFs
     replace har := har.mono leFs
     replace hc1 := hc1.mono leFs
     rw [eS (l := [(0, ptr b3 0)]) ⟨(hpZ 0 (by decide)), trivial⟩]
     refine XG.op (XOp.load1 isAgg42 rfl (Rd.own [] rfl rfl) ?_)
     exact ⟨rfl, rfl⟩
    refine gC (fun vals Fs R leFs hpZ => ?_) ?_
    ·refine XG.op (XOp.move (ptr cb 0) rfl ?_)
     exact ⟨rfl, rfl⟩
    refine gC (fun vals Fs R leFs hpZ => ?_) ?_
    ·replace hbs := hbs.mono leFs
     replace har := har.mono leFs
     replace hc1 := hc1.mono leFs
     refine XG.op (XOp.loadN [arv] isAgg26 sizeOf26 rfl rfl (Rd.ownN [_, _, _, _] rfl rfl) ?_)
     exact ⟨rfl, rfl⟩
    refine gC (fun vals Fs R leFs hpZ => ?_) ?_
    ·replace hbs := hbs.mono leFs
     replace har := har.mono leFs
     replace hc1 := hc1.mono leFs
     rw [eS (l := [(2, ptr cb 0), (3, (.agg #[arv] : Value))]) ⟨(hpZ 2 (by decide)), (hpZ 3 (by decide)), trivial⟩]
     refine XG.op (XOp.call (args := [ptr cb 0, .agg #[arv]]) call89 rfl (Does.at [_, _] (l1DrawAny_spec hbs (by omega) har (hal := (by first | assumption | rfl | omega | simp)))) ?_)
     rintro _ F5 _ le5 ⟨⟨x5, rfl, hr3⟩, rfl⟩
     replace hbs := hbs.mono le5
     replace hc1 := hc1.mono le5
     exact ⟨⟨rfl, hr3⟩, rfl⟩
    refine gC (fun vals Fs R leFs hpZ => ?_) ?_
    ·obtain ⟨e4, f4_1hp_a⟩ := hpZ 4 (by decide)
     obtain ⟨t4X1_a, f4_1hp_a, q4_1_a0⟩ := f4_1hp_a
     replace hbs := hbs.mono leFs
     replace hc1 := hc1.mono leFs
     rw [eS (l := [(4, ((vals 4)))]) ⟨(e4).symm, trivial⟩]
     refine XG.op (XOp.buildSlice (s := 1) [((vals 4))] [(.slice none 0 0)] [(0, [((vals 4))])] runUnderlying42 sizeOf24 zeroValue24 rfl (by decide) rfl (.cons (cells_one (IntsF.isSl f4_1hp_a)) CellsAre.nil) rfl ?_)
     intro v2 hv2
     exact ⟨hv2, rfl⟩
    exact stepsG.nil
   intro vals F6 le6 hphi
   obtain ⟨e4, f4_1hp_a⟩ := hphi 4 (by decide)
   obtain ⟨t4X1_a, f4_1hp_a, q4_1_a0⟩ := f4_1hp_a
   have f5 : ∃ b, (vals 5) = .slice (some ⟨b, 0, none⟩) 1 1 := hphi 5 (by decide)
   generalize hu1 : ((vals 4)) = u1 at e4 f4_1hp_a f5
   generalize hu5 : vals 5 = u2 at e4 f4_1hp_a f5
   rw [eS (l := [(1, x1), (4, u1), (5, u2)]) ⟨(hphi 1 (by decide)), hu1, hu5, trivial⟩]
   replace hbs := hbs.mono le6
   replace hc1 := hc1.mono le6
   show XL _ _ _ _ _ _ _ (slH 24 1 u2 1 [u1] :: cellsH b3 [x1] 57 :: slH 24 1 x1 os1.length cs1 :: curH .i64 123 cb bsv bs.length :: cellsH b2 [(.slice none 0 0)] 57 :: cellsH b1 [arv] 26 :: L)
   refine cX (XOp.append (m := 1) (bytes := 24) (cs := cs1) [_, _] _ [u1] runUnderlying42 typeInfo24 rfl rfl rfl rfl rfl rfl rfl (SlV.own [] rfl) rfl (Rd.lit [] rfl) (ones_cons (one_sl (IntsF.isSl f4_1hp_a)) ones_nil) (by (try simp only [List.length_append, List.length_nil, List.length_cons, List.length_singleton]); omega) (by (try simp only [List.length_append, List.length_nil, List.length_cons, List.length_singleton]); omega) ?_)
   intro v3 hs1 hn1 hm1
   have hc2 := RowsC.snoc hc1 f4_1hp_a
   refine cX (XOp.fieldP (0) runUnderlying57 rfl sizeOf42 (by decide) rfl rfl (cX (XOp.store1 [_] _ [v3] sizeOf42 rfl rfl (one_sl hs1) rfl rfl rfl (XL.nil (X.seq (X.region (cX (XOp.loadN [v3] isAgg57 sizeOf57 rfl rfl (Rd.ownN [_] rfl rfl) (cX (XOp.storeN [_, _, _, _] _ [v3] sizeOf57 rfl rfl rfl (ones_cons (one_sl hs1) ones_nil) rfl rfl rfl (XL.nil (X.freezeF [_, _] _ _ rfl (fun F7 le7 hz1 => ?_)))))))))))))
   replace hbs := hbs.mono le7
   replace hc1 := hc1.mono le7
   replace hc2 := hc2.mono le7
   have hf1 : RowsF F7 v3 (os1 ++ [t4X1_a]) := CO.fz hc2 (by first | rfl | omega | (rw [List.length_set]; omega) | (simp; done)) hz1.fz
   refine X.ret (retEnd (L' := curH .i64 123 cb bsv bs.length :: L) [.agg #[v3]] (.agg #[v3]) (.cell rfl (loadNV [v3] isAgg57 sizeOf57 rfl (Rd.ownN [_, _, _] rfl rfl)) .nil) rfl (FLe.trans (FLe.trans le1 le6) le7) rF (sD (sD (sC (sD (sD sR))))) ?_)
   exact ⟨⟨_, rfl, ⟨_, hf1, by rw [List.length_append]; simp only [List.length_singleton]; omega, rows_snoc h_2 (by first | omega | (have h9 := q; omega) | simp)⟩⟩, rfl⟩
  refine X.seq (X.region (cX (XOp.eql rfl rfl (XL.as (.bool (decide ((x3 : Int) = 1))) rfl (XL.nil ?_)))))
  refine X.condD (p := (x3 : Int) = 1) rfl (fun h4 => ?_) (fun h4 => ?_)
  ·refine X.region (XL.mv (ptr cb 0) rfl (cX (XOp.call (args := [ptr cb 0, .int .i64 (2)]) call137 rfl (Does.at [_, _] (l1Below_spec (n := 2) hbs (by omega) (hn := (by first | assumption | rfl | omega | simp)))) ?_)))
   rintro _ _ _ _ ⟨⟨rfl, x6, rfl, hr4⟩, rfl⟩
   show XL _ _ _ _ _ _ _ (cellsH b3 [x1] 57 :: slH 24 1 x1 os1.length cs1 :: curH .i64 123 cb bsv bs.length :: cellsH b2 [(.slice none 0 0)] 57 :: cellsH b1 [arv] 26 :: L)
   refine cX (XOp.addR (((24 + (x6).toNat : Nat) : Int)) rfl rfl (by omega) (by omega) (cX (XOp.makeSlice (n := 24 + (x6).toNat) (bytes := 24) [(.slice none 0 0)] runUnderlying42 sizeOf24 typeInfo24 rfl zeroValue24 rfl rfl rfl rfl (by omega) (by omega) ?_)))
   intro v4 hv3
   rw [nils]
   have hc3 : RowsC F1 _ _ := RowsC.nils (24 + (x6).toNat)
   refine cX (XOp.fieldP (0) runUnderlying57 rfl sizeOf42 (by decide) rfl rfl (cX (XOp.store1 [_] _ [v4] sizeOf42 rfl rfl (one_sl (isSl_lit hv3)) rfl rfl rfl (XL.nil (X.seq (X.region (cX (XOp.loadN [v4] isAgg57 sizeOf57 rfl rfl (Rd.ownN [_] rfl rfl) (cX (XOp.storeN [_, _, _, _] _ [v4] sizeOf57 rfl rfl rfl (ones_cons (one_sl (isSl_lit hv3)) ones_nil) rfl rfl rfl (XL.nil (X.freezeF [] _ _ rfl (fun F9 le9 hz2 => ?_)))))))))))))
   replace hbs := hbs.mono le9
   replace hc1 := hc1.mono le9
   replace hc3 := hc3.mono le9
   have hf2 : RowsF F9 v4 ((List.replicate (24 + (x6).toNat) [] : List (List Int))) := CO.fz hc3 (by first | rfl | omega | (rw [List.length_set]; omega) | (simp; done)) hz2.fz
   refine X.ret (retEnd (L' := curH .i64 123 cb bsv bs.length :: L) [.agg #[v4]] (.agg #[v4]) (.cell rfl (loadNV [v4] isAgg57 sizeOf57 rfl (Rd.ownN [_, _, _] rfl rfl)) .nil) rfl (FLe.trans le1 le9) rF (sD (sD (sC (sD (sD sR))))) ?_)
   exact ⟨⟨_, rfl, ⟨_, hf2, by rw [List.length_replicate]; omega, fun i => by rw [List.getD_eq_getElem?_getD, List.getElem?_replicate]; split <;> simp⟩⟩, rfl⟩
  refine X.seq (X.region (cX (XOp.eql rfl rfl (XL.as (.bool (decide ((x3 : Int) = 2))) rfl (XL.nil ?_)))))
  refine X.condD (p := (x3 : Int) = 2) rfl (fun h5 => ?_) (fun h5 => ?_)
  ·refine X.drawG [cellsH b3 [x1] 57, slH 24 1 x1 os1.length cs1, curH .i64 123 cb bsv bs.length, cellsH b2 [(.slice none 0 0)] 57, cellsH b1 [arv] 26] L 6 [[], [], [], [], [3], [4]] [[], [0], [], [2], [3], [3, 4]] [[], [], [], [], [], []] (phiG [fun FF us v => v = ptr b3 0, fun FF us v => v = x1, fun FF us v => v = ptr cb 0, fun FF us v => (.int .i64 (((intAt v))) : Value) = v, fun FF us v => ∃ b, v = .slice (some ⟨b, 0, none⟩) 1 1, fun FF us v => ∃ b, v = .slice (some ⟨b, 0, none⟩) 1 1]) (ownL [fun us v => [], fun us v => [], fun us v => [], fun us v => [], fun us v => [slH 2 1 v 1 [.int .i64 (((intAt (us.getD 0 undef))))]], fun us v => [slH 24 1 v 1 [(us.getD 0 undef)]]]) mixed rfl rfl (by kernel_rfl) (by kernel_rfl) (MonoG.get (mC (fun le h => h) (mC (fun le h => h) (mC (fun le h => h) (mC (fun le h => h) (mC (fun le h => h) (mC (fun le h => h) MonoG.nil))))))) ?_ ?_
   ·refine gC (fun vals Fs R leFs hpZ => ?_) ?_
    ·refine XG.op (XOp.fieldP (0) runUnderlying57 rfl sizeOf42 (by decide) rfl rfl ?_)
     exact ⟨rfl, rfl⟩
    refine gC (fun vals Fs R leFs hpZ => ?_) ?_
    ·replace hbs := hbs.mono leFs
     replace hc1 := hc1.mono leFs
     rw [eS (l := [(0, ptr b3 0)]) ⟨(hpZ 0 (by decide)), trivial⟩]
     refine XG.op (XOp.load1 isAgg42 rfl (Rd.own [] rfl rfl) ?_)
     exact ⟨rfl, rfl⟩
    refine gC (fun vals Fs R leFs hpZ => ?_) ?_
    ·refine XG.op (XOp.move (ptr cb 0) rfl ?_)
     exact ⟨rfl, rfl⟩
    refine gC (fun vals Fs R leFs hpZ => ?_) ?_
    ·replace hbs := hbs.mono leFs
     replace hc1 := hc1.mono leFs
     rw [eS (l := [(2, ptr cb 0)]) ⟨(hpZ 2 (by decide)), trivial⟩]
     refine XG.op (XOp.call (args := [ptr cb 0]) call140 rfl (Does.at [_, _] (l1Odd_spec hbs (by omega))) ?_)
     rintro _ _ _ _ ⟨⟨rfl, x8, rfl⟩, rfl⟩
     exact ⟨rfl, rfl⟩
    refine gC (fun vals Fs R leFs hpZ => ?_) ?_
    ·have e3 : (.int .i64 (((intAt (vals 3)))) : Value) = (vals 3) := hpZ 3 (by decide)
     replace hc1 := hc1.mono leFs
     rw [eS (l := [(3, (.int .i64 (((intAt (vals 3)))) : Value))]) ⟨(e3).symm, trivial⟩]
     refine XG.op (XOp.buildSlice (s := 1) [.int .i64 (((intAt (vals 3))))] [.int .i64 (0)] [(0, [.int .i64 (((intAt (vals 3))))])] runUnderlying24 sizeOf2 zeroValue2 rfl (by decide) rfl (.cons rfl CellsAre.nil) rfl ?_)
     intro v7 hv6
     exact ⟨hv6, rfl⟩
    refine gC (fun vals Fs R leFs hpZ => ?_) ?_
    ·have e3 : (.int .i64 (((intAt (vals 3)))) : Value) = (vals 3) := hpZ 3 (by decide)
     have f4 : ∃ b, (vals 4) = .slice (some ⟨b, 0, none⟩) 1 1 := hpZ 4 (by decide)
     replace hc1 := hc1.mono leFs
     rw [eS (l := [(3, (.int .i64 (((intAt (vals 3)))) : Value))]) ⟨(e3).symm, trivial⟩]
     refine XG.op (XOp.buildSlice (s := 1) [(vals 4)] [(.slice none 0 0)] [(0, [(vals 4)])] runUnderlying42 sizeOf24 zeroValue24 rfl (by decide) rfl (.cons (cells_one (isSl_lit f4)) CellsAre.nil) rfl ?_)
     intro v8 hv7
     exact ⟨hv7, rfl⟩
    exact stepsG.nil
   intro vals F12 le12 hphi
   have e3 : (.int .i64 (((intAt (vals 3)))) : Value) = (vals 3) := hphi 3 (by decide)
   have f4 : ∃ b, (vals 4) = .slice (some ⟨b, 0, none⟩) 1 1 := hphi 4 (by decide)
   have f5 : ∃ b, (vals 5) = .slice (some ⟨b, 0, none⟩) 1 1 := hphi 5 (by decide)
   generalize hu2 : (intAt (vals 3)) = u3 at e3 f4 f5
   generalize hu4 : vals 4 = u4 at e3 f4 f5
   generalize hu5 : vals 5 = u5 at e3 f4 f5
   rw [eS (l := [(1, x1), (3, (.int .i64 ((u3)) : Value)), (4, u4), (5, u5)]) ⟨(hphi 1 (by decide)), (e3).symm, hu4, hu5, trivial⟩]
   replace hc1 := hc1.mono le12
   show XL _ _ _ _ _ _ _ (slH 2 1 u4 1 [.int .i64 ((u3))] :: slH 24 1 u5 1 [u4] :: cellsH b3 [x1] 57 :: slH 24 1 x1 os1.length cs1 :: curH .i64 123 cb bsv bs.length :: cellsH b2 [(.slice none 0 0)] 57 :: cellsH b1 [arv] 26 :: L)
   show XL _ _ _ _ _ _ _ (intsH 2 u4 ([(u3)] : List Int) :: slH 24 1 u5 1 [u4] :: cellsH b3 [x1] 57 :: slH 24 1 x1 os1.length cs1 :: curH .i64 123 cb bsv bs.length :: cellsH b2 [(.slice none 0 0)] 57 :: cellsH b1 [arv] 26 :: L)
   refine XL.freezeF [] _ _ rfl (fun F13 le13 hz3 => ?_)
   replace hc1 := hc1.mono le13
   have hf3 : IntsF F13 u4 ([(u3)]) := intsH.fz (xs := [(u3)]) hz3.fz
   refine cX (XOp.append (m := 1) (bytes := 24) (cs := cs1) [_, _] _ [u4] runUnderlying42 typeInfo24 rfl rfl rfl rfl rfl rfl rfl (SlV.own [] rfl) rfl (Rd.lit [] rfl) (ones_cons (one_sl (IntsF.isSl hf3)) ones_nil) (by (try simp only [List.length_append, List.length_nil, List.length_cons, List.length_singleton]); omega) (by (try simp only [List.length_append, List.length_nil, List.length_cons, List.length_singleton]); omega) ?_)
   intro v9 hs2 hn2 hm2
   have hc4 := RowsC.snoc hc1 hf3
   refine cX (XOp.fieldP (0) runUnderlying57 rfl sizeOf42 (by decide) rfl rfl (cX (XOp.store1 [_] _ [v9] sizeOf42 rfl rfl (one_sl hs2) rfl rfl rfl (XL.nil (X.seq (X.region (cX (XOp.loadN [v9] isAgg57 sizeOf57 rfl rfl (Rd.ownN [_] rfl rfl) (cX (XOp.storeN [_, _, _, _] _ [v9] sizeOf57 rfl rfl rfl (ones_cons (one_sl hs2) ones_nil) rfl rfl rfl (XL.nil (X.freezeF [_, _] _ _ rfl (fun F14 le14 hz4 => ?_)))))))))))))
   replace hc1 := hc1.mono le14
   replace hc4 := hc4.mono le14
   have hf4 : RowsF F14 v9 (os1 ++ [[(u3)]]) := CO.fz hc4 (by first | rfl | omega | (rw [List.length_set]; omega) | (simp; done)) hz4.fz
   refine X.ret (retEnd (L' := curH .i64 123 cb bsv bs.length :: L) [.agg #[v9]] (.agg #[v9]) (.cell rfl (loadNV [v9] isAgg57 sizeOf57 rfl (Rd.ownN [_, _, _] rfl rfl)) .nil) rfl (FLe.trans (FLe.trans (FLe.trans le1 le12) le13) le14) rF (sD (sD (sC (sD (sD sR))))) ?_)
   exact ⟨⟨_, rfl, ⟨_, hf4, by rw [List.length_append]; simp only [List.length_singleton]; omega, rows_snoc h_2 (by first | omega | (have h9 := q; omega) | simp)⟩⟩, rfl⟩
  refine X.skip (X.seq (X.region (cX (XOp.loadN [x1] isAgg57 sizeOf57 rfl rfl (Rd.ownN [] rfl rfl) (cX (XOp.storeN [_, _, _] _ [x1] sizeOf57 rfl rfl rfl (ones_cons (one_sl hsl1) ones_nil) rfl rfl rfl (XL.nil (X.freezeF [_] _ _ rfl (fun F15 le15 hz5 => ?_)))))))))
  replace hc1 := hc1.mono le15
  have hf5 : RowsF F15 x1 os1 := CO.fz hc1 (by first | rfl | omega | (rw [List.length_set]; omega) | (simp; done)) hz5.fz
  refine X.ret (retEnd (L' := curH .i64 123 cb bsv bs.length :: L) [.agg #[x1]] (.agg #[x1]) (.cell rfl (loadNV [x1] isAgg57 sizeOf57 rfl (Rd.ownN [_, _] rfl rfl)) .nil) rfl (FLe.trans le1 le15) rF (sD (sC (sD (sD sR)))) ?_)
  exact ⟨⟨_, rfl, ⟨_, hf5, by omega, h_2⟩⟩, rfl⟩
 refine X.skip (X.seq (X.region (cX (XOp.loadN [x1] isAgg57 sizeOf57 rfl rfl (Rd.ownN [] rfl rfl) (cX (XOp.storeN [_, _, _] _ [x1] sizeOf57 rfl rfl rfl (ones_cons (one_sl hsl1) ones_nil) rfl rfl rfl (XL.nil (X.freezeF [_] _ _ rfl (fun F16 le16 hz6 => ?_)))))))))
 replace hc1 := hc1.mono le16
 have hf6 : RowsF F16 x1 os1 := CO.fz hc1 (by first | rfl | omega | (rw [List.length_set]; omega) | (simp; done)) hz6.fz
 refine X.ret (retEnd (L' := curH .i64 123 cb bsv bs.length :: L) [.agg #[x1]] (.agg #[x1]) (.cell rfl (loadNV [x1] isAgg57 sizeOf57 rfl (Rd.ownN [_, _] rfl rfl)) .nil) rfl (FLe.trans le1 le16) rF (sD (sC (sD (sD sR)))) ?_)
 exact ⟨⟨_, rfl, ⟨_, hf6, by omega, h_2⟩⟩, rfl⟩

/- spec.DrawWalkInside -/
theorem DrawWalkInside_spec {F : FH} {L : List HP} {bsv : Value} {bs : List Int} (hbs : BytesF F bsv bs) (hbl : bs.length ≤ 4000000) :
    Does prog 38 [bsv] F (L) (fun v F' L' => ∃ (a : Value), ∃ (b : Value), ∃ (fv : Value), ∃ (xv : Value), ∃ (ar : List Int), ∃ (rs : List (List Int × List Int)), ∃ (f : List Int), ∃ (xs : List StepT), ∃ (tv : Value), ∃ (t : List Int), ∃ (p : Int), (.tuple #[.agg #[a, b], .agg #[fv, xv], tv, .int .i64 (p)] : Value) = v ∧ (IntsF F' a ar) ∧ (PairsF F' b rs) ∧ (IntsF F' fv f) ∧ (StepsF F' xv xs) ∧ (IntsF F' tv t) ∧ (smallS ar rs) ∧ (smallW f xs) ∧ (t.length ≤ 2000) ∧ L = L') := by
 refine Does.of_X func38 rfl rfl rfl (X.seq (X.region (cX (XOp.alloc [(.slice none 0 0), (.slice none 0 0)] zeroValue29 rfl ?_))))
 intro b1
 refine cX (XOp.alloc [(.slice none 0 0), (.slice none 0 0)] zeroValue60 rfl ?_)
 intro b2
 refine XL.as ((.slice none 0 0)) rfl (XL.as (.int .i64 (0)) rfl (XL.nil (X.seq (X.region (XL.mv (bsv) rfl (cX (XOp.call (args := [bsv]) call49 rfl (l1New_spec hbs (by omega)) ?_)))))))
 rintro _ _ _ _ ⟨cb1, rfl, rfl, rfl⟩
 show XL _ _ _ _ _ _ _ (curH .i64 123 cb1 bsv bs.length :: cellsH b2 [(.slice none 0 0), (.slice none 0 0)] 60 :: cellsH b1 [(.slice none 0 0), (.slice none 0 0)] 29 :: L)
 refine XL.as (ptr cb1 0) rfl (XL.nil (X.seq (X.region (XL.mv (ptr cb1 0) rfl (cX (XOp.call (args := [ptr cb1 0]) call87 rfl (Does.at [] (l6DrawAny_spec hbs (by omega))) ?_))))))
 rintro _ F1 _ le1 ⟨⟨x1, x2, x3, x4, rfl, hr1, hr2, hr3⟩, rfl⟩
 replace hbs := hbs.mono le1
 show XL _ _ _ _ _ _ _ (curH .i64 123 cb1 bsv bs.length :: cellsH b2 [(.slice none 0 0), (.slice none 0 0)] 60 :: cellsH b1 [(.slice none 0 0), (.slice none 0 0)] 29 :: L)
 have hsm6 := hr3
 have hal6 := hsm6.1
 refine cX (XOp.alloc [(.slice none 0 0), (.slice none 0 0)] zeroValue29 rfl ?_)
 intro b3
 refine cX (XOp.storeN [] _ [x1, x2] sizeOf29 rfl rfl rfl (ones_cons (one_sl (IntsF.isSl hr1)) (ones_cons (one_sl (PairsF.isSl hr2)) ones_nil)) rfl rfl rfl (XL.nil (X.seq (X.region (XL.mv (ptr cb1 0) rfl (cX (XOp.loadN [x1, x2] isAgg29 sizeOf29 rfl rfl (Rd.ownN [] rfl rfl) (cX (XOp.call (args := [ptr cb1 0, .agg #[x1, x2]]) call88 rfl (Does.at [_] (l7DrawWalk_spec hbs (by omega) hr1 hr2 (hsm := (by first | assumption | rfl | omega | simp)))) ?_)))))))))
 rintro _ F2 _ le2 ⟨⟨x5, x6, x7, x8, rfl, hr4, hr5, hr6⟩, rfl⟩
 replace hbs := hbs.mono le2
 replace hr1 := hr1.mono le2
 replace hr2 := hr2.mono le2
 show XL _ _ _ _ _ _ _ (cellsH b3 [x1, x2] 29 :: curH .i64 123 cb1 bsv bs.length :: cellsH b2 [(.slice none 0 0), (.slice none 0 0)] 60 :: cellsH b1 [(.slice none 0 0), (.slice none 0 0)] 29 :: L)
 skip
 refine cX (XOp.alloc [(.slice none 0 0), (.slice none 0 0)] zeroValue60 rfl ?_)
 intro b4
 refine cX (XOp.storeN [] _ [x5, x6] sizeOf60 rfl rfl rfl (ones_cons (one_sl (IntsF.isSl hr4)) (ones_cons (one_sl (StepsF.isSl hr5)) ones_nil)) rfl rfl rfl (XL.nil (X.seq (X.region (XL.mv (ptr cb1 0) rfl (cX (XOp.fieldP (0) runUnderlying29 rfl sizeOf26 (by decide) rfl rfl (cX (XOp.loadN [x1] isAgg26 sizeOf26 rfl rfl (Rd.ownN [_] rfl rfl) (cX (XOp.call (args := [ptr cb1 0, .agg #[x1]]) call89 rfl (Does.at [_, _] (l1DrawAny_spec hbs (by omega) hr1 (hal := (by first | assumption | rfl | omega | simp)))) ?_)))))))))))
 rintro _ F3 _ le3 ⟨⟨x9, rfl, hr7⟩, rfl⟩
 obtain ⟨t1, hr7, q1⟩ := hr7
 replace hbs := hbs.mono le3
 replace hr1 := hr1.mono le3
 replace hr2 := hr2.mono le3
 replace hr4 := hr4.mono le3
 replace hr5 := hr5.mono le3
 show XL _ _ _ _ _ _ _ (cellsH b4 [x5, x6] 60 :: cellsH b3 [x1, x2] 29 :: curH .i64 123 cb1 bsv bs.length :: cellsH b2 [(.slice none 0 0), (.slice none 0 0)] 60 :: cellsH b1 [(.slice none 0 0), (.slice none 0 0)] 29 :: L)
 refine XL.as (x9) rfl (XL.nil (X.seq (X.weaken (Sub.front (A := [_, _, _])) (X.weaken (Sub.front (A := [_, _, _, _])) ?_))))
 show X _ _ _ _ _ _ (cellsH b1 [(.slice none 0 0), (.slice none 0 0)] 29 :: cellsH b2 [(.slice none 0 0), (.slice none 0 0)] 60 :: cellsH b4 [x5, x6] 60 :: cellsH b3 [x1, x2] 29 :: curH .i64 123 cb1 bsv bs.length :: L)
 refine X.drawH [cellsH b4 [x5, x6] 60, cellsH b3 [x1, x2] 29, curH .i64 123 cb1 bsv bs.length] L 9 [[], [], [], [], [], [], [], [], []] [[], [], [], [], [], [4], [3, 5], [0], [1]] [[], [], [], [], [], [], [], [], []] (phiG [fun FF us v => v = (.agg #[x1, x2] : Value), fun FF us v => v = (.agg #[x5, x6] : Value), fun FF us v => v = x9, fun FF us v => v = ptr cb1 0, fun FF us v => v = x9, fun FF us v => v = (.int .i64 ((t1.length : Int)) : Value), fun FF us v => (.int .i64 (((intAt v))) : Value) = v ∧ ((-1) ≤ ((intAt v)) ∧ (((intAt v)) ≤ ((t1.length : Int)) ∨ ((intAt v)) = (-1))), fun FF us v => True, fun FF us v => True]) (ownL [fun us v => [], fun us v => [], fun us v => [], fun us v => [], fun us v => [], fun us v => [], fun us v => [], fun us v => [cellsH b1 [x1, x2] 29], fun us v => [cellsH b2 [x5, x6] 60]]) (fun i => ([[], [], [], [], [], [], [], [cellsH b1 [(.slice none 0 0), (.slice none 0 0)] 29], [cellsH b2 [(.slice none 0 0), (.slice none 0 0)] 60]] : List (List HP)).getD i []) mixed rfl rfl (by kernel_rfl) (by kernel_rfl) (MonoG.get (mC (fun le h => h) (mC (fun le h => h) (mC (fun le h => h) (mC (fun le h => h) (mC (fun le h => h) (mC (fun le h => h) (mC (fun le h => ⟨h.1, h.2⟩) (mC (fun le h => h) (mC (fun le h => h) MonoG.nil)))))))))) ?_ ?_
 ·refine stepsT.cons (fun vals Fs R leFs hpZ => ?_) ?_
  ·replace hbs := hbs.mono leFs
   replace hr1 := hr1.mono leFs
   replace hr2 := hr2.mono leFs
   replace hr4 := hr4.mono leFs
   replace hr5 := hr5.mono leFs
   replace hr7 := hr7.mono leFs
   refine XG.op (XOp.loadN [x1, x2] isAgg29 sizeOf29 rfl rfl (Rd.ownN [_] rfl rfl) ?_)
   exact ⟨rfl, rfl⟩
  refine stepsT.cons (fun vals Fs R leFs hpZ => ?_) ?_
  ·replace hbs := hbs.mono leFs
   replace hr1 := hr1.mono leFs
   replace hr2 := hr2.mono leFs
   replace hr4 := hr4.mono leFs
   replace hr5 := hr5.mono leFs
   replace hr7 := hr7.mono leFs
   refine XG.op (XOp.loadN [x5, x6] isAgg60 sizeOf60 rfl rfl (Rd.ownN [] rfl rfl) ?_)
   exact ⟨rfl, rfl⟩
  refine stepsT.cons (fun vals Fs R leFs hpZ => ?_) ?_
  ·refine XG.op (XOp.move (x9) rfl ?_)
   exact ⟨rfl, rfl⟩
  refine stepsT.cons (fun vals Fs R leFs hpZ => ?_) ?_
  ·refine XG.op (XOp.move (ptr cb1 0) rfl ?_)
   exact ⟨rfl, rfl⟩
  refine stepsT.cons (fun vals Fs R leFs hpZ => ?_) ?_
  ·refine XG.op (XOp.move (x9) rfl ?_)
   exact ⟨rfl, rfl⟩
  refine stepsT.cons (fun vals Fs R leFs hpZ => ?_) ?_
  ·replace hbs := hbs.mono leFs
   replace hr1 := hr1.mono leFs
   replace hr2 := hr2.mono leFs
   replace hr4 := hr4.mono leFs
   replace hr5 := hr5.mono leFs
   replace hr7 := hr7.mono leFs
   rw [eS (l := [(4, x9)]) ⟨(hpZ 4 (by decide)), trivial⟩]
   refine XG.op (XOp.lenS runUnderlying24 rfl hr7.slv ?_)
   exact ⟨rfl, rfl⟩
  refine stepsT.cons (fun vals Fs R leFs hpZ => ?_) ?_
  ·replace hbs := hbs.mono leFs
   replace hr1 := hr1.mono leFs
   replace hr2 := hr2.mono leFs
   replace hr4 := hr4.mono leFs
   replace hr5 := hr5.mono leFs
   replace hr7 := hr7.mono leFs
   rw [eS (l := [(3, ptr cb1 0), (5, (.int .i64 ((t1.length : Int)) : Value))]) ⟨(hpZ 3 (by decide)), (hpZ 5 (by decide)), trivial⟩]
   refine XG.op (XOp.call (args := [ptr cb1 0, .int .i64 (-1), .int .i64 ((t1.length : Int))]) call90 rfl (Does.at [_, _] (l1From_spec (lo := -1) (hi := (t1.length : Int)) hbs (by omega) (hlo := (by first | assumption | rfl | omega | simp)))) ?_)
   rintro _ _ _ _ ⟨⟨rfl, x11, rfl, hr9⟩, rfl⟩
   exact ⟨⟨rfl, hr9⟩, rfl⟩
  refine stepsT.cons (fun vals Fs R leFs hpZ => ?_) ?_
  ·replace hbs := hbs.mono leFs
   replace hr1 := hr1.mono leFs
   replace hr2 := hr2.mono leFs
   replace hr4 := hr4.mono leFs
   replace hr5 := hr5.mono leFs
   replace hr7 := hr7.mono leFs
   rw [eS (l := [(0, (.agg #[x1, x2] : Value))]) ⟨(hpZ 0 (by decide)), trivial⟩]
   show XG _ _ _ _ _ (cellsH b1 [(.slice none 0 0), (.slice none 0 0)] 29 :: ([cellsH b4 [x5, x6] 60, cellsH b3 [x1, x2] 29, curH .i64 123 cb1 bsv bs.length] ++ R)) _
   refine XG.op (XOp.storeN [] _ [x1, x2] sizeOf29 rfl rfl rfl (ones_cons (one_sl (IntsF.isSl hr1)) (ones_cons (one_sl (PairsF.isSl hr2)) ones_nil)) rfl rfl rfl ?_)
   exact ⟨trivial, rfl⟩
  refine stepsT.cons (fun vals Fs R leFs hpZ => ?_) ?_
  ·replace hbs := hbs.mono leFs
   replace hr1 := hr1.mono leFs
   replace hr2 := hr2.mono leFs
   replace hr4 := hr4.mono leFs
   replace hr5 := hr5.mono leFs
   replace hr7 := hr7.mono leFs
   rw [eS (l := [(1, (.agg #[x5, x6] : Value))]) ⟨(hpZ 1 (by decide)), trivial⟩]
   show XG _ _ _ _ _ (cellsH b2 [(.slice none 0 0), (.slice none 0 0)] 60 :: ([cellsH b4 [x5, x6] 60, cellsH b3 [x1, x2] 29, curH .i64 123 cb1 bsv bs.length] ++ R)) _
   refine XG.op (XOp.storeN [] _ [x5, x6] sizeOf60 rfl rfl rfl (ones_cons (one_sl (IntsF.isSl hr4)) (ones_cons (one_sl (StepsF.isSl hr5)) ones_nil)) rfl rfl rfl ?_)
   exact ⟨trivial, rfl⟩
  exact stepsT.nil
 intro vals F6 le6 hphi
 obtain ⟨e6, f6_1hx⟩ := hphi 6 (by decide)
 generalize hu1 : (intAt (vals 6)) = u1 at e6 f6_1hx
 rw [eS (l := [(2, x9), (6, (.int .i64 ((u1)) : Value))]) ⟨(hphi 2 (by decide)), (e6).symm, trivial⟩]
 replace hr1 := hr1.mono le6
 replace hr2 := hr2.mono le6
 replace hr4 := hr4.mono le6
 replace hr5 := hr5.mono le6
 replace hr7 := hr7.mono le6
 show XL _ _ _ _ _ _ _ (cellsH b1 [x1, x2] 29 :: cellsH b2 [x5, x6] 60 :: cellsH b4 [x5, x6] 60 :: cellsH b3 [x1, x2] 29 :: curH .i64 123 cb1 bsv bs.length :: L)
 refine XL.as (x9) rfl (XL.as (.int .i64 ((u1))) rfl (XL.nil (X.ret (retEnd (L' := L) [.agg #[x1, x2], .agg #[x5, x6], x9, .int .i64 ((u1))] (.tuple #[.agg #[x1, x2], .agg #[x5, x6], x9, .int .i64 ((u1))]) (.cell rfl (loadNV [x1, x2] isAgg29 sizeOf29 rfl (Rd.ownN [] rfl rfl)) (.cell rfl (loadNV [x5, x6] isAgg60 sizeOf60 rfl (Rd.ownN [_] rfl rfl)) (.tmp rfl (.tmp rfl .nil)))) rfl (FLe.trans (FLe.trans (FLe.trans le1 le2) le3) le6) rF (sD (sD (sD (sD (sD sR))))) ?_))))
 exact ⟨_, _, _, _, _, _, _, _, _, _, _, rfl, hr1, hr2, hr4, hr5, hr7, hsm6, hr6, by omega, rfl⟩

/- spec.DrawWalkUnder -/
theorem DrawWalkUnder_spec {F : FH} {L : List HP} {bsv : Value} {bs : List Int} (hbs : BytesF F bsv bs) (hbl : bs.length ≤ 4000000) :
    Does prog 45 [bsv] F (L) (fun v F' L' => ∃ (a : Value), ∃ (b : Value), ∃ (fv : Value), ∃ (xv : Value), ∃ (ar : List Int), ∃ (rs : List (List Int × List Int)), ∃ (f : List Int), ∃ (xs : List StepT), ∃ (tv : Value), ∃ (s : List (List Int)), (.tuple #[.agg #[a, b], .agg #[fv, xv], .agg #[tv]] : Value) = v ∧ (IntsF F' a ar) ∧ (PairsF F' b rs) ∧ (IntsF F' fv f) ∧ (StepsF F' xv xs) ∧ (RowsF F' tv s) ∧ (smallS ar rs) ∧ (smallW f xs) ∧ (s.length ≤ 26 ∧ ∀ i, (s.getD i []).length ≤ 2000) ∧ L = L') := by
 refine Does.of_X func45 rfl rfl rfl (X.seq (X.region (cX (XOp.alloc [(.slice none 0 0), (.slice none 0 0)] zeroValue29 rfl ?_))))
 intro b1
 refine cX (XOp.alloc [(.slice none 0 0), (.slice none 0 0)] zeroValue60 rfl ?_)
 intro b2
 refine cX (XOp.alloc [(.slice none 0 0)] zeroValue57 rfl ?_)
 intro b3
 refine XL.nil (X.seq (X.region (XL.mv (bsv) rfl (cX (XOp.call (args := [bsv]) call49 rfl (l1New_spec hbs (by omega)) ?_)))))
 rintro _ _ _ _ ⟨cb1, rfl, rfl, rfl⟩
 show XL _ _ _ _ _ _ _ (curH .i64 123 cb1 bsv bs.length :: cellsH b3 [(.slice none 0 0)] 57 :: cellsH b2 [(.slice none 0 0), (.slice none 0 0)] 60 :: cellsH b1 [(.slice none 0 0), (.slice none 0 0)] 29 :: L)
 refine XL.as (ptr cb1 0) rfl (XL.nil (X.seq (X.region (XL.mv (ptr cb1 0) rfl (cX (XOp.call (args := [ptr cb1 0]) call87 rfl (Does.at [] (l6DrawAny_spec hbs (by omega))) ?_))))))
 rintro _ F1 _ le1 ⟨⟨x1, x2, x3, x4, rfl, hr1, hr2, hr3⟩, rfl⟩
 replace hbs := hbs.mono le1
 show XL _ _ _ _ _ _ _ (curH .i64 123 cb1 bsv bs.length :: cellsH b3 [(.slice none 0 0)] 57 :: cellsH b2 [(.slice none 0 0), (.slice none 0 0)] 60 :: cellsH b1 [(.slice none 0 0), (.slice none 0 0)] 29 :: L)
 have hsm6 := hr3
 have hal6 := hsm6.1
 refine cX (XOp.alloc [(.slice none 0 0), (.slice none 0 0)] zeroValue29 rfl ?_)
 intro b4
 refine cX (XOp.storeN [] _ [x1, x2] sizeOf29 rfl rfl rfl (ones_cons (one_sl (IntsF.isSl hr1)) (ones_cons (one_sl (PairsF.isSl hr2)) ones_nil)) rfl rfl rfl (XL.nil (X.seq (X.region (XL.mv (ptr cb1 0) rfl (cX (XOp.loadN [x1, x2] isAgg29 sizeOf29 rfl rfl (Rd.ownN [] rfl rfl) (cX (XOp.call (args := [ptr cb1 0, .agg #[x1, x2]]) call88 rfl (Does.at [_] (l7DrawWalk_spec hbs (by omega) hr1 hr2 (hsm := (by first | assumption | rfl | omega | simp)))) ?_)))))))))
 rintro _ F2 _ le2 ⟨⟨x5, x6, x7, x8, rfl, hr4, hr5, hr6⟩, rfl⟩
 replace hbs := hbs.mono le2
 replace hr1 := hr1.mono le2
 replace hr2 := hr2.mono le2
 show XL _ _ _ _ _ _ _ (cellsH b4 [x1, x2] 29 :: curH .i64 123 cb1 bsv bs.length :: cellsH b3 [(.slice none 0 0)] 57 :: cellsH b2 [(.slice none 0 0), (.slice none 0 0)] 60 :: cellsH b1 [(.slice none 0 0), (.slice none 0 0)] 29 :: L)
 skip
 refine cX (XOp.alloc [(.slice none 0 0), (.slice none 0 0)] zeroValue60 rfl ?_)
 intro b5
 refine cX (XOp.storeN [] _ [x5, x6] sizeOf60 rfl rfl rfl (ones_cons (one_sl (IntsF.isSl hr4)) (ones_cons (one_sl (StepsF.isSl hr5)) ones_nil)) rfl rfl rfl (XL.nil (X.seq (X.weaken (Sub.front (A := [_, _, _, _, _])) ?_))))
 show X _ _ _ _ _ _ (cellsH b1 [(.slice none 0 0), (.slice none 0 0)] 29 :: cellsH b5 [x5, x6] 60 :: cellsH b4 [x1, x2] 29 :: curH .i64 123 cb1 bsv bs.length :: cellsH b3 [(.slice none 0 0)] 57 :: cellsH b2 [(.slice none 0 0), (.slice none 0 0)] 60 :: L)
 refine X.drawH [cellsH b5 [x5, x6] 60, cellsH b4 [x1, x2] 29, curH .i64 123 cb1 bsv bs.length, cellsH b3 [(.slice none 0 0)] 57, cellsH b2 [(.slice none 0 0), (.slice none 0 0)] 60] L 7 [[], [], [], [], [], [], []] [[], [], [], [], [3], [2, 4], [0]] [[], [], [], [], [], [], []] (phiG [fun FF us v => v = (.agg #[x1, x2] : Value), fun FF us v => v = (.agg #[x5, x6] : Value), fun FF us v => v = ptr cb1 0, fun FF us v => v = ptr b4 0, fun FF us v => v = (.agg #[x1] : Value), fun FF us v => (.agg #[((aggAt v 0))] : Value) = v ∧ (SomeRowsF FF ((aggAt v 0)) (fun s => s.length ≤ 26 ∧ ∀ i, (s.getD i []).length ≤ 2000)), fun FF us v => True]) (ownL [fun us v => [], fun us v => [], fun us v => [], fun us v => [], fun us v => [], fun us v => [], fun us v => [cellsH b1 [x1, x2] 29]]) (fun i => ([[], [], [], [], [], [], [cellsH b1 [(.slice none 0 0), (.slice none 0 0)] 29]] : List (List HP)).getD i []) mixed rfl rfl (by kernel_rfl) (by kernel_rfl) (MonoG.get (mC (fun le h => h) (mC (fun le h => h) (mC (fun le h => h) (mC (fun le h => h) (mC (fun le h => h) (mC (fun le h => ⟨h.1, h.2.mono le⟩) (mC (fun le h => h) MonoG.nil)))))))) ?_ ?_
 ·refine stepsT.cons (fun vals Fs R leFs hpZ => ?_) ?_
  ·replace hbs := hbs.mono leFs
   replace hr1 := hr1.mono leFs
   replace hr2 := hr2.mono leFs
   replace hr4 := hr4.mono leFs
   replace hr5 := hr5.mono leFs
   refine XG.op (XOp.loadN [x1, x2] isAgg29 sizeOf29 rfl rfl (Rd.ownN [_] rfl rfl) ?_)
   exact ⟨rfl, rfl⟩
  refine stepsT.cons (fun vals Fs R leFs hpZ => ?_) ?_
  ·replace hbs := hbs.mono leFs
   replace hr1 := hr1.mono leFs
   replace hr2 := hr2.mono leFs
   replace hr4 := hr4.mono leFs
   replace hr5 := hr5.mono leFs
   refine XG.op (XOp.loadN [x5, x6] isAgg60 sizeOf60 rfl rfl (Rd.ownN [] rfl rfl) ?_)
   exact ⟨rfl, rfl⟩
  refine stepsT.cons (fun vals Fs R leFs hpZ => ?_) ?_
  ·refine XG.op (XOp.move (ptr cb1 0) rfl ?_)
   exact ⟨rfl, rfl⟩
  refine stepsT.cons (fun vals Fs R leFs hpZ => ?_) ?_
  ·refine XG.op (XOp.fieldP (0) runUnderlying29 rfl sizeOf26 (by decide) rfl rfl ?_)
   exact ⟨rfl, rfl⟩
  refine stepsT.cons (fun vals Fs R leFs hpZ => ?_) ?_
  ·replace hbs := hbs.mono leFs
   replace hr1 := hr1.mono leFs
   replace hr2 := hr2.mono leFs
   replace hr4 := hr4.mono leFs
   replace hr5 := hr5.mono leFs
   rw [eS (l := [(3, ptr b4 0)]) ⟨(hpZ 3 (by decide)), trivial⟩]
   refine XG.op (XOp.loadN [x1] isAgg26 sizeOf26 rfl rfl (Rd.ownN [_] rfl rfl) ?_)
   exact ⟨rfl, rfl⟩
  refine stepsT.cons (fun vals Fs R leFs hpZ => ?_) ?_
  ·replace hbs := hbs.mono leFs
   replace hr1 := hr1.mono leFs
   replace hr2 := hr2.mono leFs
   replace hr4 := hr4.mono leFs
   replace hr5 := hr5.mono leFs
   rw [eS (l := [(2, ptr cb1 0), (4, (.agg #[x1] : Value))]) ⟨(hpZ 2 (by decide)), (hpZ 4 (by decide)), trivial⟩]
   refine XG.op (XOp.call (args := [ptr cb1 0, .agg #[x1]]) call100 rfl (Does.at [_, _] (l2DrawAny_spec hbs (by omega) hr1 (hal := (by first | assumption | rfl | omega | simp)))) ?_)
   rintro _ F4 _ le4 ⟨⟨x10, rfl, hr8⟩, rfl⟩
   replace hbs := hbs.mono le4
   replace hr1 := hr1.mono le4
   replace hr2 := hr2.mono le4
   replace hr4 := hr4.mono le4
   replace hr5 := hr5.mono le4
   exact ⟨⟨rfl, hr8⟩, rfl⟩
  refine stepsT.cons (fun vals Fs R leFs hpZ => ?_) ?_
  ·replace hbs := hbs.mono leFs
   replace hr1 := hr1.mono leFs
   replace hr2 := hr2.mono leFs
   replace hr4 := hr4.mono leFs
   replace hr5 := hr5.mono leFs
   rw [eS (l := [(0, (.agg #[x1, x2] : Value))]) ⟨(hpZ 0 (by decide)), trivial⟩]
   show XG _ _ _ _ _ (cellsH b1 [(.slice none 0 0), (.slice none 0 0)] 29 :: ([cellsH b5 [x5, x6] 60, cellsH b4 [x1, x2] 29, curH .i64 123 cb1 bsv bs.length, cellsH b3 [(.slice none 0 0)] 57, cellsH b2 [(.slice none 0 0), (.slice none 0 0)] 60] ++ R)) _
   refine XG.op (XOp.storeN [] _ [x1, x2] sizeOf29 rfl rfl rfl (ones_cons (one_sl (IntsF.isSl hr1)) (ones_cons (one_sl (PairsF.isSl hr2)) ones_nil)) rfl rfl rfl ?_)
   exact ⟨trivial, rfl⟩
  exact stepsT.nil
 intro vals F5 le5 hphi
 obtain ⟨e5, f5_1hp_a⟩ := hphi 5 (by decide)
 obtain ⟨t5X1_a, f5_1hp_a, q5_1_a0, q5_1_a1⟩ := f5_1hp_a
 generalize hu1 : ((aggAt (vals 5) 0)) = u1 at e5 f5_1hp_a
 rw [eS (l := [(1, (.agg #[x5, x6] : Value)), (5, (.agg #[u1] : Value))]) ⟨(hphi 1 (by decide)), (e5).symm, trivial⟩]
 replace hr1 := hr1.mono le5
 replace hr2 := hr2.mono le5
 replace hr4 := hr4.mono le5
 replace hr5 := hr5.mono le5
 show XL _ _ _ _ _ _ _ (cellsH b1 [x1, x2] 29 :: cellsH b5 [x5, x6] 60 :: cellsH b4 [x1, x2] 29 :: curH .i64 123 cb1 bsv bs.length :: cellsH b3 [(.slice none 0 0)] 57 :: cellsH b2 [(.slice none 0 0), (.slice none 0 0)] 60 :: L)
 refine cX (XOp.storeN [_, _, _, _, _] _ [x5, x6] sizeOf60 rfl rfl rfl (ones_cons (one_sl (IntsF.isSl hr4)) (ones_cons (one_sl (StepsF.isSl hr5)) ones_nil)) rfl rfl rfl (cX (XOp.storeN [_, _, _, _] _ [u1] sizeOf57 rfl rfl rfl (ones_cons (one_sl (RowsF.isSl f5_1hp_a)) ones_nil) rfl rfl rfl (XL.nil (X.ret (retEnd (L' := L) [.agg #[x1, x2], .agg #[x5, x6], .agg #[u1]] (.tuple #[.agg #[x1, x2], .agg #[x5, x6], .agg #[u1]]) (.cell rfl (loadNV [x1, x2] isAgg29 sizeOf29 rfl (Rd.ownN [] rfl rfl)) (.cell rfl (loadNV [x5, x6] isAgg60 sizeOf60 rfl (Rd.ownN [_, _, _, _, _] rfl rfl)) (.cell rfl (loadNV [u1] isAgg57 sizeOf57 rfl (Rd.ownN [_, _, _, _] rfl rfl)) .nil))) rfl (FLe.trans (FLe.trans le1 le2) le5) rF (sD (sD (sD (sD (sD (sD sR)))))) ?_))))))
 exact ⟨_, _, _, _, _, _, _, _, _, _, rfl, hr1, hr2, hr4, hr5, f5_1hp_a, hsm6, hr6, ⟨q5_1_a0, q5_1_a1⟩, rfl⟩

/- impl.SubAt -/
theorem iSubAt_spec {F : FH} {L : List HP} {arv : Value} {ar : List Int} (har : IntsF F arv ar) {tv : Value} {t : List Int} (ht : IntsF F tv t) {p : Int} :
    Does prog 43 [.agg #[arv], tv, .int .i64 (p)] F (L) (fun v F' L' => ∃ (a : Value), (a : Value) = v ∧ (IntsF F' a (if posOk ar t p = true then sub ar t p.toNat else [])) ∧ L = L') := by
 refine Does.of_X func43 rfl rfl rfl (X.seq (X.region (cX (XOp.box [arv] rfl rfl ?_))))
 intro b1
 refine XL.as ((.slice none 0 0)) rfl (XL.nil (X.seq (X.seq (X.region (cX (XOp.loadN [arv] isAgg26 sizeOf26 rfl rfl (Rd.ownN [] rfl rfl) (XL.mv (tv) rfl (XL.mv (.int .i64 (p)) rfl (cX (XOp.call (args := [.agg #[arv], tv, .int .i64 (p)]) call60 rfl (posOk_spec (n := p) har ht) ?_))))))))))
 rintro _ _ _ _ ⟨rfl, rfl, rfl⟩
 refine cX (XOp.notB rfl (XL.nil ?_))
 refine X.cond (t := !(posOk ar t p)) rfl (fun h1 => ?_) (fun h1 => ?_)
 ·have hpo : ¬ posOk ar t p = true := by simpa using h1
  refine X.seq (X.region (XL.as ((.slice none 0 0)) rfl (XL.nil (X.ret (thenQ_ret (retEnd (L' := L) [(.slice none 0 0)] ((.slice none 0 0)) (.tmp rfl .nil) rfl rF rF (sD sR) ?_))))))
  rw [if_neg hpo]
  exact ⟨_, rfl, IntsF.nilV, rfl⟩
 have hpo : posOk ar t p = true := by simpa using h1
 have hpo2 := posOk_iff.1 hpo
 have ho := hpo2.1
 have htl := termOk_len ho
 refine X.skip (X.seq (X.region (cX (XOp.loadN [arv] isAgg26 sizeOf26 rfl rfl (Rd.ownN [] rfl rfl) (XL.mv (tv) rfl (XL.mv (.int .i64 (p)) rfl (cX (XOp.call (args := [.agg #[arv], tv, .int .i64 (((p).toNat : Nat) : Int)]) call98 (by rw [show (((p).toNat : Nat) : Int) = p from by omega]; rfl) (subAt_spec (p := (p).toNat) har ht (ho := (by first | assumption | rfl | omega | simp)) (hp := (by omega)) (hnn := (notNil_of_pos ht (by omega)))) ?_))))))))
 rintro v1 _ _ _ ⟨rfl, rfl, hv1, hn1⟩
 refine cX (XOp.frzF <| XOp.call (args := [v1]) call97 rfl (Clone_spec hv1 (hlt := (Nat.le_trans sub_le (by omega)))) ?_)
 rintro v2 _ _ _ ⟨rfl, hs1, rfl⟩
 refine ⟨_, _, rfl, fun F1 le1 hz1 => ?_⟩
 have hf1 : IntsF F1 v2 ((((sub ar t ((p).toNat))))) := intsH.fz (xs := (((sub ar t ((p).toNat))))) hz1.fz
 refine XL.as (v2) rfl (XL.nil (X.ret (retEnd (L' := L) [v2] (v2) (.tmp rfl .nil) rfl le1 rF (sD sR) ?_)))
 rw [if_pos hpo]
 exact ⟨_, rfl, hf1, rfl⟩

/- laws.FnWalksGoOn -/
set_option maxHeartbeats 2000000 in
set_option maxRecDepth 20000 in
theorem FnWalksGoOn_does {F : FH} {L : List HP} {bsv : Value} {bs : List Int} (hbs : BytesF F bsv bs) (hlb : bs.length ≤ 9223372036854775807) :
    Does prog 7 [bsv] F (L) (fun v F' L' => (.bool (true) : Value) = v ∧ F = F' ∧ L = L') := by
 refine Does.of_X func7 rfl rfl rfl (X.seq (X.region (XL.as (.bool (false)) rfl (XL.nil (X.seq (X.seq (X.region (XL.mv (bsv) rfl (cX (XOp.call (args := [bsv]) call8 rfl (big_spec hbs) ?_))))))))))
 rintro _ _ _ _ ⟨rfl, rfl, rfl⟩
 refine XL.nil ?_
 refine X.condD (p := (bs.length : Int) > 4096) rfl (fun h1 => ?_) (fun h1 => ?_)
 ·refine X.seq (X.region (XL.as (.bool (true)) rfl (XL.nil (X.ret (thenQ_ret (retEnd (L' := L) [.bool (true)] (.bool (true)) (.tmp rfl .nil) rfl rF rF sR ?_))))))
  exact ⟨rfl, rfl, rfl⟩
 have hbl2 : bs.length ≤ 4000000 := by omega
 refine X.skip (X.seq (X.region (XL.mv (bsv) rfl (cX (XOp.call (args := [bsv]) call38 rfl (DrawWalkInside_spec hbs (hbl := (by first | assumption | rfl | omega | simp))) ?_)))))
 rintro _ F1 _ le1 ⟨x1, x2, x3, x4, x5, x6, x7, x8, x9, x10, x11, rfl, hr1, hr2, hr3, hr4, hr5, hr6, hr7, hr8, rfl⟩
 replace hbs := hbs.mono le1
 have hla1 := hr6.la
 have hlr1 := hr6.lr
 have hrb1 := hr6.each
 have hfl1 : x7.length ≤ 4000000 := by have h9 := hr7.1; omega
 have hxl1 : x8.length ≤ 4000000 := by have h9 := hr7.2.1; omega
 have hxb1 : ∀ i, i < x8.length → (x8.getD i (0, 0, [])).2.2.length ≤ 4000000 := fun i hi => by have h9 := hr7.2.2 i; omega
 have htl1 : x10.length ≤ 4000000 := by have h9 := hr8; omega
 have hew := endT_len (ar := x5) (rs := x6) (f := x7) (ss := x8)
 have hwa1 := insB_bounds (ar := x5) (rs := x6) (f := x7) (ss := x8) (t := x10) (p := x11)
 have hwb1 : (insB x5 x6 x7 x8 x10 x11).1.length ≤ 4000000 := by have h9 := hwa1.1; omega
 have hwc1 : ∀ i, i < (insB x5 x6 x7 x8 x10 x11).2.1.length → (((insB x5 x6 x7 x8 x10 x11).2.1).getD i (0, 0, [])).2.2.length ≤ 4000000 := fun i hi => by have h9 := hwa1.2.1 i hi; omega
 refine XL.mv (.tuple #[.agg #[x1, x2], .agg #[x3, x4], x9, .int .i64 (x11)]) rfl (cX (XOp.extract (.agg #[x1, x2]) rfl rfl (cX (XOp.extract (.agg #[x3, x4]) rfl rfl (cX (XOp.extract (x9) rfl rfl (cX (XOp.extract (.int .i64 (x11)) rfl rfl (cX (XOp.alloc [(.slice none 0 0), (.slice none 0 0)] zeroValue29 rfl ?_))))))))))
 intro b1
 refine cX (XOp.alloc [(.slice none 0 0), (.slice none 0 0)] zeroValue60 rfl ?_)
 intro b2
 refine cX (XOp.storeN [_] _ [x1, x2] sizeOf29 rfl rfl rfl (ones_cons (one_sl (IntsF.isSl hr1)) (ones_cons (one_sl (PairsF.isSl hr2)) ones_nil)) rfl rfl rfl (cX (XOp.storeN [] _ [x3, x4] sizeOf60 rfl rfl rfl (ones_cons (one_sl (IntsF.isSl hr3)) (ones_cons (one_sl (StepsF.isSl hr4)) ones_nil)) rfl rfl rfl (XL.as (x9) rfl (XL.as (.int .i64 (x11)) rfl (XL.nil (X.seq (X.region (cX (XOp.loadN [x1, x2] isAgg29 sizeOf29 rfl rfl (Rd.ownN [_] rfl rfl) (cX (XOp.loadN [x3, x4] isAgg60 sizeOf60 rfl rfl (Rd.ownN [] rfl rfl) (cX (XOp.call (args := [.agg #[x1, x2], .agg #[x3, x4]]) call39 rfl (WalkOk_spec hr1 hr2 hr3 hr4 (hlf := (by first | assumption | rfl | omega | simp)) (hsb := (by first | assumption | rfl | omega | simp))) ?_))))))))))))))
 rintro _ _ _ _ ⟨rfl, rfl, rfl⟩
 refine XL.as (.bool (walkOkL x5 x6 x7 x8)) rfl (XL.nil (X.seq (X.region (cX (XOp.loadN [x1, x2] isAgg29 sizeOf29 rfl rfl (Rd.ownN [_] rfl rfl) (cX (XOp.loadN [x3, x4] isAgg60 sizeOf60 rfl rfl (Rd.ownN [] rfl rfl) (XL.mv (x9) rfl (XL.mv (.int .i64 (x11)) rfl (cX (XOp.call (args := [.agg #[x1, x2], .agg #[x3, x4], x9, .int .i64 (x11)]) call40 rfl (WalkInside_spec (p := x11) hr1 hr2 hr3 hr4 hr5 (hlf := (by first | assumption | rfl | omega | simp)) (hsb := (by first | assumption | rfl | omega | simp))) ?_)))))))))))
 rintro _ F2 _ le2 ⟨x12, x13, rfl, hr9, hr10, hr11, rfl⟩
 replace hbs := hbs.mono le2
 replace hr1 := hr1.mono le2
 replace hr2 := hr2.mono le2
 replace hr3 := hr3.mono le2
 replace hr4 := hr4.mono le2
 replace hr5 := hr5.mono le2
 refine XL.mv (.tuple #[.agg #[x12, x13], .bool ((insB x5 x6 x7 x8 x10 x11).2.2)]) rfl (cX (XOp.extract (.agg #[x12, x13]) rfl rfl (cX (XOp.extract (.bool ((insB x5 x6 x7 x8 x10 x11).2.2)) rfl rfl (cX (XOp.alloc [(.slice none 0 0), (.slice none 0 0)] zeroValue60 rfl ?_))))))
 intro b3
 refine cX (XOp.storeN [] _ [x12, x13] sizeOf60 rfl rfl rfl (ones_cons (one_sl (IntsF.isSl hr9)) (ones_cons (one_sl (StepsF.isSl hr10)) ones_nil)) rfl rfl rfl (XL.as (.bool ((insB x5 x6 x7 x8 x10 x11).2.2)) rfl (XL.nil (X.seq (X.region (cX (XOp.loadN [x1, x2] isAgg29 sizeOf29 rfl rfl (Rd.ownN [_, _] rfl rfl) (cX (XOp.loadN [x3, x4] isAgg60 sizeOf60 rfl rfl (Rd.ownN [_] rfl rfl) (XL.mv (x9) rfl (XL.mv (.int .i64 (x11)) rfl (cX (XOp.call (args := [.agg #[x1, x2], .agg #[x3, x4], x9, .int .i64 (x11)]) call41 rfl (sWalkInside_spec (p := x11) hr1 hr2 hr3 hr4 hr5 (hla := (by first | assumption | rfl | omega | simp)) (hlr := (by first | assumption | rfl | omega | simp)) (hrb := (by first | assumption | rfl | omega | simp)) (hlf := (by first | assumption | rfl | omega | simp)) (hlss := (by first | assumption | rfl | omega | simp)) (hsb := (by first | assumption | rfl | omega | simp)) (hlt := (by first | assumption | rfl | omega | simp))) ?_)))))))))))))
 rintro _ F3 _ le3 ⟨x14, x15, rfl, hr12, hr13, rfl⟩
 replace hbs := hbs.mono le3
 replace hr1 := hr1.mono le3
 replace hr2 := hr2.mono le3
 replace hr3 := hr3.mono le3
 replace hr4 := hr4.mono le3
 replace hr9 := hr9.mono le3
 replace hr10 := hr10.mono le3
 refine XL.mv (.tuple #[.agg #[x14, x15], .bool ((insB x5 x6 x7 x8 x10 x11).2.2)]) rfl (cX (XOp.extract (.agg #[x14, x15]) rfl rfl (cX (XOp.extract (.bool ((insB x5 x6 x7 x8 x10 x11).2.2)) rfl rfl (cX (XOp.alloc [(.slice none 0 0), (.slice none 0 0)] zeroValue60 rfl ?_))))))
 intro b4
 refine cX (XOp.storeN [] _ [x14, x15] sizeOf60 rfl rfl rfl (ones_cons (one_sl (IntsF.isSl hr12)) (ones_cons (one_sl (StepsF.isSl hr13)) ones_nil)) rfl rfl rfl (XL.as (.bool ((insB x5 x6 x7 x8 x10 x11).2.2)) rfl (XL.nil (X.seq (X.seq ?_)))))
 apply cutX (R := fun r9 F9 L9 => (∃ rE, r9 = envs [(0, bsv), (2, (.bool (false) : Value)), (3, ptr b1 0), (4, ptr b2 0), (7, (.bool (walkOkL x5 x6 x7 x8) : Value)), (25, (.bool (decide ((bs.length : Int) > 4096)) : Value))] rE) ∧ F3 ≤ F9 ∧ L9 = cellsH b4 [x14, x15] 60 :: cellsH b3 [x12, x13] 60 :: cellsH b2 [x3, x4] 60 :: cellsH b1 [x1, x2] 29 :: L)
 ·intro tail1
  refine X.region (XL.mv (.bool (walkOkL x5 x6 x7 x8)) rfl (cX (XOp.loadN [x1, x2] isAgg29 sizeOf29 rfl rfl (Rd.ownN [_, _, _] rfl rfl) (cX (XOp.loadN [x3, x4] isAgg60 sizeOf60 rfl rfl (Rd.ownN [_, _] rfl rfl) (cX (XOp.call (args := [.agg #[x1, x2], .agg #[x3, x4]]) call42 rfl (sWalkOk_spec hr1 hr2 hr3 hr4 (hla := (by first | assumption | rfl | omega | simp)) (hlr := (by first | assumption | rfl | omega | simp)) (hrb := (by first | assumption | rfl | omega | simp)) (hlf := (by first | assumption | rfl | omega | simp)) (hlss := (by first | assumption | rfl | omega | simp)) (hsb := (by first | assumption | rfl | omega | simp))) ?_)))))))
  rintro _ _ _ _ ⟨rfl, rfl, rfl⟩
  refine cX (XOp.neB (a := walkOkL x5 x6 x7 x8) (b := walkOkL x5 x6 x7 x8) runUnderlying4 rfl rfl (XL.mv (.bool (decide ((walkOkL x5 x6 x7 x8) ≠ (walkOkL x5 x6 x7 x8)))) rfl ?_))
  by_cases h2 : (walkOkL x5 x6 x7 x8) ≠ (walkOkL x5 x6 x7 x8)
  ·exact absurd rfl h2
  refine XL.yes (t := 57) rfl (vF h2) (XOp.move (.bool ((insB x5 x6 x7 x8 x10 x11).2.2)) rfl (XL.yes (t := 57) rfl (vF h2) (XOp.move (.bool ((insB x5 x6 x7 x8 x10 x11).2.2)) rfl (XL.yes (t := 57) rfl (vF h2) (XOp.neB (a := (insB x5 x6 x7 x8 x10 x11).2.2) (b := (insB x5 x6 x7 x8 x10 x11).2.2) runUnderlying4 rfl rfl (cX (XOp.pickF (.bool (decide (((insB x5 x6 x7 x8 x10 x11).2.2) ≠ ((insB x5 x6 x7 x8 x10 x11).2.2)))) (vF h2) rfl (XL.mv (.bool (decide (((insB x5 x6 x7 x8 x10 x11).2.2) ≠ ((insB x5 x6 x7 x8 x10 x11).2.2)))) rfl ?_))))))))
  by_cases h3 : ((insB x5 x6 x7 x8 x10 x11).2.2) ≠ ((insB x5 x6 x7 x8 x10 x11).2.2)
  ·exact absurd rfl h3
  refine XL.yes (t := 62) rfl (vF h3) (XOp.move (.bool ((insB x5 x6 x7 x8 x10 x11).2.2)) rfl (XL.yes (t := 62) rfl (vF h3) (XOp.move (.bool ((insB x5 x6 x7 x8 x10 x11).2.2)) rfl ?_)))
  by_cases h4 : ((insB x5 x6 x7 x8 x10 x11).2.2) = true
  ·have hil := insB_law h4
   refine XL.yes (t := 64) rfl (vB h4) (XOp.loadN [x1, x2] isAgg29 sizeOf29 rfl rfl (Rd.ownN [_, _, _] rfl rfl) (XL.yes (t := 64) rfl (vB h4) (XOp.loadN [x12, x13] isAgg60 sizeOf60 rfl rfl (Rd.ownN [_] rfl rfl) (XL.yes (t := 64) rfl (vB h4) (XOp.call (args := [.agg #[x1, x2], .agg #[x12, x13]]) call39 rfl (WalkOk_spec hr1 hr2 hr9 hr10 (hlf := (by first | assumption | rfl | omega | simp)) (hsb := (by first | assumption | rfl | omega | simp))) ?_)))))
   rintro _ _ _ _ ⟨rfl, rfl, rfl⟩
   refine XL.yes (t := 64) rfl (vB h4) (XOp.notB rfl (XL.yes (t := 64) rfl (vB h4) (XOp.move (.bool (!(walkOkL x5 x6 ((insB x5 x6 x7 x8 x10 x11).1) ((insB x5 x6 x7 x8 x10 x11).2.1)))) rfl ?_)))
   by_cases h5 : (!(walkOkL x5 x6 ((insB x5 x6 x7 x8 x10 x11).1) ((insB x5 x6 x7 x8 x10 x11).2.1))) = true
   ·exact absurd h5 (by rw [hil.1]; simp)
   rw [Bool.not_eq_true] at h5
   refine XL.yes (t := 69) rfl (vB h5) (XOp.fieldP (1) runUnderlying60 rfl sizeOf45 (by decide) rfl rfl (XL.yes (t := 69) rfl (vB h5) (XOp.load1 isAgg45 rfl (Rd.own [_] rfl rfl) (XL.yes (t := 69) rfl (vB h5) (XOp.lenS runUnderlying45 rfl hr10.slv (XL.yes (t := 69) rfl (vB h5) (XOp.fieldP (1) runUnderlying60 rfl sizeOf45 (by decide) rfl rfl (XL.yes (t := 69) rfl (vB h5) (XOp.load1 isAgg45 rfl (Rd.own [_, _] rfl rfl) (XL.yes (t := 69) rfl (vB h5) (XOp.lenS runUnderlying45 rfl hr4.slv (XL.yes (t := 69) rfl (vB h5) (XOp.neq rfl rfl (XL.yes (t := 64) rfl (vB h4) (XOp.pickF (.bool (decide ((((((insB x5 x6 x7 x8 x10 x11).2.1).length : Nat) : Int) : Int) ≠ (x8.length : Int)))) (vB h5) rfl (XL.yes (t := 62) rfl (vF h3) (XOp.pickT (.bool (decide ((((((insB x5 x6 x7 x8 x10 x11).2.1).length : Nat) : Int) : Int) ≠ (x8.length : Int)))) (vB h4) rfl (cX (XOp.pickF (.bool (decide ((((((insB x5 x6 x7 x8 x10 x11).2.1).length : Nat) : Int) : Int) ≠ (x8.length : Int)))) (vF h3) rfl ?_)))))))))))))))))))
   refine XL.nil ?_
   refine X.condD (p := (((((insB x5 x6 x7 x8 x10 x11).2.1).length : Nat) : Int) : Int) ≠ (x8.length : Int)) rfl (fun h6 => ?_) (fun h6 => ?_)
   ·exact absurd (by rw [hil.2.1]) h6
   refine X.skip (X.seq (X.seq ?_))
   refine X.drawG [cellsH b4 [x14, x15] 60, cellsH b3 [x12, x13] 60, cellsH b2 [x3, x4] 60, cellsH b1 [x1, x2] 29] L 11 [[], [], [], [], [], [], [], [], [], [], []] [[], [0], [1], [1, 2], [1], [1], [1, 4, 5], [1], [1, 3, 6, 7], [1], [1]] [[], [], [], [], [], [], [], [], [], [], []] (phiG [fun FF us v => v = (.bool ((insB x5 x6 x7 x8 x10 x11).2.2) : Value), fun FF us v => v = (.bool ((insB x5 x6 x7 x8 x10 x11).2.2) : Value), fun FF us v => v = ptr b1 0, fun FF us v => v = (.agg #[x1] : Value), fun FF us v => v = (.agg #[x1, x2] : Value), fun FF us v => v = (.agg #[x12, x13] : Value), fun FF us v => ((v) : Value) = v ∧ (IntsF FF (v) (endT x5 x6 ((insB x5 x6 x7 x8 x10 x11).1) ((insB x5 x6 x7 x8 x10 x11).2.1))), fun FF us v => v = (.int .i64 (x11) : Value), fun FF us v => ((v) : Value) = v ∧ (IntsF FF (v) (if posOk x5 ((endT x5 x6 ((insB x5 x6 x7 x8 x10 x11).1) ((insB x5 x6 x7 x8 x10 x11).2.1))) x11 = true then sub x5 ((endT x5 x6 ((insB x5 x6 x7 x8 x10 x11).1) ((insB x5 x6 x7 x8 x10 x11).2.1))) x11.toNat else [])), fun FF us v => v = (.agg #[x1, x2] : Value), fun FF us v => v = (.agg #[x3, x4] : Value)]) (ownL [fun us v => [], fun us v => [], fun us v => [], fun us v => [], fun us v => [], fun us v => [], fun us v => [], fun us v => [], fun us v => [], fun us v => [], fun us v => []]) mixed rfl rfl (by kernel_rfl) (by kernel_rfl) (MonoG.get (mC (fun le h => h) (mC (fun le h => h) (mC (fun le h => h) (mC (fun le h => h) (mC (fun le h => h) (mC (fun le h => h) (mC (fun le h => ⟨h.1, h.2.mono le⟩) (mC (fun le h => h) (mC (fun le h => ⟨h.1, h.2.mono le⟩) (mC (fun le h => h) (mC (fun le h => h) MonoG.nil)))))))))))) ?_ ?_
   ·refine gC (fun vals Fs R leFs hpZ => ?_) ?_
    ·refine XG.op (XOp.move (.bool ((insB x5 x6 x7 x8 x10 x11).2.2)) rfl ?_)
     exact ⟨rfl, rfl⟩
    refine gC (fun vals Fs R leFs hpZ => ?_) ?_
    ·rw [eS (l := [(0, (.bool ((insB x5 x6 x7 x8 x10 x11).2.2) : Value))]) ⟨(hpZ 0 (by decide)), trivial⟩]
     refine XG.op (XOp.move (.bool ((insB x5 x6 x7 x8 x10 x11).2.2)) rfl ?_)
     exact ⟨rfl, rfl⟩
    refine gC (fun vals Fs R leFs hpZ => ?_) ?_
    ·rw [eS (l := [(1, (.bool ((insB x5 x6 x7 x8 x10 x11).2.2) : Value))]) ⟨(hpZ 1 (by decide)), trivial⟩]
     refine XG.yes (t := 81) rfl (vB h4) (XOp.fieldP (0) runUnderlying29 rfl sizeOf26 (by decide) rfl rfl ?_)
     exact ⟨rfl, rfl⟩
    refine gC (fun vals Fs R leFs hpZ => ?_) ?_
    ·replace hbs := hbs.mono leFs
     replace hr1 := hr1.mono leFs
     replace hr2 := hr2.mono leFs
     replace hr3 := hr3.mono leFs
     replace hr4 := hr4.mono leFs
     replace hr9 := hr9.mono leFs
     replace hr10 := hr10.mono leFs
     rw [eS (l := [(1, (.bool ((insB x5 x6 x7 x8 x10 x11).2.2) : Value)), (2, ptr b1 0)]) ⟨(hpZ 1 (by decide)), (hpZ 2 (by decide)), trivial⟩]
     refine XG.yes (t := 81) rfl (vB h4) (XOp.loadN [x1] isAgg26 sizeOf26 rfl rfl (Rd.ownN [_, _, _] rfl rfl) ?_)
     exact ⟨rfl, rfl⟩
    refine gC (fun vals Fs R leFs hpZ => ?_) ?_
    ·replace hbs := hbs.mono leFs
     replace hr1 := hr1.mono leFs
     replace hr2 := hr2.mono leFs
     replace hr3 := hr3.mono leFs
     replace hr4 := hr4.mono leFs
     replace hr9 := hr9.mono leFs
     replace hr10 := hr10.mono leFs
     rw [eS (l := [(1, (.bool ((insB x5 x6 x7 x8 x10 x11).2.2) : Value))]) ⟨(hpZ 1 (by decide)), trivial⟩]
     refine XG.yes (t := 81) rfl (vB h4) (XOp.loadN [x1, x2] isAgg29 sizeOf29 rfl rfl (Rd.ownN [_, _, _] rfl rfl) ?_)
     exact ⟨rfl, rfl⟩
    refine gC (fun vals Fs R leFs hpZ => ?_) ?_
    ·replace hbs := hbs.mono leFs
     replace hr1 := hr1.mono leFs
     replace hr2 := hr2.mono leFs
     replace hr3 := hr3.mono leFs
     replace hr4 := hr4.mono leFs
     replace hr9 := hr9.mono leFs
     replace hr10 := hr10.mono leFs
     rw [eS (l := [(1, (.bool ((insB x5 x6 x7 x8 x10 x11).2.2) : Value))]) ⟨(hpZ 1 (by decide)), trivial⟩]
     refine XG.yes (t := 81) rfl (vB h4) (XOp.loadN [x12, x13] isAgg60 sizeOf60 rfl rfl (Rd.ownN [_] rfl rfl) ?_)
     exact ⟨rfl, rfl⟩
    refine gC (fun vals Fs R leFs hpZ => ?_) ?_
    ·replace hbs := hbs.mono leFs
     replace hr1 := hr1.mono leFs
     replace hr2 := hr2.mono leFs
     replace hr3 := hr3.mono leFs
     replace hr4 := hr4.mono leFs
     replace hr9 := hr9.mono leFs
     replace hr10 := hr10.mono leFs
     rw [eS (l := [(1, (.bool ((insB x5 x6 x7 x8 x10 x11).2.2) : Value)), (4, (.agg #[x1, x2] : Value)), (5, (.agg #[x12, x13] : Value))]) ⟨(hpZ 1 (by decide)), (hpZ 4 (by decide)), (hpZ 5 (by decide)), trivial⟩]
     refine XG.yes (t := 81) rfl (vB h4) (XOp.frzF <| XOp.call (args := [.agg #[x1, x2], .agg #[x12, x13]]) call44 rfl (EndTerm_spec hr1 hr2 hr9 hr10 (hlf := (by first | assumption | rfl | omega | simp)) (hsb := (by first | assumption | rfl | omega | simp))) ?_)
     rintro v2 _ _ _ ⟨rfl, hs2, rfl⟩
     refine ⟨_, _, rfl, fun F5 le5 hz1 => ?_⟩
     replace hbs := hbs.mono le5
     replace hr1 := hr1.mono le5
     replace hr2 := hr2.mono le5
     replace hr3 := hr3.mono le5
     replace hr4 := hr4.mono le5
     have hf1 : IntsF F5 v2 ((endT x5 x6 ((insB x5 x6 x7 x8 x10 x11).1) ((insB x5 x6 x7 x8 x10 x11).2.1))) := intsH.fz (xs := (endT x5 x6 ((insB x5 x6 x7 x8 x10 x11).1) ((insB x5 x6 x7 x8 x10 x11).2.1))) hz1.fz
     exact ⟨⟨rfl, hf1⟩, rfl⟩
    refine gC (fun vals Fs R leFs hpZ => ?_) ?_
    ·rw [eS (l := [(1, (.bool ((insB x5 x6 x7 x8 x10 x11).2.2) : Value))]) ⟨(hpZ 1 (by decide)), trivial⟩]
     refine XG.yes (t := 81) rfl (vB h4) (XOp.move (.int .i64 (x11)) rfl ?_)
     exact ⟨rfl, rfl⟩
    refine gC (fun vals Fs R leFs hpZ => ?_) ?_
    ·obtain ⟨e6, f6_1ha⟩ := hpZ 6 (by decide)
     replace hbs := hbs.mono leFs
     replace hr1 := hr1.mono leFs
     replace hr2 := hr2.mono leFs
     replace hr3 := hr3.mono leFs
     replace hr4 := hr4.mono leFs
     rw [eS (l := [(1, (.bool ((insB x5 x6 x7 x8 x10 x11).2.2) : Value)), (3, (.agg #[x1] : Value)), (6, ((vals 6))), (7, (.int .i64 (x11) : Value))]) ⟨(hpZ 1 (by decide)), (hpZ 3 (by decide)), (e6).symm, (hpZ 7 (by decide)), trivial⟩]
     refine XG.yes (t := 81) rfl (vB h4) (XOp.call (args := [.agg #[x1], ((vals 6)), .int .i64 (x11)]) call43 rfl (iSubAt_spec (p := x11) hr1 f6_1ha) ?_)
     rintro _ F6 _ le6 ⟨x17, rfl, hr15, rfl⟩
     replace hbs := hbs.mono le6
     replace hr1 := hr1.mono le6
     replace hr2 := hr2.mono le6
     replace hr3 := hr3.mono le6
     replace hr4 := hr4.mono le6
     replace f6_1ha := f6_1ha.mono le6
     exact ⟨⟨rfl, hr15⟩, rfl⟩
    refine gC (fun vals Fs R leFs hpZ => ?_) ?_
    ·replace hbs := hbs.mono leFs
     replace hr1 := hr1.mono leFs
     replace hr2 := hr2.mono leFs
     replace hr3 := hr3.mono leFs
     replace hr4 := hr4.mono leFs
     rw [eS (l := [(1, (.bool ((insB x5 x6 x7 x8 x10 x11).2.2) : Value))]) ⟨(hpZ 1 (by decide)), trivial⟩]
     refine XG.yes (t := 81) rfl (vB h4) (XOp.loadN [x1, x2] isAgg29 sizeOf29 rfl rfl (Rd.ownN [_, _, _] rfl rfl) ?_)
     exact ⟨rfl, rfl⟩
    refine gC (fun vals Fs R leFs hpZ => ?_) ?_
    ·replace hbs := hbs.mono leFs
     replace hr1 := hr1.mono leFs
     replace hr2 := hr2.mono leFs
     replace hr3 := hr3.mono leFs
     replace hr4 := hr4.mono leFs
     rw [eS (l := [(1, (.bool ((insB x5 x6 x7 x8 x10 x11).2.2) : Value))]) ⟨(hpZ 1 (by decide)), trivial⟩]
     refine XG.yes (t := 81) rfl (vB h4) (XOp.loadN [x3, x4] isAgg60 sizeOf60 rfl rfl (Rd.ownN [_, _] rfl rfl) ?_)
     exact ⟨rfl, rfl⟩
    exact stepsG.nil
   intro vals F7 le7 hphi
   obtain ⟨e6, f6_1ha⟩ := hphi 6 (by decide)
   obtain ⟨e8, f8_1hr⟩ := hphi 8 (by decide)
   generalize hu1 : ((vals 6)) = u1 at e6 f6_1ha e8 f8_1hr
   generalize hu2 : ((vals 8)) = u2 at e6 f6_1ha e8 f8_1hr
   rw [eS (l := [(1, (.bool ((insB x5 x6 x7 x8 x10 x11).2.2) : Value)), (8, u2), (9, (.agg #[x1, x2] : Value)), (10, (.agg #[x3, x4] : Value))]) ⟨(hphi 1 (by decide)), hu2, (hphi 9 (by decide)), (hphi 10 (by decide)), trivial⟩]
   replace hbs := hbs.mono le7
   replace hr1 := hr1.mono le7
   replace hr2 := hr2.mono le7
   replace hr3 := hr3.mono le7
   replace hr4 := hr4.mono le7
   show XL _ _ _ _ _ _ _ (cellsH b4 [x14, x15] 60 :: cellsH b3 [x12, x13] 60 :: cellsH b2 [x3, x4] 60 :: cellsH b1 [x1, x2] 29 :: L)
   refine XL.yes (t := 81) rfl (vB h4) (XOp.frzF <| XOp.call (args := [.agg #[x1, x2], .agg #[x3, x4]]) call44 rfl (EndTerm_spec hr1 hr2 hr3 hr4 (hlf := (by first | assumption | rfl | omega | simp)) (hsb := (by first | assumption | rfl | omega | simp))) ?_)
   rintro v3 _ _ _ ⟨rfl, hs3, rfl⟩
   refine ⟨_, _, rfl, fun F8 le8 hz2 => ?_⟩
   replace hbs := hbs.mono le8
   replace hr1 := hr1.mono le8
   replace hr2 := hr2.mono le8
   replace hr3 := hr3.mono le8
   replace hr4 := hr4.mono le8
   replace f8_1hr := f8_1hr.mono le8
   have hf2 : IntsF F8 v3 ((endT x5 x6 x7 x8)) := intsH.fz (xs := (endT x5 x6 x7 x8)) hz2.fz
   refine XL.yes (t := 81) rfl (vB h4) (XOp.call (args := [u2, v3]) call34 rfl (iSameTerm_spec f8_1hr hf2 (hbd := (by first | (refine Or.inl ?_; omega) | (refine Or.inr ?_; omega)))) ?_)
   rintro _ _ _ _ ⟨rfl, rfl, rfl⟩
   refine XL.yes (t := 81) rfl (vB h4) (XOp.notD rfl (cX (XOp.pickT (.bool (decide (¬((if posOk x5 ((endT x5 x6 ((insB x5 x6 x7 x8 x10 x11).1) ((insB x5 x6 x7 x8 x10 x11).2.1))) x11 = true then sub x5 ((endT x5 x6 ((insB x5 x6 x7 x8 x10 x11).1) ((insB x5 x6 x7 x8 x10 x11).2.1))) x11.toNat else []) = ((endT x5 x6 x7 x8)))))) (vB h4) rfl (XL.nil ?_))))
   refine X.condD (p := ¬((if posOk x5 ((endT x5 x6 ((insB x5 x6 x7 x8 x10 x11).1) ((insB x5 x6 x7 x8 x10 x11).2.1))) x11 = true then sub x5 ((endT x5 x6 ((insB x5 x6 x7 x8 x10 x11).1) ((insB x5 x6 x7 x8 x10 x11).2.1))) x11.toNat else []) = ((endT x5 x6 x7 x8)))) rfl (fun h7 => ?_) (fun h7 => ?_)
   ·exact absurd (by rw [if_pos hil.2.2.1]; exact hil.2.2.2) h7
   refine X.skip (X.seq ?_)
   exact X.weaken (L' := cellsH b4 [x14, x15] 60 :: cellsH b3 [x12, x13] 60 :: cellsH b2 [x3, x4] 60 :: cellsH b1 [x1, x2] 29 :: L) ((sC (sC (sC (sC sR))))) (tail1 _ _ _ ⟨⟨_, (envs_of_sat (l := [(0, bsv), (2, (.bool (false) : Value)), (3, ptr b1 0), (4, ptr b2 0), (7, (.bool (walkOkL x5 x6 x7 x8) : Value)), (25, (.bool (decide ((bs.length : Int) > 4096)) : Value))]) ⟨rfl, rfl, rfl, rfl, rfl, rfl, trivial⟩).symm⟩, (FLe.trans le7 le8), rfl⟩)
  rw [Bool.not_eq_true] at h4
  refine XL.no (t := 64) rfl (vB h4) (XL.no (t := 64) rfl (vB h4) (XL.no (t := 64) rfl (vB h4) (XL.no (t := 64) rfl (vB h4) (XL.no (t := 64) rfl (vB h4) (XL.noU (t := 69) rfl rfl (XL.noU (t := 69) rfl rfl (XL.noU (t := 69) rfl rfl (XL.noU (t := 69) rfl rfl (XL.noU (t := 69) rfl rfl ?_)))))))))
  refine XL.noU (t := 69) rfl rfl (XL.noU (t := 69) rfl rfl (XL.no (t := 64) rfl (vB h4) (XL.yes (t := 62) rfl (vF h3) (XOp.pickF (.bool (false)) (vB h4) rfl (cX (XOp.pickF (.bool (false)) (vF h3) rfl (XL.nil (X.condF rfl (X.skip (X.seq (X.seq ?_)))))))))))
  refine X.draw [cellsH b4 [x14, x15] 60, cellsH b3 [x12, x13] 60, cellsH b2 [x3, x4] 60, cellsH b1 [x1, x2] 29] L 11 [[], [], [], [], [], [], [], [], [], [], []] [[], [0], [1], [1, 2], [1], [1], [1, 4, 5], [1], [1, 3, 6, 7], [1], [1]] (phiL [fun us v => v = (.bool ((insB x5 x6 x7 x8 x10 x11).2.2) : Value), fun us v => v = (.bool ((insB x5 x6 x7 x8 x10 x11).2.2) : Value), fun us v => v = undef, fun us v => v = undef, fun us v => v = undef, fun us v => v = undef, fun us v => v = undef, fun us v => v = undef, fun us v => v = undef, fun us v => v = undef, fun us v => v = undef]) (ownL [fun us v => [], fun us v => [], fun us v => [], fun us v => [], fun us v => [], fun us v => [], fun us v => [], fun us v => [], fun us v => [], fun us v => [], fun us v => []]) mixed rfl rfl (by kernel_rfl) ?_ ?_
  ·refine pC (fun vals R hpZ => ?_) ?_
   ·refine XG.op (XOp.move (.bool ((insB x5 x6 x7 x8 x10 x11).2.2)) rfl ?_)
    exact ⟨rfl, rfl, rfl⟩
   refine pC (fun vals R hpZ => ?_) ?_
   ·rw [eS (l := [(0, (.bool ((insB x5 x6 x7 x8 x10 x11).2.2) : Value))]) ⟨hpZ 0 (by decide), trivial⟩]
    refine XG.op (XOp.move (.bool ((insB x5 x6 x7 x8 x10 x11).2.2)) rfl ?_)
    exact ⟨rfl, rfl, rfl⟩
   refine pC (fun vals R hpZ => ?_) ?_
   ·rw [eS (l := [(1, (.bool ((insB x5 x6 x7 x8 x10 x11).2.2) : Value))]) ⟨hpZ 1 (by decide), trivial⟩]
    exact XG.no (t := 81) rfl (vB h4) ⟨rfl, rfl, rfl⟩
   refine pC (fun vals R hpZ => ?_) ?_
   ·rw [eS (l := [(1, (.bool ((insB x5 x6 x7 x8 x10 x11).2.2) : Value)), (2, undef)]) ⟨hpZ 1 (by decide), hpZ 2 (by decide), trivial⟩]
    exact XG.no (t := 81) rfl (vB h4) ⟨rfl, rfl, rfl⟩
   refine pC (fun vals R hpZ => ?_) ?_
   ·rw [eS (l := [(1, (.bool ((insB x5 x6 x7 x8 x10 x11).2.2) : Value))]) ⟨hpZ 1 (by decide), trivial⟩]
    exact XG.no (t := 81) rfl (vB h4) ⟨rfl, rfl, rfl⟩
   refine pC (fun vals R hpZ => ?_) ?_
   ·rw [eS (l := [(1, (.bool ((insB x5 x6 x7 x8 x10 x11).2.2) : Value))]) ⟨hpZ 1 (by decide), trivial⟩]
    exact XG.no (t := 81) rfl (vB h4) ⟨rfl, rfl, rfl⟩
   refine pC (fun vals R hpZ => ?_) ?_
   ·rw [eS (l := [(1, (.bool ((insB x5 x6 x7 x8 x10 x11).2.2) : Value)), (4, undef), (5, undef)]) ⟨hpZ 1 (by decide), hpZ 4 (by decide), hpZ 5 (by decide), trivial⟩]
    exact XG.no (t := 81) rfl (vB h4) ⟨rfl, rfl, rfl⟩
   refine pC (fun vals R hpZ => ?_) ?_
   ·rw [eS (l := [(1, (.bool ((insB x5 x6 x7 x8 x10 x11).2.2) : Value))]) ⟨hpZ 1 (by decide), trivial⟩]
    exact XG.no (t := 81) rfl (vB h4) ⟨rfl, rfl, rfl⟩
   refine pC (fun vals R hpZ => ?_) ?_
   ·rw [eS (l := [(1, (.bool ((insB x5 x6 x7 x8 x10 x11).2.2) : Value)), (3, undef), (6, undef), (7, undef)]) ⟨hpZ 1 (by decide), hpZ 3 (by decide), hpZ 6 (by decide), hpZ 7 (by decide), trivial⟩]
    exact XG.no (t := 81) rfl (vB h4) ⟨rfl, rfl, rfl⟩
   refine pC (fun vals R hpZ => ?_) ?_
   ·rw [eS (l := [(1, (.bool ((insB x5 x6 x7 x8 x10 x11).2.2) : Value))]) ⟨hpZ 1 (by decide), trivial⟩]
    exact XG.no (t := 81) rfl (vB h4) ⟨rfl, rfl, rfl⟩
   refine pC (fun vals R hpZ => ?_) ?_
   ·rw [eS (l := [(1, (.bool ((insB x5 x6 x7 x8 x10 x11).2.2) : Value))]) ⟨hpZ 1 (by decide), trivial⟩]
    exact XG.no (t := 81) rfl (vB h4) ⟨rfl, rfl, rfl⟩
   exact stepsP.nil
  intro vals hphi
  rw [eS (l := [(1, (.bool ((insB x5 x6 x7 x8 x10 x11).2.2) : Value)), (8, undef), (9, undef), (10, undef)]) ⟨(hphi 1 (by decide)), (hphi 8 (by decide)), (hphi 9 (by decide)), (hphi 10 (by decide)), trivial⟩]
  show XL _ _ _ _ _ _ _ (cellsH b4 [x14, x15] 60 :: cellsH b3 [x12, x13] 60 :: cellsH b2 [x3, x4] 60 :: cellsH b1 [x1, x2] 29 :: L)
  refine XL.no (t := 81) rfl (vB h4) (XL.no (t := 81) rfl (vB h4) (XL.no (t := 81) rfl (vB h4) (cX (XOp.pickF (.bool (false)) (vB h4) rfl (XL.nil (X.condF rfl (X.skip (X.seq ?_))))))))
  exact X.weaken (L' := cellsH b4 [x14, x15] 60 :: cellsH b3 [x12, x13] 60 :: cellsH b2 [x3, x4] 60 :: cellsH b1 [x1, x2] 29 :: L) ((sC (sC (sC (sC sR))))) (tail1 _ _ _ ⟨⟨_, (envs_of_sat (l := [(0, bsv), (2, (.bool (false) : Value)), (3, ptr b1 0), (4, ptr b2 0), (7, (.bool (walkOkL x5 x6 x7 x8) : Value)), (25, (.bool (decide ((bs.length : Int) > 4096)) : Value))]) ⟨rfl, rfl, rfl, rfl, rfl, rfl, trivial⟩).symm⟩, rF, rfl⟩)
 rintro _ F9 _ ⟨⟨rE, rfl⟩, le9, rfl⟩
 replace hbs := hbs.mono le9
 replace hr1 := hr1.mono le9
 replace hr2 := hr2.mono le9
 replace hr3 := hr3.mono le9
 replace hr4 := hr4.mono le9
 refine X.region (XL.mv (bsv) rfl (cX (XOp.call (args := [bsv]) call45 rfl (DrawWalkUnder_spec hbs (hbl := (by first | assumption | rfl | omega | simp))) ?_)))
 rintro _ F10 _ le10 ⟨x18, x19, x20, x21, x22, x23, x24, x25, x26, x27, rfl, hr16, hr17, hr18, hr19, hr20, hr21, hr22, hr23, rfl⟩
 replace hbs := hbs.mono le10
 replace hr1 := hr1.mono le10
 replace hr2 := hr2.mono le10
 replace hr3 := hr3.mono le10
 replace hr4 := hr4.mono le10
 have hla2 := hr21.la
 have hlr2 := hr21.lr
 have hrb2 := hr21.each
 have hfl2 : x24.length ≤ 4000000 := by have h9 := hr22.1; omega
 have hxl2 : x25.length ≤ 4000000 := by have h9 := hr22.2.1; omega
 have hxb2 : ∀ i, i < x25.length → (x25.getD i (0, 0, [])).2.2.length ≤ 4000000 := fun i hi => by have h9 := hr22.2.2 i; omega
 have hsl2 : x27.length ≤ 4000000 := by have h9 := hr23.1; omega
 have hsb2 : ∀ i, (x27.getD i []).length ≤ 4000000 := fun i => by have h9 := hr23.2 i; omega
 have hsc2 : ∀ i, i < x27.length → (x27.getD i []).length ≤ 4000000 := fun i _ => hsb2 i
 have hwa2 := undB_bounds (ar := x22) (rs := x23) (f := x24) (ss := x25) (s := x27)
 have hwb2 : (undB x22 x23 x24 x25 x27).1.length ≤ 4000000 := by have h9 := hwa2.1; omega
 have hwc2 : ∀ i, i < (undB x22 x23 x24 x25 x27).2.1.length → (((undB x22 x23 x24 x25 x27).2.1).getD i (0, 0, [])).2.2.length ≤ 4000000 := fun i hi => by have h9 := hwa2.2.1 i hi; omega
 refine XL.mv (.tuple #[.agg #[x18, x19], .agg #[x20, x21], .agg #[x26]]) rfl (cX (XOp.extract (.agg #[x18, x19]) rfl rfl (cX (XOp.extract (.agg #[x20, x21]) rfl rfl (cX (XOp.extract (.agg #[x26]) rfl rfl (cX (XOp.alloc [(.slice none 0 0), (.slice none 0 0)] zeroValue29 rfl ?_))))))))
 intro b5
 refine cX (XOp.alloc [(.slice none 0 0), (.slice none 0 0)] zeroValue60 rfl ?_)
 intro b6
 refine cX (XOp.alloc [(.slice none 0 0)] zeroValue57 rfl ?_)
 intro b7
 refine cX (XOp.storeN [_, _] _ [x18, x19] sizeOf29 rfl rfl rfl (ones_cons (one_sl (IntsF.isSl hr16)) (ones_cons (one_sl (PairsF.isSl hr17)) ones_nil)) rfl rfl rfl (cX (XOp.storeN [_] _ [x20, x21] sizeOf60 rfl rfl rfl (ones_cons (one_sl (IntsF.isSl hr18)) (ones_cons (one_sl (StepsF.isSl hr19)) ones_nil)) rfl rfl rfl (cX (XOp.storeN [] _ [x26] sizeOf57 rfl rfl rfl (ones_cons (one_sl (RowsF.isSl hr20)) ones_nil) rfl rfl rfl (XL.nil (X.seq (X.region (cX (XOp.loadN [x18, x19] isAgg29 sizeOf29 rfl rfl (Rd.ownN [_, _] rfl rfl) (cX (XOp.loadN [x20, x21] isAgg60 sizeOf60 rfl rfl (Rd.ownN [_] rfl rfl) (cX (XOp.loadN [x26] isAgg57 sizeOf57 rfl rfl (Rd.ownN [] rfl rfl) (cX (XOp.call (args := [.agg #[x18, x19], .agg #[x20, x21], .agg #[x26]]) call46 rfl (WalkUnder_spec hr16 hr17 hr18 hr19 hr20 (hlf := (by first | assumption | rfl | omega | simp)) (hsb := (by first | assumption | rfl | omega | simp))) ?_))))))))))))))))
 rintro _ F11 _ le11 ⟨x28, x29, rfl, hr24, hr25, hr26, rfl⟩
 replace hbs := hbs.mono le11
 replace hr1 := hr1.mono le11
 replace hr2 := hr2.mono le11
 replace hr3 := hr3.mono le11
 replace hr4 := hr4.mono le11
 replace hr16 := hr16.mono le11
 replace hr17 := hr17.mono le11
 replace hr18 := hr18.mono le11
 replace hr19 := hr19.mono le11
 replace hr20 := hr20.mono le11
 refine XL.mv (.tuple #[.agg #[x28, x29], .bool ((undB x22 x23 x24 x25 x27).2.2)]) rfl (cX (XOp.extract (.agg #[x28, x29]) rfl rfl (cX (XOp.extract (.bool ((undB x22 x23 x24 x25 x27).2.2)) rfl rfl (cX (XOp.alloc [(.slice none 0 0), (.slice none 0 0)] zeroValue60 rfl ?_))))))
 intro b8
 refine cX (XOp.storeN [] _ [x28, x29] sizeOf60 rfl rfl rfl (ones_cons (one_sl (IntsF.isSl hr24)) (ones_cons (one_sl (StepsF.isSl hr25)) ones_nil)) rfl rfl rfl (XL.as (.bool ((undB x22 x23 x24 x25 x27).2.2)) rfl (XL.nil (X.seq (X.region (cX (XOp.loadN [x18, x19] isAgg29 sizeOf29 rfl rfl (Rd.ownN [_, _, _] rfl rfl) (cX (XOp.loadN [x20, x21] isAgg60 sizeOf60 rfl rfl (Rd.ownN [_, _] rfl rfl) (cX (XOp.loadN [x26] isAgg57 sizeOf57 rfl rfl (Rd.ownN [_] rfl rfl) (cX (XOp.call (args := [.agg #[x18, x19], .agg #[x20, x21], .agg #[x26]]) call47 rfl (sWalkUnder_spec hr16 hr17 hr18 hr19 hr20 (hla := (by first | assumption | rfl | omega | simp)) (hlr := (by first | assumption | rfl | omega | simp)) (hrb := (by first | assumption | rfl | omega | simp)) (hlf := (by first | assumption | rfl | omega | simp)) (hlss := (by first | assumption | rfl | omega | simp)) (hsb := (by first | assumption | rfl | omega | simp)) (hlrow := (by first | assumption | rfl | omega | simp)) (hrowb := (by first | assumption | rfl | omega | simp))) ?_)))))))))))))
 rintro _ F12 _ le12 ⟨x30, x31, rfl, hr27, hr28, rfl⟩
 replace hbs := hbs.mono le12
 replace hr1 := hr1.mono le12
 replace hr2 := hr2.mono le12
 replace hr3 := hr3.mono le12
 replace hr4 := hr4.mono le12
 replace hr16 := hr16.mono le12
 replace hr17 := hr17.mono le12
 replace hr24 := hr24.mono le12
 replace hr25 := hr25.mono le12
 refine XL.mv (.tuple #[.agg #[x30, x31], .bool ((undB x22 x23 x24 x25 x27).2.2)]) rfl (cX (XOp.extract (.agg #[x30, x31]) rfl rfl (cX (XOp.extract (.bool ((undB x22 x23 x24 x25 x27).2.2)) rfl rfl (cX (XOp.alloc [(.slice none 0 0), (.slice none 0 0)] zeroValue60 rfl ?_))))))
 intro b9
 refine cX (XOp.storeN [] _ [x30, x31] sizeOf60 rfl rfl rfl (ones_cons (one_sl (IntsF.isSl hr27)) (ones_cons (one_sl (StepsF.isSl hr28)) ones_nil)) rfl rfl rfl (XL.as (.bool ((undB x22 x23 x24 x25 x27).2.2)) rfl (XL.nil (X.seq (X.seq ?_)))))
 apply cutX (R := fun r9 F9 L9 => (∃ rE, r9 = envs [(2, (.bool (false) : Value)), (3, ptr b1 0), (4, ptr b2 0), (7, (.bool (walkOkL x5 x6 x7 x8) : Value)), (25, (.bool (decide ((bs.length : Int) > 4096)) : Value))] rE) ∧ F12 ≤ F9 ∧ L9 = cellsH b9 [x30, x31] 60 :: cellsH b8 [x28, x29] 60 :: cellsH b7 [x26] 57 :: cellsH b6 [x20, x21] 60 :: cellsH b5 [x18, x19] 29 :: cellsH b4 [x14, x15] 60 :: cellsH b3 [x12, x13] 60 :: cellsH b2 [x3, x4] 60 :: cellsH b1 [x1, x2] 29 :: L)
 ·intro tail2
  refine X.region (XL.mv (.bool ((undB x22 x23 x24 x25 x27).2.2)) rfl (XL.mv (.bool ((undB x22 x23 x24 x25 x27).2.2)) rfl (cX (XOp.neB (a := (undB x22 x23 x24 x25 x27).2.2) (b := (undB x22 x23 x24 x25 x27).2.2) runUnderlying4 rfl rfl (XL.mv (.bool (decide (((undB x22 x23 x24 x25 x27).2.2) ≠ ((undB x22 x23 x24 x25 x27).2.2)))) rfl ?_)))))
  by_cases h8 : ((undB x22 x23 x24 x25 x27).2.2) ≠ ((undB x22 x23 x24 x25 x27).2.2)
  ·exact absurd rfl h8
  refine XL.yes (t := 118) rfl (vF h8) (XOp.move (.bool ((undB x22 x23 x24 x25 x27).2.2)) rfl (XL.yes (t := 118) rfl (vF h8) (XOp.move (.bool ((undB x22 x23 x24 x25 x27).2.2)) rfl ?_)))
  by_cases h9 : ((undB x22 x23 x24 x25 x27).2.2) = true
  ·have hul := undB_law h9
   refine XL.yes (t := 120) rfl (vB h9) (XOp.loadN [x18, x19] isAgg29 sizeOf29 rfl rfl (Rd.ownN [_, _, _, _] rfl rfl) (XL.yes (t := 120) rfl (vB h9) (XOp.loadN [x28, x29] isAgg60 sizeOf60 rfl rfl (Rd.ownN [_] rfl rfl) (XL.yes (t := 120) rfl (vB h9) (XOp.call (args := [.agg #[x18, x19], .agg #[x28, x29]]) call39 rfl (WalkOk_spec hr16 hr17 hr24 hr25 (hlf := (by first | assumption | rfl | omega | simp)) (hsb := (by first | assumption | rfl | omega | simp))) ?_)))))
   rintro _ _ _ _ ⟨rfl, rfl, rfl⟩
   refine XL.yes (t := 120) rfl (vB h9) (XOp.notB rfl (XL.yes (t := 118) rfl (vF h8) (XOp.pickT (.bool (!(walkOkL x22 x23 ((undB x22 x23 x24 x25 x27).1) ((undB x22 x23 x24 x25 x27).2.1)))) (vB h9) rfl (cX (XOp.pickF (.bool (!(walkOkL x22 x23 ((undB x22 x23 x24 x25 x27).1) ((undB x22 x23 x24 x25 x27).2.1)))) (vF h8) rfl (XL.nil ?_))))))
   refine X.cond (t := !(walkOkL x22 x23 ((undB x22 x23 x24 x25 x27).1) ((undB x22 x23 x24 x25 x27).2.1))) rfl (fun h10 => ?_) (fun h10 => ?_)
   ·exact absurd h10 (by rw [hul.2.1]; simp)
   refine X.skip (X.seq (X.seq ?_))
   exact X.weaken (L' := cellsH b9 [x30, x31] 60 :: cellsH b8 [x28, x29] 60 :: cellsH b7 [x26] 57 :: cellsH b6 [x20, x21] 60 :: cellsH b5 [x18, x19] 29 :: cellsH b4 [x14, x15] 60 :: cellsH b3 [x12, x13] 60 :: cellsH b2 [x3, x4] 60 :: cellsH b1 [x1, x2] 29 :: L) ((sC (sC (sC (sC (sC (sC (sC (sC (sC sR)))))))))) (tail2 _ _ _ ⟨⟨_, (envs_of_sat (l := [(2, (.bool (false) : Value)), (3, ptr b1 0), (4, ptr b2 0), (7, (.bool (walkOkL x5 x6 x7 x8) : Value)), (25, (.bool (decide ((bs.length : Int) > 4096)) : Value))]) ⟨rfl, rfl, rfl, rfl, rfl, trivial⟩).symm⟩, rF, rfl⟩)
  rw [Bool.not_eq_true] at h9
  refine XL.no (t := 120) rfl (vB h9) (XL.no (t := 120) rfl (vB h9) (XL.no (t := 120) rfl (vB h9) (XL.no (t := 120) rfl (vB h9) (XL.yes (t := 118) rfl (vF h8) (XOp.pickF (.bool (false)) (vB h9) rfl (cX (XOp.pickF (.bool (false)) (vF h8) rfl (XL.nil (X.condF rfl (X.skip (X.seq (X.seq ?_))))))))))))
  exact X.weaken (L' := cellsH b9 [x30, x31] 60 :: cellsH b8 [x28, x29] 60 :: cellsH b7 [x26] 57 :: cellsH b6 [x20, x21] 60 :: cellsH b5 [x18, x19] 29 :: cellsH b4 [x14, x15] 60 :: cellsH b3 [x12, x13] 60 :: cellsH b2 [x3, x4] 60 :: cellsH b1 [x1, x2] 29 :: L) ((sC (sC (sC (sC (sC (sC (sC (sC (sC sR)))))))))) (tail2 _ _ _ ⟨⟨_, (envs_of_sat (l := [(2, (.bool (false) : Value)), (3, ptr b1 0), (4, ptr b2 0), (7, (.bool (walkOkL x5 x6 x7 x8) : Value)), (25, (.bool (decide ((bs.length : Int) > 4096)) : Value))]) ⟨rfl, rfl, rfl, rfl, rfl, trivial⟩).symm⟩, rF, rfl⟩)
 rintro _ F13 _ ⟨⟨rE, rfl⟩, le13, rfl⟩
 replace hbs := hbs.mono le13
 replace hr1 := hr1.mono le13
 replace hr2 := hr2.mono le13
 replace hr3 := hr3.mono le13
 replace hr4 := hr4.mono le13
 refine X.region (XL.mv (.bool (walkOkL x5 x6 x7 x8)) rfl (cX (XOp.notB rfl (XL.nil ?_))))
 refine X.cond (t := !(walkOkL x5 x6 x7 x8)) rfl (fun h11 => ?_) (fun h11 => ?_)
 ·have hwk : ¬ walkOkL x5 x6 x7 x8 = true := by simpa using h11
  refine X.seq (X.region (cX (XOp.loadN [x1, x2] isAgg29 sizeOf29 rfl rfl (Rd.ownN [_, _, _, _, _, _, _, _] rfl rfl) (cX (XOp.loadN [x3, x4] isAgg60 sizeOf60 rfl rfl (Rd.ownN [_, _, _, _, _, _, _] rfl rfl) (cX (XOp.frzF <| XOp.call (args := [.agg #[x1, x2], .agg #[x3, x4]]) call44 rfl (EndTerm_spec hr1 hr2 hr3 hr4 (hlf := (by first | assumption | rfl | omega | simp)) (hsb := (by first | assumption | rfl | omega | simp))) ?_)))))))
  rintro v4 _ _ _ ⟨rfl, hs4, rfl⟩
  refine ⟨_, _, rfl, fun F14 le14 hz3 => ?_⟩
  replace hbs := hbs.mono le14
  replace hr1 := hr1.mono le14
  replace hr2 := hr2.mono le14
  replace hr3 := hr3.mono le14
  replace hr4 := hr4.mono le14
  have hf3 : IntsF F14 v4 ((endT x5 x6 x7 x8)) := intsH.fz (xs := (endT x5 x6 x7 x8)) hz3.fz
  refine cX (XOp.lenS runUnderlying24 rfl hf3.slv (cX (XOp.eql rfl rfl (XL.as (.bool (decide ((((((endT x5 x6 x7 x8)).length : Nat) : Int) : Int) = 0))) rfl (XL.nil (X.ret (thenQ_ret (retEnd (L' := L) [.bool (decide ((((((endT x5 x6 x7 x8)).length : Nat) : Int) : Int) = 0))] (.bool (decide ((((((endT x5 x6 x7 x8)).length : Nat) : Int) : Int) = 0))) (.tmp rfl .nil) rfl rF (FLe.trans (FLe.trans (FLe.trans (FLe.trans (FLe.trans (FLe.trans (FLe.trans (FLe.trans le1 le2) le3) le9) le10) le11) le12) le13) le14) (sD (sD (sD (sD (sD (sD (sD (sD (sD sR))))))))) ?_))))))))
  exact ⟨(vB ((decide_eq_true (by rw [endT_no hwk]; rfl)).symm)), rfl, rfl⟩
 have hwk : walkOkL x5 x6 x7 x8 = true := by simpa using h11
 refine X.skip (X.seq (X.region (cX (XOp.fieldP (1) runUnderlying60 rfl sizeOf45 (by decide) rfl rfl (cX (XOp.load1 isAgg45 rfl (Rd.own [_, _, _, _, _, _, _] rfl rfl) (cX (XOp.lenS runUnderlying45 rfl hr4.slv (cX (XOp.quoN (n := (x8).length) (m := 2) rfl rfl (by decide) (by omega) (XL.as (.int .i64 (((((x8).length) / 2 : Nat) : Int))) rfl ?_)))))))))))
 have hk9 : ((x8).length) / 2 ≤ x8.length := by omega
 have hhl := halves_law2 hwk hk9
 have hxt : ∀ i, i < (x8.take (((x8).length) / 2)).length → ((x8.take (((x8).length) / 2)).getD i (0, 0, [])).2.2.length ≤ 4000000 := fun i _ => by have h9 := (hr7.2.2.take (((x8).length) / 2)) i; omega
 have hxd : ∀ i, i < ((x8.drop (((x8).length) / 2)).take (x8.length - (((x8).length) / 2))).length → (((x8.drop (((x8).length) / 2)).take (x8.length - (((x8).length) / 2))).getD i (0, 0, [])).2.2.length ≤ 4000000 := fun i _ => by have h9 := ((hr7.2.2.drop (((x8).length) / 2)).take (x8.length - (((x8).length) / 2))) i; omega
 have het := endT_len (ar := x5) (rs := x6) (f := x7) (ss := (x8.take (((x8).length) / 2)))
 have hj1 : (joinedF x5 x6 x7 (x8.take (((x8).length) / 2)) (endT x5 x6 x7 (x8.take (((x8).length) / 2))) ((x8.drop (((x8).length) / 2)).take (x8.length - (((x8).length) / 2)))).1.length ≤ 4000000 := by rw [hhl]; exact hfl1
 have hj2 : (joinedF x5 x6 x7 (x8.take (((x8).length) / 2)) (endT x5 x6 x7 (x8.take (((x8).length) / 2))) ((x8.drop (((x8).length) / 2)).take (x8.length - (((x8).length) / 2)))).2.1.length ≤ 4000000 := by rw [hhl]; exact hxl1
 have hj3 : ∀ i, i < (joinedF x5 x6 x7 (x8.take (((x8).length) / 2)) (endT x5 x6 x7 (x8.take (((x8).length) / 2))) ((x8.drop (((x8).length) / 2)).take (x8.length - (((x8).length) / 2)))).2.1.length → (((joinedF x5 x6 x7 (x8.take (((x8).length) / 2)) (endT x5 x6 x7 (x8.take (((x8).length) / 2))) ((x8.drop (((x8).length) / 2)).take (x8.length - (((x8).length) / 2)))).2.1).getD i (0, 0, [])).2.2.length ≤ 4000000 := by rw [hhl]; exact hxb1
 refine XL.nil (X.seq ?_)
 refine X.drawG [cellsH b9 [x30, x31] 60, cellsH b8 [x28, x29] 60, cellsH b7 [x26] 57, cellsH b6 [x20, x21] 60, cellsH b5 [x18, x19] 29, cellsH b4 [x14, x15] 60, cellsH b3 [x12, x13] 60, cellsH b2 [x3, x4] 60, cellsH b1 [x1, x2] 29] L 8 [[], [], [], [], [], [], [5], []] [[], [0], [], [2], [], [3, 4], [1, 5], []] [[], [], [], [], [], [], [], []] (phiG [fun FF us v => v = ptr b2 0, fun FF us v => v = x3, fun FF us v => v = ptr b2 1, fun FF us v => v = x4, fun FF us v => v = (.int .i64 (((((x8).length) / 2 : Nat) : Int)) : Value), fun FF us v => (v : Value) = v ∧ (StepsF FF v ((x8.take (((x8).length) / 2)))), fun FF us v => v = (.agg #[x3, (us.getD 0 undef)] : Value), fun FF us v => v = ptr (blk v) 0]) (ownL [fun us v => [], fun us v => [], fun us v => [], fun us v => [], fun us v => [], fun us v => [], fun us v => [], fun us v => [cellsH (blk v) [(.slice none 0 0), (.slice none 0 0)] 60]]) mixed rfl rfl (by kernel_rfl) (by kernel_rfl) (MonoG.get (mC (fun le h => h) (mC (fun le h => h) (mC (fun le h => h) (mC (fun le h => h) (mC (fun le h => h) (mC (fun le h => ⟨h.1, h.2.mono le⟩) (mC (fun le h => h) (mC (fun le h => h) MonoG.nil))))))))) ?_ ?_
 ·refine gC (fun vals Fs R leFs hpZ => ?_) ?_
  ·refine XG.op (XOp.fieldP (0) runUnderlying60 rfl sizeOf24 (by decide) rfl rfl ?_)
   exact ⟨rfl, rfl⟩
  refine gC (fun vals Fs R leFs hpZ => ?_) ?_
  ·replace hbs := hbs.mono leFs
   replace hr1 := hr1.mono leFs
   replace hr2 := hr2.mono leFs
   replace hr3 := hr3.mono leFs
   replace hr4 := hr4.mono leFs
   rw [eS (l := [(0, ptr b2 0)]) ⟨(hpZ 0 (by decide)), trivial⟩]
   refine XG.op (XOp.load1 isAgg24 rfl (Rd.own [_, _, _, _, _, _, _] rfl rfl) ?_)
   exact ⟨rfl, rfl⟩
  refine gC (fun vals Fs R leFs hpZ => ?_) ?_
  ·refine XG.op (XOp.fieldP (1) runUnderlying60 rfl sizeOf45 (by decide) rfl rfl ?_)
   exact ⟨rfl, rfl⟩
  refine gC (fun vals Fs R leFs hpZ => ?_) ?_
  ·replace hbs := hbs.mono leFs
   replace hr1 := hr1.mono leFs
   replace hr2 := hr2.mono leFs
   replace hr3 := hr3.mono leFs
   replace hr4 := hr4.mono leFs
   rw [eS (l := [(2, ptr b2 1)]) ⟨(hpZ 2 (by decide)), trivial⟩]
   refine XG.op (XOp.load1 isAgg45 rfl (Rd.own [_, _, _, _, _, _, _] rfl rfl) ?_)
   exact ⟨rfl, rfl⟩
  refine gC (fun vals Fs R leFs hpZ => ?_) ?_
  ·refine XG.op (XOp.move (.int .i64 (((((x8).length) / 2 : Nat) : Int))) rfl ?_)
   exact ⟨rfl, rfl⟩
  refine gC (fun vals Fs R leFs hpZ => ?_) ?_
  ·replace hbs := hbs.mono leFs
   replace hr1 := hr1.mono leFs
   replace hr2 := hr2.mono leFs
   replace hr3 := hr3.mono leFs
   replace hr4 := hr4.mono leFs
   rw [eS (l := [(3, x4), (4, (.int .i64 (((((x8).length) / 2 : Nat) : Int)) : Value))]) ⟨(hpZ 3 (by decide)), (hpZ 4 (by decide)), trivial⟩]
   refine XG.op (XOp.sliceC 0 (((x8).length) / 2) runUnderlying45 sizeOf48 rfl hr4 rfl ⟨_, rfl⟩ (by omega) (by omega) ?_)
   intro v6 hv2
   replace hv2 : StepsF Fs v6 (x8.take (((x8).length) / 2)) := hv2
   exact ⟨⟨rfl, hv2⟩, rfl⟩
  refine gC (fun vals Fs R leFs hpZ => ?_) ?_
  ·obtain ⟨e5, f5_3hv⟩ := hpZ 5 (by decide)
   replace hbs := hbs.mono leFs
   replace hr1 := hr1.mono leFs
   replace hr2 := hr2.mono leFs
   replace hr3 := hr3.mono leFs
   replace hr4 := hr4.mono leFs
   rw [eS (l := [(1, x3), (5, (vals 5))]) ⟨(hpZ 1 (by decide)), (e5).symm, trivial⟩]
   refine XG.op (XOp.build [x3, (vals 5)] [(.slice none 0 0), (.slice none 0 0)] [(0, 1), (1, 1)] [(0, [x3]), (1, [(vals 5)])] runUnderlying60 zeroValue60 rfl (.cons rfl sizeOf24 (.cons rfl sizeOf45 PlacesAre.nil)) rfl (.cons (cells_one (IntsF.isSl hr3)) (.cons (cells_one (StepsF.isSl f5_3hv)) CellsAre.nil)) ?_)
   exact ⟨rfl, rfl⟩
  refine gC (fun vals Fs R leFs hpZ => ?_) ?_
  ·replace hbs := hbs.mono leFs
   replace hr1 := hr1.mono leFs
   replace hr2 := hr2.mono leFs
   replace hr3 := hr3.mono leFs
   replace hr4 := hr4.mono leFs
   refine XG.op (XOp.alloc [(.slice none 0 0), (.slice none 0 0)] zeroValue60 rfl ?_)
   intro b11
   exact ⟨rfl, rfl⟩
  exact stepsG.nil
 intro vals F15 le15 hphi
 obtain ⟨e5, f5_3hv⟩ := hphi 5 (by decide)
 have e6 : vals 6 = (.agg #[x3, (vals 5)] : Value) := hphi 6 (by decide)
 have e7 : vals 7 = ptr (blk (vals 7)) 0 := hphi 7 (by decide)
 generalize hu3 : (vals 5) = u3 at e5 f5_3hv e6 e7
 generalize hu4 : blk (vals 7) = b12 at e5 f5_3hv e6 e7
 rw [eS (l := [(5, u3), (6, (.agg #[x3, u3] : Value)), (7, ptr b12 0)]) ⟨hu3, e6, e7, trivial⟩]
 replace hbs := hbs.mono le15
 replace hr1 := hr1.mono le15
 replace hr2 := hr2.mono le15
 replace hr3 := hr3.mono le15
 replace hr4 := hr4.mono le15
 show XL _ _ _ _ _ _ _ (cellsH b12 [(.slice none 0 0), (.slice none 0 0)] 60 :: cellsH b9 [x30, x31] 60 :: cellsH b8 [x28, x29] 60 :: cellsH b7 [x26] 57 :: cellsH b6 [x20, x21] 60 :: cellsH b5 [x18, x19] 29 :: cellsH b4 [x14, x15] 60 :: cellsH b3 [x12, x13] 60 :: cellsH b2 [x3, x4] 60 :: cellsH b1 [x1, x2] 29 :: L)
 refine cX (XOp.storeN [] _ [x3, u3] sizeOf60 rfl rfl rfl (ones_cons (one_sl (IntsF.isSl hr3)) (ones_cons (one_sl (StepsF.isSl f5_3hv)) ones_nil)) rfl rfl rfl (XL.nil (X.seq ?_)))
 refine X.drawG [cellsH b12 [x3, u3] 60, cellsH b9 [x30, x31] 60, cellsH b8 [x28, x29] 60, cellsH b7 [x26] 57, cellsH b6 [x20, x21] 60, cellsH b5 [x18, x19] 29, cellsH b4 [x14, x15] 60, cellsH b3 [x12, x13] 60, cellsH b2 [x3, x4] 60, cellsH b1 [x1, x2] 29] L 9 [[], [], [], [], [], [], [], [2, 6], []] [[], [], [0, 1], [], [3], [], [4, 5], [2, 6], []] [[], [], [], [], [], [], [], [], []] (phiG [fun FF us v => v = (.agg #[x1, x2] : Value), fun FF us v => v = (.agg #[x3, u3] : Value), fun FF us v => ((v) : Value) = v ∧ (IntsF FF (v) (endT x5 x6 x7 ((x8.take (((x8).length) / 2))))), fun FF us v => v = ptr b2 1, fun FF us v => v = x4, fun FF us v => v = (.int .i64 (((((x8).length) / 2 : Nat) : Int)) : Value), fun FF us v => (v : Value) = v ∧ (StepsF FF v (((x8.drop (((x8).length) / 2)).take (((x8).length) - (((x8).length) / 2))))), fun FF us v => v = (.agg #[((us.getD 0 undef)), (us.getD 1 undef)] : Value), fun FF us v => v = ptr (blk v) 0]) (ownL [fun us v => [], fun us v => [], fun us v => [], fun us v => [], fun us v => [], fun us v => [], fun us v => [], fun us v => [], fun us v => [cellsH (blk v) [(.slice none 0 0), (.slice none 0 0)] 60]]) mixed rfl rfl (by kernel_rfl) (by kernel_rfl) (MonoG.get (mC (fun le h => h) (mC (fun le h => h) (mC (fun le h => ⟨h.1, h.2.mono le⟩) (mC (fun le h => h) (mC (fun le h => h) (mC (fun le h => h) (mC (fun le h => ⟨h.1, h.2.mono le⟩) (mC (fun le h => h) (mC (fun le h => h) MonoG.nil)))))))))) ?_ ?_
 ·refine gC (fun vals Fs R leFs hpZ => ?_) ?_
  ·replace hbs := hbs.mono leFs
   replace hr1 := hr1.mono leFs
   replace hr2 := hr2.mono leFs
   replace hr3 := hr3.mono leFs
   replace hr4 := hr4.mono leFs
   replace f5_3hv := f5_3hv.mono leFs
   refine XG.op (XOp.loadN [x1, x2] isAgg29 sizeOf29 rfl rfl (Rd.ownN [_, _, _, _, _, _, _, _, _] rfl rfl) ?_)
   exact ⟨rfl, rfl⟩
  refine gC (fun vals Fs R leFs hpZ => ?_) ?_
  ·replace hbs := hbs.mono leFs
   replace hr1 := hr1.mono leFs
   replace hr2 := hr2.mono leFs
   replace hr3 := hr3.mono leFs
   replace hr4 := hr4.mono leFs
   replace f5_3hv := f5_3hv.mono leFs
   refine XG.op (XOp.loadN [x3, u3] isAgg60 sizeOf60 rfl rfl (Rd.ownN [] rfl rfl) ?_)
   exact ⟨rfl, rfl⟩
  refine gC (fun vals Fs R leFs hpZ => ?_) ?_
  ·replace hbs := hbs.mono leFs
   replace hr1 := hr1.mono leFs
   replace hr2 := hr2.mono leFs
   replace hr3 := hr3.mono leFs
   replace hr4 := hr4.mono leFs
   replace f5_3hv := f5_3hv.mono leFs
   rw [eS (l := [(0, (.agg #[x1, x2] : Value)), (1, (.agg #[x3, u3] : Value))]) ⟨(hpZ 0 (by decide)), (hpZ 1 (by decide)), trivial⟩]
   refine XG.op (XOp.frzF <| XOp.call (args := [.agg #[x1, x2], .agg #[x3, u3]]) call44 rfl (EndTerm_spec hr1 hr2 hr3 f5_3hv (hlf := (by first | assumption | rfl | omega | simp)) (hsb := (by first | assumption | rfl | omega | simp))) ?_)
   rintro v9 _ _ _ ⟨rfl, hs6, rfl⟩
   refine ⟨_, _, rfl, fun F16 le16 hz4 => ?_⟩
   replace hbs := hbs.mono le16
   replace hr1 := hr1.mono le16
   replace hr2 := hr2.mono le16
   replace hr3 := hr3.mono le16
   replace hr4 := hr4.mono le16
   replace f5_3hv := f5_3hv.mono le16
   have hf4 : IntsF F16 v9 ((endT x5 x6 x7 ((x8.take (((x8).length) / 2))))) := intsH.fz (xs := (endT x5 x6 x7 ((x8.take (((x8).length) / 2))))) hz4.fz
   exact ⟨⟨rfl, hf4⟩, rfl⟩
  refine gC (fun vals Fs R leFs hpZ => ?_) ?_
  ·refine XG.op (XOp.fieldP (1) runUnderlying60 rfl sizeOf45 (by decide) rfl rfl ?_)
   exact ⟨rfl, rfl⟩
  refine gC (fun vals Fs R leFs hpZ => ?_) ?_
  ·replace hbs := hbs.mono leFs
   replace hr1 := hr1.mono leFs
   replace hr2 := hr2.mono leFs
   replace hr3 := hr3.mono leFs
   replace hr4 := hr4.mono leFs
   replace f5_3hv := f5_3hv.mono leFs
   rw [eS (l := [(3, ptr b2 1)]) ⟨(hpZ 3 (by decide)), trivial⟩]
   refine XG.op (XOp.load1 isAgg45 rfl (Rd.own [_, _, _, _, _, _, _, _] rfl rfl) ?_)
   exact ⟨rfl, rfl⟩
  refine gC (fun vals Fs R leFs hpZ => ?_) ?_
  ·refine XG.op (XOp.move (.int .i64 (((((x8).length) / 2 : Nat) : Int))) rfl ?_)
   exact ⟨rfl, rfl⟩
  refine gC (fun vals Fs R leFs hpZ => ?_) ?_
  ·replace hbs := hbs.mono leFs
   replace hr1 := hr1.mono leFs
   replace hr2 := hr2.mono leFs
   replace hr3 := hr3.mono leFs
   replace hr4 := hr4.mono leFs
   replace f5_3hv := f5_3hv.mono leFs
   rw [eS (l := [(4, x4), (5, (.int .i64 (((((x8).length) / 2 : Nat) : Int)) : Value))]) ⟨(hpZ 4 (by decide)), (hpZ 5 (by decide)), trivial⟩]
   refine XG.op (XOp.sliceC (((x8).length) / 2) ((x8).length) runUnderlying45 sizeOf48 rfl hr4 ⟨_, rfl⟩ rfl (by omega) (by omega) ?_)
   intro v10 hv4
   replace hv4 : StepsF Fs v10 ((x8.drop (((x8).length) / 2)).take (((x8).length) - (((x8).length) / 2))) := hv4
   exact ⟨⟨rfl, hv4⟩, rfl⟩
  refine gC (fun vals Fs R leFs hpZ => ?_) ?_
  ·obtain ⟨e2, f2_4ha⟩ := hpZ 2 (by decide)
   obtain ⟨e6, f6_4hv⟩ := hpZ 6 (by decide)
   replace hbs := hbs.mono leFs
   replace hr1 := hr1.mono leFs
   replace hr2 := hr2.mono leFs
   replace hr3 := hr3.mono leFs
   replace hr4 := hr4.mono leFs
   replace f5_3hv := f5_3hv.mono leFs
   rw [eS (l := [(2, ((vals 2))), (6, (vals 6))]) ⟨(e2).symm, (e6).symm, trivial⟩]
   refine XG.op (XOp.build [((vals 2)), (vals 6)] [(.slice none 0 0), (.slice none 0 0)] [(0, 1), (1, 1)] [(0, [((vals 2))]), (1, [(vals 6)])] runUnderlying60 zeroValue60 rfl (.cons rfl sizeOf24 (.cons rfl sizeOf45 PlacesAre.nil)) rfl (.cons (cells_one (IntsF.isSl f2_4ha)) (.cons (cells_one (StepsF.isSl f6_4hv)) CellsAre.nil)) ?_)
   exact ⟨rfl, rfl⟩
  refine gC (fun vals Fs R leFs hpZ => ?_) ?_
  ·replace hbs := hbs.mono leFs
   replace hr1 := hr1.mono leFs
   replace hr2 := hr2.mono leFs
   replace hr3 := hr3.mono leFs
   replace hr4 := hr4.mono leFs
   replace f5_3hv := f5_3hv.mono leFs
   refine XG.op (XOp.alloc [(.slice none 0 0), (.slice none 0 0)] zeroValue60 rfl ?_)
   intro b14
   exact ⟨rfl, rfl⟩
  exact stepsG.nil
 intro vals F17 le17 hphi
 obtain ⟨e2, f2_4ha⟩ := hphi 2 (by decide)
 obtain ⟨e6, f6_4hv⟩ := hphi 6 (by decide)
 have e7 : vals 7 = (.agg #[((vals 2)), (vals 6)] : Value) := hphi 7 (by decide)
 have e8 : vals 8 = ptr (blk (vals 8)) 0 := hphi 8 (by decide)
 generalize hu5 : ((vals 2)) = u4 at e2 f2_4ha e6 f6_4hv e7 e8
 generalize hu6 : (vals 6) = u5 at e2 f2_4ha e6 f6_4hv e7 e8
 generalize hu7 : blk (vals 8) = b15 at e2 f2_4ha e6 f6_4hv e7 e8
 rw [eS (l := [(2, u4), (6, u5), (7, (.agg #[u4, u5] : Value)), (8, ptr b15 0)]) ⟨hu5, hu6, e7, e8, trivial⟩]
 replace hbs := hbs.mono le17
 replace hr1 := hr1.mono le17
 replace hr2 := hr2.mono le17
 replace hr3 := hr3.mono le17
 replace hr4 := hr4.mono le17
 replace f5_3hv := f5_3hv.mono le17
 show XL _ _ _ _ _ _ _ (cellsH b15 [(.slice none 0 0), (.slice none 0 0)] 60 :: cellsH b12 [x3, u3] 60 :: cellsH b9 [x30, x31] 60 :: cellsH b8 [x28, x29] 60 :: cellsH b7 [x26] 57 :: cellsH b6 [x20, x21] 60 :: cellsH b5 [x18, x19] 29 :: cellsH b4 [x14, x15] 60 :: cellsH b3 [x12, x13] 60 :: cellsH b2 [x3, x4] 60 :: cellsH b1 [x1, x2] 29 :: L)
 refine cX (XOp.storeN [] _ [u4, u5] sizeOf60 rfl rfl rfl (ones_cons (one_sl (IntsF.isSl f2_4ha)) (ones_cons (one_sl (StepsF.isSl f6_4hv)) ones_nil)) rfl rfl rfl (XL.nil (X.seq (X.region (cX (XOp.loadN [x1, x2] isAgg29 sizeOf29 rfl rfl (Rd.ownN [_, _, _, _, _, _, _, _, _, _] rfl rfl) (cX (XOp.loadN [x3, u3] isAgg60 sizeOf60 rfl rfl (Rd.ownN [_] rfl rfl) (cX (XOp.loadN [u4, u5] isAgg60 sizeOf60 rfl rfl (Rd.ownN [] rfl rfl) (cX (XOp.call (args := [.agg #[x1, x2], .agg #[x3, u3], .agg #[u4, u5]]) call48 rfl (JoinedWalk_spec hr1 hr2 hr3 f5_3hv f2_4ha f6_4hv (hlf := (by first | assumption | rfl | omega | simp)) (hsb := (by first | assumption | rfl | omega | simp)) (hlg := (by first | assumption | rfl | omega | simp)) (hyb := (by first | assumption | rfl | omega | simp))) ?_))))))))))))
 rintro _ F18 _ le18 ⟨x32, x33, rfl, hr29, hr30, hr31, rfl⟩
 replace hbs := hbs.mono le18
 replace hr1 := hr1.mono le18
 replace hr2 := hr2.mono le18
 replace hr3 := hr3.mono le18
 replace hr4 := hr4.mono le18
 refine XL.mv (.tuple #[.agg #[x32, x33], .bool ((joinedF x5 x6 x7 ((x8.take (((x8).length) / 2))) ((endT x5 x6 x7 ((x8.take (((x8).length) / 2))))) (((x8.drop (((x8).length) / 2)).take (((x8).length) - (((x8).length) / 2))))).2.2)]) rfl (cX (XOp.extract (.agg #[x32, x33]) rfl rfl (cX (XOp.extract (.bool ((joinedF x5 x6 x7 ((x8.take (((x8).length) / 2))) ((endT x5 x6 x7 ((x8.take (((x8).length) / 2))))) (((x8.drop (((x8).length) / 2)).take (((x8).length) - (((x8).length) / 2))))).2.2)) rfl rfl (cX (XOp.alloc [(.slice none 0 0), (.slice none 0 0)] zeroValue60 rfl ?_))))))
 intro b16
 refine cX (XOp.storeN [] _ [x32, x33] sizeOf60 rfl rfl rfl (ones_cons (one_sl (IntsF.isSl hr29)) (ones_cons (one_sl (StepsF.isSl hr30)) ones_nil)) rfl rfl rfl (XL.as (.bool ((joinedF x5 x6 x7 ((x8.take (((x8).length) / 2))) ((endT x5 x6 x7 ((x8.take (((x8).length) / 2))))) (((x8.drop (((x8).length) / 2)).take (((x8).length) - (((x8).length) / 2))))).2.2)) rfl (XL.nil (X.seq ?_))))
 by_cases h12 : ((joinedF x5 x6 x7 ((x8.take (((x8).length) / 2))) ((endT x5 x6 x7 ((x8.take (((x8).length) / 2))))) (((x8.drop (((x8).length) / 2)).take (((x8).length) - (((x8).length) / 2))))).2.2) = true
 ·refine X.drawG [cellsH b16 [x32, x33] 60, cellsH b15 [u4, u5] 60, cellsH b12 [x3, u3] 60, cellsH b9 [x30, x31] 60, cellsH b8 [x28, x29] 60, cellsH b7 [x26] 57, cellsH b6 [x20, x21] 60, cellsH b5 [x18, x19] 29, cellsH b4 [x14, x15] 60, cellsH b3 [x12, x13] 60, cellsH b2 [x3, x4] 60, cellsH b1 [x1, x2] 29] L 14 [[], [], [], [], [], [], [], [], [], [], [], [], [], []] [[], [0], [1], [1, 2], [1], [1, 4], [1, 3, 5], [1, 6], [7], [8], [8], [8, 9, 10], [8], [8]] [[], [], [], [], [], [], [], [], [], [], [], [], [], []] (phiG [fun FF us v => v = (.bool ((joinedF x5 x6 x7 ((x8.take (((x8).length) / 2))) ((endT x5 x6 x7 ((x8.take (((x8).length) / 2))))) (((x8.drop (((x8).length) / 2)).take (((x8).length) - (((x8).length) / 2))))).2.2) : Value), fun FF us v => v = (.bool ((joinedF x5 x6 x7 ((x8.take (((x8).length) / 2))) ((endT x5 x6 x7 ((x8.take (((x8).length) / 2))))) (((x8.drop (((x8).length) / 2)).take (((x8).length) - (((x8).length) / 2))))).2.2) : Value), fun FF us v => v = ptr b16 1, fun FF us v => v = x33, fun FF us v => v = ptr b2 1, fun FF us v => v = x4, fun FF us v => v = (.bool (true) : Value), fun FF us v => v = (.bool (true) : Value), fun FF us v => v = (.bool (true) : Value), fun FF us v => v = (.agg #[x1, x2] : Value), fun FF us v => v = (.agg #[x32, x33] : Value), fun FF us v => ((v) : Value) = v ∧ (IntsF FF (v) (endT x5 x6 ((joinedF x5 x6 x7 ((x8.take (((x8).length) / 2))) ((endT x5 x6 x7 ((x8.take (((x8).length) / 2))))) (((x8.drop (((x8).length) / 2)).take (((x8).length) - (((x8).length) / 2))))).1) ((joinedF x5 x6 x7 ((x8.take (((x8).length) / 2))) ((endT x5 x6 x7 ((x8.take (((x8).length) / 2))))) (((x8.drop (((x8).length) / 2)).take (((x8).length) - (((x8).length) / 2))))).2.1))), fun FF us v => v = (.agg #[x1, x2] : Value), fun FF us v => v = (.agg #[x3, x4] : Value)]) (ownL [fun us v => [], fun us v => [], fun us v => [], fun us v => [], fun us v => [], fun us v => [], fun us v => [], fun us v => [], fun us v => [], fun us v => [], fun us v => [], fun us v => [], fun us v => [], fun us v => []]) mixed rfl rfl (by kernel_rfl) (by kernel_rfl) (MonoG.get (mC (fun le h => h) (mC (fun le h => h) (mC (fun le h => h) (mC (fun le h => h) (mC (fun le h => h) (mC (fun le h => h) (mC (fun le h => h) (mC (fun le h => h) (mC (fun le h => h) (mC (fun le h => h) (mC (fun le h => h) (mC (fun le h => ⟨h.1, h.2.mono le⟩) (mC (fun le h => h) (mC (fun le h => h) MonoG.nil))))))))))))))) ?_ ?_
  ·refine gC (fun vals Fs R leFs hpZ => ?_) ?_
   ·refine XG.op (XOp.move (.bool ((joinedF x5 x6 x7 ((x8.take (((x8).length) / 2))) ((endT x5 x6 x7 ((x8.take (((x8).length) / 2))))) (((x8.drop (((x8).length) / 2)).take (((x8).length) - (((x8).length) / 2))))).2.2)) rfl ?_)
    exact ⟨rfl, rfl⟩
   refine gC (fun vals Fs R leFs hpZ => ?_) ?_
   ·rw [eS (l := [(0, (.bool ((joinedF x5 x6 x7 ((x8.take (((x8).length) / 2))) ((endT x5 x6 x7 ((x8.take (((x8).length) / 2))))) (((x8.drop (((x8).length) / 2)).take (((x8).length) - (((x8).length) / 2))))).2.2) : Value))]) ⟨(hpZ 0 (by decide)), trivial⟩]
    refine XG.op (XOp.move (.bool ((joinedF x5 x6 x7 ((x8.take (((x8).length) / 2))) ((endT x5 x6 x7 ((x8.take (((x8).length) / 2))))) (((x8.drop (((x8).length) / 2)).take (((x8).length) - (((x8).length) / 2))))).2.2)) rfl ?_)
    exact ⟨rfl, rfl⟩
   refine gC (fun vals Fs R leFs hpZ => ?_) ?_
   ·rw [eS (l := [(1, (.bool ((joinedF x5 x6 x7 ((x8.take (((x8).length) / 2))) ((endT x5 x6 x7 ((x8.take (((x8).length) / 2))))) (((x8.drop (((x8).length) / 2)).take (((x8).length) - (((x8).length) / 2))))).2.2) : Value))]) ⟨(hpZ 1 (by decide)), trivial⟩]
    refine XG.yes (t := 161) rfl (vB h12) (XOp.fieldP (1) runUnderlying60 rfl sizeOf45 (by decide) rfl rfl ?_)
    exact ⟨rfl, rfl⟩
   refine gC (fun vals Fs R leFs hpZ => ?_) ?_
   ·replace hbs := hbs.mono leFs
    replace hr1 := hr1.mono leFs
    replace hr2 := hr2.mono leFs
    replace hr3 := hr3.mono leFs
    replace hr4 := hr4.mono leFs
    replace hr29 := hr29.mono leFs
    replace hr30 := hr30.mono leFs
    rw [eS (l := [(1, (.bool ((joinedF x5 x6 x7 ((x8.take (((x8).length) / 2))) ((endT x5 x6 x7 ((x8.take (((x8).length) / 2))))) (((x8.drop (((x8).length) / 2)).take (((x8).length) - (((x8).length) / 2))))).2.2) : Value)), (2, ptr b16 1)]) ⟨(hpZ 1 (by decide)), (hpZ 2 (by decide)), trivial⟩]
    refine XG.yes (t := 161) rfl (vB h12) (XOp.load1 isAgg45 rfl (Rd.own [] rfl rfl) ?_)
    exact ⟨rfl, rfl⟩
   refine gC (fun vals Fs R leFs hpZ => ?_) ?_
   ·rw [eS (l := [(1, (.bool ((joinedF x5 x6 x7 ((x8.take (((x8).length) / 2))) ((endT x5 x6 x7 ((x8.take (((x8).length) / 2))))) (((x8.drop (((x8).length) / 2)).take (((x8).length) - (((x8).length) / 2))))).2.2) : Value))]) ⟨(hpZ 1 (by decide)), trivial⟩]
    refine XG.yes (t := 161) rfl (vB h12) (XOp.fieldP (1) runUnderlying60 rfl sizeOf45 (by decide) rfl rfl ?_)
    exact ⟨rfl, rfl⟩
   refine gC (fun vals Fs R leFs hpZ => ?_) ?_
   ·replace hbs := hbs.mono leFs
    replace hr1 := hr1.mono leFs
    replace hr2 := hr2.mono leFs
    replace hr3 := hr3.mono leFs
    replace hr4 := hr4.mono leFs
    replace hr29 := hr29.mono leFs
    replace hr30 := hr30.mono leFs
    rw [eS (l := [(1, (.bool ((joinedF x5 x6 x7 ((x8.take (((x8).length) / 2))) ((endT x5 x6 x7 ((x8.take (((x8).length) / 2))))) (((x8.drop (((x8).length) / 2)).take (((x8).length) - (((x8).length) / 2))))).2.2) : Value)), (4, ptr b2 1)]) ⟨(hpZ 1 (by decide)), (hpZ 4 (by decide)), trivial⟩]
    refine XG.yes (t := 161) rfl (vB h12) (XOp.load1 isAgg45 rfl (Rd.own [_, _, _, _, _, _, _, _, _, _] rfl rfl) ?_)
    exact ⟨rfl, rfl⟩
   refine gC (fun vals Fs R leFs hpZ => ?_) ?_
   ·replace hbs := hbs.mono leFs
    replace hr1 := hr1.mono leFs
    replace hr2 := hr2.mono leFs
    replace hr3 := hr3.mono leFs
    replace hr4 := hr4.mono leFs
    replace hr29 := hr29.mono leFs
    replace hr30 := hr30.mono leFs
    rw [eS (l := [(1, (.bool ((joinedF x5 x6 x7 ((x8.take (((x8).length) / 2))) ((endT x5 x6 x7 ((x8.take (((x8).length) / 2))))) (((x8.drop (((x8).length) / 2)).take (((x8).length) - (((x8).length) / 2))))).2.2) : Value)), (3, x33), (5, x4)]) ⟨(hpZ 1 (by decide)), (hpZ 3 (by decide)), (hpZ 5 (by decide)), trivial⟩]
    refine XG.yes (t := 161) rfl (vB h12) (XOp.call (args := [x33, x4]) call31 rfl (w5Steps_spec ((by have h9 := hr30; rw [hhl] at h9; exact h9)) hr4 (hbd := (by first | assumption | rfl | omega | simp)) (hbe := (by first | assumption | rfl | omega | simp))) ?_)
    rintro _ _ _ _ ⟨rfl, rfl, rfl⟩
    exact ⟨rfl, rfl⟩
   refine gC (fun vals Fs R leFs hpZ => ?_) ?_
   ·rw [eS (l := [(1, (.bool ((joinedF x5 x6 x7 ((x8.take (((x8).length) / 2))) ((endT x5 x6 x7 ((x8.take (((x8).length) / 2))))) (((x8.drop (((x8).length) / 2)).take (((x8).length) - (((x8).length) / 2))))).2.2) : Value)), (6, (.bool (true) : Value))]) ⟨(hpZ 1 (by decide)), (hpZ 6 (by decide)), trivial⟩]
    refine XG.op (XOp.pickT (.bool (true)) (vB h12) rfl ?_)
    exact ⟨rfl, rfl⟩
   refine gC (fun vals Fs R leFs hpZ => ?_) ?_
   ·rw [eS (l := [(7, (.bool (true) : Value))]) ⟨(hpZ 7 (by decide)), trivial⟩]
    refine XG.op (XOp.move (.bool (true)) rfl ?_)
    exact ⟨rfl, rfl⟩
   refine gC (fun vals Fs R leFs hpZ => ?_) ?_
   ·replace hbs := hbs.mono leFs
    replace hr1 := hr1.mono leFs
    replace hr2 := hr2.mono leFs
    replace hr3 := hr3.mono leFs
    replace hr4 := hr4.mono leFs
    replace hr29 := hr29.mono leFs
    replace hr30 := hr30.mono leFs
    rw [eS (l := [(8, (.bool (true) : Value))]) ⟨(hpZ 8 (by decide)), trivial⟩]
    refine XG.yes (t := 168) rfl rfl (XOp.loadN [x1, x2] isAgg29 sizeOf29 rfl rfl (Rd.ownN [_, _, _, _, _, _, _, _, _, _, _] rfl rfl) ?_)
    exact ⟨rfl, rfl⟩
   refine gC (fun vals Fs R leFs hpZ => ?_) ?_
   ·replace hbs := hbs.mono leFs
    replace hr1 := hr1.mono leFs
    replace hr2 := hr2.mono leFs
    replace hr3 := hr3.mono leFs
    replace hr4 := hr4.mono leFs
    replace hr29 := hr29.mono leFs
    replace hr30 := hr30.mono leFs
    rw [eS (l := [(8, (.bool (true) : Value))]) ⟨(hpZ 8 (by decide)), trivial⟩]
    refine XG.yes (t := 168) rfl rfl (XOp.loadN [x32, x33] isAgg60 sizeOf60 rfl rfl (Rd.ownN [] rfl rfl) ?_)
    exact ⟨rfl, rfl⟩
   refine gC (fun vals Fs R leFs hpZ => ?_) ?_
   ·replace hbs := hbs.mono leFs
    replace hr1 := hr1.mono leFs
    replace hr2 := hr2.mono leFs
    replace hr3 := hr3.mono leFs
    replace hr4 := hr4.mono leFs
    replace hr29 := hr29.mono leFs
    replace hr30 := hr30.mono leFs
    rw [eS (l := [(8, (.bool (true) : Value)), (9, (.agg #[x1, x2] : Value)), (10, (.agg #[x32, x33] : Value))]) ⟨(hpZ 8 (by decide)), (hpZ 9 (by decide)), (hpZ 10 (by decide)), trivial⟩]
    refine XG.yes (t := 168) rfl rfl (XOp.frzF <| XOp.call (args := [.agg #[x1, x2], .agg #[x32, x33]]) call44 rfl (EndTerm_spec hr1 hr2 hr29 hr30 (hlf := (by first | assumption | rfl | omega | simp)) (hsb := (by first | assumption | rfl | omega | simp))) ?_)
    rintro v12 _ _ _ ⟨rfl, hs8, rfl⟩
    refine ⟨_, _, rfl, fun F19 le19 hz5 => ?_⟩
    replace hbs := hbs.mono le19
    replace hr1 := hr1.mono le19
    replace hr2 := hr2.mono le19
    replace hr3 := hr3.mono le19
    replace hr4 := hr4.mono le19
    have hf5 : IntsF F19 v12 ((endT x5 x6 ((joinedF x5 x6 x7 ((x8.take (((x8).length) / 2))) ((endT x5 x6 x7 ((x8.take (((x8).length) / 2))))) (((x8.drop (((x8).length) / 2)).take (((x8).length) - (((x8).length) / 2))))).1) ((joinedF x5 x6 x7 ((x8.take (((x8).length) / 2))) ((endT x5 x6 x7 ((x8.take (((x8).length) / 2))))) (((x8.drop (((x8).length) / 2)).take (((x8).length) - (((x8).length) / 2))))).2.1))) := intsH.fz (xs := (endT x5 x6 ((joinedF x5 x6 x7 ((x8.take (((x8).length) / 2))) ((endT x5 x6 x7 ((x8.take (((x8).length) / 2))))) (((x8.drop (((x8).length) / 2)).take (((x8).length) - (((x8).length) / 2))))).1) ((joinedF x5 x6 x7 ((x8.take (((x8).length) / 2))) ((endT x5 x6 x7 ((x8.take (((x8).length) / 2))))) (((x8.drop (((x8).length) / 2)).take (((x8).length) - (((x8).length) / 2))))).2.1))) hz5.fz
    exact ⟨⟨rfl, hf5⟩, rfl⟩
   refine gC (fun vals Fs R leFs hpZ => ?_) ?_
   ·replace hbs := hbs.mono leFs
    replace hr1 := hr1.mono leFs
    replace hr2 := hr2.mono leFs
    replace hr3 := hr3.mono leFs
    replace hr4 := hr4.mono leFs
    rw [eS (l := [(8, (.bool (true) : Value))]) ⟨(hpZ 8 (by decide)), trivial⟩]
    refine XG.yes (t := 168) rfl rfl (XOp.loadN [x1, x2] isAgg29 sizeOf29 rfl rfl (Rd.ownN [_, _, _, _, _, _, _, _, _, _, _] rfl rfl) ?_)
    exact ⟨rfl, rfl⟩
   refine gC (fun vals Fs R leFs hpZ => ?_) ?_
   ·replace hbs := hbs.mono leFs
    replace hr1 := hr1.mono leFs
    replace hr2 := hr2.mono leFs
    replace hr3 := hr3.mono leFs
    replace hr4 := hr4.mono leFs
    rw [eS (l := [(8, (.bool (true) : Value))]) ⟨(hpZ 8 (by decide)), trivial⟩]
    refine XG.yes (t := 168) rfl rfl (XOp.loadN [x3, x4] isAgg60 sizeOf60 rfl rfl (Rd.ownN [_, _, _, _, _, _, _, _, _, _] rfl rfl) ?_)
    exact ⟨rfl, rfl⟩
   exact stepsG.nil
  intro vals F20 le20 hphi
  obtain ⟨e11, f11_6ha⟩ := hphi 11 (by decide)
  generalize hu8 : ((vals 11)) = u6 at e11 f11_6ha
  rw [eS (l := [(8, (.bool (true) : Value)), (11, u6), (12, (.agg #[x1, x2] : Value)), (13, (.agg #[x3, x4] : Value))]) ⟨(hphi 8 (by decide)), hu8, (hphi 12 (by decide)), (hphi 13 (by decide)), trivial⟩]
  replace hr1 := hr1.mono le20
  replace hr2 := hr2.mono le20
  replace hr3 := hr3.mono le20
  replace hr4 := hr4.mono le20
  show XL _ _ _ _ _ _ _ (cellsH b16 [x32, x33] 60 :: cellsH b15 [u4, u5] 60 :: cellsH b12 [x3, u3] 60 :: cellsH b9 [x30, x31] 60 :: cellsH b8 [x28, x29] 60 :: cellsH b7 [x26] 57 :: cellsH b6 [x20, x21] 60 :: cellsH b5 [x18, x19] 29 :: cellsH b4 [x14, x15] 60 :: cellsH b3 [x12, x13] 60 :: cellsH b2 [x3, x4] 60 :: cellsH b1 [x1, x2] 29 :: L)
  refine XL.yes (t := 168) rfl rfl (XOp.frzF <| XOp.call (args := [.agg #[x1, x2], .agg #[x3, x4]]) call44 rfl (EndTerm_spec hr1 hr2 hr3 hr4 (hlf := (by first | assumption | rfl | omega | simp)) (hsb := (by first | assumption | rfl | omega | simp))) ?_)
  rintro v13 _ _ _ ⟨rfl, hs9, rfl⟩
  refine ⟨_, _, rfl, fun F21 le21 hz6 => ?_⟩
  replace f11_6ha := f11_6ha.mono le21
  have hf6 : IntsF F21 v13 ((endT x5 x6 x7 x8)) := intsH.fz (xs := (endT x5 x6 x7 x8)) hz6.fz
  refine XL.yes (t := 168) rfl rfl (XOp.call (args := [u6, v13]) call34 rfl (iSameTerm_spec f11_6ha hf6 (hbd := (by first | (refine Or.inl ?_; omega) | (refine Or.inr ?_; omega)))) ?_)
  rintro _ _ _ _ ⟨rfl, rfl, rfl⟩
  refine cX (XOp.pickT (.bool (decide (((endT x5 x6 ((joinedF x5 x6 x7 ((x8.take (((x8).length) / 2))) ((endT x5 x6 x7 ((x8.take (((x8).length) / 2))))) (((x8.drop (((x8).length) / 2)).take (((x8).length) - (((x8).length) / 2))))).1) ((joinedF x5 x6 x7 ((x8.take (((x8).length) / 2))) ((endT x5 x6 x7 ((x8.take (((x8).length) / 2))))) (((x8.drop (((x8).length) / 2)).take (((x8).length) - (((x8).length) / 2))))).2.1))) = ((endT x5 x6 x7 x8))))) rfl rfl (XL.as (.bool (decide (((endT x5 x6 ((joinedF x5 x6 x7 ((x8.take (((x8).length) / 2))) ((endT x5 x6 x7 ((x8.take (((x8).length) / 2))))) (((x8.drop (((x8).length) / 2)).take (((x8).length) - (((x8).length) / 2))))).1) ((joinedF x5 x6 x7 ((x8.take (((x8).length) / 2))) ((endT x5 x6 x7 ((x8.take (((x8).length) / 2))))) (((x8.drop (((x8).length) / 2)).take (((x8).length) - (((x8).length) / 2))))).2.1))) = ((endT x5 x6 x7 x8))))) rfl (XL.nil (X.ret (retEnd (L' := L) [.bool (decide (((endT x5 x6 ((joinedF x5 x6 x7 ((x8.take (((x8).length) / 2))) ((endT x5 x6 x7 ((x8.take (((x8).length) / 2))))) (((x8.drop (((x8).length) / 2)).take (((x8).length) - (((x8).length) / 2))))).1) ((joinedF x5 x6 x7 ((x8.take (((x8).length) / 2))) ((endT x5 x6 x7 ((x8.take (((x8).length) / 2))))) (((x8.drop (((x8).length) / 2)).take (((x8).length) - (((x8).length) / 2))))).2.1))) = ((endT x5 x6 x7 x8))))] (.bool (decide (((endT x5 x6 ((joinedF x5 x6 x7 ((x8.take (((x8).length) / 2))) ((endT x5 x6 x7 ((x8.take (((x8).length) / 2))))) (((x8.drop (((x8).length) / 2)).take (((x8).length) - (((x8).length) / 2))))).1) ((joinedF x5 x6 x7 ((x8.take (((x8).length) / 2))) ((endT x5 x6 x7 ((x8.take (((x8).length) / 2))))) (((x8.drop (((x8).length) / 2)).take (((x8).length) - (((x8).length) / 2))))).2.1))) = ((endT x5 x6 x7 x8))))) (.tmp rfl .nil) rfl rF (FLe.trans (FLe.trans (FLe.trans (FLe.trans (FLe.trans (FLe.trans (FLe.trans (FLe.trans (FLe.trans (FLe.trans (FLe.trans (FLe.trans le1 le2) le3) le9) le10) le11) le12) le13) le15) le17) le18) le20) le21) (sD (sD (sD (sD (sD (sD (sD (sD (sD (sD (sD (sD sR)))))))))))) ?_)))))
  exact ⟨(vB ((decide_eq_true (by rw [hhl])).symm)), rfl, rfl⟩
 rw [Bool.not_eq_true] at h12
 exact absurd h12 (by rw [hhl]; simp)
end Go.Proofs.Ytmaaifhmhclhdaa
