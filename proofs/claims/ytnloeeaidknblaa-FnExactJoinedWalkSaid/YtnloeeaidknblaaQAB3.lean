/-
  Walks, one after the other (part 4).
-/
import Derived.Test.YtnloeeaidknblaaQAL1
import Derived.Test.YtnloeeaidknblaaQAB2
set_option linter.unusedSimpArgs false
set_option linter.unusedVariables false
namespace Go.Proofs.Ytnloeeaidknblaa
open Go X M Try

/- impl.cloneWalk -/
set_option maxRecDepth 20000 in
theorem cloneWalk_spec {F : FH} {L : List HP} {fv : Value} {f : List Int} (hf : IntsF F fv f) {xsv : Value} {xs : List StepT} (hxs : StepsF F xsv xs) (hlf : f.length ≤ 60) (hlx : xs.length ≤ 60) (hxb : ∀ i, i < xs.length → (xs.getD i (0, 0, [])).2.2.length ≤ 60) :
    Does prog 145 [.agg #[fv, xsv]] F (L) (fun v F' L' => ∃ (a : Value), ∃ (b : Value), (.agg #[a, b] : Value) = v ∧ (IntsF F' a (f)) ∧ (StepsF F' b (xs)) ∧ (Fresh F F' (star [intsH 2 a (f), stepsD 2 119 b (xs)])) ∧ L = L') := by
 refine Does.of_X func145 rfl rfl rfl ?_
 refine X.seq (X.region ?_)
 refine cX (XOp.box [fv, xsv] rfl rfl ?_)
 intro b1
 refine cX (XOp.alloc [(.slice none 0 0), (.slice none 0 0)] zeroValue73 rfl ?_)
 intro b2
 refine XL.nil (X.seq (X.region ?_))
 refine cX (XOp.fieldP (b := b1) (0) runUnderlying73 rfl sizeOf22 (by decide) rfl rfl ?_)
 refine cX (XOp.load1 (v := fv) isAgg22 rfl (Rd.own [_] rfl rfl) ?_)
 refine cX (XOp.frzF <| XOp.call (args := [fv]) call102 rfl (Clone_spec hf (hlt := (by first | assumption | rfl | omega | simp))) ?_)
 rintro v1 _ _ _ ⟨rfl, hs1, rfl⟩
 refine ⟨_, _, rfl, fun F1 le1 hz1 => ?_⟩
 replace hxs := hxs.mono le1
 have hf1 : IntsF F1 v1 ((f)) := intsH.fz (xs := (f)) hz1.fz
 refine cX (XOp.build [v1, (.slice none 0 0)] [(.slice none 0 0), (.slice none 0 0)] [(0, 1), (1, 1)] [(0, [v1])] runUnderlying73 zeroValue73 rfl (.cons rfl sizeOf22 (.cons rfl sizeOf71 PlacesAre.nil)) rfl (.cons (cells_one (IntsF.isSl hf1)) CellsAre.nil) ?_)
 refine cX (XOp.alloc [(.slice none 0 0), (.slice none 0 0)] zeroValue73 rfl ?_)
 intro b3
 refine cX (XOp.storeN (vs := [v1, (.slice none 0 0)]) [] _ [v1, (.slice none 0 0)] sizeOf73 rfl rfl rfl (ones_cons (one_sl (IntsF.isSl hf1)) (ones_cons rfl ones_nil)) rfl rfl rfl ?_)
 refine XL.nil (X.seq (X.seq (X.region ?_)))
 refine cX (XOp.fieldP (b := b1) (1) runUnderlying73 rfl sizeOf71 (by decide) rfl rfl ?_)
 refine cX (XOp.load1 (v := xsv) isAgg71 rfl (Rd.own [_, _] rfl rfl) ?_)
 refine cX (XOp.lenS (v := xsv) (n := (xs).length) runUnderlying71 rfl hxs.slv ?_)
 refine XL.mv (.int .i64 (0)) rfl ?_
 refine XL.nil (X.block ?_)
 refine X.loop (α := Nat × Value × List StepT × List Value × List HP × Nat × FH) (fun xQ => [(2, ptr b2 0), (3, ptr b3 0), (11, xsv), (12, .int .i64 ((xs.length : Int))), (13, .int .i64 (((xQ.1 : Nat) : Int)))]) (fun xQ => slH 119 3 xQ.2.1 xQ.2.2.2.2.2.1 xQ.2.2.2.1 :: cellsH b3 [v1, xQ.2.1] 73 :: cellsH b2 [(.slice none 0 0), (.slice none 0 0)] 73 :: cellsH b1 [fv, xsv] 73 :: L) (fun xQ F' => xQ.2.2.2.2.2.2 = F' ∧ F1 ≤ xQ.2.2.2.2.2.2 ∧ (xQ.1 ≤ xs.length) ∧ (IsSl xQ.2.1) ∧ (StepsC xQ.2.2.2.2.2.2 xQ.2.2.2.1 xQ.2.2.1) ∧ (xQ.2.2.2.2.2.1 = xQ.2.2.1.length) ∧ (DeepL 3 (StepO 2) xQ.2.2.2.1 xQ.2.2.1 xQ.2.2.2.2.1) ∧ (Fresh F1 xQ.2.2.2.2.2.2 (star xQ.2.2.2.2.1)) ∧ (xQ.2.2.1 = xs.take xQ.1)) (fun xQ => xs.length - xQ.1) (0, (.slice none 0 0), [], [], [], 0, F1) ⟨rfl, rfl, rfl, rfl, rfl, trivial⟩ (Sub.trans (Sub.addNil 119 3 _ _) (Sub.cons (Sub.cons (Sub.cons (Sub.cons sR))))) ⟨rfl, FLe.refl _, (by (try dsimp only) <;> omega), (⟨_, _, _, rfl⟩), (CO.nil), (rfl), (DeepL.nil), (Fresh.nilL), (rfl)⟩ ?_
 rintro ⟨k, sv, ss, cs, Ls, m, G1⟩ rE _ _ ⟨rfl, leG, hk, hsv, hC, hm, hD, hZ, hss⟩
 show X _ _ _ _ (envs [(2, ptr b2 0), (3, ptr b3 0), (11, xsv), (12, .int .i64 ((xs.length : Int))), (13, .int .i64 ((k : Int)))] rE) _ (slH 119 3 sv m cs :: cellsH b3 [v1, sv] 73 :: cellsH b2 [(.slice none 0 0), (.slice none 0 0)] 73 :: cellsH b1 [fv, xsv] 73 :: L)
 replace leG : F1 ≤ G1 := leG
 dsimp only at hk hsv hC hm hD hZ hss
 have hxk := hxb k
 have hml : ss.length = k := by rw [hss, List.length_take]; omega
 have leG1 := leG
 replace hxs := hxs.mono leG1
 replace hf1 := hf1.mono leG1
 refine X.seq (X.region ?_)
 refine cX (XOp.lss (a := (k : Int)) (b := (xs.length : Int)) rfl rfl ?_)
 refine XL.nil (X.seq ?_)
 refine X.condD (p := (k : Int) < (xs.length : Int)) rfl (fun h1 => ?_) (fun h1 => ?_)
 ·refine X.skip (X.seq (X.block (X.seq (X.region ?_))))
  refine cX (XOp.indexS (v := xsv) (i := (k : Int)) (n := (xs).length) k runUnderlying71 sizeOf119 rfl rfl rfl hxs.slv (by omega) rfl ?_)
  obtain ⟨a1, ha1, hr1, hr2, hr3⟩ := hxs.rd (i := k) (by omega)
  refine cX (XOp.loadN [.int .i64 ((xs.getD k (0, 0, [])).1), .int .i64 ((xs.getD k (0, 0, [])).2.1), a1] isAgg119 sizeOf119 rfl rfl (Rd.three (hr1 _) (hr2 _) (hr3 _)) ?_)
  refine cX (XOp.alloc [.int .i64 (0), .int .i64 (0), (.slice none 0 0)] zeroValue119 rfl ?_)
  intro b4
  refine cX (XOp.storeN (vs := [.int .i64 ((xs.getD k (0, 0, [])).1), .int .i64 ((xs.getD k (0, 0, [])).2.1), a1]) [] _ [.int .i64 ((xs.getD k (0, 0, [])).1), .int .i64 ((xs.getD k (0, 0, [])).2.1), a1] sizeOf119 rfl rfl rfl (ones_cons rfl (ones_cons rfl (ones_cons (one_sl (IntsF.isSl ha1)) ones_nil))) rfl rfl rfl ?_)
  refine XL.nil (X.region ?_)
  refine cX (XOp.loadN [.int .i64 ((xs.getD k (0, 0, [])).1), .int .i64 ((xs.getD k (0, 0, [])).2.1), a1] isAgg119 sizeOf119 rfl rfl (Rd.ownN [] rfl rfl) ?_)
  refine XL.weaken (Sub.front (A := [_])) ?_
  show XL _ _ _ _ _ _ _ (slH 119 3 sv m cs :: cellsH b4 [.int .i64 ((xs.getD k (0, 0, [])).1), .int .i64 ((xs.getD k (0, 0, [])).2.1), a1] 119 :: cellsH b3 [v1, sv] 73 :: cellsH b2 [(.slice none 0 0), (.slice none 0 0)] 73 :: cellsH b1 [fv, xsv] 73 :: L)
  refine XL.weaken (Sub.front (A := [_, _])) ?_
  show XL _ _ _ _ _ _ _ (cellsH b3 [v1, sv] 73 :: slH 119 3 sv m cs :: cellsH b4 [.int .i64 ((xs.getD k (0, 0, [])).1), .int .i64 ((xs.getD k (0, 0, [])).2.1), a1] 119 :: cellsH b2 [(.slice none 0 0), (.slice none 0 0)] 73 :: cellsH b1 [fv, xsv] 73 :: L)
  refine cX (XOp.call (args := [ptr b3 0, .agg #[.int .i64 ((xs.getD k (0, 0, [])).1), .int .i64 ((xs.getD k (0, 0, [])).2.1), a1]]) call146 rfl (walkAdd_spec ha1 hsv hC (by first | rfl | assumption | omega) (by omega) (by omega)) ?_)
  rintro _ F2 _ le2 ⟨sw1, cw1, hs2, hw1, hf2, rfl⟩
  replace hf1 := hf1.mono le2
  replace hC := hC.mono le2
  have hc1 := StepsC.snoc hC (i := (xs.getD k (0, 0, [])).1) (j := (xs.getD k (0, 0, [])).2.1) hw1
  show XL _ _ _ _ _ _ _ (cellsH b3 [v1, sw1] 73 :: slH 119 3 sw1 ((m) + 1) ((cs ++ [.int .i64 ((xs.getD k (0, 0, [])).1), .int .i64 ((xs.getD k (0, 0, [])).2.1), cw1])) :: cellsH b4 [.int .i64 ((xs.getD k (0, 0, [])).1), .int .i64 ((xs.getD k (0, 0, [])).2.1), a1] 119 :: cellsH b2 [(.slice none 0 0), (.slice none 0 0)] 73 :: cellsH b1 [fv, xsv] 73 :: L)
  refine XL.nil (X.region ?_)
  refine cX (XOp.addR (a := (k : Int)) (b := 1) (((k + 1 : Nat) : Int)) rfl rfl (by omega) (by omega) ?_)
  refine XL.mv (.int .i64 (((k + 1 : Nat) : Int))) rfl ?_
  refine XL.nil ?_
  exact ⟨(k + 1, sw1, (ss ++ [((xs.getD k (0, 0, [])).1, (xs.getD k (0, 0, [])).2.1, (xs.getD k (0, 0, [])).2.2)]), (cs ++ [.int .i64 ((xs.getD k (0, 0, [])).1), .int .i64 ((xs.getD k (0, 0, [])).2.1), cw1]), Ls ++ [intsH 2 cw1 ((xs.getD k (0, 0, [])).2.2)], (m) + 1, F2), _, (FLe.trans leG1 le2), rF, ⟨rfl, rfl, rfl, rfl, rfl, trivial⟩, (Sub.trans (Sub.front (A := [_, _, _, _])) (Sub.trans (Sub.front (A := [_, _, _, _])) (Sub.trans (Sub.front (A := [_, _])) (Sub.trans (Sub.front (A := [_, _, _])) (Sub.cons (Sub.cons (Sub.cons (Sub.cons (Sub.drop sR))))))))), ⟨rfl, (FLe.trans leG1 le2), (by (try dsimp only) <;> omega), (hs2), (hc1), (by (try dsimp only); rw [List.length_append]; simp only [List.length_singleton]; omega), (DeepL.snoc hD rfl ⟨_, rfl, rfl⟩), ((Fresh.app hZ leG1 (Fresh.one hf2) le2)), (by (try dsimp only); rw [take_succ_getD (0, 0, []) (by omega), ← hss])⟩, (by omega)⟩
 ·refine X.exit (thenQ_exit (thenQ_exit (blockQ_exit ?_)))
  refine X.seq (X.region ?_)
  refine cX (XOp.loadN [v1, sv] isAgg73 sizeOf73 rfl rfl (Rd.ownN [_] rfl rfl) ?_)
  refine cX (XOp.storeN (vs := [v1, sv]) [_, _] _ [v1, sv] sizeOf73 rfl rfl rfl (ones_cons (one_sl (IntsF.isSl hf1)) (ones_cons (one_sl hsv) ones_nil)) rfl rfl rfl ?_)
  refine XL.nil ?_
  refine X.freezeF [] _ _ rfl (fun F3 le3 hz2 => ?_)
  replace hf1 := hf1.mono le3
  replace hC := hC.mono le3
  have hf3 : StepsF F3 sv ss := CO.fz hC (by first | rfl | simp | omega) hz2.fz
  refine X.ret (retEnd (L' := L) [.agg #[v1, sv]] (.agg #[v1, sv]) (.cell rfl (loadNV [v1, sv] isAgg73 sizeOf73 rfl (Rd.ownN [_] rfl rfl)) .nil) rfl (FLe.trans (FLe.trans le1 leG1) le3) rF (Sub.drop (Sub.drop (Sub.drop sR))) ?_)
  have e9 : ss = xs := by rw [hss, List.take_of_length_le (by omega)]
  subst e9
  exact ⟨_, _, rfl, hf1, hf3, (Fresh.app (Fresh.one hz1) le1 (Fresh.one (Fresh.deep hD hZ leG1 hz2 (by omega) le3)) (FLe.trans leG1 le3)), rfl⟩

/- impl.joinWalks -/
set_option maxRecDepth 20000 in
theorem joinWalks_spec {F : FH} {L : List HP} {fv : Value} {f : List Int} (hf : IntsF F fv f) {xsv : Value} {xs : List StepT} (hxs : StepsF F xsv xs) {gv : Value} {g : List Int} (hg : IntsF F gv g) {ysv : Value} {ys : List StepT} (hys : StepsF F ysv ys) (hlf : f.length ≤ 60) (hlx : xs.length ≤ 60) (hxb : ∀ i, i < xs.length → (xs.getD i (0, 0, [])).2.2.length ≤ 60) (hlg : g.length ≤ 60) (hly : ys.length ≤ 60) (hyb : ∀ i, i < ys.length → (ys.getD i (0, 0, [])).2.2.length ≤ 60) :
    Does prog 92 [.agg #[fv, xsv], .agg #[gv, ysv]] F (L) (fun v F' L' => ∃ (a : Value), ∃ (b : Value), (.tuple #[.agg #[a, b], .bool ((joinW f xs g ys).2.2)] : Value) = v ∧ (IntsF F' a (joinW f xs g ys).1) ∧ (StepsF F' b (joinW f xs g ys).2.1) ∧ (Fresh F F' (star [intsH 2 a (joinW f xs g ys).1, stepsD 2 119 b (joinW f xs g ys).2.1])) ∧ L = L') := by
 refine Does.of_X func92 rfl rfl rfl ?_
 have hel : (endL f xs).length ≤ 60 := by unfold endL; split <;> first | exact hlf | exact hxb _ (by omega)
 refine X.seq (X.region ?_)
 refine cX (XOp.box [fv, xsv] rfl rfl ?_)
 intro b1
 refine cX (XOp.box [gv, ysv] rfl rfl ?_)
 intro b2
 refine cX (XOp.alloc [(.slice none 0 0), (.slice none 0 0)] zeroValue73 rfl ?_)
 intro b3
 refine XL.as (.bool (false)) rfl ?_
 refine XL.nil (X.seq (X.seq ?_))
 by_cases h1 : ¬((endL f xs) = g)
 ·have hjoin : endL f xs ≠ g := by simpa using h1
  refine X.drawG [cellsH b3 [(.slice none 0 0), (.slice none 0 0)] 73, cellsH b2 [gv, ysv] 73, cellsH b1 [fv, xsv] 73] L 13 [[], [], [], [], [], [], [], [], [], [], [], [], []] [[], [0], [], [2], [1, 3], [4], [5], [6], [6, 7], [6, 8], [6], [6, 10], [6, 11]] [[], [], [], [], [], [], [], [], [], [], [], [], []] (phiG [fun FF us v => v = (.agg #[fv, xsv] : Value), fun FF us v => ((v) : Value) = v ∧ (IntsF FF (v) (endL f xs)), fun FF us v => v = ptr b2 0, fun FF us v => v = gv, fun FF us v => v = (.bool (decide ((endL f xs) = g)) : Value), fun FF us v => v = (.bool (decide (¬((endL f xs) = g))) : Value), fun FF us v => v = (.bool (decide (¬((endL f xs) = g))) : Value), fun FF us v => v = undef, fun FF us v => v = undef, fun FF us v => v = undef, fun FF us v => v = undef, fun FF us v => v = undef, fun FF us v => v = undef]) (ownL [fun us v => [], fun us v => [], fun us v => [], fun us v => [], fun us v => [], fun us v => [], fun us v => [], fun us v => [], fun us v => [], fun us v => [], fun us v => [], fun us v => [], fun us v => []]) mixed rfl rfl (by kernel_rfl) (by kernel_rfl) (MonoG.get (MonoG.cons (fun le h => h) (MonoG.cons (fun le h => ⟨h.1, h.2.mono le⟩) (MonoG.cons (fun le h => h) (MonoG.cons (fun le h => h) (MonoG.cons (fun le h => h) (MonoG.cons (fun le h => h) (MonoG.cons (fun le h => h) (MonoG.cons (fun le h => h) (MonoG.cons (fun le h => h) (MonoG.cons (fun le h => h) (MonoG.cons (fun le h => h) (MonoG.cons (fun le h => h) (MonoG.cons (fun le h => h) MonoG.nil)))))))))))))) ?_ ?_
  ·refine stepsG.cons (fun vals Fs R leFs hpZ => ?_) ?_
   ·replace hf := hf.mono leFs
    replace hxs := hxs.mono leFs
    replace hg := hg.mono leFs
    replace hys := hys.mono leFs
    refine XG.op (XOp.loadN [fv, xsv] isAgg73 sizeOf73 rfl rfl (Rd.ownN [_, _] rfl rfl) ?_)
    exact ⟨rfl, rfl⟩
   refine stepsG.cons (fun vals Fs R leFs hpZ => ?_) ?_
   ·replace hf := hf.mono leFs
    replace hxs := hxs.mono leFs
    replace hg := hg.mono leFs
    replace hys := hys.mono leFs
    rw [eS (l := [(0, (.agg #[fv, xsv] : Value))]) ⟨(hpZ 0 (by decide)), trivial⟩]
    refine XG.op (XOp.call (args := [.agg #[fv, xsv]]) call144 rfl (walkEnd_spec hf hxs (hlss := (by first | assumption | rfl | omega | simp))) ?_)
    rintro _ _ _ _ ⟨rfl, x3, rfl, hr3, rfl⟩
    exact ⟨⟨rfl, hr3⟩, rfl⟩
   refine stepsG.cons (fun vals Fs R leFs hpZ => ?_) ?_
   ·refine XG.op (XOp.fieldP (b := b2) (0) runUnderlying73 rfl sizeOf22 (by decide) rfl rfl ?_)
    exact ⟨rfl, rfl⟩
   refine stepsG.cons (fun vals Fs R leFs hpZ => ?_) ?_
   ·replace hf := hf.mono leFs
    replace hxs := hxs.mono leFs
    replace hg := hg.mono leFs
    replace hys := hys.mono leFs
    rw [eS (l := [(2, ptr b2 0)]) ⟨(hpZ 2 (by decide)), trivial⟩]
    refine XG.op (XOp.load1 (v := gv) isAgg22 rfl (Rd.own [_] rfl rfl) ?_)
    exact ⟨rfl, rfl⟩
   refine stepsG.cons (fun vals Fs R leFs hpZ => ?_) ?_
   ·obtain ⟨e1, f1_2hr⟩ := hpZ 1 (by decide)
    replace hf := hf.mono leFs
    replace hxs := hxs.mono leFs
    replace hg := hg.mono leFs
    replace hys := hys.mono leFs
    rw [eS (l := [(1, ((vals 1))), (3, gv)]) ⟨(e1).symm, (hpZ 3 (by decide)), trivial⟩]
    refine XG.op (XOp.call (args := [((vals 1)), gv]) call122 rfl (Equal_spec f1_2hr hg (hbd := (by first | assumption | rfl | omega | (left; simp; done) | (right; simp; done)))) ?_)
    rintro _ _ _ _ ⟨rfl, rfl, rfl⟩
    exact ⟨rfl, rfl⟩
   refine stepsG.cons (fun vals Fs R leFs hpZ => ?_) ?_
   ·rw [eS (l := [(4, (.bool (decide ((endL f xs) = g)) : Value))]) ⟨(hpZ 4 (by decide)), trivial⟩]
    refine XG.op (XOp.notD (p := (endL f xs) = g) rfl ?_)
    exact ⟨rfl, rfl⟩
   refine stepsG.cons (fun vals Fs R leFs hpZ => ?_) ?_
   ·rw [eS (l := [(5, (.bool (decide (¬((endL f xs) = g))) : Value))]) ⟨(hpZ 5 (by decide)), trivial⟩]
    refine XG.op (XOp.move (.bool (decide (¬((endL f xs) = g)))) rfl ?_)
    exact ⟨rfl, rfl⟩
   refine stepsG.cons (fun vals Fs R leFs hpZ => ?_) ?_
   ·rw [eS (l := [(6, (.bool (decide (¬((endL f xs) = g))) : Value))]) ⟨(hpZ 6 (by decide)), trivial⟩]
    exact XG.no (t := 15) rfl (vT h1) ⟨rfl, rfl⟩
   refine stepsG.cons (fun vals Fs R leFs hpZ => ?_) ?_
   ·replace hf := hf.mono leFs
    replace hxs := hxs.mono leFs
    replace hg := hg.mono leFs
    replace hys := hys.mono leFs
    rw [eS (l := [(6, (.bool (decide (¬((endL f xs) = g))) : Value)), (7, undef)]) ⟨(hpZ 6 (by decide)), (hpZ 7 (by decide)), trivial⟩]
    exact XG.no (t := 15) rfl (vT h1) ⟨rfl, rfl⟩
   refine stepsG.cons (fun vals Fs R leFs hpZ => ?_) ?_
   ·replace hf := hf.mono leFs
    replace hxs := hxs.mono leFs
    replace hg := hg.mono leFs
    replace hys := hys.mono leFs
    rw [eS (l := [(6, (.bool (decide (¬((endL f xs) = g))) : Value)), (8, undef)]) ⟨(hpZ 6 (by decide)), (hpZ 8 (by decide)), trivial⟩]
    exact XG.no (t := 15) rfl (vT h1) ⟨rfl, rfl⟩
   refine stepsG.cons (fun vals Fs R leFs hpZ => ?_) ?_
   ·rw [eS (l := [(6, (.bool (decide (¬((endL f xs) = g))) : Value))]) ⟨(hpZ 6 (by decide)), trivial⟩]
    exact XG.no (t := 15) rfl (vT h1) ⟨rfl, rfl⟩
   refine stepsG.cons (fun vals Fs R leFs hpZ => ?_) ?_
   ·replace hf := hf.mono leFs
    replace hxs := hxs.mono leFs
    replace hg := hg.mono leFs
    replace hys := hys.mono leFs
    rw [eS (l := [(6, (.bool (decide (¬((endL f xs) = g))) : Value)), (10, undef)]) ⟨(hpZ 6 (by decide)), (hpZ 10 (by decide)), trivial⟩]
    exact XG.no (t := 15) rfl (vT h1) ⟨rfl, rfl⟩
   refine stepsG.cons (fun vals Fs R leFs hpZ => ?_) ?_
   ·replace hf := hf.mono leFs
    replace hxs := hxs.mono leFs
    replace hg := hg.mono leFs
    replace hys := hys.mono leFs
    rw [eS (l := [(6, (.bool (decide (¬((endL f xs) = g))) : Value)), (11, undef)]) ⟨(hpZ 6 (by decide)), (hpZ 11 (by decide)), trivial⟩]
    exact XG.no (t := 15) rfl (vT h1) ⟨rfl, rfl⟩
   exact stepsG.nil
  ·intro vals F4 le4 hphi
   obtain ⟨e1, f1_2hr⟩ := hphi 1 (by decide)
   generalize hu1 : ((vals 1)) = u1 at e1 f1_2hr
   rw [eS (l := [(6, (.bool (decide (¬((endL f xs) = g))) : Value)), (9, undef), (12, undef)]) ⟨(hphi 6 (by decide)), (hphi 9 (by decide)), (hphi 12 (by decide)), trivial⟩]
   replace hf := hf.mono le4
   replace hxs := hxs.mono le4
   replace hg := hg.mono le4
   replace hys := hys.mono le4
   show XL _ _ _ _ _ _ _ (cellsH b3 [(.slice none 0 0), (.slice none 0 0)] 73 :: cellsH b2 [gv, ysv] 73 :: cellsH b1 [fv, xsv] 73 :: L)
   refine XL.no (t := 15) rfl (vT h1) ?_
   refine XL.no (t := 15) rfl (vT h1) ?_
   refine cX (XOp.pickT (.bool (true)) (vT h1) rfl ?_)
   refine XL.nil ?_
   refine X.condT rfl ?_
   refine X.seq (X.region ?_)
   refine cX (XOp.build [(.slice none 0 0), (.slice none 0 0)] [(.slice none 0 0), (.slice none 0 0)] [(0, 1), (1, 1)] [] runUnderlying73 zeroValue73 rfl (.cons rfl sizeOf22 (.cons rfl sizeOf71 PlacesAre.nil)) rfl CellsAre.nil ?_)
   refine cX (XOp.storeN (vs := [(.slice none 0 0), (.slice none 0 0)]) [] _ [(.slice none 0 0), (.slice none 0 0)] sizeOf73 rfl rfl rfl (ones_cons rfl (ones_cons rfl ones_nil)) rfl rfl rfl ?_)
   refine XL.as (.bool (false)) rfl ?_
   refine XL.nil ?_
   refine X.ret (thenQ_ret (retEnd (L' := L) [.agg #[(.slice none 0 0), (.slice none 0 0)], .bool (false)] (.tuple #[.agg #[(.slice none 0 0), (.slice none 0 0)], .bool (false)]) (.cell rfl (loadNV [(.slice none 0 0), (.slice none 0 0)] isAgg73 sizeOf73 rfl (Rd.ownN [] rfl rfl)) (.tmp rfl .nil)) rfl le4 rF (Sub.drop (Sub.drop (Sub.drop sR))) ?_))
   have e : joinW f xs g ys = ([], [], false) := by first | exact joinW_no hjoin | exact joinW_long (by omega)
   exact ⟨_, _, by rw [e], by rw [e]; exact IntsF.nilV, by rw [e]; exact SlOf.nilV, by rw [e]; exact Fresh.empty nilWalk, rfl⟩
 ·have hjoin : endL f xs = g := by simpa using h1
  refine X.drawG [cellsH b3 [(.slice none 0 0), (.slice none 0 0)] 73, cellsH b2 [gv, ysv] 73, cellsH b1 [fv, xsv] 73] L 13 [[], [], [], [], [], [], [], [], [], [], [], [], []] [[], [0], [], [2], [1, 3], [4], [5], [6], [6, 7], [6, 8], [6], [6, 10], [6, 11]] [[], [], [], [], [], [], [], [], [], [], [], [], []] (phiG [fun FF us v => v = (.agg #[fv, xsv] : Value), fun FF us v => ((v) : Value) = v ∧ (IntsF FF (v) (endL f xs)), fun FF us v => v = ptr b2 0, fun FF us v => v = gv, fun FF us v => v = (.bool (decide ((endL f xs) = g)) : Value), fun FF us v => v = (.bool (decide (¬((endL f xs) = g))) : Value), fun FF us v => v = (.bool (decide (¬((endL f xs) = g))) : Value), fun FF us v => v = ptr b1 1, fun FF us v => v = xsv, fun FF us v => v = (.int .i64 ((xs.length : Int)) : Value), fun FF us v => v = ptr b2 1, fun FF us v => v = ysv, fun FF us v => v = (.int .i64 ((ys.length : Int)) : Value)]) (ownL [fun us v => [], fun us v => [], fun us v => [], fun us v => [], fun us v => [], fun us v => [], fun us v => [], fun us v => [], fun us v => [], fun us v => [], fun us v => [], fun us v => [], fun us v => []]) mixed rfl rfl (by kernel_rfl) (by kernel_rfl) (MonoG.get (MonoG.cons (fun le h => h) (MonoG.cons (fun le h => ⟨h.1, h.2.mono le⟩) (MonoG.cons (fun le h => h) (MonoG.cons (fun le h => h) (MonoG.cons (fun le h => h) (MonoG.cons (fun le h => h) (MonoG.cons (fun le h => h) (MonoG.cons (fun le h => h) (MonoG.cons (fun le h => h) (MonoG.cons (fun le h => h) (MonoG.cons (fun le h => h) (MonoG.cons (fun le h => h) (MonoG.cons (fun le h => h) MonoG.nil)))))))))))))) ?_ ?_
  ·refine stepsG.cons (fun vals Fs R leFs hpZ => ?_) ?_
   ·replace hf := hf.mono leFs
    replace hxs := hxs.mono leFs
    replace hg := hg.mono leFs
    replace hys := hys.mono leFs
    refine XG.op (XOp.loadN [fv, xsv] isAgg73 sizeOf73 rfl rfl (Rd.ownN [_, _] rfl rfl) ?_)
    exact ⟨rfl, rfl⟩
   refine stepsG.cons (fun vals Fs R leFs hpZ => ?_) ?_
   ·replace hf := hf.mono leFs
    replace hxs := hxs.mono leFs
    replace hg := hg.mono leFs
    replace hys := hys.mono leFs
    rw [eS (l := [(0, (.agg #[fv, xsv] : Value))]) ⟨(hpZ 0 (by decide)), trivial⟩]
    refine XG.op (XOp.call (args := [.agg #[fv, xsv]]) call144 rfl (walkEnd_spec hf hxs (hlss := (by first | assumption | rfl | omega | simp))) ?_)
    rintro _ _ _ _ ⟨rfl, x5, rfl, hr5, rfl⟩
    exact ⟨⟨rfl, hr5⟩, rfl⟩
   refine stepsG.cons (fun vals Fs R leFs hpZ => ?_) ?_
   ·refine XG.op (XOp.fieldP (b := b2) (0) runUnderlying73 rfl sizeOf22 (by decide) rfl rfl ?_)
    exact ⟨rfl, rfl⟩
   refine stepsG.cons (fun vals Fs R leFs hpZ => ?_) ?_
   ·replace hf := hf.mono leFs
    replace hxs := hxs.mono leFs
    replace hg := hg.mono leFs
    replace hys := hys.mono leFs
    rw [eS (l := [(2, ptr b2 0)]) ⟨(hpZ 2 (by decide)), trivial⟩]
    refine XG.op (XOp.load1 (v := gv) isAgg22 rfl (Rd.own [_] rfl rfl) ?_)
    exact ⟨rfl, rfl⟩
   refine stepsG.cons (fun vals Fs R leFs hpZ => ?_) ?_
   ·obtain ⟨e1, f1_3hr⟩ := hpZ 1 (by decide)
    replace hf := hf.mono leFs
    replace hxs := hxs.mono leFs
    replace hg := hg.mono leFs
    replace hys := hys.mono leFs
    rw [eS (l := [(1, ((vals 1))), (3, gv)]) ⟨(e1).symm, (hpZ 3 (by decide)), trivial⟩]
    refine XG.op (XOp.call (args := [((vals 1)), gv]) call122 rfl (Equal_spec f1_3hr hg (hbd := (by first | assumption | rfl | omega | (left; simp; done) | (right; simp; done)))) ?_)
    rintro _ _ _ _ ⟨rfl, rfl, rfl⟩
    exact ⟨rfl, rfl⟩
   refine stepsG.cons (fun vals Fs R leFs hpZ => ?_) ?_
   ·rw [eS (l := [(4, (.bool (decide ((endL f xs) = g)) : Value))]) ⟨(hpZ 4 (by decide)), trivial⟩]
    refine XG.op (XOp.notD (p := (endL f xs) = g) rfl ?_)
    exact ⟨rfl, rfl⟩
   refine stepsG.cons (fun vals Fs R leFs hpZ => ?_) ?_
   ·rw [eS (l := [(5, (.bool (decide (¬((endL f xs) = g))) : Value))]) ⟨(hpZ 5 (by decide)), trivial⟩]
    refine XG.op (XOp.move (.bool (decide (¬((endL f xs) = g)))) rfl ?_)
    exact ⟨rfl, rfl⟩
   refine stepsG.cons (fun vals Fs R leFs hpZ => ?_) ?_
   ·rw [eS (l := [(6, (.bool (decide (¬((endL f xs) = g))) : Value))]) ⟨(hpZ 6 (by decide)), trivial⟩]
    refine XG.yes (t := 15) rfl (vF h1) (XOp.fieldP (b := b1) (1) runUnderlying73 rfl sizeOf71 (by decide) rfl rfl ?_)
    exact ⟨rfl, rfl⟩
   refine stepsG.cons (fun vals Fs R leFs hpZ => ?_) ?_
   ·replace hf := hf.mono leFs
    replace hxs := hxs.mono leFs
    replace hys := hys.mono leFs
    rw [eS (l := [(6, (.bool (decide (¬((endL f xs) = g))) : Value)), (7, ptr b1 1)]) ⟨(hpZ 6 (by decide)), (hpZ 7 (by decide)), trivial⟩]
    refine XG.yes (t := 15) rfl (vF h1) (XOp.load1 (v := xsv) isAgg71 rfl (Rd.own [_, _] rfl rfl) ?_)
    exact ⟨rfl, rfl⟩
   refine stepsG.cons (fun vals Fs R leFs hpZ => ?_) ?_
   ·replace hf := hf.mono leFs
    replace hxs := hxs.mono leFs
    replace hys := hys.mono leFs
    rw [eS (l := [(6, (.bool (decide (¬((endL f xs) = g))) : Value)), (8, xsv)]) ⟨(hpZ 6 (by decide)), (hpZ 8 (by decide)), trivial⟩]
    refine XG.yes (t := 15) rfl (vF h1) (XOp.lenS (v := xsv) (n := (xs).length) runUnderlying71 rfl hxs.slv ?_)
    exact ⟨rfl, rfl⟩
   refine stepsG.cons (fun vals Fs R leFs hpZ => ?_) ?_
   ·rw [eS (l := [(6, (.bool (decide (¬((endL f xs) = g))) : Value))]) ⟨(hpZ 6 (by decide)), trivial⟩]
    refine XG.yes (t := 15) rfl (vF h1) (XOp.fieldP (b := b2) (1) runUnderlying73 rfl sizeOf71 (by decide) rfl rfl ?_)
    exact ⟨rfl, rfl⟩
   refine stepsG.cons (fun vals Fs R leFs hpZ => ?_) ?_
   ·replace hf := hf.mono leFs
    replace hxs := hxs.mono leFs
    replace hys := hys.mono leFs
    rw [eS (l := [(6, (.bool (decide (¬((endL f xs) = g))) : Value)), (10, ptr b2 1)]) ⟨(hpZ 6 (by decide)), (hpZ 10 (by decide)), trivial⟩]
    refine XG.yes (t := 15) rfl (vF h1) (XOp.load1 (v := ysv) isAgg71 rfl (Rd.own [_] rfl rfl) ?_)
    exact ⟨rfl, rfl⟩
   refine stepsG.cons (fun vals Fs R leFs hpZ => ?_) ?_
   ·replace hf := hf.mono leFs
    replace hxs := hxs.mono leFs
    replace hys := hys.mono leFs
    rw [eS (l := [(6, (.bool (decide (¬((endL f xs) = g))) : Value)), (11, ysv)]) ⟨(hpZ 6 (by decide)), (hpZ 11 (by decide)), trivial⟩]
    refine XG.yes (t := 15) rfl (vF h1) (XOp.lenS (v := ysv) (n := (ys).length) runUnderlying71 rfl hys.slv ?_)
    exact ⟨rfl, rfl⟩
   exact stepsG.nil
  ·intro vals F7 le7 hphi
   obtain ⟨e1, f1_3hr⟩ := hphi 1 (by decide)
   generalize hu2 : ((vals 1)) = u2 at e1 f1_3hr
   rw [eS (l := [(6, (.bool (decide (¬((endL f xs) = g))) : Value)), (9, (.int .i64 ((xs.length : Int)) : Value)), (12, (.int .i64 ((ys.length : Int)) : Value))]) ⟨(hphi 6 (by decide)), (hphi 9 (by decide)), (hphi 12 (by decide)), trivial⟩]
   replace hf := hf.mono le7
   replace hxs := hxs.mono le7
   replace hys := hys.mono le7
   show XL _ _ _ _ _ _ _ (cellsH b3 [(.slice none 0 0), (.slice none 0 0)] 73 :: cellsH b2 [gv, ysv] 73 :: cellsH b1 [fv, xsv] 73 :: L)
   refine XL.yes (t := 15) rfl (vF h1) (XOp.addR (a := (xs.length : Int)) (b := (ys.length : Int)) (((((xs).length) + ((ys).length) : Nat) : Int)) rfl rfl (by omega) (by omega) ?_)
   refine XL.yes (t := 15) rfl (vF h1) (XOp.gtr (a := ((((xs).length) + ((ys).length) : Nat) : Int)) (b := 60) rfl rfl ?_)
   refine cX (XOp.pickF (.bool (decide ((((((xs).length) + ((ys).length) : Nat) : Int) : Int) > 60))) (vF h1) rfl ?_)
   refine XL.nil ?_
   refine X.condD (p := (((((xs).length) + ((ys).length) : Nat) : Int) : Int) > 60) rfl (fun h2 => ?_) (fun h2 => ?_)
   ·refine X.seq (X.region ?_)
    refine cX (XOp.build [(.slice none 0 0), (.slice none 0 0)] [(.slice none 0 0), (.slice none 0 0)] [(0, 1), (1, 1)] [] runUnderlying73 zeroValue73 rfl (.cons rfl sizeOf22 (.cons rfl sizeOf71 PlacesAre.nil)) rfl CellsAre.nil ?_)
    refine cX (XOp.storeN (vs := [(.slice none 0 0), (.slice none 0 0)]) [] _ [(.slice none 0 0), (.slice none 0 0)] sizeOf73 rfl rfl rfl (ones_cons rfl (ones_cons rfl ones_nil)) rfl rfl rfl ?_)
    refine XL.as (.bool (false)) rfl ?_
    refine XL.nil ?_
    refine X.ret (thenQ_ret (retEnd (L' := L) [.agg #[(.slice none 0 0), (.slice none 0 0)], .bool (false)] (.tuple #[.agg #[(.slice none 0 0), (.slice none 0 0)], .bool (false)]) (.cell rfl (loadNV [(.slice none 0 0), (.slice none 0 0)] isAgg73 sizeOf73 rfl (Rd.ownN [] rfl rfl)) (.tmp rfl .nil)) rfl le7 rF (Sub.drop (Sub.drop (Sub.drop sR))) ?_))
    have e : joinW f xs g ys = ([], [], false) := by first | exact joinW_no hjoin | exact joinW_long (by omega)
    exact ⟨_, _, by rw [e], by rw [e]; exact IntsF.nilV, by rw [e]; exact SlOf.nilV, by rw [e]; exact Fresh.empty nilWalk, rfl⟩
   ·refine X.skip (X.seq (X.region ?_))
    refine cX (XOp.loadN [fv, xsv] isAgg73 sizeOf73 rfl rfl (Rd.ownN [_, _] rfl rfl) ?_)
    refine cX (XOp.thawL ?_)
    refine id (XOp.call (args := [.agg #[fv, xsv]]) call145 rfl (cloneWalk_spec hf hxs (hlf := (by first | assumption | rfl | omega | simp)) (hlx := (by first | assumption | rfl | omega | simp)) (hxb := (hxb))) ?_)
    rintro _ F8 _ le8 ⟨x6, x7, rfl, hr6, hr7, hr8, rfl⟩
    refine ⟨[intsH 2 x6 f, stepsD 2 119 x7 xs], hr8, ?_⟩
    show XL _ _ _ _ _ _ _ (intsH 2 x6 f :: stepsD 2 119 x7 xs :: cellsH b3 [(.slice none 0 0), (.slice none 0 0)] 73 :: cellsH b2 [gv, ysv] 73 :: cellsH b1 [fv, xsv] 73 :: L)
    refine cX (XOp.alloc [(.slice none 0 0), (.slice none 0 0)] zeroValue73 rfl ?_)
    intro b4
    refine cX (XOp.storeN (vs := [x6, x7]) [] _ [x6, x7] sizeOf73 rfl rfl rfl (ones_cons (one_sl (IntsF.isSl hr6)) (ones_cons (one_sl (StepsF.isSl hr7)) ones_nil)) rfl rfl rfl ?_)
    refine XL.nil (X.seq (X.seq (X.region ?_)))
    refine XL.openD [_, _] _ rfl (fun cs1 Ls1 F9 le9 hs1 hD1 hZ1 => ?_)
    replace hys := hys.mono le9
    have hc1 := hD1.steps hZ1
    show XL _ _ _ _ _ _ _ (cellsH b4 [x6, x7] 73 :: intsH 2 x6 f :: slH 119 3 x7 xs.length cs1 :: cellsH b3 [(.slice none 0 0), (.slice none 0 0)] 73 :: cellsH b2 [gv, ysv] 73 :: cellsH b1 [fv, xsv] 73 :: L)
    skip
    refine cX (XOp.fieldP (b := b2) (1) runUnderlying73 rfl sizeOf71 (by decide) rfl rfl ?_)
    refine cX (XOp.load1 (v := ysv) isAgg71 rfl (Rd.own [_, _, _, _] rfl rfl) ?_)
    refine cX (XOp.lenS (v := ysv) (n := (ys).length) runUnderlying71 rfl hys.slv ?_)
    refine XL.mv (.int .i64 (0)) rfl ?_
    refine XL.nil (X.block ?_)
    refine X.loop (α := Nat × Value × List StepT × List Value × List HP × Nat × FH) (fun xQ => [(4, ptr b3 0), (6, ptr b4 0), (29, ysv), (30, .int .i64 ((ys.length : Int))), (31, .int .i64 (((xQ.1 : Nat) : Int)))]) (fun xQ => slH 119 3 xQ.2.1 xQ.2.2.2.2.2.1 xQ.2.2.2.1 :: cellsH b4 [x6, xQ.2.1] 73 :: intsH 2 x6 f :: cellsH b3 [(.slice none 0 0), (.slice none 0 0)] 73 :: cellsH b2 [gv, ysv] 73 :: cellsH b1 [fv, xsv] 73 :: L) (fun xQ F' => xQ.2.2.2.2.2.2 = F' ∧ F9 ≤ xQ.2.2.2.2.2.2 ∧ (xQ.1 ≤ ys.length) ∧ (IsSl xQ.2.1) ∧ (StepsC xQ.2.2.2.2.2.2 xQ.2.2.2.1 xQ.2.2.1) ∧ (xQ.2.2.2.2.2.1 = xQ.2.2.1.length) ∧ (DeepL 3 (StepO 2) xQ.2.2.2.1 xQ.2.2.1 xQ.2.2.2.2.1) ∧ (Fresh F7 xQ.2.2.2.2.2.2 (star xQ.2.2.2.2.1)) ∧ (xQ.2.2.1 = xs ++ ys.take xQ.1)) (fun xQ => ys.length - xQ.1) (0, x7, xs, cs1, Ls1, xs.length, F9) ⟨rfl, rfl, rfl, rfl, rfl, trivial⟩ (Sub.trans (Sub.front (A := [_, _, _, _, _])) (Sub.trans (Sub.front (A := [_, _, _, _, _])) (Sub.trans (Sub.front (A := [_, _, _, _, _])) (Sub.trans (Sub.front (A := [_, _, _, _])) (Sub.trans (Sub.front (A := [_, _, _, _])) (Sub.trans (Sub.front (A := [_, _, _, _, _])) (Sub.cons (Sub.cons (Sub.cons (Sub.cons (Sub.cons (Sub.cons sR)))))))))))) ⟨rfl, FLe.refl _, (by (try dsimp only) <;> omega), (hs1), (hc1), (rfl), (hD1), (hZ1), (by simp)⟩ ?_
    rintro ⟨k, sv, ss, cs, Ls, m, G1⟩ rE _ _ ⟨rfl, leG, hk, hsv, hC, hm, hD, hZ, hss⟩
    show X _ _ _ _ (envs [(4, ptr b3 0), (6, ptr b4 0), (29, ysv), (30, .int .i64 ((ys.length : Int))), (31, .int .i64 ((k : Int)))] rE) _ (slH 119 3 sv m cs :: cellsH b4 [x6, sv] 73 :: intsH 2 x6 f :: cellsH b3 [(.slice none 0 0), (.slice none 0 0)] 73 :: cellsH b2 [gv, ysv] 73 :: cellsH b1 [fv, xsv] 73 :: L)
    replace leG : F9 ≤ G1 := leG
    dsimp only at hk hsv hC hm hD hZ hss
    have hyk := hyb k
    have hml : ss.length = xs.length + k := by rw [hss, List.length_append, List.length_take]; omega
    have leG1 := leG
    replace hys := hys.mono leG1
    refine X.seq (X.region ?_)
    refine cX (XOp.lss (a := (k : Int)) (b := (ys.length : Int)) rfl rfl ?_)
    refine XL.nil (X.seq ?_)
    refine X.condD (p := (k : Int) < (ys.length : Int)) rfl (fun h3 => ?_) (fun h3 => ?_)
    ·refine X.skip (X.seq (X.block (X.seq (X.region ?_))))
     refine cX (XOp.indexS (v := ysv) (i := (k : Int)) (n := (ys).length) k runUnderlying71 sizeOf119 rfl rfl rfl hys.slv (by omega) rfl ?_)
     obtain ⟨a1, ha1, hr9, hr10, hr11⟩ := hys.rd (i := k) (by omega)
     refine cX (XOp.loadN [.int .i64 ((ys.getD k (0, 0, [])).1), .int .i64 ((ys.getD k (0, 0, [])).2.1), a1] isAgg119 sizeOf119 rfl rfl (Rd.three (hr9 _) (hr10 _) (hr11 _)) ?_)
     refine cX (XOp.alloc [.int .i64 (0), .int .i64 (0), (.slice none 0 0)] zeroValue119 rfl ?_)
     intro b5
     refine cX (XOp.storeN (vs := [.int .i64 ((ys.getD k (0, 0, [])).1), .int .i64 ((ys.getD k (0, 0, [])).2.1), a1]) [] _ [.int .i64 ((ys.getD k (0, 0, [])).1), .int .i64 ((ys.getD k (0, 0, [])).2.1), a1] sizeOf119 rfl rfl rfl (ones_cons rfl (ones_cons rfl (ones_cons (one_sl (IntsF.isSl ha1)) ones_nil))) rfl rfl rfl ?_)
     refine XL.nil (X.region ?_)
     refine cX (XOp.loadN [.int .i64 ((ys.getD k (0, 0, [])).1), .int .i64 ((ys.getD k (0, 0, [])).2.1), a1] isAgg119 sizeOf119 rfl rfl (Rd.ownN [] rfl rfl) ?_)
     refine XL.weaken (Sub.front (A := [_])) ?_
     show XL _ _ _ _ _ _ _ (slH 119 3 sv m cs :: cellsH b5 [.int .i64 ((ys.getD k (0, 0, [])).1), .int .i64 ((ys.getD k (0, 0, [])).2.1), a1] 119 :: cellsH b4 [x6, sv] 73 :: intsH 2 x6 f :: cellsH b3 [(.slice none 0 0), (.slice none 0 0)] 73 :: cellsH b2 [gv, ysv] 73 :: cellsH b1 [fv, xsv] 73 :: L)
     refine XL.weaken (Sub.front (A := [_, _])) ?_
     show XL _ _ _ _ _ _ _ (cellsH b4 [x6, sv] 73 :: slH 119 3 sv m cs :: cellsH b5 [.int .i64 ((ys.getD k (0, 0, [])).1), .int .i64 ((ys.getD k (0, 0, [])).2.1), a1] 119 :: intsH 2 x6 f :: cellsH b3 [(.slice none 0 0), (.slice none 0 0)] 73 :: cellsH b2 [gv, ysv] 73 :: cellsH b1 [fv, xsv] 73 :: L)
     refine cX (XOp.call (args := [ptr b4 0, .agg #[.int .i64 ((ys.getD k (0, 0, [])).1), .int .i64 ((ys.getD k (0, 0, [])).2.1), a1]]) call146 rfl (walkAdd_spec ha1 hsv hC (by first | rfl | assumption | omega) (by omega) (by omega)) ?_)
     rintro _ F10 _ le10 ⟨sw1, cw1, hs2, hw1, hf1, rfl⟩
     replace hC := hC.mono le10
     have hc2 := StepsC.snoc hC (i := (ys.getD k (0, 0, [])).1) (j := (ys.getD k (0, 0, [])).2.1) hw1
     show XL _ _ _ _ _ _ _ (cellsH b4 [x6, sw1] 73 :: slH 119 3 sw1 ((m) + 1) ((cs ++ [.int .i64 ((ys.getD k (0, 0, [])).1), .int .i64 ((ys.getD k (0, 0, [])).2.1), cw1])) :: cellsH b5 [.int .i64 ((ys.getD k (0, 0, [])).1), .int .i64 ((ys.getD k (0, 0, [])).2.1), a1] 119 :: intsH 2 x6 f :: cellsH b3 [(.slice none 0 0), (.slice none 0 0)] 73 :: cellsH b2 [gv, ysv] 73 :: cellsH b1 [fv, xsv] 73 :: L)
     refine XL.nil (X.region ?_)
     refine cX (XOp.addR (a := (k : Int)) (b := 1) (((k + 1 : Nat) : Int)) rfl rfl (by omega) (by omega) ?_)
     refine XL.mv (.int .i64 (((k + 1 : Nat) : Int))) rfl ?_
     refine XL.nil ?_
     exact ⟨(k + 1, sw1, (ss ++ [((ys.getD k (0, 0, [])).1, (ys.getD k (0, 0, [])).2.1, (ys.getD k (0, 0, [])).2.2)]), (cs ++ [.int .i64 ((ys.getD k (0, 0, [])).1), .int .i64 ((ys.getD k (0, 0, [])).2.1), cw1]), Ls ++ [intsH 2 cw1 ((ys.getD k (0, 0, [])).2.2)], (m) + 1, F10), _, (FLe.trans leG1 le10), rF, ⟨rfl, rfl, rfl, rfl, rfl, trivial⟩, (Sub.trans (Sub.front (A := [_, _, _, _, _, _])) (Sub.trans (Sub.front (A := [_, _, _, _, _, _])) (Sub.trans (Sub.front (A := [_, _, _, _, _, _])) (Sub.trans (Sub.front (A := [_, _, _, _, _, _])) (Sub.trans (Sub.front (A := [_, _, _, _])) (Sub.trans (Sub.front (A := [_, _, _, _, _])) (Sub.cons (Sub.cons (Sub.cons (Sub.cons (Sub.cons (Sub.cons (Sub.drop sR))))))))))))), ⟨rfl, (FLe.trans leG1 le10), (by (try dsimp only) <;> omega), (hs2), (hc2), (by (try dsimp only); rw [List.length_append]; simp only [List.length_singleton]; omega), (DeepL.snoc hD rfl ⟨_, rfl, rfl⟩), ((Fresh.app hZ (FLe.trans le9 leG1) (Fresh.one hf1) le10)), (by (try dsimp only); rw [take_succ_getD (0, 0, []) (by omega), ← List.append_assoc, ← hss])⟩, (by omega)⟩
    ·refine X.exit (thenQ_exit (thenQ_exit (blockQ_exit ?_)))
     refine X.seq (X.region ?_)
     refine cX (XOp.loadN [x6, sv] isAgg73 sizeOf73 rfl rfl (Rd.ownN [_] rfl rfl) ?_)
     refine cX (XOp.storeN (vs := [x6, sv]) [_, _, _] _ [x6, sv] sizeOf73 rfl rfl rfl (ones_cons (one_sl (IntsF.isSl hr6)) (ones_cons (one_sl hsv) ones_nil)) rfl rfl rfl ?_)
     refine XL.as (.bool (true)) rfl ?_
     refine XL.nil ?_
     refine X.freezeF [_, _] _ _ rfl (fun F11 le11 hz1 => ?_)
     replace hC := hC.mono le11
     have hf2 : IntsF F11 x6 f := intsH.fz (xs := f) hz1.fz
     refine X.freezeF [] _ _ rfl (fun F12 le12 hz2 => ?_)
     replace hC := hC.mono le12
     replace hf2 := hf2.mono le12
     have hf3 : StepsF F12 sv ss := CO.fz hC (by first | rfl | simp | omega) hz2.fz
     refine X.ret (retEnd (L' := L) [.agg #[x6, sv], .bool (true)] (.tuple #[.agg #[x6, sv], .bool (true)]) (.cell rfl (loadNV [x6, sv] isAgg73 sizeOf73 rfl (Rd.ownN [_] rfl rfl)) (.tmp rfl .nil)) rfl (FLe.trans (FLe.trans (FLe.trans (FLe.trans le7 le9) leG1) le11) le12) rF (Sub.drop (Sub.drop (Sub.drop (Sub.drop sR)))) ?_)
     have e9 : ss = xs ++ ys := by rw [hss, List.take_of_length_le (by omega)]
     have e : joinW f xs g ys = (f, ss, true) := by rw [e9]; exact joinW_yes hjoin (by omega)
     exact ⟨_, _, by rw [e], by rw [e]; exact hf2, by rw [e]; exact hf3, by rw [e]; exact ((Fresh.deepM (M := [_]) hD (Fresh.cons hZ (FLe.trans le9 leG1) hz1 le11) (FLe.trans (FLe.trans le9 leG1) le11) hz2 (by first | rfl | omega | (rw [List.length_append]; rfl)) le12).base le7), rfl⟩

/- impl.JoinedWalk -/
set_option maxRecDepth 20000 in
theorem JoinedWalk_spec {F : FH} {L : List HP} {arv : Value} {ar : List Int} (har : IntsF F arv ar) {rsv : Value} {rs : List (List Int × List Int)} (hrs : PairsF F rsv rs) {fv : Value} {f : List Int} (hf : IntsF F fv f) {xsv : Value} {xs : List StepT} (hxs : StepsF F xsv xs) {gv : Value} {g : List Int} (hg : IntsF F gv g) {ysv : Value} {ys : List StepT} (hys : StepsF F ysv ys) (hlf : f.length ≤ 4000000) (hsb : ∀ i, i < xs.length → (xs.getD i (0, 0, [])).2.2.length ≤ 4000000) (hlg : g.length ≤ 4000000) (hyb : ∀ i, i < ys.length → (ys.getD i (0, 0, [])).2.2.length ≤ 4000000) :
    Does prog 38 [.agg #[arv, rsv], .agg #[fv, xsv], .agg #[gv, ysv]] F (L) (fun v F' L' => ∃ (a : Value), ∃ (b : Value), (.tuple #[.agg #[a, b], .bool ((joinedF ar rs f xs g ys).2.2)] : Value) = v ∧ (IntsF F' a (joinedF ar rs f xs g ys).1) ∧ (StepsF F' b (joinedF ar rs f xs g ys).2.1) ∧ (Fresh F F' (star [intsH 2 a (joinedF ar rs f xs g ys).1, stepsD 2 119 b (joinedF ar rs f xs g ys).2.1])) ∧ L = L') := by
 refine Does.of_X func38 rfl rfl rfl ?_
 refine X.seq (X.region ?_)
 refine cX (XOp.box [arv, rsv] rfl rfl ?_)
 intro b1
 refine cX (XOp.box [fv, xsv] rfl rfl ?_)
 intro b2
 refine cX (XOp.box [gv, ysv] rfl rfl ?_)
 intro b3
 refine cX (XOp.alloc [(.slice none 0 0), (.slice none 0 0)] zeroValue73 rfl ?_)
 intro b4
 refine XL.as (.bool (false)) rfl ?_
 refine XL.nil (X.seq (X.seq (X.region ?_)))
 refine cX (XOp.loadN [arv, rsv] isAgg36 sizeOf36 rfl rfl (Rd.ownN [_, _, _] rfl rfl) ?_)
 refine cX (XOp.loadN [fv, xsv] isAgg73 sizeOf73 rfl rfl (Rd.ownN [_, _] rfl rfl) ?_)
 refine cX (XOp.call (args := [.agg #[arv, rsv], .agg #[fv, xsv]]) call91 rfl (WalkOk_spec har hrs hf hxs (hlf := (by first | assumption | rfl | omega | simp)) (hsb := (by first | assumption | rfl | omega | simp))) ?_)
 rintro _ _ _ _ ⟨rfl, rfl, rfl⟩
 refine cX (XOp.notB (b := walkOkL ar rs f xs) rfl ?_)
 refine XL.mv (.bool (!(walkOkL ar rs f xs))) rfl ?_
 by_cases h1 : (!(walkOkL ar rs f xs)) = true
 ·have hw1 : walkOkL ar rs f xs = false := by simpa using h1
  refine XL.no (t := 12) rfl (vB h1) ?_
  refine XL.no (t := 12) rfl (vB h1) ?_
  refine XL.no (t := 12) rfl (vB h1) ?_
  refine XL.no (t := 12) rfl (vB h1) ?_
  refine cX (XOp.pickT (.bool (true)) (vB h1) rfl ?_)
  refine XL.nil ?_
  refine X.condT rfl ?_
  refine X.seq (X.region ?_)
  refine cX (XOp.build [(.slice none 0 0), (.slice none 0 0)] [(.slice none 0 0), (.slice none 0 0)] [(0, 1), (1, 1)] [] runUnderlying73 zeroValue73 rfl (.cons rfl sizeOf22 (.cons rfl sizeOf71 PlacesAre.nil)) rfl CellsAre.nil ?_)
  refine cX (XOp.storeN (vs := [(.slice none 0 0), (.slice none 0 0)]) [] _ [(.slice none 0 0), (.slice none 0 0)] sizeOf73 rfl rfl rfl (ones_cons rfl (ones_cons rfl ones_nil)) rfl rfl rfl ?_)
  refine XL.as (.bool (false)) rfl ?_
  refine XL.nil ?_
  refine X.ret (thenQ_ret (retEnd (L' := L) [.agg #[(.slice none 0 0), (.slice none 0 0)], .bool (false)] (.tuple #[.agg #[(.slice none 0 0), (.slice none 0 0)], .bool (false)]) (.cell rfl (loadNV [(.slice none 0 0), (.slice none 0 0)] isAgg73 sizeOf73 rfl (Rd.ownN [] rfl rfl)) (.tmp rfl .nil)) rfl rF rF (Sub.drop (Sub.drop (Sub.drop (Sub.drop sR)))) ?_))
  have e : joinedF ar rs f xs g ys = ([], [], false) := joinedF_no (by simp_all)
  exact ⟨_, _, by rw [e], by rw [e]; exact IntsF.nilV, by rw [e]; exact SlOf.nilV, by rw [e]; exact Fresh.empty nilWalk, rfl⟩
 ·rw [Bool.not_eq_true] at h1
  have hw1 : walkOkL ar rs f xs = true := by simpa using h1
  have hwb1 := walkOk_bnd hw1
  have hwc1 := hwb1.1
  have hwd1 := hwb1.2.1
  have hel := termOk_len (right_iff.1 (walkOk_end hw1)).2
  refine XL.yes (t := 12) rfl (vB h1) (XOp.loadN [arv, rsv] isAgg36 sizeOf36 rfl rfl (Rd.ownN [_, _, _] rfl rfl) ?_)
  refine XL.yes (t := 12) rfl (vB h1) (XOp.loadN [gv, ysv] isAgg73 sizeOf73 rfl rfl (Rd.ownN [_] rfl rfl) ?_)
  refine XL.yes (t := 12) rfl (vB h1) (XOp.call (args := [.agg #[arv, rsv], .agg #[gv, ysv]]) call91 rfl (WalkOk_spec har hrs hg hys (hlf := (hlg)) (hsb := (hyb))) ?_)
  rintro _ _ _ _ ⟨rfl, rfl, rfl⟩
  refine XL.yes (t := 12) rfl (vB h1) (XOp.notB (b := walkOkL ar rs g ys) rfl ?_)
  refine cX (XOp.pickF (.bool (!(walkOkL ar rs g ys))) (vB h1) rfl ?_)
  refine XL.nil ?_
  refine X.cond (t := !(walkOkL ar rs g ys)) rfl (fun h2 => ?_) (fun h2 => ?_)
  ·have hw2 : walkOkL ar rs g ys = false := by simpa using h2
   refine X.seq (X.region ?_)
   refine cX (XOp.build [(.slice none 0 0), (.slice none 0 0)] [(.slice none 0 0), (.slice none 0 0)] [(0, 1), (1, 1)] [] runUnderlying73 zeroValue73 rfl (.cons rfl sizeOf22 (.cons rfl sizeOf71 PlacesAre.nil)) rfl CellsAre.nil ?_)
   refine cX (XOp.storeN (vs := [(.slice none 0 0), (.slice none 0 0)]) [] _ [(.slice none 0 0), (.slice none 0 0)] sizeOf73 rfl rfl rfl (ones_cons rfl (ones_cons rfl ones_nil)) rfl rfl rfl ?_)
   refine XL.as (.bool (false)) rfl ?_
   refine XL.nil ?_
   refine X.ret (thenQ_ret (retEnd (L' := L) [.agg #[(.slice none 0 0), (.slice none 0 0)], .bool (false)] (.tuple #[.agg #[(.slice none 0 0), (.slice none 0 0)], .bool (false)]) (.cell rfl (loadNV [(.slice none 0 0), (.slice none 0 0)] isAgg73 sizeOf73 rfl (Rd.ownN [] rfl rfl)) (.tmp rfl .nil)) rfl rF rF (Sub.drop (Sub.drop (Sub.drop (Sub.drop sR)))) ?_))
   have e : joinedF ar rs f xs g ys = ([], [], false) := joinedF_no (by simp_all)
   exact ⟨_, _, by rw [e], by rw [e]; exact IntsF.nilV, by rw [e]; exact SlOf.nilV, by rw [e]; exact Fresh.empty nilWalk, rfl⟩
  ·have hw2 : walkOkL ar rs g ys = true := by simpa using h2
   have hwb2 := walkOk_bnd hw2
   have hwc2 := hwb2.1
   have hwd2 := hwb2.2.1
   refine X.skip (X.seq (X.region ?_))
   refine cX (XOp.loadN [fv, xsv] isAgg73 sizeOf73 rfl rfl (Rd.ownN [_, _] rfl rfl) ?_)
   refine cX (XOp.loadN [gv, ysv] isAgg73 sizeOf73 rfl rfl (Rd.ownN [_] rfl rfl) ?_)
   refine cX (XOp.call (args := [.agg #[fv, xsv], .agg #[gv, ysv]]) call92 rfl (joinWalks_spec hf hxs hg hys (hlf := (by first | assumption | rfl | omega | simp)) (hlx := (by first | assumption | rfl | omega | simp)) (hxb := (hwb1.2.2)) (hlg := (by first | assumption | rfl | omega | simp)) (hly := (by first | assumption | rfl | omega | simp)) (hyb := (hwb2.2.2))) ?_)
   rintro _ F1 _ le1 ⟨x1, x2, rfl, hr1, hr2, hr3, rfl⟩
   refine cX (XOp.extract (.agg #[x1, x2]) rfl rfl ?_)
   refine cX (XOp.extract (.bool ((joinW f xs g ys).2.2)) rfl rfl ?_)
   refine cX (XOp.storeN (vs := [x1, x2]) [] _ [x1, x2] sizeOf73 rfl rfl rfl (ones_cons (one_sl (IntsF.isSl hr1)) (ones_cons (one_sl (StepsF.isSl hr2)) ones_nil)) rfl rfl rfl ?_)
   refine XL.as (.bool ((joinW f xs g ys).2.2)) rfl ?_
   refine XL.nil ?_
   refine X.ret (retEnd (L' := L) [.agg #[x1, x2], .bool ((joinW f xs g ys).2.2)] (.tuple #[.agg #[x1, x2], .bool ((joinW f xs g ys).2.2)]) (.cell rfl (loadNV [x1, x2] isAgg73 sizeOf73 rfl (Rd.ownN [] rfl rfl)) (.tmp rfl .nil)) rfl le1 rF (Sub.drop (Sub.drop (Sub.drop (Sub.drop sR)))) ?_)
   have e := joinedF_yes hw1 hw2
   rw [e]
   exact ⟨_, _, rfl, hr1, hr2, hr3, rfl⟩

/- spec.l7CopySteps -/
set_option maxRecDepth 20000 in
theorem l7CopySteps_spec {F : FH} {L : List HP} {ysv : Value} {ys : List StepT} (hys : StepsF F ysv ys) (hly : ys.length ≤ 60) (hyb : ∀ i, i < ys.length → (ys.getD i (0, 0, [])).2.2.length ≤ 60) :
    Does prog 89 [ysv] F (L) (fun v F' L' => ∃ (b : Value), (b : Value) = v ∧ (StepsF F' b ys) ∧ (Fresh F F' (star [stepsD 2 119 b ys])) ∧ L = L') := by
 refine Does.of_X func89 rfl rfl rfl ?_
 refine X.seq (X.region ?_)
 refine XL.as ((.slice none 0 0)) rfl ?_
 refine XL.nil (X.seq (X.region ?_))
 refine cX (XOp.buildSlice (s := 3) [] [.int .i64 (0), .int .i64 (0), (.slice none 0 0)] [] runUnderlying71 sizeOf119 zeroValue119 rfl (by decide) rfl CellsAre.nil rfl ?_)
 intro v1 hv1
 refine XL.as (v1) rfl ?_
 refine XL.nil (X.seq (X.seq (X.region ?_)))
 refine XL.as (.int .i64 (0)) rfl ?_
 refine XL.nil (X.block ?_)
 have hc1 : StepsC F [] ([] : List StepT) := (CO.nil : StepsC F [] [])
 refine X.loop (α := Nat × Value × List StepT × List Value × List HP × Nat × FH) (fun xQ => [(0, ysv), (3, xQ.2.1), (4, .int .i64 (((xQ.1 : Nat) : Int)))]) (fun xQ => slH 119 3 xQ.2.1 xQ.2.2.2.2.2.1 xQ.2.2.2.1 :: L) (fun xQ F' => xQ.2.2.2.2.2.2 = F' ∧ F ≤ xQ.2.2.2.2.2.2 ∧ (xQ.1 ≤ ys.length) ∧ (IsSl xQ.2.1) ∧ (StepsC xQ.2.2.2.2.2.2 xQ.2.2.2.1 xQ.2.2.1) ∧ (xQ.2.2.2.2.2.1 = xQ.2.2.1.length) ∧ (DeepL 3 (StepO 2) xQ.2.2.2.1 xQ.2.2.1 xQ.2.2.2.2.1) ∧ (Fresh F xQ.2.2.2.2.2.2 (star xQ.2.2.2.2.1)) ∧ (xQ.2.2.1 = ys.take xQ.1)) (fun xQ => ys.length - xQ.1) (0, v1, [], [], [], 0, F) ⟨rfl, rfl, rfl, trivial⟩ (Sub.cons sR) ⟨rfl, FLe.refl _, (by (try dsimp only) <;> omega), ((isSl_lit hv1)), (CO.nil), (rfl), (DeepL.nil), (Fresh.nilL), (rfl)⟩ ?_
 rintro ⟨k, sv, ss, cs, Ls, m, G1⟩ rE _ _ ⟨rfl, leG, hk, hsv, hC, hm, hD, hZ, hss⟩
 show X _ _ _ _ (envs [(0, ysv), (3, sv), (4, .int .i64 ((k : Int)))] rE) _ (slH 119 3 sv m cs :: L)
 replace leG : F ≤ G1 := leG
 dsimp only at hk hsv hC hm hD hZ hss
 have hyk := hyb k
 have hml : ss.length = k := by rw [hss, List.length_take]; omega
 have leG1 := leG
 replace hys := hys.mono leG1
 refine X.seq (X.seq (X.region ?_))
 refine XL.mv (.int .i64 ((k : Int))) rfl ?_
 refine XL.mv (ysv) rfl ?_
 refine cX (XOp.lenS (v := ysv) (n := (ys).length) runUnderlying71 rfl hys.slv ?_)
 refine cX (XOp.lss (a := (k : Int)) (b := (ys.length : Int)) rfl rfl ?_)
 refine XL.nil ?_
 refine X.condD (p := (k : Int) < (ys.length : Int)) rfl (fun h1 => ?_) (fun h1 => ?_)
 ·refine X.skip (X.seq (X.block ?_))
  obtain ⟨a1, ha1, hr1, hr2, hr3⟩ := hys.rd (i := k) (by omega)
  refine X.drawG [slH 119 3 sv m cs] L 19 [[], [], [], [], [], [], [], [], [], [], [], [], [], [], [], [], [], [16], [16]] [[], [], [], [1, 2], [3], [4], [], [], [6, 7], [8], [9], [], [], [11, 12], [13], [14], [15], [5, 10, 16], [16, 17]] [[], [], [], [], [], [], [], [], [], [], [], [], [], [], [], [], [], [], []] (phiG [fun FF us v => v = sv, fun FF us v => v = ysv, fun FF us v => v = (.int .i64 ((k : Int)) : Value), fun FF us v => v = (.pointer (some (elemA ysv (k * 3))) : Value), fun FF us v => v = (.pointer (some (elemA ysv (k * 3))) : Value), fun FF us v => v = (.int .i64 ((ys.getD k (0, 0, [])).1) : Value), fun FF us v => v = ysv, fun FF us v => v = (.int .i64 ((k : Int)) : Value), fun FF us v => v = (.pointer (some (elemA ysv (k * 3))) : Value), fun FF us v => v = (.pointer (some (elemA ysv (k * 3 + 1))) : Value), fun FF us v => v = (.int .i64 ((ys.getD k (0, 0, [])).2.1) : Value), fun FF us v => v = ysv, fun FF us v => v = (.int .i64 ((k : Int)) : Value), fun FF us v => v = (.pointer (some (elemA ysv (k * 3))) : Value), fun FF us v => v = (.pointer (some (elemA ysv (k * 3 + 2))) : Value), fun FF us v => v = a1, fun FF us v => ((v) : Value) = v ∧ (IntsF FF (v) (((ys.getD k (0, 0, [])).2.2))) ∧ (FrIntsF G1 FF 2 (v) (((ys.getD k (0, 0, [])).2.2))), fun FF us v => v = (.agg #[.int .i64 ((ys.getD k (0, 0, [])).1), .int .i64 ((ys.getD k (0, 0, [])).2.1), ((us.getD 0 undef))] : Value), fun FF us v => ∃ b, v = .slice (some ⟨b, 0, none⟩) 1 1]) (ownL [fun us v => [], fun us v => [], fun us v => [], fun us v => [], fun us v => [], fun us v => [], fun us v => [], fun us v => [], fun us v => [], fun us v => [], fun us v => [], fun us v => [], fun us v => [], fun us v => [], fun us v => [], fun us v => [], fun us v => [], fun us v => [], fun us v => [slH 119 3 v 1 [.int .i64 ((ys.getD k (0, 0, [])).1), .int .i64 ((ys.getD k (0, 0, [])).2.1), ((us.getD 0 undef))]]]) mixed rfl rfl (by kernel_rfl) (by kernel_rfl) (MonoG.get (MonoG.cons (fun le h => h) (MonoG.cons (fun le h => h) (MonoG.cons (fun le h => h) (MonoG.cons (fun le h => h) (MonoG.cons (fun le h => h) (MonoG.cons (fun le h => h) (MonoG.cons (fun le h => h) (MonoG.cons (fun le h => h) (MonoG.cons (fun le h => h) (MonoG.cons (fun le h => h) (MonoG.cons (fun le h => h) (MonoG.cons (fun le h => h) (MonoG.cons (fun le h => h) (MonoG.cons (fun le h => h) (MonoG.cons (fun le h => h) (MonoG.cons (fun le h => h) (MonoG.cons (fun le h => ⟨h.1, h.2.1.mono le, h.2.2.mono le⟩) (MonoG.cons (fun le h => h) (MonoG.cons (fun le h => h) MonoG.nil)))))))))))))))))))) ?_ ?_
  ·refine stepsG.cons (fun vals Fs R leFs hpZ => ?_) ?_
   ·refine XG.op (XOp.move (sv) rfl ?_)
    exact ⟨rfl, rfl⟩
   refine stepsG.cons (fun vals Fs R leFs hpZ => ?_) ?_
   ·refine XG.op (XOp.move (ysv) rfl ?_)
    exact ⟨rfl, rfl⟩
   refine stepsG.cons (fun vals Fs R leFs hpZ => ?_) ?_
   ·refine XG.op (XOp.move (.int .i64 ((k : Int))) rfl ?_)
    exact ⟨rfl, rfl⟩
   refine stepsG.cons (fun vals Fs R leFs hpZ => ?_) ?_
   ·replace hys := hys.mono leFs
    replace hC := hC.mono leFs
    replace ha1 := ha1.mono leFs
    replace hr1 := Rd.monoA hr1 leFs
    replace hr2 := Rd.monoA hr2 leFs
    replace hr3 := Rd.monoA hr3 leFs
    rw [eS (l := [(1, ysv), (2, (.int .i64 ((k : Int)) : Value))]) ⟨(hpZ 1 (by decide)), (hpZ 2 (by decide)), trivial⟩]
    refine XG.op (XOp.indexS (v := ysv) (i := (k : Int)) (n := (ys).length) k runUnderlying71 sizeOf119 rfl rfl rfl hys.slv (by omega) rfl ?_)
    exact ⟨rfl, rfl⟩
   refine stepsG.cons (fun vals Fs R leFs hpZ => ?_) ?_
   ·rw [eS (l := [(3, (.pointer (some (elemA ysv (k * 3))) : Value))]) ⟨(hpZ 3 (by decide)), trivial⟩]
    refine XG.op (XOp.fieldE (v := ysv) (k * 3) runUnderlying119 rfl sizeOf2 (by decide) rfl rfl ?_)
    exact ⟨rfl, rfl⟩
   refine stepsG.cons (fun vals Fs R leFs hpZ => ?_) ?_
   ·replace hys := hys.mono leFs
    replace hC := hC.mono leFs
    replace ha1 := ha1.mono leFs
    replace hr1 := Rd.monoA hr1 leFs
    replace hr2 := Rd.monoA hr2 leFs
    replace hr3 := Rd.monoA hr3 leFs
    rw [eS (l := [(4, (.pointer (some (elemA ysv (k * 3))) : Value))]) ⟨(hpZ 4 (by decide)), trivial⟩]
    refine XG.op (XOp.load1 (v := .int .i64 ((ys.getD k (0, 0, [])).1)) isAgg2 rfl (hr1 _) ?_)
    exact ⟨rfl, rfl⟩
   refine stepsG.cons (fun vals Fs R leFs hpZ => ?_) ?_
   ·refine XG.op (XOp.move (ysv) rfl ?_)
    exact ⟨rfl, rfl⟩
   refine stepsG.cons (fun vals Fs R leFs hpZ => ?_) ?_
   ·refine XG.op (XOp.move (.int .i64 ((k : Int))) rfl ?_)
    exact ⟨rfl, rfl⟩
   refine stepsG.cons (fun vals Fs R leFs hpZ => ?_) ?_
   ·replace hys := hys.mono leFs
    replace hC := hC.mono leFs
    replace ha1 := ha1.mono leFs
    replace hr2 := Rd.monoA hr2 leFs
    replace hr3 := Rd.monoA hr3 leFs
    rw [eS (l := [(6, ysv), (7, (.int .i64 ((k : Int)) : Value))]) ⟨(hpZ 6 (by decide)), (hpZ 7 (by decide)), trivial⟩]
    refine XG.op (XOp.indexS (v := ysv) (i := (k : Int)) (n := (ys).length) k runUnderlying71 sizeOf119 rfl rfl rfl hys.slv (by omega) rfl ?_)
    exact ⟨rfl, rfl⟩
   refine stepsG.cons (fun vals Fs R leFs hpZ => ?_) ?_
   ·rw [eS (l := [(8, (.pointer (some (elemA ysv (k * 3))) : Value))]) ⟨(hpZ 8 (by decide)), trivial⟩]
    refine XG.op (XOp.fieldE (v := ysv) (k * 3 + 1) runUnderlying119 rfl sizeOf2 (by decide) rfl rfl ?_)
    exact ⟨rfl, rfl⟩
   refine stepsG.cons (fun vals Fs R leFs hpZ => ?_) ?_
   ·replace hys := hys.mono leFs
    replace hC := hC.mono leFs
    replace ha1 := ha1.mono leFs
    replace hr2 := Rd.monoA hr2 leFs
    replace hr3 := Rd.monoA hr3 leFs
    rw [eS (l := [(9, (.pointer (some (elemA ysv (k * 3 + 1))) : Value))]) ⟨(hpZ 9 (by decide)), trivial⟩]
    refine XG.op (XOp.load1 (v := .int .i64 ((ys.getD k (0, 0, [])).2.1)) isAgg2 rfl (hr2 _) ?_)
    exact ⟨rfl, rfl⟩
   refine stepsG.cons (fun vals Fs R leFs hpZ => ?_) ?_
   ·refine XG.op (XOp.move (ysv) rfl ?_)
    exact ⟨rfl, rfl⟩
   refine stepsG.cons (fun vals Fs R leFs hpZ => ?_) ?_
   ·refine XG.op (XOp.move (.int .i64 ((k : Int))) rfl ?_)
    exact ⟨rfl, rfl⟩
   refine stepsG.cons (fun vals Fs R leFs hpZ => ?_) ?_
   ·replace hys := hys.mono leFs
    replace hC := hC.mono leFs
    replace ha1 := ha1.mono leFs
    replace hr3 := Rd.monoA hr3 leFs
    rw [eS (l := [(11, ysv), (12, (.int .i64 ((k : Int)) : Value))]) ⟨(hpZ 11 (by decide)), (hpZ 12 (by decide)), trivial⟩]
    refine XG.op (XOp.indexS (v := ysv) (i := (k : Int)) (n := (ys).length) k runUnderlying71 sizeOf119 rfl rfl rfl hys.slv (by omega) rfl ?_)
    exact ⟨rfl, rfl⟩
   refine stepsG.cons (fun vals Fs R leFs hpZ => ?_) ?_
   ·rw [eS (l := [(13, (.pointer (some (elemA ysv (k * 3))) : Value))]) ⟨(hpZ 13 (by decide)), trivial⟩]
    refine XG.op (XOp.fieldE (v := ysv) (k * 3 + 2) runUnderlying119 rfl sizeOf22 (by decide) rfl rfl ?_)
    exact ⟨rfl, rfl⟩
   refine stepsG.cons (fun vals Fs R leFs hpZ => ?_) ?_
   ·replace hys := hys.mono leFs
    replace hC := hC.mono leFs
    replace ha1 := ha1.mono leFs
    replace hr3 := Rd.monoA hr3 leFs
    rw [eS (l := [(14, (.pointer (some (elemA ysv (k * 3 + 2))) : Value))]) ⟨(hpZ 14 (by decide)), trivial⟩]
    refine XG.op (XOp.load1 (v := a1) isAgg22 rfl (hr3 _) ?_)
    exact ⟨rfl, rfl⟩
   refine stepsG.cons (fun vals Fs R leFs hpZ => ?_) ?_
   ·replace hys := hys.mono leFs
    replace hC := hC.mono leFs
    replace ha1 := ha1.mono leFs
    rw [eS (l := [(15, a1)]) ⟨(hpZ 15 (by decide)), trivial⟩]
    refine XG.op (XOp.frzF <| XOp.call (args := [a1]) call88 rfl (l1Copy_spec ha1 (hlt := (by first | assumption | rfl | omega | simp))) ?_)
    rintro v4 _ _ _ ⟨rfl, hs2, rfl⟩
    refine ⟨_, _, rfl, fun F1 le1 hz1 => ?_⟩
    replace hC := hC.mono le1
    have hf1 : IntsF F1 v4 ((((ys.getD k (0, 0, [])).2.2))) := intsH.fz (xs := (((ys.getD k (0, 0, [])).2.2))) hz1.fz
    exact ⟨⟨rfl, hf1, (hz1.base leFs)⟩, rfl⟩
   refine stepsG.cons (fun vals Fs R leFs hpZ => ?_) ?_
   ·obtain ⟨e16, f16_1ha, f16_1hz⟩ := hpZ 16 (by decide)
    replace hC := hC.mono leFs
    rw [eS (l := [(5, (.int .i64 ((ys.getD k (0, 0, [])).1) : Value)), (10, (.int .i64 ((ys.getD k (0, 0, [])).2.1) : Value)), (16, ((vals 16)))]) ⟨(hpZ 5 (by decide)), (hpZ 10 (by decide)), (e16).symm, trivial⟩]
    refine XG.op (XOp.build [.int .i64 ((ys.getD k (0, 0, [])).1), .int .i64 ((ys.getD k (0, 0, [])).2.1), ((vals 16))] [.int .i64 (0), .int .i64 (0), (.slice none 0 0)] [(0, 1), (1, 1), (2, 1)] [(0, [.int .i64 ((ys.getD k (0, 0, [])).1)]), (1, [.int .i64 ((ys.getD k (0, 0, [])).2.1)]), (2, [((vals 16))])] runUnderlying119 zeroValue119 rfl (.cons rfl sizeOf2 (.cons rfl sizeOf2 (.cons rfl sizeOf22 PlacesAre.nil))) rfl (.cons rfl (.cons rfl (.cons (cells_one (IntsF.isSl f16_1ha)) CellsAre.nil))) ?_)
    exact ⟨rfl, rfl⟩
   refine stepsG.cons (fun vals Fs R leFs hpZ => ?_) ?_
   ·obtain ⟨e16, f16_1ha, f16_1hz⟩ := hpZ 16 (by decide)
    have e17 : vals 17 = (.agg #[.int .i64 ((ys.getD k (0, 0, [])).1), .int .i64 ((ys.getD k (0, 0, [])).2.1), ((vals 16))] : Value) := hpZ 17 (by decide)
    replace hC := hC.mono leFs
    rw [eS (l := [(16, ((vals 16))), (17, (.agg #[.int .i64 ((ys.getD k (0, 0, [])).1), .int .i64 ((ys.getD k (0, 0, [])).2.1), ((vals 16))] : Value))]) ⟨(e16).symm, e17, trivial⟩]
    refine XG.op (XOp.buildSlice (s := 3) [.int .i64 ((ys.getD k (0, 0, [])).1), .int .i64 ((ys.getD k (0, 0, [])).2.1), ((vals 16))] [.int .i64 (0), .int .i64 (0), (.slice none 0 0)] [(0, [.int .i64 ((ys.getD k (0, 0, [])).1), .int .i64 ((ys.getD k (0, 0, [])).2.1), ((vals 16))])] runUnderlying71 sizeOf119 zeroValue119 rfl (by decide) rfl (.cons rfl CellsAre.nil) rfl ?_)
    intro v5 hv3
    exact ⟨hv3, rfl⟩
   exact stepsG.nil
  ·intro vals F2 le2 hphi
   obtain ⟨e16, f16_1ha, f16_1hz⟩ := hphi 16 (by decide)
   have e17 : vals 17 = (.agg #[.int .i64 ((ys.getD k (0, 0, [])).1), .int .i64 ((ys.getD k (0, 0, [])).2.1), ((vals 16))] : Value) := hphi 17 (by decide)
   have f18 : ∃ b, (vals 18) = .slice (some ⟨b, 0, none⟩) 1 1 := hphi 18 (by decide)
   generalize hu1 : ((vals 16)) = u1 at e16 f16_1ha f16_1hz e17 f18
   generalize hu18 : vals 18 = u2 at e16 f16_1ha f16_1hz e17 f18
   rw [eS (l := [(0, sv), (16, u1), (18, u2)]) ⟨(hphi 0 (by decide)), hu1, hu18, trivial⟩]
   replace hC := hC.mono le2
   show XL _ _ _ _ _ _ _ (slH 119 3 u2 1 [.int .i64 ((ys.getD k (0, 0, [])).1), .int .i64 ((ys.getD k (0, 0, [])).2.1), u1] :: slH 119 3 sv m cs :: L)
   refine cX (XOp.append (m := 1) (bytes := 40) (cs := cs) [_] _ [.int .i64 ((ys.getD k (0, 0, [])).1), .int .i64 ((ys.getD k (0, 0, [])).2.1), u1] runUnderlying71 typeInfo119 rfl rfl rfl rfl rfl rfl rfl (SlV.own [] rfl) rfl (Rd.lit [] rfl) (ones_cons rfl (ones_cons rfl (ones_cons (one_sl (IntsF.isSl f16_1ha)) ones_nil))) (by (try simp only [List.length_append, List.length_nil, List.length_cons, List.length_singleton]); omega) (by (try simp only [List.length_append, List.length_nil, List.length_cons, List.length_singleton]); omega) ?_)
   intro v6 hs3 hn1 hm1
   have hc2 := StepsC.snoc hC (i := (ys.getD k (0, 0, [])).1) (j := (ys.getD k (0, 0, [])).2.1) f16_1ha
   skip
   refine XL.as (v6) rfl ?_
   refine XL.nil (X.region ?_)
   refine XL.mv (.int .i64 ((k : Int))) rfl ?_
   refine cX (XOp.addR (a := (k : Int)) (b := 1) (((k + 1 : Nat) : Int)) rfl rfl (by omega) (by omega) ?_)
   refine XL.as (.int .i64 (((k + 1 : Nat) : Int))) rfl ?_
   refine XL.nil ?_
   exact ⟨(k + 1, v6, ss ++ [((ys.getD k (0, 0, [])).1, (ys.getD k (0, 0, [])).2.1, (((ys.getD k (0, 0, [])).2.2)))], cs ++ [.int .i64 ((ys.getD k (0, 0, [])).1), .int .i64 ((ys.getD k (0, 0, [])).2.1), u1], Ls ++ [intsH 2 u1 ((((ys.getD k (0, 0, [])).2.2)))], (m) + 1, F2), _, (FLe.trans leG1 le2), rF, ⟨rfl, rfl, rfl, trivial⟩, (Sub.drop (Sub.cons sR)), ⟨rfl, (FLe.trans leG1 le2), (by (try dsimp only) <;> omega), (hs3), (hc2), (by (try dsimp only); rw [List.length_append]; simp only [List.length_singleton]; omega), (DeepL.snoc hD rfl ⟨_, rfl, rfl⟩), ((Fresh.app hZ leG1 (Fresh.one f16_1hz) le2)), (by (try dsimp only); rw [take_succ_getD (0, 0, []) (by omega), ← hss])⟩, (by omega)⟩
 ·refine X.exit (thenQ_exit (thenQ_exit (blockQ_exit ?_)))
  refine X.seq (X.region ?_)
  refine XL.mv (sv) rfl ?_
  refine XL.as (sv) rfl ?_
  refine XL.nil ?_
  refine X.freezeF [] _ _ rfl (fun F3 le3 hz2 => ?_)
  replace hC := hC.mono le3
  have hf2 : StepsF F3 sv ss := CO.fz hC (by first | rfl | simp | omega) hz2.fz
  refine X.ret (retEnd (L' := L) [sv] (sv) (.tmp rfl .nil) rfl (FLe.trans leG1 le3) rF sR ?_)
  have e9 : ss = ys := by rw [hss, List.take_of_length_le (by omega)]
  subst e9
  exact ⟨_, rfl, hf2, (Fresh.one (Fresh.deep hD hZ leG1 hz2 (by omega) le3)), rfl⟩

/- spec.JoinedWalk -/
set_option maxHeartbeats 1000000 in
set_option maxRecDepth 20000 in
theorem sJoinedWalk_spec {F : FH} {L : List HP} {arv : Value} {ar : List Int} (har : IntsF F arv ar) {rsv : Value} {rs : List (List Int × List Int)} (hrs : PairsF F rsv rs) {fv : Value} {f : List Int} (hf : IntsF F fv f) {xsv : Value} {xs : List StepT} (hxs : StepsF F xsv xs) {gv : Value} {g : List Int} (hg : IntsF F gv g) {ysv : Value} {ys : List StepT} (hys : StepsF F ysv ys) (hla : ar.length ≤ 4000000) (hlr : rs.length ≤ 4000000) (hrb : ∀ i, i < rs.length → (rs.getD i ([], [])).1.length ≤ 4000000 ∧ (rs.getD i ([], [])).2.length ≤ 4000000) (hlss : xs.length ≤ 4000000) (hlys : ys.length ≤ 4000000) (hlf : f.length ≤ 4000000) (hsb : ∀ i, i < xs.length → (xs.getD i (0, 0, [])).2.2.length ≤ 4000000) (hlg : g.length ≤ 4000000) (hyb : ∀ i, i < ys.length → (ys.getD i (0, 0, [])).2.2.length ≤ 4000000) :
    Does prog 36 [.agg #[arv, rsv], .agg #[fv, xsv], .agg #[gv, ysv]] F (L) (fun v F' L' => ∃ (a : Value), ∃ (b : Value), (.tuple #[.agg #[a, b], .bool ((joinedF ar rs f xs g ys).2.2)] : Value) = v ∧ (IntsF F' a (joinedF ar rs f xs g ys).1) ∧ (StepsF F' b (joinedF ar rs f xs g ys).2.1) ∧ L = L') := by
 refine Does.of_X func36 rfl rfl rfl ?_
 refine X.seq (X.region ?_)
 refine cX (XOp.box [arv, rsv] rfl rfl ?_)
 intro b1
 refine cX (XOp.box [fv, xsv] rfl rfl ?_)
 intro b2
 refine cX (XOp.box [gv, ysv] rfl rfl ?_)
 intro b3
 refine cX (XOp.alloc [(.slice none 0 0), (.slice none 0 0)] zeroValue73 rfl ?_)
 intro b4
 refine XL.as (.bool (false)) rfl ?_
 refine XL.nil (X.seq (X.seq ?_))
 by_cases h1 : (!(walkOkL ar rs f xs)) = true
 ·have hw1 : walkOkL ar rs f xs = false := by simpa using h1
  refine X.draw [cellsH b4 [(.slice none 0 0), (.slice none 0 0)] 73, cellsH b3 [gv, ysv] 73, cellsH b2 [fv, xsv] 73, cellsH b1 [arv, rsv] 36] L 25 [[], [], [], [], [], [], [], [], [], [], [], [], [], [], [], [], [], [], [], [], [], [], [], [], []] [[], [], [0, 1], [2], [3], [4], [4], [4, 5, 6], [4, 7], [4, 8], [9], [10], [10, 11], [10], [10, 13], [10, 12, 14], [10, 15], [10, 16], [17], [18], [18, 19], [18, 20], [18], [18, 22], [18, 23]] (phiL [fun us v => v = (.agg #[arv, rsv] : Value), fun us v => v = (.agg #[fv, xsv] : Value), fun us v => v = (.bool (walkOkL ar rs f xs) : Value), fun us v => v = (.bool (!(walkOkL ar rs f xs)) : Value), fun us v => v = (.bool (!(walkOkL ar rs f xs)) : Value), fun us v => v = undef, fun us v => v = undef, fun us v => v = undef, fun us v => v = undef, fun us v => v = (.bool (true) : Value), fun us v => v = (.bool (true) : Value), fun us v => v = undef, fun us v => v = undef, fun us v => v = undef, fun us v => v = undef, fun us v => v = undef, fun us v => v = undef, fun us v => v = (.bool (true) : Value), fun us v => v = (.bool (true) : Value), fun us v => v = undef, fun us v => v = undef, fun us v => v = undef, fun us v => v = undef, fun us v => v = undef, fun us v => v = undef]) (ownL [fun us v => [], fun us v => [], fun us v => [], fun us v => [], fun us v => [], fun us v => [], fun us v => [], fun us v => [], fun us v => [], fun us v => [], fun us v => [], fun us v => [], fun us v => [], fun us v => [], fun us v => [], fun us v => [], fun us v => [], fun us v => [], fun us v => [], fun us v => [], fun us v => [], fun us v => [], fun us v => [], fun us v => [], fun us v => []]) mixed rfl rfl (by kernel_rfl) ?_ ?_
  ·refine stepsP.cons (fun vals R hpZ => ?_) ?_
   ·refine XG.op (XOp.loadN [arv, rsv] isAgg36 sizeOf36 rfl rfl (Rd.ownN [_, _, _] rfl rfl) ?_)
    exact ⟨rfl, rfl, rfl⟩
   refine stepsP.cons (fun vals R hpZ => ?_) ?_
   ·refine XG.op (XOp.loadN [fv, xsv] isAgg73 sizeOf73 rfl rfl (Rd.ownN [_, _] rfl rfl) ?_)
    exact ⟨rfl, rfl, rfl⟩
   refine stepsP.cons (fun vals R hpZ => ?_) ?_
   ·rw [eS (l := [(0, (.agg #[arv, rsv] : Value)), (1, (.agg #[fv, xsv] : Value))]) ⟨hpZ 0 (by decide), hpZ 1 (by decide), trivial⟩]
    refine XG.op (XOp.call (args := [.agg #[arv, rsv], .agg #[fv, xsv]]) call86 rfl (sWalkOk_spec har hrs hf hxs (hla := (by first | assumption | rfl | omega | simp)) (hlr := (by first | assumption | rfl | omega | simp)) (hrb := (by first | assumption | rfl | omega | simp)) (hlf := (by first | assumption | rfl | omega | simp)) (hlss := (by first | assumption | rfl | omega | simp)) (hsb := (by first | assumption | rfl | omega | simp))) ?_)
    rintro _ _ _ _ ⟨rfl, rfl, rfl⟩
    exact ⟨rfl, rfl, rfl⟩
   refine stepsP.cons (fun vals R hpZ => ?_) ?_
   ·rw [eS (l := [(2, (.bool (walkOkL ar rs f xs) : Value))]) ⟨hpZ 2 (by decide), trivial⟩]
    refine XG.op (XOp.notB (b := walkOkL ar rs f xs) rfl ?_)
    exact ⟨rfl, rfl, rfl⟩
   refine stepsP.cons (fun vals R hpZ => ?_) ?_
   ·rw [eS (l := [(3, (.bool (!(walkOkL ar rs f xs)) : Value))]) ⟨hpZ 3 (by decide), trivial⟩]
    refine XG.op (XOp.move (.bool (!(walkOkL ar rs f xs))) rfl ?_)
    exact ⟨rfl, rfl, rfl⟩
   refine stepsP.cons (fun vals R hpZ => ?_) ?_
   ·rw [eS (l := [(4, (.bool (!(walkOkL ar rs f xs)) : Value))]) ⟨hpZ 4 (by decide), trivial⟩]
    exact XG.no (t := 12) rfl (vB h1) ⟨rfl, rfl, rfl⟩
   refine stepsP.cons (fun vals R hpZ => ?_) ?_
   ·rw [eS (l := [(4, (.bool (!(walkOkL ar rs f xs)) : Value))]) ⟨hpZ 4 (by decide), trivial⟩]
    exact XG.no (t := 12) rfl (vB h1) ⟨rfl, rfl, rfl⟩
   refine stepsP.cons (fun vals R hpZ => ?_) ?_
   ·rw [eS (l := [(4, (.bool (!(walkOkL ar rs f xs)) : Value)), (5, undef), (6, undef)]) ⟨hpZ 4 (by decide), hpZ 5 (by decide), hpZ 6 (by decide), trivial⟩]
    exact XG.no (t := 12) rfl (vB h1) ⟨rfl, rfl, rfl⟩
   refine stepsP.cons (fun vals R hpZ => ?_) ?_
   ·rw [eS (l := [(4, (.bool (!(walkOkL ar rs f xs)) : Value)), (7, undef)]) ⟨hpZ 4 (by decide), hpZ 7 (by decide), trivial⟩]
    exact XG.no (t := 12) rfl (vB h1) ⟨rfl, rfl, rfl⟩
   refine stepsP.cons (fun vals R hpZ => ?_) ?_
   ·rw [eS (l := [(4, (.bool (!(walkOkL ar rs f xs)) : Value)), (8, undef)]) ⟨hpZ 4 (by decide), hpZ 8 (by decide), trivial⟩]
    refine XG.op (XOp.pickT (.bool (true)) (vB h1) rfl ?_)
    exact ⟨rfl, rfl, rfl⟩
   refine stepsP.cons (fun vals R hpZ => ?_) ?_
   ·rw [eS (l := [(9, (.bool (true) : Value))]) ⟨hpZ 9 (by decide), trivial⟩]
    refine XG.op (XOp.move (.bool (true)) rfl ?_)
    exact ⟨rfl, rfl, rfl⟩
   refine stepsP.cons (fun vals R hpZ => ?_) ?_
   ·rw [eS (l := [(10, (.bool (true) : Value))]) ⟨hpZ 10 (by decide), trivial⟩]
    exact XG.no (t := 18) rfl rfl ⟨rfl, rfl, rfl⟩
   refine stepsP.cons (fun vals R hpZ => ?_) ?_
   ·rw [eS (l := [(10, (.bool (true) : Value)), (11, undef)]) ⟨hpZ 10 (by decide), hpZ 11 (by decide), trivial⟩]
    exact XG.no (t := 18) rfl rfl ⟨rfl, rfl, rfl⟩
   refine stepsP.cons (fun vals R hpZ => ?_) ?_
   ·rw [eS (l := [(10, (.bool (true) : Value))]) ⟨hpZ 10 (by decide), trivial⟩]
    exact XG.no (t := 18) rfl rfl ⟨rfl, rfl, rfl⟩
   refine stepsP.cons (fun vals R hpZ => ?_) ?_
   ·rw [eS (l := [(10, (.bool (true) : Value)), (13, undef)]) ⟨hpZ 10 (by decide), hpZ 13 (by decide), trivial⟩]
    exact XG.no (t := 18) rfl rfl ⟨rfl, rfl, rfl⟩
   refine stepsP.cons (fun vals R hpZ => ?_) ?_
   ·rw [eS (l := [(10, (.bool (true) : Value)), (12, undef), (14, undef)]) ⟨hpZ 10 (by decide), hpZ 12 (by decide), hpZ 14 (by decide), trivial⟩]
    exact XG.no (t := 18) rfl rfl ⟨rfl, rfl, rfl⟩
   refine stepsP.cons (fun vals R hpZ => ?_) ?_
   ·rw [eS (l := [(10, (.bool (true) : Value)), (15, undef)]) ⟨hpZ 10 (by decide), hpZ 15 (by decide), trivial⟩]
    exact XG.no (t := 18) rfl rfl ⟨rfl, rfl, rfl⟩
   refine stepsP.cons (fun vals R hpZ => ?_) ?_
   ·rw [eS (l := [(10, (.bool (true) : Value)), (16, undef)]) ⟨hpZ 10 (by decide), hpZ 16 (by decide), trivial⟩]
    refine XG.op (XOp.pickT (.bool (true)) rfl rfl ?_)
    exact ⟨rfl, rfl, rfl⟩
   refine stepsP.cons (fun vals R hpZ => ?_) ?_
   ·rw [eS (l := [(17, (.bool (true) : Value))]) ⟨hpZ 17 (by decide), trivial⟩]
    refine XG.op (XOp.move (.bool (true)) rfl ?_)
    exact ⟨rfl, rfl, rfl⟩
   refine stepsP.cons (fun vals R hpZ => ?_) ?_
   ·rw [eS (l := [(18, (.bool (true) : Value))]) ⟨hpZ 18 (by decide), trivial⟩]
    exact XG.no (t := 26) rfl rfl ⟨rfl, rfl, rfl⟩
   refine stepsP.cons (fun vals R hpZ => ?_) ?_
   ·rw [eS (l := [(18, (.bool (true) : Value)), (19, undef)]) ⟨hpZ 18 (by decide), hpZ 19 (by decide), trivial⟩]
    exact XG.no (t := 26) rfl rfl ⟨rfl, rfl, rfl⟩
   refine stepsP.cons (fun vals R hpZ => ?_) ?_
   ·rw [eS (l := [(18, (.bool (true) : Value)), (20, undef)]) ⟨hpZ 18 (by decide), hpZ 20 (by decide), trivial⟩]
    exact XG.no (t := 26) rfl rfl ⟨rfl, rfl, rfl⟩
   refine stepsP.cons (fun vals R hpZ => ?_) ?_
   ·rw [eS (l := [(18, (.bool (true) : Value))]) ⟨hpZ 18 (by decide), trivial⟩]
    exact XG.no (t := 26) rfl rfl ⟨rfl, rfl, rfl⟩
   refine stepsP.cons (fun vals R hpZ => ?_) ?_
   ·rw [eS (l := [(18, (.bool (true) : Value)), (22, undef)]) ⟨hpZ 18 (by decide), hpZ 22 (by decide), trivial⟩]
    exact XG.no (t := 26) rfl rfl ⟨rfl, rfl, rfl⟩
   refine stepsP.cons (fun vals R hpZ => ?_) ?_
   ·rw [eS (l := [(18, (.bool (true) : Value)), (23, undef)]) ⟨hpZ 18 (by decide), hpZ 23 (by decide), trivial⟩]
    exact XG.no (t := 26) rfl rfl ⟨rfl, rfl, rfl⟩
   exact stepsP.nil
  ·intro vals hphi
   rw [eS (l := [(18, (.bool (true) : Value)), (21, undef), (24, undef)]) ⟨(hphi 18 (by decide)), (hphi 21 (by decide)), (hphi 24 (by decide)), trivial⟩]
   show XL _ _ _ _ _ _ _ (cellsH b4 [(.slice none 0 0), (.slice none 0 0)] 73 :: cellsH b3 [gv, ysv] 73 :: cellsH b2 [fv, xsv] 73 :: cellsH b1 [arv, rsv] 36 :: L)
   refine XL.no (t := 26) rfl rfl ?_
   refine XL.no (t := 26) rfl rfl ?_
   refine cX (XOp.pickT (.bool (true)) rfl rfl ?_)
   refine XL.nil ?_
   refine X.condT rfl ?_
   refine X.seq (X.region ?_)
   refine cX (XOp.build [(.slice none 0 0), (.slice none 0 0)] [(.slice none 0 0), (.slice none 0 0)] [(0, 1), (1, 1)] [] runUnderlying73 zeroValue73 rfl (.cons rfl sizeOf22 (.cons rfl sizeOf71 PlacesAre.nil)) rfl CellsAre.nil ?_)
   refine cX (XOp.storeN (vs := [(.slice none 0 0), (.slice none 0 0)]) [] _ [(.slice none 0 0), (.slice none 0 0)] sizeOf73 rfl rfl rfl (ones_cons rfl (ones_cons rfl ones_nil)) rfl rfl rfl ?_)
   refine XL.as (.bool (false)) rfl ?_
   refine XL.nil ?_
   refine X.ret (thenQ_ret (retEnd (L' := L) [.agg #[(.slice none 0 0), (.slice none 0 0)], .bool (false)] (.tuple #[.agg #[(.slice none 0 0), (.slice none 0 0)], .bool (false)]) (.cell rfl (loadNV [(.slice none 0 0), (.slice none 0 0)] isAgg73 sizeOf73 rfl (Rd.ownN [] rfl rfl)) (.tmp rfl .nil)) rfl rF rF (Sub.drop (Sub.drop (Sub.drop (Sub.drop sR)))) ?_))
   have e : joinedF ar rs f xs g ys = ([], [], false) := by first | exact (joinedF_yes hw1 hw2).trans (joinW_no hjoin) | exact (joinedF_yes hw1 hw2).trans (joinW_long (by omega)) | exact joinedF_no (by simp_all)
   exact ⟨_, _, by rw [e], by rw [e]; exact IntsF.nilV, by rw [e]; exact SlOf.nilV, rfl⟩
 ·rw [Bool.not_eq_true] at h1
  have hw1 : walkOkL ar rs f xs = true := by simpa using h1
  have hwb1 := walkOk_bnd hw1
  have hwc1 := hwb1.1
  have hwd1 := hwb1.2.1
  have hel := termOk_len (right_iff.1 (walkOk_end hw1)).2
  by_cases h2 : (!(walkOkL ar rs g ys)) = true
  ·have hw2 : walkOkL ar rs g ys = false := by simpa using h2
   refine X.draw [cellsH b4 [(.slice none 0 0), (.slice none 0 0)] 73, cellsH b3 [gv, ysv] 73, cellsH b2 [fv, xsv] 73, cellsH b1 [arv, rsv] 36] L 25 [[], [], [], [], [], [], [], [], [], [], [], [], [], [], [], [], [], [], [], [], [], [], [], [], []] [[], [], [0, 1], [2], [3], [4], [4], [4, 5, 6], [4, 7], [4, 8], [9], [10], [10, 11], [10], [10, 13], [10, 12, 14], [10, 15], [10, 16], [17], [18], [18, 19], [18, 20], [18], [18, 22], [18, 23]] (phiL [fun us v => v = (.agg #[arv, rsv] : Value), fun us v => v = (.agg #[fv, xsv] : Value), fun us v => v = (.bool (walkOkL ar rs f xs) : Value), fun us v => v = (.bool (!(walkOkL ar rs f xs)) : Value), fun us v => v = (.bool (!(walkOkL ar rs f xs)) : Value), fun us v => v = (.agg #[arv, rsv] : Value), fun us v => v = (.agg #[gv, ysv] : Value), fun us v => v = (.bool (walkOkL ar rs g ys) : Value), fun us v => v = (.bool (!(walkOkL ar rs g ys)) : Value), fun us v => v = (.bool (!(walkOkL ar rs g ys)) : Value), fun us v => v = (.bool (!(walkOkL ar rs g ys)) : Value), fun us v => v = undef, fun us v => v = undef, fun us v => v = undef, fun us v => v = undef, fun us v => v = undef, fun us v => v = undef, fun us v => v = (.bool (true) : Value), fun us v => v = (.bool (true) : Value), fun us v => v = undef, fun us v => v = undef, fun us v => v = undef, fun us v => v = undef, fun us v => v = undef, fun us v => v = undef]) (ownL [fun us v => [], fun us v => [], fun us v => [], fun us v => [], fun us v => [], fun us v => [], fun us v => [], fun us v => [], fun us v => [], fun us v => [], fun us v => [], fun us v => [], fun us v => [], fun us v => [], fun us v => [], fun us v => [], fun us v => [], fun us v => [], fun us v => [], fun us v => [], fun us v => [], fun us v => [], fun us v => [], fun us v => [], fun us v => []]) mixed rfl rfl (by kernel_rfl) ?_ ?_
   ·refine stepsP.cons (fun vals R hpZ => ?_) ?_
    ·refine XG.op (XOp.loadN [arv, rsv] isAgg36 sizeOf36 rfl rfl (Rd.ownN [_, _, _] rfl rfl) ?_)
     exact ⟨rfl, rfl, rfl⟩
    refine stepsP.cons (fun vals R hpZ => ?_) ?_
    ·refine XG.op (XOp.loadN [fv, xsv] isAgg73 sizeOf73 rfl rfl (Rd.ownN [_, _] rfl rfl) ?_)
     exact ⟨rfl, rfl, rfl⟩
    refine stepsP.cons (fun vals R hpZ => ?_) ?_
    ·rw [eS (l := [(0, (.agg #[arv, rsv] : Value)), (1, (.agg #[fv, xsv] : Value))]) ⟨hpZ 0 (by decide), hpZ 1 (by decide), trivial⟩]
     refine XG.op (XOp.call (args := [.agg #[arv, rsv], .agg #[fv, xsv]]) call86 rfl (sWalkOk_spec har hrs hf hxs (hla := (by first | assumption | rfl | omega | simp)) (hlr := (by first | assumption | rfl | omega | simp)) (hrb := (by first | assumption | rfl | omega | simp)) (hlf := (by first | assumption | rfl | omega | simp)) (hlss := (by first | assumption | rfl | omega | simp)) (hsb := (by first | assumption | rfl | omega | simp))) ?_)
     rintro _ _ _ _ ⟨rfl, rfl, rfl⟩
     exact ⟨rfl, rfl, rfl⟩
    refine stepsP.cons (fun vals R hpZ => ?_) ?_
    ·rw [eS (l := [(2, (.bool (walkOkL ar rs f xs) : Value))]) ⟨hpZ 2 (by decide), trivial⟩]
     refine XG.op (XOp.notB (b := walkOkL ar rs f xs) rfl ?_)
     exact ⟨rfl, rfl, rfl⟩
    refine stepsP.cons (fun vals R hpZ => ?_) ?_
    ·rw [eS (l := [(3, (.bool (!(walkOkL ar rs f xs)) : Value))]) ⟨hpZ 3 (by decide), trivial⟩]
     refine XG.op (XOp.move (.bool (!(walkOkL ar rs f xs))) rfl ?_)
     exact ⟨rfl, rfl, rfl⟩
    refine stepsP.cons (fun vals R hpZ => ?_) ?_
    ·rw [eS (l := [(4, (.bool (!(walkOkL ar rs f xs)) : Value))]) ⟨hpZ 4 (by decide), trivial⟩]
     refine XG.yes (t := 12) rfl (vB h1) (XOp.loadN [arv, rsv] isAgg36 sizeOf36 rfl rfl (Rd.ownN [_, _, _] rfl rfl) ?_)
     exact ⟨rfl, rfl, rfl⟩
    refine stepsP.cons (fun vals R hpZ => ?_) ?_
    ·rw [eS (l := [(4, (.bool (!(walkOkL ar rs f xs)) : Value))]) ⟨hpZ 4 (by decide), trivial⟩]
     refine XG.yes (t := 12) rfl (vB h1) (XOp.loadN [gv, ysv] isAgg73 sizeOf73 rfl rfl (Rd.ownN [_] rfl rfl) ?_)
     exact ⟨rfl, rfl, rfl⟩
    refine stepsP.cons (fun vals R hpZ => ?_) ?_
    ·rw [eS (l := [(4, (.bool (!(walkOkL ar rs f xs)) : Value)), (5, (.agg #[arv, rsv] : Value)), (6, (.agg #[gv, ysv] : Value))]) ⟨hpZ 4 (by decide), hpZ 5 (by decide), hpZ 6 (by decide), trivial⟩]
     refine XG.yes (t := 12) rfl (vB h1) (XOp.call (args := [.agg #[arv, rsv], .agg #[gv, ysv]]) call86 rfl (sWalkOk_spec har hrs hg hys (hla := (by first | assumption | rfl | omega | simp)) (hlr := (by first | assumption | rfl | omega | simp)) (hrb := (by first | assumption | rfl | omega | simp)) (hlf := (hlg)) (hlss := (hlys)) (hsb := (hyb))) ?_)
     rintro _ _ _ _ ⟨rfl, rfl, rfl⟩
     exact ⟨rfl, rfl, rfl⟩
    refine stepsP.cons (fun vals R hpZ => ?_) ?_
    ·rw [eS (l := [(4, (.bool (!(walkOkL ar rs f xs)) : Value)), (7, (.bool (walkOkL ar rs g ys) : Value))]) ⟨hpZ 4 (by decide), hpZ 7 (by decide), trivial⟩]
     refine XG.yes (t := 12) rfl (vB h1) (XOp.notB (b := walkOkL ar rs g ys) rfl ?_)
     exact ⟨rfl, rfl, rfl⟩
    refine stepsP.cons (fun vals R hpZ => ?_) ?_
    ·rw [eS (l := [(4, (.bool (!(walkOkL ar rs f xs)) : Value)), (8, (.bool (!(walkOkL ar rs g ys)) : Value))]) ⟨hpZ 4 (by decide), hpZ 8 (by decide), trivial⟩]
     refine XG.op (XOp.pickF (.bool (!(walkOkL ar rs g ys))) (vB h1) rfl ?_)
     exact ⟨rfl, rfl, rfl⟩
    refine stepsP.cons (fun vals R hpZ => ?_) ?_
    ·rw [eS (l := [(9, (.bool (!(walkOkL ar rs g ys)) : Value))]) ⟨hpZ 9 (by decide), trivial⟩]
     refine XG.op (XOp.move (.bool (!(walkOkL ar rs g ys))) rfl ?_)
     exact ⟨rfl, rfl, rfl⟩
    refine stepsP.cons (fun vals R hpZ => ?_) ?_
    ·rw [eS (l := [(10, (.bool (!(walkOkL ar rs g ys)) : Value))]) ⟨hpZ 10 (by decide), trivial⟩]
     exact XG.no (t := 18) rfl (vB h2) ⟨rfl, rfl, rfl⟩
    refine stepsP.cons (fun vals R hpZ => ?_) ?_
    ·rw [eS (l := [(10, (.bool (!(walkOkL ar rs g ys)) : Value)), (11, undef)]) ⟨hpZ 10 (by decide), hpZ 11 (by decide), trivial⟩]
     exact XG.no (t := 18) rfl (vB h2) ⟨rfl, rfl, rfl⟩
    refine stepsP.cons (fun vals R hpZ => ?_) ?_
    ·rw [eS (l := [(10, (.bool (!(walkOkL ar rs g ys)) : Value))]) ⟨hpZ 10 (by decide), trivial⟩]
     exact XG.no (t := 18) rfl (vB h2) ⟨rfl, rfl, rfl⟩
    refine stepsP.cons (fun vals R hpZ => ?_) ?_
    ·rw [eS (l := [(10, (.bool (!(walkOkL ar rs g ys)) : Value)), (13, undef)]) ⟨hpZ 10 (by decide), hpZ 13 (by decide), trivial⟩]
     exact XG.no (t := 18) rfl (vB h2) ⟨rfl, rfl, rfl⟩
    refine stepsP.cons (fun vals R hpZ => ?_) ?_
    ·rw [eS (l := [(10, (.bool (!(walkOkL ar rs g ys)) : Value)), (12, undef), (14, undef)]) ⟨hpZ 10 (by decide), hpZ 12 (by decide), hpZ 14 (by decide), trivial⟩]
     exact XG.no (t := 18) rfl (vB h2) ⟨rfl, rfl, rfl⟩
    refine stepsP.cons (fun vals R hpZ => ?_) ?_
    ·rw [eS (l := [(10, (.bool (!(walkOkL ar rs g ys)) : Value)), (15, undef)]) ⟨hpZ 10 (by decide), hpZ 15 (by decide), trivial⟩]
     exact XG.no (t := 18) rfl (vB h2) ⟨rfl, rfl, rfl⟩
    refine stepsP.cons (fun vals R hpZ => ?_) ?_
    ·rw [eS (l := [(10, (.bool (!(walkOkL ar rs g ys)) : Value)), (16, undef)]) ⟨hpZ 10 (by decide), hpZ 16 (by decide), trivial⟩]
     refine XG.op (XOp.pickT (.bool (true)) (vB h2) rfl ?_)
     exact ⟨rfl, rfl, rfl⟩
    refine stepsP.cons (fun vals R hpZ => ?_) ?_
    ·rw [eS (l := [(17, (.bool (true) : Value))]) ⟨hpZ 17 (by decide), trivial⟩]
     refine XG.op (XOp.move (.bool (true)) rfl ?_)
     exact ⟨rfl, rfl, rfl⟩
    refine stepsP.cons (fun vals R hpZ => ?_) ?_
    ·rw [eS (l := [(18, (.bool (true) : Value))]) ⟨hpZ 18 (by decide), trivial⟩]
     exact XG.no (t := 26) rfl rfl ⟨rfl, rfl, rfl⟩
    refine stepsP.cons (fun vals R hpZ => ?_) ?_
    ·rw [eS (l := [(18, (.bool (true) : Value)), (19, undef)]) ⟨hpZ 18 (by decide), hpZ 19 (by decide), trivial⟩]
     exact XG.no (t := 26) rfl rfl ⟨rfl, rfl, rfl⟩
    refine stepsP.cons (fun vals R hpZ => ?_) ?_
    ·rw [eS (l := [(18, (.bool (true) : Value)), (20, undef)]) ⟨hpZ 18 (by decide), hpZ 20 (by decide), trivial⟩]
     exact XG.no (t := 26) rfl rfl ⟨rfl, rfl, rfl⟩
    refine stepsP.cons (fun vals R hpZ => ?_) ?_
    ·rw [eS (l := [(18, (.bool (true) : Value))]) ⟨hpZ 18 (by decide), trivial⟩]
     exact XG.no (t := 26) rfl rfl ⟨rfl, rfl, rfl⟩
    refine stepsP.cons (fun vals R hpZ => ?_) ?_
    ·rw [eS (l := [(18, (.bool (true) : Value)), (22, undef)]) ⟨hpZ 18 (by decide), hpZ 22 (by decide), trivial⟩]
     exact XG.no (t := 26) rfl rfl ⟨rfl, rfl, rfl⟩
    refine stepsP.cons (fun vals R hpZ => ?_) ?_
    ·rw [eS (l := [(18, (.bool (true) : Value)), (23, undef)]) ⟨hpZ 18 (by decide), hpZ 23 (by decide), trivial⟩]
     exact XG.no (t := 26) rfl rfl ⟨rfl, rfl, rfl⟩
    exact stepsP.nil
   ·intro vals hphi
    rw [eS (l := [(18, (.bool (true) : Value)), (21, undef), (24, undef)]) ⟨(hphi 18 (by decide)), (hphi 21 (by decide)), (hphi 24 (by decide)), trivial⟩]
    show XL _ _ _ _ _ _ _ (cellsH b4 [(.slice none 0 0), (.slice none 0 0)] 73 :: cellsH b3 [gv, ysv] 73 :: cellsH b2 [fv, xsv] 73 :: cellsH b1 [arv, rsv] 36 :: L)
    refine XL.no (t := 26) rfl rfl ?_
    refine XL.no (t := 26) rfl rfl ?_
    refine cX (XOp.pickT (.bool (true)) rfl rfl ?_)
    refine XL.nil ?_
    refine X.condT rfl ?_
    refine X.seq (X.region ?_)
    refine cX (XOp.build [(.slice none 0 0), (.slice none 0 0)] [(.slice none 0 0), (.slice none 0 0)] [(0, 1), (1, 1)] [] runUnderlying73 zeroValue73 rfl (.cons rfl sizeOf22 (.cons rfl sizeOf71 PlacesAre.nil)) rfl CellsAre.nil ?_)
    refine cX (XOp.storeN (vs := [(.slice none 0 0), (.slice none 0 0)]) [] _ [(.slice none 0 0), (.slice none 0 0)] sizeOf73 rfl rfl rfl (ones_cons rfl (ones_cons rfl ones_nil)) rfl rfl rfl ?_)
    refine XL.as (.bool (false)) rfl ?_
    refine XL.nil ?_
    refine X.ret (thenQ_ret (retEnd (L' := L) [.agg #[(.slice none 0 0), (.slice none 0 0)], .bool (false)] (.tuple #[.agg #[(.slice none 0 0), (.slice none 0 0)], .bool (false)]) (.cell rfl (loadNV [(.slice none 0 0), (.slice none 0 0)] isAgg73 sizeOf73 rfl (Rd.ownN [] rfl rfl)) (.tmp rfl .nil)) rfl rF rF (Sub.drop (Sub.drop (Sub.drop (Sub.drop sR)))) ?_))
    have e : joinedF ar rs f xs g ys = ([], [], false) := by first | exact (joinedF_yes hw1 hw2).trans (joinW_no hjoin) | exact (joinedF_yes hw1 hw2).trans (joinW_long (by omega)) | exact joinedF_no (by simp_all)
    exact ⟨_, _, by rw [e], by rw [e]; exact IntsF.nilV, by rw [e]; exact SlOf.nilV, rfl⟩
  ·rw [Bool.not_eq_true] at h2
   have hw2 : walkOkL ar rs g ys = true := by simpa using h2
   have hwb2 := walkOk_bnd hw2
   have hwc2 := hwb2.1
   have hwd2 := hwb2.2.1
   by_cases h3 : ¬(((endL f xs)) = g)
   ·have hjoin : endL f xs ≠ g := by simpa using h3
    refine X.drawG [cellsH b4 [(.slice none 0 0), (.slice none 0 0)] 73, cellsH b3 [gv, ysv] 73, cellsH b2 [fv, xsv] 73, cellsH b1 [arv, rsv] 36] L 25 [[], [], [], [], [], [], [], [], [], [], [], [], [], [], [], [], [], [], [], [], [], [], [], [], []] [[], [], [0, 1], [2], [3], [4], [4], [4, 5, 6], [4, 7], [4, 8], [9], [10], [10, 11], [10], [10, 13], [10, 12, 14], [10, 15], [10, 16], [17], [18], [18, 19], [18, 20], [18], [18, 22], [18, 23]] [[], [], [], [], [], [], [], [], [], [], [], [], [], [], [], [], [], [], [], [], [], [], [], [], []] (phiG [fun FF us v => v = (.agg #[arv, rsv] : Value), fun FF us v => v = (.agg #[fv, xsv] : Value), fun FF us v => v = (.bool (walkOkL ar rs f xs) : Value), fun FF us v => v = (.bool (!(walkOkL ar rs f xs)) : Value), fun FF us v => v = (.bool (!(walkOkL ar rs f xs)) : Value), fun FF us v => v = (.agg #[arv, rsv] : Value), fun FF us v => v = (.agg #[gv, ysv] : Value), fun FF us v => v = (.bool (walkOkL ar rs g ys) : Value), fun FF us v => v = (.bool (!(walkOkL ar rs g ys)) : Value), fun FF us v => v = (.bool (!(walkOkL ar rs g ys)) : Value), fun FF us v => v = (.bool (!(walkOkL ar rs g ys)) : Value), fun FF us v => v = (.agg #[fv, xsv] : Value), fun FF us v => ((v) : Value) = v ∧ (IntsF FF (v) (endL f xs)), fun FF us v => v = ptr b3 0, fun FF us v => v = gv, fun FF us v => v = (.bool (decide (((endL f xs)) = g)) : Value), fun FF us v => v = (.bool (decide (¬(((endL f xs)) = g))) : Value), fun FF us v => v = (.bool (decide (¬(((endL f xs)) = g))) : Value), fun FF us v => v = (.bool (decide (¬(((endL f xs)) = g))) : Value), fun FF us v => v = undef, fun FF us v => v = undef, fun FF us v => v = undef, fun FF us v => v = undef, fun FF us v => v = undef, fun FF us v => v = undef]) (ownL [fun us v => [], fun us v => [], fun us v => [], fun us v => [], fun us v => [], fun us v => [], fun us v => [], fun us v => [], fun us v => [], fun us v => [], fun us v => [], fun us v => [], fun us v => [], fun us v => [], fun us v => [], fun us v => [], fun us v => [], fun us v => [], fun us v => [], fun us v => [], fun us v => [], fun us v => [], fun us v => [], fun us v => [], fun us v => []]) mixed rfl rfl (by kernel_rfl) (by kernel_rfl) (MonoG.get (MonoG.cons (fun le h => h) (MonoG.cons (fun le h => h) (MonoG.cons (fun le h => h) (MonoG.cons (fun le h => h) (MonoG.cons (fun le h => h) (MonoG.cons (fun le h => h) (MonoG.cons (fun le h => h) (MonoG.cons (fun le h => h) (MonoG.cons (fun le h => h) (MonoG.cons (fun le h => h) (MonoG.cons (fun le h => h) (MonoG.cons (fun le h => h) (MonoG.cons (fun le h => ⟨h.1, h.2.mono le⟩) (MonoG.cons (fun le h => h) (MonoG.cons (fun le h => h) (MonoG.cons (fun le h => h) (MonoG.cons (fun le h => h) (MonoG.cons (fun le h => h) (MonoG.cons (fun le h => h) (MonoG.cons (fun le h => h) (MonoG.cons (fun le h => h) (MonoG.cons (fun le h => h) (MonoG.cons (fun le h => h) (MonoG.cons (fun le h => h) (MonoG.cons (fun le h => h) MonoG.nil)))))))))))))))))))))))))) ?_ ?_
    ·refine stepsG.cons (fun vals Fs R leFs hpZ => ?_) ?_
     ·replace har := har.mono leFs
      replace hrs := hrs.mono leFs
      replace hf := hf.mono leFs
      replace hxs := hxs.mono leFs
      replace hg := hg.mono leFs
      replace hys := hys.mono leFs
      refine XG.op (XOp.loadN [arv, rsv] isAgg36 sizeOf36 rfl rfl (Rd.ownN [_, _, _] rfl rfl) ?_)
      exact ⟨rfl, rfl⟩
     refine stepsG.cons (fun vals Fs R leFs hpZ => ?_) ?_
     ·replace har := har.mono leFs
      replace hrs := hrs.mono leFs
      replace hf := hf.mono leFs
      replace hxs := hxs.mono leFs
      replace hg := hg.mono leFs
      replace hys := hys.mono leFs
      refine XG.op (XOp.loadN [fv, xsv] isAgg73 sizeOf73 rfl rfl (Rd.ownN [_, _] rfl rfl) ?_)
      exact ⟨rfl, rfl⟩
     refine stepsG.cons (fun vals Fs R leFs hpZ => ?_) ?_
     ·replace har := har.mono leFs
      replace hrs := hrs.mono leFs
      replace hf := hf.mono leFs
      replace hxs := hxs.mono leFs
      replace hg := hg.mono leFs
      replace hys := hys.mono leFs
      rw [eS (l := [(0, (.agg #[arv, rsv] : Value)), (1, (.agg #[fv, xsv] : Value))]) ⟨(hpZ 0 (by decide)), (hpZ 1 (by decide)), trivial⟩]
      refine XG.op (XOp.call (args := [.agg #[arv, rsv], .agg #[fv, xsv]]) call86 rfl (sWalkOk_spec har hrs hf hxs (hla := (by first | assumption | rfl | omega | simp)) (hlr := (by first | assumption | rfl | omega | simp)) (hrb := (by first | assumption | rfl | omega | simp)) (hlf := (by first | assumption | rfl | omega | simp)) (hlss := (by first | assumption | rfl | omega | simp)) (hsb := (by first | assumption | rfl | omega | simp))) ?_)
      rintro _ _ _ _ ⟨rfl, rfl, rfl⟩
      exact ⟨rfl, rfl⟩
     refine stepsG.cons (fun vals Fs R leFs hpZ => ?_) ?_
     ·rw [eS (l := [(2, (.bool (walkOkL ar rs f xs) : Value))]) ⟨(hpZ 2 (by decide)), trivial⟩]
      refine XG.op (XOp.notB (b := walkOkL ar rs f xs) rfl ?_)
      exact ⟨rfl, rfl⟩
     refine stepsG.cons (fun vals Fs R leFs hpZ => ?_) ?_
     ·rw [eS (l := [(3, (.bool (!(walkOkL ar rs f xs)) : Value))]) ⟨(hpZ 3 (by decide)), trivial⟩]
      refine XG.op (XOp.move (.bool (!(walkOkL ar rs f xs))) rfl ?_)
      exact ⟨rfl, rfl⟩
     refine stepsG.cons (fun vals Fs R leFs hpZ => ?_) ?_
     ·replace har := har.mono leFs
      replace hrs := hrs.mono leFs
      replace hf := hf.mono leFs
      replace hxs := hxs.mono leFs
      replace hg := hg.mono leFs
      replace hys := hys.mono leFs
      rw [eS (l := [(4, (.bool (!(walkOkL ar rs f xs)) : Value))]) ⟨(hpZ 4 (by decide)), trivial⟩]
      refine XG.yes (t := 12) rfl (vB h1) (XOp.loadN [arv, rsv] isAgg36 sizeOf36 rfl rfl (Rd.ownN [_, _, _] rfl rfl) ?_)
      exact ⟨rfl, rfl⟩
     refine stepsG.cons (fun vals Fs R leFs hpZ => ?_) ?_
     ·replace har := har.mono leFs
      replace hrs := hrs.mono leFs
      replace hf := hf.mono leFs
      replace hxs := hxs.mono leFs
      replace hg := hg.mono leFs
      replace hys := hys.mono leFs
      rw [eS (l := [(4, (.bool (!(walkOkL ar rs f xs)) : Value))]) ⟨(hpZ 4 (by decide)), trivial⟩]
      refine XG.yes (t := 12) rfl (vB h1) (XOp.loadN [gv, ysv] isAgg73 sizeOf73 rfl rfl (Rd.ownN [_] rfl rfl) ?_)
      exact ⟨rfl, rfl⟩
     refine stepsG.cons (fun vals Fs R leFs hpZ => ?_) ?_
     ·replace har := har.mono leFs
      replace hrs := hrs.mono leFs
      replace hf := hf.mono leFs
      replace hxs := hxs.mono leFs
      replace hg := hg.mono leFs
      replace hys := hys.mono leFs
      rw [eS (l := [(4, (.bool (!(walkOkL ar rs f xs)) : Value)), (5, (.agg #[arv, rsv] : Value)), (6, (.agg #[gv, ysv] : Value))]) ⟨(hpZ 4 (by decide)), (hpZ 5 (by decide)), (hpZ 6 (by decide)), trivial⟩]
      refine XG.yes (t := 12) rfl (vB h1) (XOp.call (args := [.agg #[arv, rsv], .agg #[gv, ysv]]) call86 rfl (sWalkOk_spec har hrs hg hys (hla := (by first | assumption | rfl | omega | simp)) (hlr := (by first | assumption | rfl | omega | simp)) (hrb := (by first | assumption | rfl | omega | simp)) (hlf := (hlg)) (hlss := (hlys)) (hsb := (hyb))) ?_)
      rintro _ _ _ _ ⟨rfl, rfl, rfl⟩
      exact ⟨rfl, rfl⟩
     refine stepsG.cons (fun vals Fs R leFs hpZ => ?_) ?_
     ·rw [eS (l := [(4, (.bool (!(walkOkL ar rs f xs)) : Value)), (7, (.bool (walkOkL ar rs g ys) : Value))]) ⟨(hpZ 4 (by decide)), (hpZ 7 (by decide)), trivial⟩]
      refine XG.yes (t := 12) rfl (vB h1) (XOp.notB (b := walkOkL ar rs g ys) rfl ?_)
      exact ⟨rfl, rfl⟩
     refine stepsG.cons (fun vals Fs R leFs hpZ => ?_) ?_
     ·rw [eS (l := [(4, (.bool (!(walkOkL ar rs f xs)) : Value)), (8, (.bool (!(walkOkL ar rs g ys)) : Value))]) ⟨(hpZ 4 (by decide)), (hpZ 8 (by decide)), trivial⟩]
      refine XG.op (XOp.pickF (.bool (!(walkOkL ar rs g ys))) (vB h1) rfl ?_)
      exact ⟨rfl, rfl⟩
     refine stepsG.cons (fun vals Fs R leFs hpZ => ?_) ?_
     ·rw [eS (l := [(9, (.bool (!(walkOkL ar rs g ys)) : Value))]) ⟨(hpZ 9 (by decide)), trivial⟩]
      refine XG.op (XOp.move (.bool (!(walkOkL ar rs g ys))) rfl ?_)
      exact ⟨rfl, rfl⟩
     refine stepsG.cons (fun vals Fs R leFs hpZ => ?_) ?_
     ·replace har := har.mono leFs
      replace hrs := hrs.mono leFs
      replace hf := hf.mono leFs
      replace hxs := hxs.mono leFs
      replace hg := hg.mono leFs
      replace hys := hys.mono leFs
      rw [eS (l := [(10, (.bool (!(walkOkL ar rs g ys)) : Value))]) ⟨(hpZ 10 (by decide)), trivial⟩]
      refine XG.yes (t := 18) rfl (vB h2) (XOp.loadN [fv, xsv] isAgg73 sizeOf73 rfl rfl (Rd.ownN [_, _] rfl rfl) ?_)
      exact ⟨rfl, rfl⟩
     refine stepsG.cons (fun vals Fs R leFs hpZ => ?_) ?_
     ·replace har := har.mono leFs
      replace hrs := hrs.mono leFs
      replace hf := hf.mono leFs
      replace hxs := hxs.mono leFs
      replace hg := hg.mono leFs
      replace hys := hys.mono leFs
      rw [eS (l := [(10, (.bool (!(walkOkL ar rs g ys)) : Value)), (11, (.agg #[fv, xsv] : Value))]) ⟨(hpZ 10 (by decide)), (hpZ 11 (by decide)), trivial⟩]
      refine XG.yes (t := 18) rfl (vB h2) (XOp.frzF <| XOp.call (args := [.agg #[fv, xsv]]) call87 rfl (l7End_spec hf hxs (hlf := (by first | assumption | rfl | omega | simp)) (hlss := (by first | assumption | rfl | omega | simp)) (hsb := (by first | assumption | rfl | omega | simp))) ?_)
      rintro v3 _ _ _ ⟨rfl, hs3, rfl⟩
      refine ⟨_, _, rfl, fun F1 le1 hz1 => ?_⟩
      replace har := har.mono le1
      replace hrs := hrs.mono le1
      replace hf := hf.mono le1
      replace hxs := hxs.mono le1
      replace hg := hg.mono le1
      replace hys := hys.mono le1
      have hf1 : IntsF F1 v3 ((endL f xs)) := intsH.fz (xs := (endL f xs)) hz1.fz
      exact ⟨⟨rfl, hf1⟩, rfl⟩
     refine stepsG.cons (fun vals Fs R leFs hpZ => ?_) ?_
     ·rw [eS (l := [(10, (.bool (!(walkOkL ar rs g ys)) : Value))]) ⟨(hpZ 10 (by decide)), trivial⟩]
      refine XG.yes (t := 18) rfl (vB h2) (XOp.fieldP (b := b3) (0) runUnderlying73 rfl sizeOf22 (by decide) rfl rfl ?_)
      exact ⟨rfl, rfl⟩
     refine stepsG.cons (fun vals Fs R leFs hpZ => ?_) ?_
     ·replace har := har.mono leFs
      replace hrs := hrs.mono leFs
      replace hf := hf.mono leFs
      replace hxs := hxs.mono leFs
      replace hg := hg.mono leFs
      replace hys := hys.mono leFs
      rw [eS (l := [(10, (.bool (!(walkOkL ar rs g ys)) : Value)), (13, ptr b3 0)]) ⟨(hpZ 10 (by decide)), (hpZ 13 (by decide)), trivial⟩]
      refine XG.yes (t := 18) rfl (vB h2) (XOp.load1 (v := gv) isAgg22 rfl (Rd.own [_] rfl rfl) ?_)
      exact ⟨rfl, rfl⟩
     refine stepsG.cons (fun vals Fs R leFs hpZ => ?_) ?_
     ·obtain ⟨e12, f12_6ha⟩ := hpZ 12 (by decide)
      replace har := har.mono leFs
      replace hrs := hrs.mono leFs
      replace hf := hf.mono leFs
      replace hxs := hxs.mono leFs
      replace hg := hg.mono leFs
      replace hys := hys.mono leFs
      rw [eS (l := [(10, (.bool (!(walkOkL ar rs g ys)) : Value)), (12, ((vals 12))), (14, gv)]) ⟨(hpZ 10 (by decide)), (e12).symm, (hpZ 14 (by decide)), trivial⟩]
      refine XG.yes (t := 18) rfl (vB h2) (XOp.call (args := [((vals 12)), gv]) call60 rfl (SameTerm_spec f12_6ha hg (hbd := (.inl (by omega)))) ?_)
      rintro _ _ _ _ ⟨rfl, rfl, rfl⟩
      exact ⟨rfl, rfl⟩
     refine stepsG.cons (fun vals Fs R leFs hpZ => ?_) ?_
     ·rw [eS (l := [(10, (.bool (!(walkOkL ar rs g ys)) : Value)), (15, (.bool (decide (((endL f xs)) = g)) : Value))]) ⟨(hpZ 10 (by decide)), (hpZ 15 (by decide)), trivial⟩]
      refine XG.yes (t := 18) rfl (vB h2) (XOp.notD (p := ((endL f xs)) = g) rfl ?_)
      exact ⟨rfl, rfl⟩
     refine stepsG.cons (fun vals Fs R leFs hpZ => ?_) ?_
     ·rw [eS (l := [(10, (.bool (!(walkOkL ar rs g ys)) : Value)), (16, (.bool (decide (¬(((endL f xs)) = g))) : Value))]) ⟨(hpZ 10 (by decide)), (hpZ 16 (by decide)), trivial⟩]
      refine XG.op (XOp.pickF (.bool (decide (¬(((endL f xs)) = g)))) (vB h2) rfl ?_)
      exact ⟨rfl, rfl⟩
     refine stepsG.cons (fun vals Fs R leFs hpZ => ?_) ?_
     ·rw [eS (l := [(17, (.bool (decide (¬(((endL f xs)) = g))) : Value))]) ⟨(hpZ 17 (by decide)), trivial⟩]
      refine XG.op (XOp.move (.bool (decide (¬(((endL f xs)) = g)))) rfl ?_)
      exact ⟨rfl, rfl⟩
     refine stepsG.cons (fun vals Fs R leFs hpZ => ?_) ?_
     ·rw [eS (l := [(18, (.bool (decide (¬(((endL f xs)) = g))) : Value))]) ⟨(hpZ 18 (by decide)), trivial⟩]
      exact XG.no (t := 26) rfl (vT h3) ⟨rfl, rfl⟩
     refine stepsG.cons (fun vals Fs R leFs hpZ => ?_) ?_
     ·replace har := har.mono leFs
      replace hrs := hrs.mono leFs
      replace hf := hf.mono leFs
      replace hxs := hxs.mono leFs
      replace hg := hg.mono leFs
      replace hys := hys.mono leFs
      rw [eS (l := [(18, (.bool (decide (¬(((endL f xs)) = g))) : Value)), (19, undef)]) ⟨(hpZ 18 (by decide)), (hpZ 19 (by decide)), trivial⟩]
      exact XG.no (t := 26) rfl (vT h3) ⟨rfl, rfl⟩
     refine stepsG.cons (fun vals Fs R leFs hpZ => ?_) ?_
     ·replace har := har.mono leFs
      replace hrs := hrs.mono leFs
      replace hf := hf.mono leFs
      replace hxs := hxs.mono leFs
      replace hg := hg.mono leFs
      replace hys := hys.mono leFs
      rw [eS (l := [(18, (.bool (decide (¬(((endL f xs)) = g))) : Value)), (20, undef)]) ⟨(hpZ 18 (by decide)), (hpZ 20 (by decide)), trivial⟩]
      exact XG.no (t := 26) rfl (vT h3) ⟨rfl, rfl⟩
     refine stepsG.cons (fun vals Fs R leFs hpZ => ?_) ?_
     ·rw [eS (l := [(18, (.bool (decide (¬(((endL f xs)) = g))) : Value))]) ⟨(hpZ 18 (by decide)), trivial⟩]
      exact XG.no (t := 26) rfl (vT h3) ⟨rfl, rfl⟩
     refine stepsG.cons (fun vals Fs R leFs hpZ => ?_) ?_
     ·replace har := har.mono leFs
      replace hrs := hrs.mono leFs
      replace hf := hf.mono leFs
      replace hxs := hxs.mono leFs
      replace hg := hg.mono leFs
      replace hys := hys.mono leFs
      rw [eS (l := [(18, (.bool (decide (¬(((endL f xs)) = g))) : Value)), (22, undef)]) ⟨(hpZ 18 (by decide)), (hpZ 22 (by decide)), trivial⟩]
      exact XG.no (t := 26) rfl (vT h3) ⟨rfl, rfl⟩
     refine stepsG.cons (fun vals Fs R leFs hpZ => ?_) ?_
     ·replace har := har.mono leFs
      replace hrs := hrs.mono leFs
      replace hf := hf.mono leFs
      replace hxs := hxs.mono leFs
      replace hg := hg.mono leFs
      replace hys := hys.mono leFs
      rw [eS (l := [(18, (.bool (decide (¬(((endL f xs)) = g))) : Value)), (23, undef)]) ⟨(hpZ 18 (by decide)), (hpZ 23 (by decide)), trivial⟩]
      exact XG.no (t := 26) rfl (vT h3) ⟨rfl, rfl⟩
     exact stepsG.nil
    ·intro vals F2 le2 hphi
     obtain ⟨e12, f12_6ha⟩ := hphi 12 (by decide)
     generalize hu1 : ((vals 12)) = u1 at e12 f12_6ha
     rw [eS (l := [(18, (.bool (decide (¬(((endL f xs)) = g))) : Value)), (21, undef), (24, undef)]) ⟨(hphi 18 (by decide)), (hphi 21 (by decide)), (hphi 24 (by decide)), trivial⟩]
     replace har := har.mono le2
     replace hrs := hrs.mono le2
     replace hf := hf.mono le2
     replace hxs := hxs.mono le2
     replace hg := hg.mono le2
     replace hys := hys.mono le2
     show XL _ _ _ _ _ _ _ (cellsH b4 [(.slice none 0 0), (.slice none 0 0)] 73 :: cellsH b3 [gv, ysv] 73 :: cellsH b2 [fv, xsv] 73 :: cellsH b1 [arv, rsv] 36 :: L)
     refine XL.no (t := 26) rfl (vT h3) ?_
     refine XL.no (t := 26) rfl (vT h3) ?_
     refine cX (XOp.pickT (.bool (true)) (vT h3) rfl ?_)
     refine XL.nil ?_
     refine X.condT rfl ?_
     refine X.seq (X.region ?_)
     refine cX (XOp.build [(.slice none 0 0), (.slice none 0 0)] [(.slice none 0 0), (.slice none 0 0)] [(0, 1), (1, 1)] [] runUnderlying73 zeroValue73 rfl (.cons rfl sizeOf22 (.cons rfl sizeOf71 PlacesAre.nil)) rfl CellsAre.nil ?_)
     refine cX (XOp.storeN (vs := [(.slice none 0 0), (.slice none 0 0)]) [] _ [(.slice none 0 0), (.slice none 0 0)] sizeOf73 rfl rfl rfl (ones_cons rfl (ones_cons rfl ones_nil)) rfl rfl rfl ?_)
     refine XL.as (.bool (false)) rfl ?_
     refine XL.nil ?_
     refine X.ret (thenQ_ret (retEnd (L' := L) [.agg #[(.slice none 0 0), (.slice none 0 0)], .bool (false)] (.tuple #[.agg #[(.slice none 0 0), (.slice none 0 0)], .bool (false)]) (.cell rfl (loadNV [(.slice none 0 0), (.slice none 0 0)] isAgg73 sizeOf73 rfl (Rd.ownN [] rfl rfl)) (.tmp rfl .nil)) rfl le2 rF (Sub.drop (Sub.drop (Sub.drop (Sub.drop sR)))) ?_))
     have e : joinedF ar rs f xs g ys = ([], [], false) := by first | exact (joinedF_yes hw1 hw2).trans (joinW_no hjoin) | exact (joinedF_yes hw1 hw2).trans (joinW_long (by omega)) | exact joinedF_no (by simp_all)
     exact ⟨_, _, by rw [e], by rw [e]; exact IntsF.nilV, by rw [e]; exact SlOf.nilV, rfl⟩
   ·have hjoin : endL f xs = g := by simpa using h3
    refine X.drawG [cellsH b4 [(.slice none 0 0), (.slice none 0 0)] 73, cellsH b3 [gv, ysv] 73, cellsH b2 [fv, xsv] 73, cellsH b1 [arv, rsv] 36] L 25 [[], [], [], [], [], [], [], [], [], [], [], [], [], [], [], [], [], [], [], [], [], [], [], [], []] [[], [], [0, 1], [2], [3], [4], [4], [4, 5, 6], [4, 7], [4, 8], [9], [10], [10, 11], [10], [10, 13], [10, 12, 14], [10, 15], [10, 16], [17], [18], [18, 19], [18, 20], [18], [18, 22], [18, 23]] [[], [], [], [], [], [], [], [], [], [], [], [], [], [], [], [], [], [], [], [], [], [], [], [], []] (phiG [fun FF us v => v = (.agg #[arv, rsv] : Value), fun FF us v => v = (.agg #[fv, xsv] : Value), fun FF us v => v = (.bool (walkOkL ar rs f xs) : Value), fun FF us v => v = (.bool (!(walkOkL ar rs f xs)) : Value), fun FF us v => v = (.bool (!(walkOkL ar rs f xs)) : Value), fun FF us v => v = (.agg #[arv, rsv] : Value), fun FF us v => v = (.agg #[gv, ysv] : Value), fun FF us v => v = (.bool (walkOkL ar rs g ys) : Value), fun FF us v => v = (.bool (!(walkOkL ar rs g ys)) : Value), fun FF us v => v = (.bool (!(walkOkL ar rs g ys)) : Value), fun FF us v => v = (.bool (!(walkOkL ar rs g ys)) : Value), fun FF us v => v = (.agg #[fv, xsv] : Value), fun FF us v => ((v) : Value) = v ∧ (IntsF FF (v) (endL f xs)), fun FF us v => v = ptr b3 0, fun FF us v => v = gv, fun FF us v => v = (.bool (decide (((endL f xs)) = g)) : Value), fun FF us v => v = (.bool (decide (¬(((endL f xs)) = g))) : Value), fun FF us v => v = (.bool (decide (¬(((endL f xs)) = g))) : Value), fun FF us v => v = (.bool (decide (¬(((endL f xs)) = g))) : Value), fun FF us v => v = ptr b2 1, fun FF us v => v = xsv, fun FF us v => v = (.int .i64 ((xs.length : Int)) : Value), fun FF us v => v = ptr b3 1, fun FF us v => v = ysv, fun FF us v => v = (.int .i64 ((ys.length : Int)) : Value)]) (ownL [fun us v => [], fun us v => [], fun us v => [], fun us v => [], fun us v => [], fun us v => [], fun us v => [], fun us v => [], fun us v => [], fun us v => [], fun us v => [], fun us v => [], fun us v => [], fun us v => [], fun us v => [], fun us v => [], fun us v => [], fun us v => [], fun us v => [], fun us v => [], fun us v => [], fun us v => [], fun us v => [], fun us v => [], fun us v => []]) mixed rfl rfl (by kernel_rfl) (by kernel_rfl) (MonoG.get (MonoG.cons (fun le h => h) (MonoG.cons (fun le h => h) (MonoG.cons (fun le h => h) (MonoG.cons (fun le h => h) (MonoG.cons (fun le h => h) (MonoG.cons (fun le h => h) (MonoG.cons (fun le h => h) (MonoG.cons (fun le h => h) (MonoG.cons (fun le h => h) (MonoG.cons (fun le h => h) (MonoG.cons (fun le h => h) (MonoG.cons (fun le h => h) (MonoG.cons (fun le h => ⟨h.1, h.2.mono le⟩) (MonoG.cons (fun le h => h) (MonoG.cons (fun le h => h) (MonoG.cons (fun le h => h) (MonoG.cons (fun le h => h) (MonoG.cons (fun le h => h) (MonoG.cons (fun le h => h) (MonoG.cons (fun le h => h) (MonoG.cons (fun le h => h) (MonoG.cons (fun le h => h) (MonoG.cons (fun le h => h) (MonoG.cons (fun le h => h) (MonoG.cons (fun le h => h) MonoG.nil)))))))))))))))))))))))))) ?_ ?_
    ·refine stepsG.cons (fun vals Fs R leFs hpZ => ?_) ?_
     ·replace har := har.mono leFs
      replace hrs := hrs.mono leFs
      replace hf := hf.mono leFs
      replace hxs := hxs.mono leFs
      replace hg := hg.mono leFs
      replace hys := hys.mono leFs
      refine XG.op (XOp.loadN [arv, rsv] isAgg36 sizeOf36 rfl rfl (Rd.ownN [_, _, _] rfl rfl) ?_)
      exact ⟨rfl, rfl⟩
     refine stepsG.cons (fun vals Fs R leFs hpZ => ?_) ?_
     ·replace har := har.mono leFs
      replace hrs := hrs.mono leFs
      replace hf := hf.mono leFs
      replace hxs := hxs.mono leFs
      replace hg := hg.mono leFs
      replace hys := hys.mono leFs
      refine XG.op (XOp.loadN [fv, xsv] isAgg73 sizeOf73 rfl rfl (Rd.ownN [_, _] rfl rfl) ?_)
      exact ⟨rfl, rfl⟩
     refine stepsG.cons (fun vals Fs R leFs hpZ => ?_) ?_
     ·replace har := har.mono leFs
      replace hrs := hrs.mono leFs
      replace hf := hf.mono leFs
      replace hxs := hxs.mono leFs
      replace hg := hg.mono leFs
      replace hys := hys.mono leFs
      rw [eS (l := [(0, (.agg #[arv, rsv] : Value)), (1, (.agg #[fv, xsv] : Value))]) ⟨(hpZ 0 (by decide)), (hpZ 1 (by decide)), trivial⟩]
      refine XG.op (XOp.call (args := [.agg #[arv, rsv], .agg #[fv, xsv]]) call86 rfl (sWalkOk_spec har hrs hf hxs (hla := (by first | assumption | rfl | omega | simp)) (hlr := (by first | assumption | rfl | omega | simp)) (hrb := (by first | assumption | rfl | omega | simp)) (hlf := (by first | assumption | rfl | omega | simp)) (hlss := (by first | assumption | rfl | omega | simp)) (hsb := (by first | assumption | rfl | omega | simp))) ?_)
      rintro _ _ _ _ ⟨rfl, rfl, rfl⟩
      exact ⟨rfl, rfl⟩
     refine stepsG.cons (fun vals Fs R leFs hpZ => ?_) ?_
     ·rw [eS (l := [(2, (.bool (walkOkL ar rs f xs) : Value))]) ⟨(hpZ 2 (by decide)), trivial⟩]
      refine XG.op (XOp.notB (b := walkOkL ar rs f xs) rfl ?_)
      exact ⟨rfl, rfl⟩
     refine stepsG.cons (fun vals Fs R leFs hpZ => ?_) ?_
     ·rw [eS (l := [(3, (.bool (!(walkOkL ar rs f xs)) : Value))]) ⟨(hpZ 3 (by decide)), trivial⟩]
      refine XG.op (XOp.move (.bool (!(walkOkL ar rs f xs))) rfl ?_)
      exact ⟨rfl, rfl⟩
     refine stepsG.cons (fun vals Fs R leFs hpZ => ?_) ?_
     ·replace har := har.mono leFs
      replace hrs := hrs.mono leFs
      replace hf := hf.mono leFs
      replace hxs := hxs.mono leFs
      replace hg := hg.mono leFs
      replace hys := hys.mono leFs
      rw [eS (l := [(4, (.bool (!(walkOkL ar rs f xs)) : Value))]) ⟨(hpZ 4 (by decide)), trivial⟩]
      refine XG.yes (t := 12) rfl (vB h1) (XOp.loadN [arv, rsv] isAgg36 sizeOf36 rfl rfl (Rd.ownN [_, _, _] rfl rfl) ?_)
      exact ⟨rfl, rfl⟩
     refine stepsG.cons (fun vals Fs R leFs hpZ => ?_) ?_
     ·replace har := har.mono leFs
      replace hrs := hrs.mono leFs
      replace hf := hf.mono leFs
      replace hxs := hxs.mono leFs
      replace hg := hg.mono leFs
      replace hys := hys.mono leFs
      rw [eS (l := [(4, (.bool (!(walkOkL ar rs f xs)) : Value))]) ⟨(hpZ 4 (by decide)), trivial⟩]
      refine XG.yes (t := 12) rfl (vB h1) (XOp.loadN [gv, ysv] isAgg73 sizeOf73 rfl rfl (Rd.ownN [_] rfl rfl) ?_)
      exact ⟨rfl, rfl⟩
     refine stepsG.cons (fun vals Fs R leFs hpZ => ?_) ?_
     ·replace har := har.mono leFs
      replace hrs := hrs.mono leFs
      replace hf := hf.mono leFs
      replace hxs := hxs.mono leFs
      replace hg := hg.mono leFs
      replace hys := hys.mono leFs
      rw [eS (l := [(4, (.bool (!(walkOkL ar rs f xs)) : Value)), (5, (.agg #[arv, rsv] : Value)), (6, (.agg #[gv, ysv] : Value))]) ⟨(hpZ 4 (by decide)), (hpZ 5 (by decide)), (hpZ 6 (by decide)), trivial⟩]
      refine XG.yes (t := 12) rfl (vB h1) (XOp.call (args := [.agg #[arv, rsv], .agg #[gv, ysv]]) call86 rfl (sWalkOk_spec har hrs hg hys (hla := (by first | assumption | rfl | omega | simp)) (hlr := (by first | assumption | rfl | omega | simp)) (hrb := (by first | assumption | rfl | omega | simp)) (hlf := (hlg)) (hlss := (hlys)) (hsb := (hyb))) ?_)
      rintro _ _ _ _ ⟨rfl, rfl, rfl⟩
      exact ⟨rfl, rfl⟩
     refine stepsG.cons (fun vals Fs R leFs hpZ => ?_) ?_
     ·rw [eS (l := [(4, (.bool (!(walkOkL ar rs f xs)) : Value)), (7, (.bool (walkOkL ar rs g ys) : Value))]) ⟨(hpZ 4 (by decide)), (hpZ 7 (by decide)), trivial⟩]
      refine XG.yes (t := 12) rfl (vB h1) (XOp.notB (b := walkOkL ar rs g ys) rfl ?_)
      exact ⟨rfl, rfl⟩
     refine stepsG.cons (fun vals Fs R leFs hpZ => ?_) ?_
     ·rw [eS (l := [(4, (.bool (!(walkOkL ar rs f xs)) : Value)), (8, (.bool (!(walkOkL ar rs g ys)) : Value))]) ⟨(hpZ 4 (by decide)), (hpZ 8 (by decide)), trivial⟩]
      refine XG.op (XOp.pickF (.bool (!(walkOkL ar rs g ys))) (vB h1) rfl ?_)
      exact ⟨rfl, rfl⟩
     refine stepsG.cons (fun vals Fs R leFs hpZ => ?_) ?_
     ·rw [eS (l := [(9, (.bool (!(walkOkL ar rs g ys)) : Value))]) ⟨(hpZ 9 (by decide)), trivial⟩]
      refine XG.op (XOp.move (.bool (!(walkOkL ar rs g ys))) rfl ?_)
      exact ⟨rfl, rfl⟩
     refine stepsG.cons (fun vals Fs R leFs hpZ => ?_) ?_
     ·replace har := har.mono leFs
      replace hf := hf.mono leFs
      replace hxs := hxs.mono leFs
      replace hg := hg.mono leFs
      replace hys := hys.mono leFs
      rw [eS (l := [(10, (.bool (!(walkOkL ar rs g ys)) : Value))]) ⟨(hpZ 10 (by decide)), trivial⟩]
      refine XG.yes (t := 18) rfl (vB h2) (XOp.loadN [fv, xsv] isAgg73 sizeOf73 rfl rfl (Rd.ownN [_, _] rfl rfl) ?_)
      exact ⟨rfl, rfl⟩
     refine stepsG.cons (fun vals Fs R leFs hpZ => ?_) ?_
     ·replace har := har.mono leFs
      replace hf := hf.mono leFs
      replace hxs := hxs.mono leFs
      replace hg := hg.mono leFs
      replace hys := hys.mono leFs
      rw [eS (l := [(10, (.bool (!(walkOkL ar rs g ys)) : Value)), (11, (.agg #[fv, xsv] : Value))]) ⟨(hpZ 10 (by decide)), (hpZ 11 (by decide)), trivial⟩]
      refine XG.yes (t := 18) rfl (vB h2) (XOp.frzF <| XOp.call (args := [.agg #[fv, xsv]]) call87 rfl (l7End_spec hf hxs (hlf := (by first | assumption | rfl | omega | simp)) (hlss := (by first | assumption | rfl | omega | simp)) (hsb := (by first | assumption | rfl | omega | simp))) ?_)
      rintro v5 _ _ _ ⟨rfl, hs5, rfl⟩
      refine ⟨_, _, rfl, fun F3 le3 hz2 => ?_⟩
      replace har := har.mono le3
      replace hf := hf.mono le3
      replace hxs := hxs.mono le3
      replace hg := hg.mono le3
      replace hys := hys.mono le3
      have hf2 : IntsF F3 v5 ((endL f xs)) := intsH.fz (xs := (endL f xs)) hz2.fz
      exact ⟨⟨rfl, hf2⟩, rfl⟩
     refine stepsG.cons (fun vals Fs R leFs hpZ => ?_) ?_
     ·rw [eS (l := [(10, (.bool (!(walkOkL ar rs g ys)) : Value))]) ⟨(hpZ 10 (by decide)), trivial⟩]
      refine XG.yes (t := 18) rfl (vB h2) (XOp.fieldP (b := b3) (0) runUnderlying73 rfl sizeOf22 (by decide) rfl rfl ?_)
      exact ⟨rfl, rfl⟩
     refine stepsG.cons (fun vals Fs R leFs hpZ => ?_) ?_
     ·replace har := har.mono leFs
      replace hf := hf.mono leFs
      replace hxs := hxs.mono leFs
      replace hg := hg.mono leFs
      replace hys := hys.mono leFs
      rw [eS (l := [(10, (.bool (!(walkOkL ar rs g ys)) : Value)), (13, ptr b3 0)]) ⟨(hpZ 10 (by decide)), (hpZ 13 (by decide)), trivial⟩]
      refine XG.yes (t := 18) rfl (vB h2) (XOp.load1 (v := gv) isAgg22 rfl (Rd.own [_] rfl rfl) ?_)
      exact ⟨rfl, rfl⟩
     refine stepsG.cons (fun vals Fs R leFs hpZ => ?_) ?_
     ·obtain ⟨e12, f12_7ha⟩ := hpZ 12 (by decide)
      replace har := har.mono leFs
      replace hf := hf.mono leFs
      replace hxs := hxs.mono leFs
      replace hg := hg.mono leFs
      replace hys := hys.mono leFs
      rw [eS (l := [(10, (.bool (!(walkOkL ar rs g ys)) : Value)), (12, ((vals 12))), (14, gv)]) ⟨(hpZ 10 (by decide)), (e12).symm, (hpZ 14 (by decide)), trivial⟩]
      refine XG.yes (t := 18) rfl (vB h2) (XOp.call (args := [((vals 12)), gv]) call60 rfl (SameTerm_spec f12_7ha hg (hbd := (.inl (by omega)))) ?_)
      rintro _ _ _ _ ⟨rfl, rfl, rfl⟩
      exact ⟨rfl, rfl⟩
     refine stepsG.cons (fun vals Fs R leFs hpZ => ?_) ?_
     ·rw [eS (l := [(10, (.bool (!(walkOkL ar rs g ys)) : Value)), (15, (.bool (decide (((endL f xs)) = g)) : Value))]) ⟨(hpZ 10 (by decide)), (hpZ 15 (by decide)), trivial⟩]
      refine XG.yes (t := 18) rfl (vB h2) (XOp.notD (p := ((endL f xs)) = g) rfl ?_)
      exact ⟨rfl, rfl⟩
     refine stepsG.cons (fun vals Fs R leFs hpZ => ?_) ?_
     ·rw [eS (l := [(10, (.bool (!(walkOkL ar rs g ys)) : Value)), (16, (.bool (decide (¬(((endL f xs)) = g))) : Value))]) ⟨(hpZ 10 (by decide)), (hpZ 16 (by decide)), trivial⟩]
      refine XG.op (XOp.pickF (.bool (decide (¬(((endL f xs)) = g)))) (vB h2) rfl ?_)
      exact ⟨rfl, rfl⟩
     refine stepsG.cons (fun vals Fs R leFs hpZ => ?_) ?_
     ·rw [eS (l := [(17, (.bool (decide (¬(((endL f xs)) = g))) : Value))]) ⟨(hpZ 17 (by decide)), trivial⟩]
      refine XG.op (XOp.move (.bool (decide (¬(((endL f xs)) = g)))) rfl ?_)
      exact ⟨rfl, rfl⟩
     refine stepsG.cons (fun vals Fs R leFs hpZ => ?_) ?_
     ·rw [eS (l := [(18, (.bool (decide (¬(((endL f xs)) = g))) : Value))]) ⟨(hpZ 18 (by decide)), trivial⟩]
      refine XG.yes (t := 26) rfl (vF h3) (XOp.fieldP (b := b2) (1) runUnderlying73 rfl sizeOf71 (by decide) rfl rfl ?_)
      exact ⟨rfl, rfl⟩
     refine stepsG.cons (fun vals Fs R leFs hpZ => ?_) ?_
     ·replace har := har.mono leFs
      replace hf := hf.mono leFs
      replace hxs := hxs.mono leFs
      replace hys := hys.mono leFs
      rw [eS (l := [(18, (.bool (decide (¬(((endL f xs)) = g))) : Value)), (19, ptr b2 1)]) ⟨(hpZ 18 (by decide)), (hpZ 19 (by decide)), trivial⟩]
      refine XG.yes (t := 26) rfl (vF h3) (XOp.load1 (v := xsv) isAgg71 rfl (Rd.own [_, _] rfl rfl) ?_)
      exact ⟨rfl, rfl⟩
     refine stepsG.cons (fun vals Fs R leFs hpZ => ?_) ?_
     ·replace har := har.mono leFs
      replace hf := hf.mono leFs
      replace hxs := hxs.mono leFs
      replace hys := hys.mono leFs
      rw [eS (l := [(18, (.bool (decide (¬(((endL f xs)) = g))) : Value)), (20, xsv)]) ⟨(hpZ 18 (by decide)), (hpZ 20 (by decide)), trivial⟩]
      refine XG.yes (t := 26) rfl (vF h3) (XOp.lenS (v := xsv) (n := (xs).length) runUnderlying71 rfl hxs.slv ?_)
      exact ⟨rfl, rfl⟩
     refine stepsG.cons (fun vals Fs R leFs hpZ => ?_) ?_
     ·rw [eS (l := [(18, (.bool (decide (¬(((endL f xs)) = g))) : Value))]) ⟨(hpZ 18 (by decide)), trivial⟩]
      refine XG.yes (t := 26) rfl (vF h3) (XOp.fieldP (b := b3) (1) runUnderlying73 rfl sizeOf71 (by decide) rfl rfl ?_)
      exact ⟨rfl, rfl⟩
     refine stepsG.cons (fun vals Fs R leFs hpZ => ?_) ?_
     ·replace har := har.mono leFs
      replace hf := hf.mono leFs
      replace hxs := hxs.mono leFs
      replace hys := hys.mono leFs
      rw [eS (l := [(18, (.bool (decide (¬(((endL f xs)) = g))) : Value)), (22, ptr b3 1)]) ⟨(hpZ 18 (by decide)), (hpZ 22 (by decide)), trivial⟩]
      refine XG.yes (t := 26) rfl (vF h3) (XOp.load1 (v := ysv) isAgg71 rfl (Rd.own [_] rfl rfl) ?_)
      exact ⟨rfl, rfl⟩
     refine stepsG.cons (fun vals Fs R leFs hpZ => ?_) ?_
     ·replace har := har.mono leFs
      replace hf := hf.mono leFs
      replace hxs := hxs.mono leFs
      replace hys := hys.mono leFs
      rw [eS (l := [(18, (.bool (decide (¬(((endL f xs)) = g))) : Value)), (23, ysv)]) ⟨(hpZ 18 (by decide)), (hpZ 23 (by decide)), trivial⟩]
      refine XG.yes (t := 26) rfl (vF h3) (XOp.lenS (v := ysv) (n := (ys).length) runUnderlying71 rfl hys.slv ?_)
      exact ⟨rfl, rfl⟩
     exact stepsG.nil
    ·intro vals F4 le4 hphi
     obtain ⟨e12, f12_7ha⟩ := hphi 12 (by decide)
     generalize hu2 : ((vals 12)) = u2 at e12 f12_7ha
     rw [eS (l := [(18, (.bool (decide (¬(((endL f xs)) = g))) : Value)), (21, (.int .i64 ((xs.length : Int)) : Value)), (24, (.int .i64 ((ys.length : Int)) : Value))]) ⟨(hphi 18 (by decide)), (hphi 21 (by decide)), (hphi 24 (by decide)), trivial⟩]
     replace har := har.mono le4
     replace hf := hf.mono le4
     replace hxs := hxs.mono le4
     replace hys := hys.mono le4
     show XL _ _ _ _ _ _ _ (cellsH b4 [(.slice none 0 0), (.slice none 0 0)] 73 :: cellsH b3 [gv, ysv] 73 :: cellsH b2 [fv, xsv] 73 :: cellsH b1 [arv, rsv] 36 :: L)
     refine XL.yes (t := 26) rfl (vF h3) (XOp.addR (a := (xs.length : Int)) (b := (ys.length : Int)) (((((xs).length) + ((ys).length) : Nat) : Int)) rfl rfl (by omega) (by omega) ?_)
     refine XL.yes (t := 26) rfl (vF h3) (XOp.gtr (a := ((((xs).length) + ((ys).length) : Nat) : Int)) (b := 60) rfl rfl ?_)
     refine cX (XOp.pickF (.bool (decide ((((((xs).length) + ((ys).length) : Nat) : Int) : Int) > 60))) (vF h3) rfl ?_)
     refine XL.nil ?_
     refine X.condD (p := (((((xs).length) + ((ys).length) : Nat) : Int) : Int) > 60) rfl (fun h4 => ?_) (fun h4 => ?_)
     ·refine X.seq (X.region ?_)
      refine cX (XOp.build [(.slice none 0 0), (.slice none 0 0)] [(.slice none 0 0), (.slice none 0 0)] [(0, 1), (1, 1)] [] runUnderlying73 zeroValue73 rfl (.cons rfl sizeOf22 (.cons rfl sizeOf71 PlacesAre.nil)) rfl CellsAre.nil ?_)
      refine cX (XOp.storeN (vs := [(.slice none 0 0), (.slice none 0 0)]) [] _ [(.slice none 0 0), (.slice none 0 0)] sizeOf73 rfl rfl rfl (ones_cons rfl (ones_cons rfl ones_nil)) rfl rfl rfl ?_)
      refine XL.as (.bool (false)) rfl ?_
      refine XL.nil ?_
      refine X.ret (thenQ_ret (retEnd (L' := L) [.agg #[(.slice none 0 0), (.slice none 0 0)], .bool (false)] (.tuple #[.agg #[(.slice none 0 0), (.slice none 0 0)], .bool (false)]) (.cell rfl (loadNV [(.slice none 0 0), (.slice none 0 0)] isAgg73 sizeOf73 rfl (Rd.ownN [] rfl rfl)) (.tmp rfl .nil)) rfl le4 rF (Sub.drop (Sub.drop (Sub.drop (Sub.drop sR)))) ?_))
      have e : joinedF ar rs f xs g ys = ([], [], false) := by first | exact (joinedF_yes hw1 hw2).trans (joinW_no hjoin) | exact (joinedF_yes hw1 hw2).trans (joinW_long (by omega)) | exact joinedF_no (by simp_all)
      exact ⟨_, _, by rw [e], by rw [e]; exact IntsF.nilV, by rw [e]; exact SlOf.nilV, rfl⟩
     ·refine X.skip (X.seq ?_)
      refine X.drawG [cellsH b4 [(.slice none 0 0), (.slice none 0 0)] 73, cellsH b3 [gv, ysv] 73, cellsH b2 [fv, xsv] 73, cellsH b1 [arv, rsv] 36] L 8 [[], [], [], [], [], [], [], []] [[], [0], [1], [], [3], [4], [], [6]] [[], [], [], [], [], [], [], []] (phiG [fun FF us v => v = ptr b2 0, fun FF us v => v = fv, fun FF us v => ((v) : Value) = v ∧ (IntsF FF (v) (f)), fun FF us v => v = ptr b2 1, fun FF us v => v = xsv, fun FF us v => ((v) : Value) = v ∧ (IsSl (v)), fun FF us v => v = ptr b3 1, fun FF us v => v = ysv]) (ownL [fun us v => [], fun us v => [], fun us v => [], fun us v => [], fun us v => [], fun us v => [stepsD 2 119 ((v)) xs], fun us v => [], fun us v => []]) mixed rfl rfl (by kernel_rfl) (by kernel_rfl) (MonoG.get (MonoG.cons (fun le h => h) (MonoG.cons (fun le h => h) (MonoG.cons (fun le h => ⟨h.1, h.2.mono le⟩) (MonoG.cons (fun le h => h) (MonoG.cons (fun le h => h) (MonoG.cons (fun le h => ⟨h.1, h.2⟩) (MonoG.cons (fun le h => h) (MonoG.cons (fun le h => h) MonoG.nil))))))))) ?_ ?_
      ·refine stepsG.cons (fun vals Fs R leFs hpZ => ?_) ?_
       ·refine XG.op (XOp.fieldP (b := b2) (0) runUnderlying73 rfl sizeOf22 (by decide) rfl rfl ?_)
        exact ⟨rfl, rfl⟩
       refine stepsG.cons (fun vals Fs R leFs hpZ => ?_) ?_
       ·replace har := har.mono leFs
        replace hf := hf.mono leFs
        replace hxs := hxs.mono leFs
        replace hys := hys.mono leFs
        rw [eS (l := [(0, ptr b2 0)]) ⟨(hpZ 0 (by decide)), trivial⟩]
        refine XG.op (XOp.load1 (v := fv) isAgg22 rfl (Rd.own [_, _] rfl rfl) ?_)
        exact ⟨rfl, rfl⟩
       refine stepsG.cons (fun vals Fs R leFs hpZ => ?_) ?_
       ·replace har := har.mono leFs
        replace hf := hf.mono leFs
        replace hxs := hxs.mono leFs
        replace hys := hys.mono leFs
        rw [eS (l := [(1, fv)]) ⟨(hpZ 1 (by decide)), trivial⟩]
        refine XG.op (XOp.frzF <| XOp.call (args := [fv]) call88 rfl (l1Copy_spec hf (hlt := (by first | assumption | rfl | omega | simp))) ?_)
        rintro v7 _ _ _ ⟨rfl, hs7, rfl⟩
        refine ⟨_, _, rfl, fun F6 le6 hz3 => ?_⟩
        replace har := har.mono le6
        replace hxs := hxs.mono le6
        replace hys := hys.mono le6
        have hf3 : IntsF F6 v7 ((f)) := intsH.fz (xs := (f)) hz3.fz
        exact ⟨⟨rfl, hf3⟩, rfl⟩
       refine stepsG.cons (fun vals Fs R leFs hpZ => ?_) ?_
       ·refine XG.op (XOp.fieldP (b := b2) (1) runUnderlying73 rfl sizeOf71 (by decide) rfl rfl ?_)
        exact ⟨rfl, rfl⟩
       refine stepsG.cons (fun vals Fs R leFs hpZ => ?_) ?_
       ·replace har := har.mono leFs
        replace hxs := hxs.mono leFs
        replace hys := hys.mono leFs
        rw [eS (l := [(3, ptr b2 1)]) ⟨(hpZ 3 (by decide)), trivial⟩]
        refine XG.op (XOp.load1 (v := xsv) isAgg71 rfl (Rd.own [_, _] rfl rfl) ?_)
        exact ⟨rfl, rfl⟩
       refine stepsG.cons (fun vals Fs R leFs hpZ => ?_) ?_
       ·replace har := har.mono leFs
        replace hxs := hxs.mono leFs
        replace hys := hys.mono leFs
        rw [eS (l := [(4, xsv)]) ⟨(hpZ 4 (by decide)), trivial⟩]
        refine XG.op (XOp.thawL ?_)
        refine id (XOp.call (args := [xsv]) call89 rfl (l7CopySteps_spec hxs (hly := (hwd1)) (hyb := (hwb1.2.2))) ?_)
        rintro _ F7 _ le7 ⟨x2, rfl, hr3, hr4, rfl⟩
        refine ⟨[stepsD 2 119 x2 xs], hr4, ?_⟩
        exact ⟨⟨rfl, (StepsF.isSl hr3)⟩, rfl⟩
       refine stepsG.cons (fun vals Fs R leFs hpZ => ?_) ?_
       ·refine XG.op (XOp.fieldP (b := b3) (1) runUnderlying73 rfl sizeOf71 (by decide) rfl rfl ?_)
        exact ⟨rfl, rfl⟩
       refine stepsG.cons (fun vals Fs R leFs hpZ => ?_) ?_
       ·replace har := har.mono leFs
        replace hys := hys.mono leFs
        rw [eS (l := [(6, ptr b3 1)]) ⟨(hpZ 6 (by decide)), trivial⟩]
        refine XG.op (XOp.load1 (v := ysv) isAgg71 rfl (Rd.own [_] rfl rfl) ?_)
        exact ⟨rfl, rfl⟩
       exact stepsG.nil
      ·intro vals F8 le8 hphi
       obtain ⟨e2, f2_8ha⟩ := hphi 2 (by decide)
       obtain ⟨e5, f5_8sl0⟩ := hphi 5 (by decide)
       generalize hu3 : ((vals 2)) = u3 at e2 f2_8ha e5 f5_8sl0
       generalize hu4 : ((vals 5)) = u4 at e2 f2_8ha e5 f5_8sl0
       rw [eS (l := [(2, u3), (5, u4), (7, ysv)]) ⟨hu3, hu4, (hphi 7 (by decide)), trivial⟩]
       replace hys := hys.mono le8
       show XL _ _ _ _ _ _ _ (stepsD 2 119 u4 xs :: cellsH b4 [(.slice none 0 0), (.slice none 0 0)] 73 :: cellsH b3 [gv, ysv] 73 :: cellsH b2 [fv, xsv] 73 :: cellsH b1 [arv, rsv] 36 :: L)
       refine cX (XOp.thawL ?_)
       refine id (XOp.call (args := [ysv]) call89 rfl (l7CopySteps_spec hys (hly := (hwd2)) (hyb := (hwb2.2.2))) ?_)
       rintro _ F9 _ le9 ⟨x3, rfl, hr5, hr6, rfl⟩
       refine ⟨[stepsD 2 119 x3 ys], hr6, ?_⟩
       show XL _ _ _ _ _ _ _ (stepsD 2 119 x3 ys :: stepsD 2 119 u4 xs :: cellsH b4 [(.slice none 0 0), (.slice none 0 0)] 73 :: cellsH b3 [gv, ysv] 73 :: cellsH b2 [fv, xsv] 73 :: cellsH b1 [arv, rsv] 36 :: L)
       refine XL.openD [_] _ rfl (fun cs1 Ls1 F10 le10 hs8 hD1 hZ1 => ?_)
       replace f2_8ha := f2_8ha.mono le10
       have hc1 := hD1.steps hZ1
       show XL _ _ _ _ _ _ _ (stepsD 2 119 x3 ys :: slH 119 3 u4 xs.length cs1 :: cellsH b4 [(.slice none 0 0), (.slice none 0 0)] 73 :: cellsH b3 [gv, ysv] 73 :: cellsH b2 [fv, xsv] 73 :: cellsH b1 [arv, rsv] 36 :: L)
       refine XL.freezeF [] _ _ rfl (fun F11 le11 hz4 => ?_)
       replace f2_8ha := f2_8ha.mono le11
       replace hc1 := hc1.mono le11
       have hf4 : StepsF F11 x3 ys := stepsD.fz hz4.fz
       skip
       refine cX (XOp.appendSteps (bytes := 40) (cs := cs1) [] _ runUnderlying71 typeInfo119 rfl rfl rfl rfl rfl rfl rfl hc1 hf4 (by omega) (by omega) ?_)
       intro v8 ds1 hs9 hc2
       refine cX (XOp.build [u3, v8] [(.slice none 0 0), (.slice none 0 0)] [(0, 1), (1, 1)] [(0, [u3]), (1, [v8])] runUnderlying73 zeroValue73 rfl (.cons rfl sizeOf22 (.cons rfl sizeOf71 PlacesAre.nil)) rfl (.cons (cells_one (IntsF.isSl f2_8ha)) (.cons (cells_one hs9) CellsAre.nil)) ?_)
       refine cX (XOp.storeN (vs := [u3, v8]) [_] _ [u3, v8] sizeOf73 rfl rfl rfl (ones_cons (one_sl (IntsF.isSl f2_8ha)) (ones_cons (one_sl hs9) ones_nil)) rfl rfl rfl ?_)
       refine XL.as (.bool (true)) rfl ?_
       refine XL.nil ?_
       refine X.freezeF [] _ _ rfl (fun F12 le12 hz5 => ?_)
       replace f2_8ha := f2_8ha.mono le12
       replace hc2 := hc2.mono le12
       have hf5 : StepsF F12 v8 ((xs ++ ys)) := CO.fz hc2 (by first | rfl | simp | omega) hz5.fz
       refine X.ret (retEnd (L' := L) [.agg #[u3, v8], .bool (true)] (.tuple #[.agg #[u3, v8], .bool (true)]) (.cell rfl (loadNV [u3, v8] isAgg73 sizeOf73 rfl (Rd.ownN [] rfl rfl)) (.tmp rfl .nil)) rfl (FLe.trans (FLe.trans (FLe.trans (FLe.trans le4 le8) le10) le11) le12) rF (Sub.drop (Sub.drop (Sub.drop (Sub.drop sR)))) ?_)
       have e := (joinedF_yes hw1 hw2).trans (joinW_yes hjoin (by omega))
       exact ⟨_, _, by rw [e], by rw [e]; exact f2_8ha, by rw [e]; exact hf5, rfl⟩

/- laws.FnExactJoinedWalk -/
set_option maxRecDepth 20000 in
theorem FnExactJoinedWalk_does {F : FH} {L : List HP} {arv : Value} {ar : List Int} (har : IntsF F arv ar) {rsv : Value} {rs : List (List Int × List Int)} (hrs : PairsF F rsv rs) {fv : Value} {f : List Int} (hf : IntsF F fv f) {xsv : Value} {xs : List StepT} (hxs : StepsF F xsv xs) {gv : Value} {g : List Int} (hg : IntsF F gv g) {ysv : Value} {ys : List StepT} (hys : StepsF F ysv ys) (hlar : ar.length ≤ 9223372036854775807) (hlrs : rs.length ≤ 9223372036854775807) (hbrs : ∀ i, i < rs.length → (rs.getD i ([], [])).1.length ≤ 9223372036854775807 ∧ (rs.getD i ([], [])).2.length ≤ 9223372036854775807) (hlf : f.length ≤ 9223372036854775807) (hlxs : xs.length ≤ 9223372036854775807) (hbxs : ∀ i, i < xs.length → (xs.getD i (0, 0, [])).2.2.length ≤ 9223372036854775807) (hlg : g.length ≤ 9223372036854775807) (hlys : ys.length ≤ 9223372036854775807) (hbys : ∀ i, i < ys.length → (ys.getD i (0, 0, [])).2.2.length ≤ 9223372036854775807) :
    Does prog 7 [.agg #[arv, rsv], .agg #[fv, xsv], .agg #[gv, ysv]] F (L) (fun v F' L' => (.bool (true) : Value) = v ∧ F = F' ∧ L = L') := by
 refine Does.of_X func7 rfl rfl rfl ?_
 have hnb : WalkB (joinedF ar rs f xs g ys).1 (joinedF ar rs f xs g ys).2.1 := joinedF_bound
 have hnc := hnb.1
 have hnd := hnb.2.1
 have hne := hnb.2.2.1
 have hnf := hnb.2.2.2
 refine X.seq (X.region ?_)
 refine cX (XOp.box [arv, rsv] rfl rfl ?_)
 intro b1
 refine cX (XOp.box [fv, xsv] rfl rfl ?_)
 intro b2
 refine cX (XOp.box [gv, ysv] rfl rfl ?_)
 intro b3
 refine XL.as (.bool (false)) rfl ?_
 refine XL.nil (X.seq (X.region ?_))
 refine XL.as (.int .i64 (1048576)) rfl ?_
 refine XL.nil (X.seq (X.region ?_))
 refine cX (XOp.loadN [arv, rsv] isAgg27 sizeOf27 rfl rfl (Rd.ownN [_, _] rfl rfl) ?_)
 refine XL.mv (.int .i64 (1048576)) rfl ?_
 refine cX (XOp.call (args := [.agg #[arv, rsv], .int .i64 (1048576)]) call11 rfl (szSystem_spec (z := 1048576) har hrs (hz := (by first | assumption | rfl | omega | simp)) (hal := (by first | assumption | rfl | omega | simp)) (hrl := (by first | assumption | rfl | omega | simp)) (hrb := (by first | assumption | rfl | omega | simp))) ?_)
 rintro _ _ _ _ ⟨rfl, rfl, rfl⟩
 refine XL.as (.int .i64 (dec 1048576 (ar.length + szR rs))) rfl ?_
 refine XL.nil (X.seq (X.seq (X.region ?_)))
 refine XL.mv (.int .i64 (dec 1048576 (ar.length + szR rs))) rfl ?_
 refine cX (XOp.lss (a := dec 1048576 (ar.length + szR rs)) (b := 0) rfl rfl ?_)
 refine XL.nil ?_
 refine X.condD (p := (dec 1048576 (ar.length + szR rs) : Int) < 0) rfl (fun h1 => ?_) (fun h1 => ?_)
 ·refine X.seq (X.region ?_)
  refine XL.as (.bool (true)) rfl ?_
  refine XL.nil ?_
  refine X.ret (thenQ_ret (retEnd (L' := L) [.bool (true)] (.bool (true)) (.tmp rfl .nil) rfl rF rF (Sub.drop (Sub.drop (Sub.drop sR))) ?_))
  exact ⟨rfl, rfl, rfl⟩
 ·have hd1 := dec_le2 h1 (by omega)
  have hzrs := szR_le (rs := rs)
  have hirs := hzrs.2
  have hcrs : ∀ i, i < rs.length → (rs.getD i ([], [])).1.length ≤ 4000000 ∧ (rs.getD i ([], [])).2.length ≤ 4000000 := fun i hi => by have := hirs i hi; omega
  have hfrs := flatPair_len rs
  refine X.skip (X.seq (X.region ?_))
  refine cX (XOp.loadN [fv, xsv] isAgg69 sizeOf69 rfl rfl (Rd.ownN [_] rfl rfl) ?_)
  refine XL.mv (.int .i64 (dec 1048576 (ar.length + szR rs))) rfl ?_
  refine cX (XOp.call (args := [.agg #[fv, xsv], .int .i64 (dec 1048576 (ar.length + szR rs))]) call35 rfl (szWalk_spec (z := dec 1048576 (ar.length + szR rs)) hf hxs (hz := (by first | assumption | rfl | omega | simp)) (hal := (by first | assumption | rfl | omega | simp)) (hrl := (by first | assumption | rfl | omega | simp)) (hrb := (by first | assumption | rfl | omega | simp))) ?_)
  rintro _ _ _ _ ⟨rfl, rfl, rfl⟩
  refine XL.as (.int .i64 (dec (dec 1048576 (ar.length + szR rs)) (f.length + szG lenS xs))) rfl ?_
  refine XL.nil (X.seq (X.seq (X.region ?_)))
  refine XL.mv (.int .i64 (dec (dec 1048576 (ar.length + szR rs)) (f.length + szG lenS xs))) rfl ?_
  refine cX (XOp.lss (a := dec (dec 1048576 (ar.length + szR rs)) (f.length + szG lenS xs)) (b := 0) rfl rfl ?_)
  refine XL.nil ?_
  refine X.condD (p := (dec (dec 1048576 (ar.length + szR rs)) (f.length + szG lenS xs) : Int) < 0) rfl (fun h2 => ?_) (fun h2 => ?_)
  ·refine X.seq (X.region ?_)
   refine XL.as (.bool (true)) rfl ?_
   refine XL.nil ?_
   refine X.ret (thenQ_ret (retEnd (L' := L) [.bool (true)] (.bool (true)) (.tmp rfl .nil) rfl rF rF (Sub.drop (Sub.drop (Sub.drop sR))) ?_))
   exact ⟨rfl, rfl, rfl⟩
  ·have hd2 := dec_le2 h2 (by omega)
   have hzxs := szG_le (f := lenS) (l := xs) ((0 : Int), (0 : Int), ([] : List Int))
   have hixs := hzxs.2
   have hcxs : ∀ i, i < xs.length → (xs.getD i (0, 0, [])).2.2.length ≤ 4000000 := fun i hi => by have h9 := hixs i hi; have h8 : lenS (xs.getD i (0, 0, [])) = (xs.getD i (0, 0, [])).2.2.length := rfl; omega
   have hfxs := flatStep_len xs
   have hq9xs : szG lenS xs = xs.length + gTo lenS xs xs.length := rfl
   refine X.skip (X.seq (X.region ?_))
   refine cX (XOp.loadN [gv, ysv] isAgg69 sizeOf69 rfl rfl (Rd.ownN [] rfl rfl) ?_)
   refine XL.mv (.int .i64 (dec (dec 1048576 (ar.length + szR rs)) (f.length + szG lenS xs))) rfl ?_
   refine cX (XOp.call (args := [.agg #[gv, ysv], .int .i64 (dec (dec 1048576 (ar.length + szR rs)) (f.length + szG lenS xs))]) call35 rfl (szWalk_spec (z := dec (dec 1048576 (ar.length + szR rs)) (f.length + szG lenS xs)) hg hys (hz := (by first | assumption | rfl | omega | simp)) (hal := (by first | assumption | rfl | omega | simp)) (hrl := (by first | assumption | rfl | omega | simp)) (hrb := (by first | assumption | rfl | omega | simp))) ?_)
   rintro _ _ _ _ ⟨rfl, rfl, rfl⟩
   refine XL.as (.int .i64 (dec (dec (dec 1048576 (ar.length + szR rs)) (f.length + szG lenS xs)) (g.length + szG lenS ys))) rfl ?_
   refine XL.nil (X.seq (X.seq (X.region ?_)))
   refine XL.mv (.int .i64 (dec (dec (dec 1048576 (ar.length + szR rs)) (f.length + szG lenS xs)) (g.length + szG lenS ys))) rfl ?_
   refine cX (XOp.lss (a := dec (dec (dec 1048576 (ar.length + szR rs)) (f.length + szG lenS xs)) (g.length + szG lenS ys)) (b := 0) rfl rfl ?_)
   refine XL.nil ?_
   refine X.condD (p := (dec (dec (dec 1048576 (ar.length + szR rs)) (f.length + szG lenS xs)) (g.length + szG lenS ys) : Int) < 0) rfl (fun h3 => ?_) (fun h3 => ?_)
   ·refine X.seq (X.region ?_)
    refine XL.as (.bool (true)) rfl ?_
    refine XL.nil ?_
    refine X.ret (thenQ_ret (retEnd (L' := L) [.bool (true)] (.bool (true)) (.tmp rfl .nil) rfl rF rF (Sub.drop (Sub.drop (Sub.drop sR))) ?_))
    exact ⟨rfl, rfl, rfl⟩
   ·have hd3 := dec_le2 h3 (by omega)
    have hzys := szG_le (f := lenS) (l := ys) ((0 : Int), (0 : Int), ([] : List Int))
    have hiys := hzys.2
    have hcys : ∀ i, i < ys.length → (ys.getD i (0, 0, [])).2.2.length ≤ 4000000 := fun i hi => by have h9 := hiys i hi; have h8 : lenS (ys.getD i (0, 0, [])) = (ys.getD i (0, 0, [])).2.2.length := rfl; omega
    have hfys := flatStep_len ys
    have hq9ys : szG lenS ys = ys.length + gTo lenS ys ys.length := rfl
    refine X.skip (X.seq ?_)
    refine X.drawG [cellsH b3 [gv, ysv] 69, cellsH b2 [fv, xsv] 69, cellsH b1 [arv, rsv] 27] L 12 [[], [], [], [], [], [], [], [6], [6], [], [], [6, 10]] [[], [0], [], [2], [], [4], [1, 3, 5], [6], [6, 7], [6, 7], [], [6, 8, 10]] [[], [], [], [], [], [], [], [], [], [], [], [10]] (phiG [fun FF us v => v = (.agg #[arv, rsv] : Value), fun FF us v => (.agg #[((aggAt v 0)), ((aggAt v 1))] : Value) = v ∧ (IntsF FF ((aggAt v 0)) ar) ∧ (PairsF FF ((aggAt v 1)) rs), fun FF us v => v = (.agg #[fv, xsv] : Value), fun FF us v => (.agg #[((aggAt v 0)), ((aggAt v 1))] : Value) = v ∧ (IntsF FF ((aggAt v 0)) f) ∧ (StepsF FF ((aggAt v 1)) xs), fun FF us v => v = (.agg #[gv, ysv] : Value), fun FF us v => (.agg #[((aggAt v 0)), ((aggAt v 1))] : Value) = v ∧ (IntsF FF ((aggAt v 0)) g) ∧ (StepsF FF ((aggAt v 1)) ys), fun FF us v => (.tuple #[.agg #[((aggAt (tupAt v 0) 0)), ((aggAt (tupAt v 0) 1))], .bool ((joinedF ar rs f xs g ys).2.2)] : Value) = v ∧ (IntsF FF ((aggAt (tupAt v 0) 0)) (joinedF ar rs f xs g ys).1) ∧ (StepsF FF ((aggAt (tupAt v 0) 1)) (joinedF ar rs f xs g ys).2.1), fun FF us v => v = (.tuple #[.agg #[((aggAt (tupAt (us.getD 0 undef) 0) 0)), ((aggAt (tupAt (us.getD 0 undef) 0) 1))], .bool ((joinedF ar rs f xs g ys).2.2)] : Value), fun FF us v => v = (.agg #[((aggAt (tupAt (us.getD 0 undef) 0) 0)), ((aggAt (tupAt (us.getD 0 undef) 0) 1))] : Value), fun FF us v => v = (.bool ((joinedF ar rs f xs g ys).2.2) : Value), fun FF us v => v = ptr (blk v) 0, fun FF us v => True]) (ownL [fun us v => [], fun us v => [], fun us v => [], fun us v => [], fun us v => [], fun us v => [], fun us v => [], fun us v => [], fun us v => [], fun us v => [], fun us v => [cellsH (blk v) [(.slice none 0 0), (.slice none 0 0)] 73], fun us v => [cellsH (blk (us.getD 1 undef)) [((aggAt (tupAt (us.getD 0 undef) 0) 0)), ((aggAt (tupAt (us.getD 0 undef) 0) 1))] 73]]) mixed rfl rfl (by kernel_rfl) (by kernel_rfl) (MonoG.get (MonoG.cons (fun le h => h) (MonoG.cons (fun le h => ⟨h.1, h.2.1.mono le, h.2.2.mono le⟩) (MonoG.cons (fun le h => h) (MonoG.cons (fun le h => ⟨h.1, h.2.1.mono le, h.2.2.mono le⟩) (MonoG.cons (fun le h => h) (MonoG.cons (fun le h => ⟨h.1, h.2.1.mono le, h.2.2.mono le⟩) (MonoG.cons (fun le h => ⟨h.1, h.2.1.mono le, h.2.2.mono le⟩) (MonoG.cons (fun le h => h) (MonoG.cons (fun le h => h) (MonoG.cons (fun le h => h) (MonoG.cons (fun le h => h) (MonoG.cons (fun le h => h) MonoG.nil))))))))))))) ?_ ?_
    ·refine stepsG.cons (fun vals Fs R leFs hpZ => ?_) ?_
     ·replace har := har.mono leFs
      replace hrs := hrs.mono leFs
      replace hf := hf.mono leFs
      replace hxs := hxs.mono leFs
      replace hg := hg.mono leFs
      replace hys := hys.mono leFs
      refine XG.op (XOp.loadN [arv, rsv] isAgg27 sizeOf27 rfl rfl (Rd.ownN [_, _] rfl rfl) ?_)
      exact ⟨rfl, rfl⟩
     refine stepsG.cons (fun vals Fs R leFs hpZ => ?_) ?_
     ·replace har := har.mono leFs
      replace hrs := hrs.mono leFs
      replace hf := hf.mono leFs
      replace hxs := hxs.mono leFs
      replace hg := hg.mono leFs
      replace hys := hys.mono leFs
      rw [eS (l := [(0, (.agg #[arv, rsv] : Value))]) ⟨(hpZ 0 (by decide)), trivial⟩]
      refine XG.op (XOp.call (args := [.agg #[arv, rsv]]) call14 rfl (toSystem_spec har hrs (hla := (by first | assumption | rfl | omega | simp)) (hrl := (by first | assumption | rfl | omega | simp)) (hrb := (by first | assumption | rfl | omega | simp))) ?_)
      rintro _ F5 _ le5 ⟨x9, x10, rfl, hr12, hr13, hr14, rfl⟩
      replace har := har.mono le5
      replace hrs := hrs.mono le5
      replace hf := hf.mono le5
      replace hxs := hxs.mono le5
      replace hg := hg.mono le5
      replace hys := hys.mono le5
      exact ⟨⟨rfl, hr12, hr13⟩, rfl⟩
     refine stepsG.cons (fun vals Fs R leFs hpZ => ?_) ?_
     ·replace har := har.mono leFs
      replace hrs := hrs.mono leFs
      replace hf := hf.mono leFs
      replace hxs := hxs.mono leFs
      replace hg := hg.mono leFs
      replace hys := hys.mono leFs
      refine XG.op (XOp.loadN [fv, xsv] isAgg69 sizeOf69 rfl rfl (Rd.ownN [_] rfl rfl) ?_)
      exact ⟨rfl, rfl⟩
     refine stepsG.cons (fun vals Fs R leFs hpZ => ?_) ?_
     ·replace har := har.mono leFs
      replace hrs := hrs.mono leFs
      replace hf := hf.mono leFs
      replace hxs := hxs.mono leFs
      replace hg := hg.mono leFs
      replace hys := hys.mono leFs
      rw [eS (l := [(2, (.agg #[fv, xsv] : Value))]) ⟨(hpZ 2 (by decide)), trivial⟩]
      refine XG.op (XOp.call (args := [.agg #[fv, xsv]]) call37 rfl (toWalk_spec hf hxs (hfl := (by first | assumption | rfl | omega | simp)) (hsl := (by first | assumption | rfl | omega | simp)) (hsb := (by first | assumption | rfl | omega | simp))) ?_)
      rintro _ F6 _ le6 ⟨x11, x12, rfl, hr15, hr16, hr17, rfl⟩
      replace har := har.mono le6
      replace hrs := hrs.mono le6
      replace hf := hf.mono le6
      replace hxs := hxs.mono le6
      replace hg := hg.mono le6
      replace hys := hys.mono le6
      exact ⟨⟨rfl, hr15, hr16⟩, rfl⟩
     refine stepsG.cons (fun vals Fs R leFs hpZ => ?_) ?_
     ·replace har := har.mono leFs
      replace hrs := hrs.mono leFs
      replace hf := hf.mono leFs
      replace hxs := hxs.mono leFs
      replace hg := hg.mono leFs
      replace hys := hys.mono leFs
      refine XG.op (XOp.loadN [gv, ysv] isAgg69 sizeOf69 rfl rfl (Rd.ownN [] rfl rfl) ?_)
      exact ⟨rfl, rfl⟩
     refine stepsG.cons (fun vals Fs R leFs hpZ => ?_) ?_
     ·replace har := har.mono leFs
      replace hrs := hrs.mono leFs
      replace hf := hf.mono leFs
      replace hxs := hxs.mono leFs
      replace hg := hg.mono leFs
      replace hys := hys.mono leFs
      rw [eS (l := [(4, (.agg #[gv, ysv] : Value))]) ⟨(hpZ 4 (by decide)), trivial⟩]
      refine XG.op (XOp.call (args := [.agg #[gv, ysv]]) call37 rfl (toWalk_spec hg hys (hfl := (by first | assumption | rfl | omega | simp)) (hsl := (by first | assumption | rfl | omega | simp)) (hsb := (by first | assumption | rfl | omega | simp))) ?_)
      rintro _ F7 _ le7 ⟨x13, x14, rfl, hr18, hr19, hr20, rfl⟩
      replace har := har.mono le7
      replace hrs := hrs.mono le7
      replace hf := hf.mono le7
      replace hxs := hxs.mono le7
      replace hg := hg.mono le7
      replace hys := hys.mono le7
      exact ⟨⟨rfl, hr18, hr19⟩, rfl⟩
     refine stepsG.cons (fun vals Fs R leFs hpZ => ?_) ?_
     ·obtain ⟨e1, f1_1hr1, f1_1hr2⟩ := hpZ 1 (by decide)
      obtain ⟨e3, f3_1hr1, f3_1hr2⟩ := hpZ 3 (by decide)
      obtain ⟨e5, f5_1hr1, f5_1hr2⟩ := hpZ 5 (by decide)
      replace har := har.mono leFs
      replace hrs := hrs.mono leFs
      replace hf := hf.mono leFs
      replace hxs := hxs.mono leFs
      replace hg := hg.mono leFs
      replace hys := hys.mono leFs
      rw [eS (l := [(1, (.agg #[((aggAt (vals 1) 0)), ((aggAt (vals 1) 1))] : Value)), (3, (.agg #[((aggAt (vals 3) 0)), ((aggAt (vals 3) 1))] : Value)), (5, (.agg #[((aggAt (vals 5) 0)), ((aggAt (vals 5) 1))] : Value))]) ⟨(e1).symm, (e3).symm, (e5).symm, trivial⟩]
      refine XG.op (XOp.call (args := [.agg #[((aggAt (vals 1) 0)), ((aggAt (vals 1) 1))], .agg #[((aggAt (vals 3) 0)), ((aggAt (vals 3) 1))], .agg #[((aggAt (vals 5) 0)), ((aggAt (vals 5) 1))]]) call36 rfl (sJoinedWalk_spec f1_1hr1 f1_1hr2 f3_1hr1 f3_1hr2 f5_1hr1 f5_1hr2 (hla := (by first | assumption | rfl | omega | simp)) (hlr := (by first | assumption | rfl | omega | simp)) (hrb := (by first | assumption | rfl | omega | simp)) (hlss := (by first | assumption | rfl | omega | simp)) (hlys := (by first | assumption | rfl | omega | simp)) (hlf := (by first | assumption | rfl | omega | simp)) (hsb := (by first | assumption | rfl | omega | simp)) (hlg := (by first | assumption | rfl | omega | simp)) (hyb := (by first | assumption | rfl | omega | simp))) ?_)
      rintro _ F8 _ le8 ⟨x15, x16, rfl, hr21, hr22, rfl⟩
      replace har := har.mono le8
      replace hrs := hrs.mono le8
      replace hf := hf.mono le8
      replace hxs := hxs.mono le8
      replace hg := hg.mono le8
      replace hys := hys.mono le8
      replace f1_1hr1 := f1_1hr1.mono le8
      replace f1_1hr2 := f1_1hr2.mono le8
      replace f3_1hr1 := f3_1hr1.mono le8
      replace f3_1hr2 := f3_1hr2.mono le8
      replace f5_1hr1 := f5_1hr1.mono le8
      replace f5_1hr2 := f5_1hr2.mono le8
      exact ⟨⟨rfl, hr21, hr22⟩, rfl⟩
     refine stepsG.cons (fun vals Fs R leFs hpZ => ?_) ?_
     ·obtain ⟨e6, f6_1hr1, f6_1hr2⟩ := hpZ 6 (by decide)
      rw [eS (l := [(6, (.tuple #[.agg #[((aggAt (tupAt (vals 6) 0) 0)), ((aggAt (tupAt (vals 6) 0) 1))], .bool ((joinedF ar rs f xs g ys).2.2)] : Value))]) ⟨(e6).symm, trivial⟩]
      refine XG.op (XOp.move (.tuple #[.agg #[((aggAt (tupAt (vals 6) 0) 0)), ((aggAt (tupAt (vals 6) 0) 1))], .bool ((joinedF ar rs f xs g ys).2.2)]) rfl ?_)
      exact ⟨rfl, rfl⟩
     refine stepsG.cons (fun vals Fs R leFs hpZ => ?_) ?_
     ·obtain ⟨e6, f6_1hr1, f6_1hr2⟩ := hpZ 6 (by decide)
      have e7 : vals 7 = (.tuple #[.agg #[((aggAt (tupAt (vals 6) 0) 0)), ((aggAt (tupAt (vals 6) 0) 1))], .bool ((joinedF ar rs f xs g ys).2.2)] : Value) := hpZ 7 (by decide)
      rw [eS (l := [(6, (.tuple #[.agg #[((aggAt (tupAt (vals 6) 0) 0)), ((aggAt (tupAt (vals 6) 0) 1))], .bool ((joinedF ar rs f xs g ys).2.2)] : Value)), (7, (.tuple #[.agg #[((aggAt (tupAt (vals 6) 0) 0)), ((aggAt (tupAt (vals 6) 0) 1))], .bool ((joinedF ar rs f xs g ys).2.2)] : Value))]) ⟨(e6).symm, e7, trivial⟩]
      refine XG.op (XOp.extract (.agg #[((aggAt (tupAt (vals 6) 0) 0)), ((aggAt (tupAt (vals 6) 0) 1))]) rfl rfl ?_)
      exact ⟨rfl, rfl⟩
     refine stepsG.cons (fun vals Fs R leFs hpZ => ?_) ?_
     ·obtain ⟨e6, f6_1hr1, f6_1hr2⟩ := hpZ 6 (by decide)
      have e7 : vals 7 = (.tuple #[.agg #[((aggAt (tupAt (vals 6) 0) 0)), ((aggAt (tupAt (vals 6) 0) 1))], .bool ((joinedF ar rs f xs g ys).2.2)] : Value) := hpZ 7 (by decide)
      rw [eS (l := [(6, (.tuple #[.agg #[((aggAt (tupAt (vals 6) 0) 0)), ((aggAt (tupAt (vals 6) 0) 1))], .bool ((joinedF ar rs f xs g ys).2.2)] : Value)), (7, (.tuple #[.agg #[((aggAt (tupAt (vals 6) 0) 0)), ((aggAt (tupAt (vals 6) 0) 1))], .bool ((joinedF ar rs f xs g ys).2.2)] : Value))]) ⟨(e6).symm, e7, trivial⟩]
      refine XG.op (XOp.extract (.bool ((joinedF ar rs f xs g ys).2.2)) rfl rfl ?_)
      exact ⟨rfl, rfl⟩
     refine stepsG.cons (fun vals Fs R leFs hpZ => ?_) ?_
     ·replace har := har.mono leFs
      replace hrs := hrs.mono leFs
      replace hf := hf.mono leFs
      replace hxs := hxs.mono leFs
      replace hg := hg.mono leFs
      replace hys := hys.mono leFs
      refine XG.op (XOp.alloc [(.slice none 0 0), (.slice none 0 0)] zeroValue73 rfl ?_)
      intro b5
      exact ⟨rfl, rfl⟩
     refine stepsG.cons (fun vals Fs R leFs hpZ => ?_) ?_
     ·obtain ⟨e6, f6_1hr1, f6_1hr2⟩ := hpZ 6 (by decide)
      have e8 : vals 8 = (.agg #[((aggAt (tupAt (vals 6) 0) 0)), ((aggAt (tupAt (vals 6) 0) 1))] : Value) := hpZ 8 (by decide)
      have e10 : vals 10 = ptr (blk (vals 10)) 0 := hpZ 10 (by decide)
      replace har := har.mono leFs
      replace hrs := hrs.mono leFs
      replace hf := hf.mono leFs
      replace hxs := hxs.mono leFs
      replace hg := hg.mono leFs
      replace hys := hys.mono leFs
      rw [eS (l := [(6, (.tuple #[.agg #[((aggAt (tupAt (vals 6) 0) 0)), ((aggAt (tupAt (vals 6) 0) 1))], .bool ((joinedF ar rs f xs g ys).2.2)] : Value)), (8, (.agg #[((aggAt (tupAt (vals 6) 0) 0)), ((aggAt (tupAt (vals 6) 0) 1))] : Value)), (10, ptr (blk (vals 10)) 0)]) ⟨(e6).symm, e8, e10, trivial⟩]
      show XG _ _ _ _ _ (cellsH (blk (vals 10)) [(.slice none 0 0), (.slice none 0 0)] 73 :: ([cellsH b3 [gv, ysv] 69, cellsH b2 [fv, xsv] 69, cellsH b1 [arv, rsv] 27] ++ R)) _
      refine XG.op (XOp.storeN (vs := [((aggAt (tupAt (vals 6) 0) 0)), ((aggAt (tupAt (vals 6) 0) 1))]) [] _ [((aggAt (tupAt (vals 6) 0) 0)), ((aggAt (tupAt (vals 6) 0) 1))] sizeOf73 rfl rfl rfl (ones_cons (one_sl (IntsF.isSl f6_1hr1)) (ones_cons (one_sl (StepsF.isSl f6_1hr2)) ones_nil)) rfl rfl rfl ?_)
      exact ⟨trivial, rfl⟩
     exact stepsG.nil
    ·intro vals F9 le9 hphi
     obtain ⟨e1, f1_1hr1, f1_1hr2⟩ := hphi 1 (by decide)
     obtain ⟨e3, f3_1hr1, f3_1hr2⟩ := hphi 3 (by decide)
     obtain ⟨e5, f5_1hr1, f5_1hr2⟩ := hphi 5 (by decide)
     obtain ⟨e6, f6_1hr1, f6_1hr2⟩ := hphi 6 (by decide)
     have e7 : vals 7 = (.tuple #[.agg #[((aggAt (tupAt (vals 6) 0) 0)), ((aggAt (tupAt (vals 6) 0) 1))], .bool ((joinedF ar rs f xs g ys).2.2)] : Value) := hphi 7 (by decide)
     have e8 : vals 8 = (.agg #[((aggAt (tupAt (vals 6) 0) 0)), ((aggAt (tupAt (vals 6) 0) 1))] : Value) := hphi 8 (by decide)
     have e10 : vals 10 = ptr (blk (vals 10)) 0 := hphi 10 (by decide)
     generalize hu1 : ((aggAt (vals 1) 0)) = u1 at e1 f1_1hr1 f1_1hr2 e3 f3_1hr1 f3_1hr2 e5 f5_1hr1 f5_1hr2 e6 f6_1hr1 f6_1hr2 e7 e8 e10
     generalize hu2 : ((aggAt (vals 1) 1)) = u2 at e1 f1_1hr1 f1_1hr2 e3 f3_1hr1 f3_1hr2 e5 f5_1hr1 f5_1hr2 e6 f6_1hr1 f6_1hr2 e7 e8 e10
     generalize hu3 : ((aggAt (vals 3) 0)) = u3 at e1 f1_1hr1 f1_1hr2 e3 f3_1hr1 f3_1hr2 e5 f5_1hr1 f5_1hr2 e6 f6_1hr1 f6_1hr2 e7 e8 e10
     generalize hu4 : ((aggAt (vals 3) 1)) = u4 at e1 f1_1hr1 f1_1hr2 e3 f3_1hr1 f3_1hr2 e5 f5_1hr1 f5_1hr2 e6 f6_1hr1 f6_1hr2 e7 e8 e10
     generalize hu5 : ((aggAt (vals 5) 0)) = u5 at e1 f1_1hr1 f1_1hr2 e3 f3_1hr1 f3_1hr2 e5 f5_1hr1 f5_1hr2 e6 f6_1hr1 f6_1hr2 e7 e8 e10
     generalize hu6 : ((aggAt (vals 5) 1)) = u6 at e1 f1_1hr1 f1_1hr2 e3 f3_1hr1 f3_1hr2 e5 f5_1hr1 f5_1hr2 e6 f6_1hr1 f6_1hr2 e7 e8 e10
     generalize hu7 : ((aggAt (tupAt (vals 6) 0) 0)) = u7 at e1 f1_1hr1 f1_1hr2 e3 f3_1hr1 f3_1hr2 e5 f5_1hr1 f5_1hr2 e6 f6_1hr1 f6_1hr2 e7 e8 e10
     generalize hu8 : ((aggAt (tupAt (vals 6) 0) 1)) = u8 at e1 f1_1hr1 f1_1hr2 e3 f3_1hr1 f3_1hr2 e5 f5_1hr1 f5_1hr2 e6 f6_1hr1 f6_1hr2 e7 e8 e10
     generalize hu9 : blk (vals 10) = b6 at e1 f1_1hr1 f1_1hr2 e3 f3_1hr1 f3_1hr2 e5 f5_1hr1 f5_1hr2 e6 f6_1hr1 f6_1hr2 e7 e8 e10
     rw [eS (l := [(6, (.tuple #[.agg #[u7, u8], .bool ((joinedF ar rs f xs g ys).2.2)] : Value)), (9, (.bool ((joinedF ar rs f xs g ys).2.2) : Value)), (10, ptr b6 0)]) ⟨(e6).symm, (hphi 9 (by decide)), e10, trivial⟩]
     replace har := har.mono le9
     replace hrs := hrs.mono le9
     replace hf := hf.mono le9
     replace hxs := hxs.mono le9
     replace hg := hg.mono le9
     replace hys := hys.mono le9
     show XL _ _ _ _ _ _ _ (cellsH b6 [u7, u8] 73 :: cellsH b3 [gv, ysv] 69 :: cellsH b2 [fv, xsv] 69 :: cellsH b1 [arv, rsv] 27 :: L)
     refine XL.as (.bool ((joinedF ar rs f xs g ys).2.2)) rfl ?_
     refine XL.nil (X.seq (X.region ?_))
     refine cX (XOp.loadN [arv, rsv] isAgg27 sizeOf27 rfl rfl (Rd.ownN [_, _, _] rfl rfl) ?_)
     refine cX (XOp.thawL ?_)
     refine id (XOp.call (args := [.agg #[arv, rsv]]) call14 rfl (toSystem_spec har hrs (hla := (by first | assumption | rfl | omega | simp)) (hrl := (by first | assumption | rfl | omega | simp)) (hrb := (by first | assumption | rfl | omega | simp))) ?_)
     rintro _ F10 _ le10 ⟨x17, x18, rfl, hr23, hr24, hr25, rfl⟩
     refine ⟨[intsH 2 x17 ar, pairsD 2 98 x18 rs], hr25, ?_⟩
     show XL _ _ _ _ _ _ _ (intsH 2 x17 ar :: pairsD 2 98 x18 rs :: cellsH b6 [u7, u8] 73 :: cellsH b3 [gv, ysv] 69 :: cellsH b2 [fv, xsv] 69 :: cellsH b1 [arv, rsv] 27 :: L)
     refine cX (XOp.alloc [(.slice none 0 0), (.slice none 0 0)] zeroValue36 rfl ?_)
     intro b7
     refine cX (XOp.storeN (vs := [x17, x18]) [] _ [x17, x18] sizeOf36 rfl rfl rfl (ones_cons (one_sl (IntsF.isSl hr23)) (ones_cons (one_sl (PairsF.isSl hr24)) ones_nil)) rfl rfl rfl ?_)
     refine XL.nil (X.seq (X.region ?_))
     refine cX (XOp.loadN [fv, xsv] isAgg69 sizeOf69 rfl rfl (Rd.ownN [_, _, _, _, _] rfl rfl) ?_)
     refine cX (XOp.thawL ?_)
     refine id (XOp.call (args := [.agg #[fv, xsv]]) call37 rfl (toWalk_spec hf hxs (hfl := (by first | assumption | rfl | omega | simp)) (hsl := (by first | assumption | rfl | omega | simp)) (hsb := (by first | assumption | rfl | omega | simp))) ?_)
     rintro _ F11 _ le11 ⟨x19, x20, rfl, hr26, hr27, hr28, rfl⟩
     refine ⟨[intsH 2 x19 f, stepsD 2 119 x20 xs], hr28, ?_⟩
     show XL _ _ _ _ _ _ _ (intsH 2 x19 f :: stepsD 2 119 x20 xs :: cellsH b7 [x17, x18] 36 :: intsH 2 x17 ar :: pairsD 2 98 x18 rs :: cellsH b6 [u7, u8] 73 :: cellsH b3 [gv, ysv] 69 :: cellsH b2 [fv, xsv] 69 :: cellsH b1 [arv, rsv] 27 :: L)
     refine cX (XOp.alloc [(.slice none 0 0), (.slice none 0 0)] zeroValue73 rfl ?_)
     intro b8
     refine cX (XOp.storeN (vs := [x19, x20]) [] _ [x19, x20] sizeOf73 rfl rfl rfl (ones_cons (one_sl (IntsF.isSl hr26)) (ones_cons (one_sl (StepsF.isSl hr27)) ones_nil)) rfl rfl rfl ?_)
     refine XL.nil (X.seq (X.region ?_))
     refine cX (XOp.loadN [gv, ysv] isAgg69 sizeOf69 rfl rfl (Rd.ownN [_, _, _, _, _, _, _] rfl rfl) ?_)
     refine cX (XOp.thawL ?_)
     refine id (XOp.call (args := [.agg #[gv, ysv]]) call37 rfl (toWalk_spec hg hys (hfl := (by first | assumption | rfl | omega | simp)) (hsl := (by first | assumption | rfl | omega | simp)) (hsb := (by first | assumption | rfl | omega | simp))) ?_)
     rintro _ F12 _ le12 ⟨x21, x22, rfl, hr29, hr30, hr31, rfl⟩
     refine ⟨[intsH 2 x21 g, stepsD 2 119 x22 ys], hr31, ?_⟩
     show XL _ _ _ _ _ _ _ (intsH 2 x21 g :: stepsD 2 119 x22 ys :: cellsH b8 [x19, x20] 73 :: intsH 2 x19 f :: stepsD 2 119 x20 xs :: cellsH b7 [x17, x18] 36 :: intsH 2 x17 ar :: pairsD 2 98 x18 rs :: cellsH b6 [u7, u8] 73 :: cellsH b3 [gv, ysv] 69 :: cellsH b2 [fv, xsv] 69 :: cellsH b1 [arv, rsv] 27 :: L)
     refine cX (XOp.alloc [(.slice none 0 0), (.slice none 0 0)] zeroValue73 rfl ?_)
     intro b9
     refine cX (XOp.storeN (vs := [x21, x22]) [] _ [x21, x22] sizeOf73 rfl rfl rfl (ones_cons (one_sl (IntsF.isSl hr29)) (ones_cons (one_sl (StepsF.isSl hr30)) ones_nil)) rfl rfl rfl ?_)
     refine XL.nil (X.seq (X.region ?_))
     refine cX (XOp.loadN [x17, x18] isAgg36 sizeOf36 rfl rfl (Rd.ownN [_, _, _, _, _, _] rfl rfl) ?_)
     refine cX (XOp.loadN [x19, x20] isAgg73 sizeOf73 rfl rfl (Rd.ownN [_, _, _] rfl rfl) ?_)
     refine cX (XOp.loadN [x21, x22] isAgg73 sizeOf73 rfl rfl (Rd.ownN [] rfl rfl) ?_)
     refine cX (XOp.lend [_, _, _, _, _, _, _] _ _ rfl (fun F13 le13 hz1 => ?_))
     refine id (XOp.lend [_, _, _, _, _, _, _] _ _ rfl (fun F14 le14 hz2 => ?_))
     refine id (XOp.lend [_, _, _, _] _ _ rfl (fun F15 le15 hz3 => ?_))
     refine id (XOp.lend [_, _, _, _] _ _ rfl (fun F16 le16 hz4 => ?_))
     refine id (XOp.lend [_] _ _ rfl (fun F17 le17 hz5 => ?_))
     refine id (XOp.lend [_] _ _ rfl (fun F18 le18 hz6 => ?_))
     have hf1 : IntsF _ x17 ar := (intsH.fz (xs := ar) hz1).mono (FLe.trans (FLe.trans (FLe.trans (FLe.trans le14 le15) le16) le17) le18)
     have hf2 : PairsF _ x18 rs := (pairsD.fz hz2).mono (FLe.trans (FLe.trans (FLe.trans le15 le16) le17) le18)
     have hf3 : IntsF _ x19 f := (intsH.fz (xs := f) hz3).mono (FLe.trans (FLe.trans le16 le17) le18)
     have hf4 : StepsF _ x20 xs := (stepsD.fz hz4).mono (FLe.trans le17 le18)
     have hf5 : IntsF _ x21 g := (intsH.fz (xs := g) hz5).mono le18
     have hf6 : StepsF _ x22 ys := stepsD.fz hz6
     refine id (XOp.thawL ?_)
     refine id (XOp.call (args := [.agg #[x17, x18], .agg #[x19, x20], .agg #[x21, x22]]) call38 rfl (JoinedWalk_spec hf1 hf2 hf3 hf4 hf5 hf6 (hlf := (by first | assumption | rfl | omega | simp)) (hsb := (by first | assumption | rfl | omega | simp)) (hlg := (by first | assumption | rfl | omega | simp)) (hyb := (by first | assumption | rfl | omega | simp))) ?_)
     rintro _ F19 _ le19 ⟨x23, x24, rfl, hr32, hr33, hr34, rfl⟩
     refine ⟨[intsH 2 x23 ((joinedF ar rs f xs g ys).1), stepsD 2 119 x24 ((joinedF ar rs f xs g ys).2.1)], hr34, ?_⟩
     show XL _ _ _ _ _ _ _ (intsH 2 x17 ar :: pairsD 2 98 x18 rs :: intsH 2 x19 f :: stepsD 2 119 x20 xs :: intsH 2 x21 g :: stepsD 2 119 x22 ys :: intsH 2 x23 ((joinedF ar rs f xs g ys).1) :: stepsD 2 119 x24 ((joinedF ar rs f xs g ys).2.1) :: cellsH b9 [x21, x22] 73 :: cellsH b8 [x19, x20] 73 :: cellsH b7 [x17, x18] 36 :: cellsH b6 [u7, u8] 73 :: cellsH b3 [gv, ysv] 69 :: cellsH b2 [fv, xsv] 69 :: cellsH b1 [arv, rsv] 27 :: L)
     refine XL.mv (.tuple #[.agg #[x23, x24], .bool ((joinedF ar rs f xs g ys).2.2)]) rfl ?_
     refine cX (XOp.extract (.agg #[x23, x24]) rfl rfl ?_)
     refine cX (XOp.extract (.bool ((joinedF ar rs f xs g ys).2.2)) rfl rfl ?_)
     refine cX (XOp.alloc [(.slice none 0 0), (.slice none 0 0)] zeroValue73 rfl ?_)
     intro b10
     refine cX (XOp.storeN (vs := [x23, x24]) [] _ [x23, x24] sizeOf73 rfl rfl rfl (ones_cons (one_sl (IntsF.isSl hr32)) (ones_cons (one_sl (StepsF.isSl hr33)) ones_nil)) rfl rfl rfl ?_)
     refine XL.as (.bool ((joinedF ar rs f xs g ys).2.2)) rfl ?_
     refine XL.nil (X.seq (X.seq (X.region ?_)))
     refine cX (XOp.loadN [x23, x24] isAgg73 sizeOf73 rfl rfl (Rd.ownN [] rfl rfl) ?_)
     refine cX (XOp.loadN [u7, u8] isAgg73 sizeOf73 rfl rfl (Rd.ownN [_, _, _, _, _, _, _, _, _, _, _, _] rfl rfl) ?_)
     refine cX (XOp.lend [_, _, _, _, _, _, _] _ _ rfl (fun F20 le20 hz7 => ?_))
     refine id (XOp.lend [_, _, _, _, _, _, _] _ _ rfl (fun F21 le21 hz8 => ?_))
     have hf7 : IntsF _ x23 ((joinedF ar rs f xs g ys).1) := (intsH.fz (xs := (joinedF ar rs f xs g ys).1) hz7).mono le21
     have hf8 : StepsF _ x24 ((joinedF ar rs f xs g ys).2.1) := stepsD.fz hz8
     refine id (XOp.call (args := [.agg #[x23, x24], .agg #[u7, u8]]) call39 rfl (eqWalk_spec hf7 hf8 ((f6_1hr1.mono (FLe.trans le20 le21))) ((f6_1hr2.mono (FLe.trans le20 le21))) (hfl := (by first | assumption | rfl | omega | simp)) (hal := (by first | assumption | rfl | omega | simp)) (hbd := (by first | assumption | exact fun i hi => by have := hne i hi; omega))) ?_)
     rintro _ _ _ _ ⟨rfl, rfl, rfl⟩
     show XL _ _ _ _ _ _ _ (intsH 2 x23 ((joinedF ar rs f xs g ys).1) :: stepsD 2 119 x24 ((joinedF ar rs f xs g ys).2.1) :: cellsH b10 [x23, x24] 73 :: intsH 2 x17 ar :: pairsD 2 98 x18 rs :: intsH 2 x19 f :: stepsD 2 119 x20 xs :: intsH 2 x21 g :: stepsD 2 119 x22 ys :: cellsH b9 [x21, x22] 73 :: cellsH b8 [x19, x20] 73 :: cellsH b7 [x17, x18] 36 :: cellsH b6 [u7, u8] 73 :: cellsH b3 [gv, ysv] 69 :: cellsH b2 [fv, xsv] 69 :: cellsH b1 [arv, rsv] 27 :: L)
     refine cX (XOp.notD (p := ((joinedF ar rs f xs g ys).1) = ((joinedF ar rs f xs g ys).1) ∧ ((joinedF ar rs f xs g ys).2.1) = ((joinedF ar rs f xs g ys).2.1)) rfl ?_)
     refine XL.mv (.bool (decide (¬(((joinedF ar rs f xs g ys).1) = ((joinedF ar rs f xs g ys).1) ∧ ((joinedF ar rs f xs g ys).2.1) = ((joinedF ar rs f xs g ys).2.1))))) rfl ?_
     by_cases h4 : ¬(((joinedF ar rs f xs g ys).1) = ((joinedF ar rs f xs g ys).1) ∧ ((joinedF ar rs f xs g ys).2.1) = ((joinedF ar rs f xs g ys).2.1))
     ·exact absurd (by first | rfl | exact ⟨rfl, rfl⟩ | exact ⟨⟨rfl, rfl⟩, rfl, rfl⟩ | simp) h4
     ·refine XL.yes (t := 62) rfl (vF h4) (XOp.move (.bool ((joinedF ar rs f xs g ys).2.2)) rfl ?_)
      refine XL.yes (t := 62) rfl (vF h4) (XOp.move (.bool ((joinedF ar rs f xs g ys).2.2)) rfl ?_)
      refine XL.yes (t := 62) rfl (vF h4) (XOp.neB (a := (joinedF ar rs f xs g ys).2.2) (b := (joinedF ar rs f xs g ys).2.2) runUnderlying4 rfl rfl ?_)
      refine cX (XOp.pickF (.bool (decide (((joinedF ar rs f xs g ys).2.2) ≠ ((joinedF ar rs f xs g ys).2.2)))) (vF h4) rfl ?_)
      refine XL.nil ?_
      refine X.condD (p := ((joinedF ar rs f xs g ys).2.2) ≠ ((joinedF ar rs f xs g ys).2.2)) rfl (fun h5 => ?_) (fun h5 => ?_)
      ·exact absurd rfl h5
      ·refine X.skip (X.seq (X.seq ?_))
       refine X.drawG [intsH 2 x23 ((joinedF ar rs f xs g ys).1), stepsD 2 119 x24 ((joinedF ar rs f xs g ys).2.1), cellsH b10 [x23, x24] 73, intsH 2 x17 ar, pairsD 2 98 x18 rs, intsH 2 x19 f, stepsD 2 119 x20 xs, intsH 2 x21 g, stepsD 2 119 x22 ys, cellsH b9 [x21, x22] 73, cellsH b8 [x19, x20] 73, cellsH b7 [x17, x18] 36, cellsH b6 [u7, u8] 73, cellsH b3 [gv, ysv] 69, cellsH b2 [fv, xsv] 69, cellsH b1 [arv, rsv] 27] L 3 [[], [], []] [[], [], [1]] [[], [], []] (phiG [fun FF us v => v = (.agg #[x17, x18] : Value), fun FF us v => v = (.agg #[arv, rsv] : Value), fun FF us v => (.agg #[((aggAt v 0)), ((aggAt v 1))] : Value) = v ∧ (IntsF FF ((aggAt v 0)) ar) ∧ (PairsF FF ((aggAt v 1)) rs)]) (ownL [fun us v => [], fun us v => [], fun us v => []]) mixed rfl rfl (by kernel_rfl) (by kernel_rfl) (MonoG.get (MonoG.cons (fun le h => h) (MonoG.cons (fun le h => h) (MonoG.cons (fun le h => ⟨h.1, h.2.1.mono le, h.2.2.mono le⟩) MonoG.nil)))) ?_ ?_
       ·refine stepsG.cons (fun vals Fs R leFs hpZ => ?_) ?_
        ·replace har := har.mono leFs
         replace hrs := hrs.mono leFs
         replace hf := hf.mono leFs
         replace hxs := hxs.mono leFs
         replace hg := hg.mono leFs
         replace hys := hys.mono leFs
         replace f6_1hr1 := f6_1hr1.mono leFs
         replace f6_1hr2 := f6_1hr2.mono leFs
         refine XG.op (XOp.loadN [x17, x18] isAgg36 sizeOf36 rfl rfl (Rd.ownN [_, _, _, _, _, _, _, _, _, _, _] rfl rfl) ?_)
         exact ⟨rfl, rfl⟩
        refine stepsG.cons (fun vals Fs R leFs hpZ => ?_) ?_
        ·replace har := har.mono leFs
         replace hrs := hrs.mono leFs
         replace hf := hf.mono leFs
         replace hxs := hxs.mono leFs
         replace hg := hg.mono leFs
         replace hys := hys.mono leFs
         replace f6_1hr1 := f6_1hr1.mono leFs
         replace f6_1hr2 := f6_1hr2.mono leFs
         refine XG.op (XOp.loadN [arv, rsv] isAgg27 sizeOf27 rfl rfl (Rd.ownN [_, _, _, _, _, _, _, _, _, _, _, _, _, _, _] rfl rfl) ?_)
         exact ⟨rfl, rfl⟩
        refine stepsG.cons (fun vals Fs R leFs hpZ => ?_) ?_
        ·replace har := har.mono leFs
         replace hrs := hrs.mono leFs
         replace hf := hf.mono leFs
         replace hxs := hxs.mono leFs
         replace hg := hg.mono leFs
         replace hys := hys.mono leFs
         replace f6_1hr1 := f6_1hr1.mono leFs
         replace f6_1hr2 := f6_1hr2.mono leFs
         rw [eS (l := [(1, (.agg #[arv, rsv] : Value))]) ⟨(hpZ 1 (by decide)), trivial⟩]
         refine XG.op (XOp.call (args := [.agg #[arv, rsv]]) call14 rfl (toSystem_spec har hrs (hla := (by first | assumption | rfl | omega | simp)) (hrl := (by first | assumption | rfl | omega | simp)) (hrb := (by first | assumption | rfl | omega | simp))) ?_)
         rintro _ F23 _ le23 ⟨x27, x28, rfl, hr38, hr39, hr40, rfl⟩
         replace har := har.mono le23
         replace hrs := hrs.mono le23
         replace hf := hf.mono le23
         replace hxs := hxs.mono le23
         replace hg := hg.mono le23
         replace hys := hys.mono le23
         replace f6_1hr1 := f6_1hr1.mono le23
         replace f6_1hr2 := f6_1hr2.mono le23
         exact ⟨⟨rfl, hr38, hr39⟩, rfl⟩
        exact stepsG.nil
       ·intro vals F24 le24 hphi
        obtain ⟨e2, f2_2hr1, f2_2hr2⟩ := hphi 2 (by decide)
        generalize hu10 : ((aggAt (vals 2) 0)) = u9 at e2 f2_2hr1 f2_2hr2
        generalize hu11 : ((aggAt (vals 2) 1)) = u10 at e2 f2_2hr1 f2_2hr2
        rw [eS (l := [(0, (.agg #[x17, x18] : Value)), (2, (.agg #[u9, u10] : Value))]) ⟨(hphi 0 (by decide)), (e2).symm, trivial⟩]
        replace har := har.mono le24
        replace hrs := hrs.mono le24
        replace hf := hf.mono le24
        replace hxs := hxs.mono le24
        replace hg := hg.mono le24
        replace hys := hys.mono le24
        replace f6_1hr1 := f6_1hr1.mono le24
        replace f6_1hr2 := f6_1hr2.mono le24
        show XL _ _ _ _ _ _ _ (intsH 2 x23 ((joinedF ar rs f xs g ys).1) :: stepsD 2 119 x24 ((joinedF ar rs f xs g ys).2.1) :: cellsH b10 [x23, x24] 73 :: intsH 2 x17 ar :: pairsD 2 98 x18 rs :: intsH 2 x19 f :: stepsD 2 119 x20 xs :: intsH 2 x21 g :: stepsD 2 119 x22 ys :: cellsH b9 [x21, x22] 73 :: cellsH b8 [x19, x20] 73 :: cellsH b7 [x17, x18] 36 :: cellsH b6 [u7, u8] 73 :: cellsH b3 [gv, ysv] 69 :: cellsH b2 [fv, xsv] 69 :: cellsH b1 [arv, rsv] 27 :: L)
        refine cX (XOp.lend [_, _, _] _ _ rfl (fun F25 le25 hz9 => ?_))
        refine id (XOp.lend [_, _, _] _ _ rfl (fun F26 le26 hz10 => ?_))
        have hf9 : IntsF _ x17 ar := (intsH.fz (xs := ar) hz9).mono le26
        have hf10 : PairsF _ x18 rs := pairsD.fz hz10
        refine id (XOp.call (args := [.agg #[x17, x18], .agg #[u9, u10]]) call17 rfl (eqSystem_spec hf9 hf10 ((f2_2hr1.mono (FLe.trans le25 le26))) ((f2_2hr2.mono (FLe.trans le25 le26))) (hcl := (by first | assumption | rfl | omega | simp)) (hal := (by first | assumption | rfl | omega | simp)) (hbd := (by first | assumption | rfl | omega | simp))) ?_)
        rintro _ _ _ _ ⟨rfl, rfl, rfl⟩
        show XL _ _ _ _ _ _ _ (intsH 2 x17 ar :: pairsD 2 98 x18 rs :: intsH 2 x23 ((joinedF ar rs f xs g ys).1) :: stepsD 2 119 x24 ((joinedF ar rs f xs g ys).2.1) :: cellsH b10 [x23, x24] 73 :: intsH 2 x19 f :: stepsD 2 119 x20 xs :: intsH 2 x21 g :: stepsD 2 119 x22 ys :: cellsH b9 [x21, x22] 73 :: cellsH b8 [x19, x20] 73 :: cellsH b7 [x17, x18] 36 :: cellsH b6 [u7, u8] 73 :: cellsH b3 [gv, ysv] 69 :: cellsH b2 [fv, xsv] 69 :: cellsH b1 [arv, rsv] 27 :: L)
        refine cX (XOp.notD (p := ar = ar ∧ rs = rs) rfl ?_)
        refine XL.nil ?_
        refine X.condD (p := ¬(ar = ar ∧ rs = rs)) rfl (fun h6 => ?_) (fun h6 => ?_)
        ·exact absurd (by first | rfl | exact ⟨rfl, rfl⟩ | exact ⟨⟨rfl, rfl⟩, rfl, rfl⟩ | simp) h6
        ·refine X.skip (X.seq (X.seq ?_))
         refine X.drawG [intsH 2 x17 ar, pairsD 2 98 x18 rs, intsH 2 x23 ((joinedF ar rs f xs g ys).1), stepsD 2 119 x24 ((joinedF ar rs f xs g ys).2.1), cellsH b10 [x23, x24] 73, intsH 2 x19 f, stepsD 2 119 x20 xs, intsH 2 x21 g, stepsD 2 119 x22 ys, cellsH b9 [x21, x22] 73, cellsH b8 [x19, x20] 73, cellsH b7 [x17, x18] 36, cellsH b6 [u7, u8] 73, cellsH b3 [gv, ysv] 69, cellsH b2 [fv, xsv] 69, cellsH b1 [arv, rsv] 27] L 3 [[], [], []] [[], [], [1]] [[], [], []] (phiG [fun FF us v => v = (.agg #[x19, x20] : Value), fun FF us v => v = (.agg #[fv, xsv] : Value), fun FF us v => (.agg #[((aggAt v 0)), ((aggAt v 1))] : Value) = v ∧ (IntsF FF ((aggAt v 0)) f) ∧ (StepsF FF ((aggAt v 1)) xs)]) (ownL [fun us v => [], fun us v => [], fun us v => []]) mixed rfl rfl (by kernel_rfl) (by kernel_rfl) (MonoG.get (MonoG.cons (fun le h => h) (MonoG.cons (fun le h => h) (MonoG.cons (fun le h => ⟨h.1, h.2.1.mono le, h.2.2.mono le⟩) MonoG.nil)))) ?_ ?_
         ·refine stepsG.cons (fun vals Fs R leFs hpZ => ?_) ?_
          ·replace har := har.mono leFs
           replace hrs := hrs.mono leFs
           replace hf := hf.mono leFs
           replace hxs := hxs.mono leFs
           replace hg := hg.mono leFs
           replace hys := hys.mono leFs
           replace f6_1hr1 := f6_1hr1.mono leFs
           replace f6_1hr2 := f6_1hr2.mono leFs
           refine XG.op (XOp.loadN [x19, x20] isAgg73 sizeOf73 rfl rfl (Rd.ownN [_, _, _, _, _, _, _, _, _, _] rfl rfl) ?_)
           exact ⟨rfl, rfl⟩
          refine stepsG.cons (fun vals Fs R leFs hpZ => ?_) ?_
          ·replace har := har.mono leFs
           replace hrs := hrs.mono leFs
           replace hf := hf.mono leFs
           replace hxs := hxs.mono leFs
           replace hg := hg.mono leFs
           replace hys := hys.mono leFs
           replace f6_1hr1 := f6_1hr1.mono leFs
           replace f6_1hr2 := f6_1hr2.mono leFs
           refine XG.op (XOp.loadN [fv, xsv] isAgg69 sizeOf69 rfl rfl (Rd.ownN [_, _, _, _, _, _, _, _, _, _, _, _, _, _] rfl rfl) ?_)
           exact ⟨rfl, rfl⟩
          refine stepsG.cons (fun vals Fs R leFs hpZ => ?_) ?_
          ·replace har := har.mono leFs
           replace hrs := hrs.mono leFs
           replace hf := hf.mono leFs
           replace hxs := hxs.mono leFs
           replace hg := hg.mono leFs
           replace hys := hys.mono leFs
           replace f6_1hr1 := f6_1hr1.mono leFs
           replace f6_1hr2 := f6_1hr2.mono leFs
           rw [eS (l := [(1, (.agg #[fv, xsv] : Value))]) ⟨(hpZ 1 (by decide)), trivial⟩]
           refine XG.op (XOp.call (args := [.agg #[fv, xsv]]) call37 rfl (toWalk_spec hf hxs (hfl := (by first | assumption | rfl | omega | simp)) (hsl := (by first | assumption | rfl | omega | simp)) (hsb := (by first | assumption | rfl | omega | simp))) ?_)
           rintro _ F28 _ le28 ⟨x31, x32, rfl, hr44, hr45, hr46, rfl⟩
           replace har := har.mono le28
           replace hrs := hrs.mono le28
           replace hf := hf.mono le28
           replace hxs := hxs.mono le28
           replace hg := hg.mono le28
           replace hys := hys.mono le28
           replace f6_1hr1 := f6_1hr1.mono le28
           replace f6_1hr2 := f6_1hr2.mono le28
           exact ⟨⟨rfl, hr44, hr45⟩, rfl⟩
          exact stepsG.nil
         ·intro vals F29 le29 hphi
          obtain ⟨e2, f2_3hr1, f2_3hr2⟩ := hphi 2 (by decide)
          generalize hu12 : ((aggAt (vals 2) 0)) = u11 at e2 f2_3hr1 f2_3hr2
          generalize hu13 : ((aggAt (vals 2) 1)) = u12 at e2 f2_3hr1 f2_3hr2
          rw [eS (l := [(0, (.agg #[x19, x20] : Value)), (2, (.agg #[u11, u12] : Value))]) ⟨(hphi 0 (by decide)), (e2).symm, trivial⟩]
          replace har := har.mono le29
          replace hrs := hrs.mono le29
          replace hf := hf.mono le29
          replace hxs := hxs.mono le29
          replace hg := hg.mono le29
          replace hys := hys.mono le29
          replace f6_1hr1 := f6_1hr1.mono le29
          replace f6_1hr2 := f6_1hr2.mono le29
          show XL _ _ _ _ _ _ _ (intsH 2 x17 ar :: pairsD 2 98 x18 rs :: intsH 2 x23 ((joinedF ar rs f xs g ys).1) :: stepsD 2 119 x24 ((joinedF ar rs f xs g ys).2.1) :: cellsH b10 [x23, x24] 73 :: intsH 2 x19 f :: stepsD 2 119 x20 xs :: intsH 2 x21 g :: stepsD 2 119 x22 ys :: cellsH b9 [x21, x22] 73 :: cellsH b8 [x19, x20] 73 :: cellsH b7 [x17, x18] 36 :: cellsH b6 [u7, u8] 73 :: cellsH b3 [gv, ysv] 69 :: cellsH b2 [fv, xsv] 69 :: cellsH b1 [arv, rsv] 27 :: L)
          refine cX (XOp.lend [_, _, _, _, _] _ _ rfl (fun F30 le30 hz11 => ?_))
          refine id (XOp.lend [_, _, _, _, _] _ _ rfl (fun F31 le31 hz12 => ?_))
          have hf11 : IntsF _ x19 f := (intsH.fz (xs := f) hz11).mono le31
          have hf12 : StepsF _ x20 xs := stepsD.fz hz12
          refine id (XOp.call (args := [.agg #[x19, x20], .agg #[u11, u12]]) call39 rfl (eqWalk_spec hf11 hf12 ((f2_3hr1.mono (FLe.trans le30 le31))) ((f2_3hr2.mono (FLe.trans le30 le31))) (hfl := (by first | assumption | rfl | omega | simp)) (hal := (by first | assumption | rfl | omega | simp)) (hbd := (by first | assumption | exact fun i hi => by have := hne i hi; omega))) ?_)
          rintro _ _ _ _ ⟨rfl, rfl, rfl⟩
          show XL _ _ _ _ _ _ _ (intsH 2 x19 f :: stepsD 2 119 x20 xs :: intsH 2 x17 ar :: pairsD 2 98 x18 rs :: intsH 2 x23 ((joinedF ar rs f xs g ys).1) :: stepsD 2 119 x24 ((joinedF ar rs f xs g ys).2.1) :: cellsH b10 [x23, x24] 73 :: intsH 2 x21 g :: stepsD 2 119 x22 ys :: cellsH b9 [x21, x22] 73 :: cellsH b8 [x19, x20] 73 :: cellsH b7 [x17, x18] 36 :: cellsH b6 [u7, u8] 73 :: cellsH b3 [gv, ysv] 69 :: cellsH b2 [fv, xsv] 69 :: cellsH b1 [arv, rsv] 27 :: L)
          refine cX (XOp.notD (p := f = f ∧ xs = xs) rfl ?_)
          refine XL.nil ?_
          refine X.condD (p := ¬(f = f ∧ xs = xs)) rfl (fun h7 => ?_) (fun h7 => ?_)
          ·exact absurd (by first | rfl | exact ⟨rfl, rfl⟩ | exact ⟨⟨rfl, rfl⟩, rfl, rfl⟩ | simp) h7
          ·refine X.skip (X.seq (X.seq ?_))
           refine X.drawG [intsH 2 x19 f, stepsD 2 119 x20 xs, intsH 2 x17 ar, pairsD 2 98 x18 rs, intsH 2 x23 ((joinedF ar rs f xs g ys).1), stepsD 2 119 x24 ((joinedF ar rs f xs g ys).2.1), cellsH b10 [x23, x24] 73, intsH 2 x21 g, stepsD 2 119 x22 ys, cellsH b9 [x21, x22] 73, cellsH b8 [x19, x20] 73, cellsH b7 [x17, x18] 36, cellsH b6 [u7, u8] 73, cellsH b3 [gv, ysv] 69, cellsH b2 [fv, xsv] 69, cellsH b1 [arv, rsv] 27] L 3 [[], [], []] [[], [], [1]] [[], [], []] (phiG [fun FF us v => v = (.agg #[x21, x22] : Value), fun FF us v => v = (.agg #[gv, ysv] : Value), fun FF us v => (.agg #[((aggAt v 0)), ((aggAt v 1))] : Value) = v ∧ (IntsF FF ((aggAt v 0)) g) ∧ (StepsF FF ((aggAt v 1)) ys)]) (ownL [fun us v => [], fun us v => [], fun us v => []]) mixed rfl rfl (by kernel_rfl) (by kernel_rfl) (MonoG.get (MonoG.cons (fun le h => h) (MonoG.cons (fun le h => h) (MonoG.cons (fun le h => ⟨h.1, h.2.1.mono le, h.2.2.mono le⟩) MonoG.nil)))) ?_ ?_
           ·refine stepsG.cons (fun vals Fs R leFs hpZ => ?_) ?_
            ·replace har := har.mono leFs
             replace hrs := hrs.mono leFs
             replace hf := hf.mono leFs
             replace hxs := hxs.mono leFs
             replace hg := hg.mono leFs
             replace hys := hys.mono leFs
             replace f6_1hr1 := f6_1hr1.mono leFs
             replace f6_1hr2 := f6_1hr2.mono leFs
             refine XG.op (XOp.loadN [x21, x22] isAgg73 sizeOf73 rfl rfl (Rd.ownN [_, _, _, _, _, _, _, _, _] rfl rfl) ?_)
             exact ⟨rfl, rfl⟩
            refine stepsG.cons (fun vals Fs R leFs hpZ => ?_) ?_
            ·replace har := har.mono leFs
             replace hrs := hrs.mono leFs
             replace hf := hf.mono leFs
             replace hxs := hxs.mono leFs
             replace hg := hg.mono leFs
             replace hys := hys.mono leFs
             replace f6_1hr1 := f6_1hr1.mono leFs
             replace f6_1hr2 := f6_1hr2.mono leFs
             refine XG.op (XOp.loadN [gv, ysv] isAgg69 sizeOf69 rfl rfl (Rd.ownN [_, _, _, _, _, _, _, _, _, _, _, _, _] rfl rfl) ?_)
             exact ⟨rfl, rfl⟩
            refine stepsG.cons (fun vals Fs R leFs hpZ => ?_) ?_
            ·replace har := har.mono leFs
             replace hrs := hrs.mono leFs
             replace hf := hf.mono leFs
             replace hxs := hxs.mono leFs
             replace hg := hg.mono leFs
             replace hys := hys.mono leFs
             replace f6_1hr1 := f6_1hr1.mono leFs
             replace f6_1hr2 := f6_1hr2.mono leFs
             rw [eS (l := [(1, (.agg #[gv, ysv] : Value))]) ⟨(hpZ 1 (by decide)), trivial⟩]
             refine XG.op (XOp.call (args := [.agg #[gv, ysv]]) call37 rfl (toWalk_spec hg hys (hfl := (by first | assumption | rfl | omega | simp)) (hsl := (by first | assumption | rfl | omega | simp)) (hsb := (by first | assumption | rfl | omega | simp))) ?_)
             rintro _ F33 _ le33 ⟨x35, x36, rfl, hr50, hr51, hr52, rfl⟩
             replace har := har.mono le33
             replace hrs := hrs.mono le33
             replace hf := hf.mono le33
             replace hxs := hxs.mono le33
             replace hg := hg.mono le33
             replace hys := hys.mono le33
             replace f6_1hr1 := f6_1hr1.mono le33
             replace f6_1hr2 := f6_1hr2.mono le33
             exact ⟨⟨rfl, hr50, hr51⟩, rfl⟩
            exact stepsG.nil
           ·intro vals F34 le34 hphi
            obtain ⟨e2, f2_4hr1, f2_4hr2⟩ := hphi 2 (by decide)
            generalize hu14 : ((aggAt (vals 2) 0)) = u13 at e2 f2_4hr1 f2_4hr2
            generalize hu15 : ((aggAt (vals 2) 1)) = u14 at e2 f2_4hr1 f2_4hr2
            rw [eS (l := [(0, (.agg #[x21, x22] : Value)), (2, (.agg #[u13, u14] : Value))]) ⟨(hphi 0 (by decide)), (e2).symm, trivial⟩]
            replace har := har.mono le34
            replace hrs := hrs.mono le34
            replace hf := hf.mono le34
            replace hxs := hxs.mono le34
            replace hg := hg.mono le34
            replace hys := hys.mono le34
            replace f6_1hr1 := f6_1hr1.mono le34
            replace f6_1hr2 := f6_1hr2.mono le34
            show XL _ _ _ _ _ _ _ (intsH 2 x19 f :: stepsD 2 119 x20 xs :: intsH 2 x17 ar :: pairsD 2 98 x18 rs :: intsH 2 x23 ((joinedF ar rs f xs g ys).1) :: stepsD 2 119 x24 ((joinedF ar rs f xs g ys).2.1) :: cellsH b10 [x23, x24] 73 :: intsH 2 x21 g :: stepsD 2 119 x22 ys :: cellsH b9 [x21, x22] 73 :: cellsH b8 [x19, x20] 73 :: cellsH b7 [x17, x18] 36 :: cellsH b6 [u7, u8] 73 :: cellsH b3 [gv, ysv] 69 :: cellsH b2 [fv, xsv] 69 :: cellsH b1 [arv, rsv] 27 :: L)
            refine cX (XOp.lend [_, _, _, _, _, _, _] _ _ rfl (fun F35 le35 hz13 => ?_))
            refine id (XOp.lend [_, _, _, _, _, _, _] _ _ rfl (fun F36 le36 hz14 => ?_))
            have hf13 : IntsF _ x21 g := (intsH.fz (xs := g) hz13).mono le36
            have hf14 : StepsF _ x22 ys := stepsD.fz hz14
            refine id (XOp.call (args := [.agg #[x21, x22], .agg #[u13, u14]]) call39 rfl (eqWalk_spec hf13 hf14 ((f2_4hr1.mono (FLe.trans le35 le36))) ((f2_4hr2.mono (FLe.trans le35 le36))) (hfl := (by first | assumption | rfl | omega | simp)) (hal := (by first | assumption | rfl | omega | simp)) (hbd := (by first | assumption | exact fun i hi => by have := hne i hi; omega))) ?_)
            rintro _ _ _ _ ⟨rfl, rfl, rfl⟩
            show XL _ _ _ _ _ _ _ (intsH 2 x21 g :: stepsD 2 119 x22 ys :: intsH 2 x19 f :: stepsD 2 119 x20 xs :: intsH 2 x17 ar :: pairsD 2 98 x18 rs :: intsH 2 x23 ((joinedF ar rs f xs g ys).1) :: stepsD 2 119 x24 ((joinedF ar rs f xs g ys).2.1) :: cellsH b10 [x23, x24] 73 :: cellsH b9 [x21, x22] 73 :: cellsH b8 [x19, x20] 73 :: cellsH b7 [x17, x18] 36 :: cellsH b6 [u7, u8] 73 :: cellsH b3 [gv, ysv] 69 :: cellsH b2 [fv, xsv] 69 :: cellsH b1 [arv, rsv] 27 :: L)
            refine cX (XOp.notD (p := g = g ∧ ys = ys) rfl ?_)
            refine XL.nil ?_
            refine X.condD (p := ¬(g = g ∧ ys = ys)) rfl (fun h8 => ?_) (fun h8 => ?_)
            ·exact absurd (by first | rfl | exact ⟨rfl, rfl⟩ | exact ⟨⟨rfl, rfl⟩, rfl, rfl⟩ | simp) h8
            ·refine X.skip (X.seq (X.region ?_))
             refine XL.as (.int .i64 (1)) rfl ?_
             refine XL.nil (X.seq (X.region ?_))
             refine cX (XOp.loadN [x17, x18] isAgg36 sizeOf36 rfl rfl (Rd.ownN [_, _, _, _, _, _, _, _, _, _, _] rfl rfl) ?_)
             refine XL.mv (.int .i64 (1)) rfl ?_
             refine XL.weaken (Sub.front (A := [_, _, _, _, _])) ?_
             show XL _ _ _ _ _ _ _ (pairsD 2 98 x18 rs :: intsH 2 x21 g :: stepsD 2 119 x22 ys :: intsH 2 x19 f :: stepsD 2 119 x20 xs :: intsH 2 x17 ar :: intsH 2 x23 ((joinedF ar rs f xs g ys).1) :: stepsD 2 119 x24 ((joinedF ar rs f xs g ys).2.1) :: cellsH b10 [x23, x24] 73 :: cellsH b9 [x21, x22] 73 :: cellsH b8 [x19, x20] 73 :: cellsH b7 [x17, x18] 36 :: cellsH b6 [u7, u8] 73 :: cellsH b3 [gv, ysv] 69 :: cellsH b2 [fv, xsv] 69 :: cellsH b1 [arv, rsv] 27 :: L)
             refine XL.weaken (Sub.front (A := [_, _, _, _, _])) ?_
             show XL _ _ _ _ _ _ _ (intsH 2 x17 ar :: pairsD 2 98 x18 rs :: intsH 2 x21 g :: stepsD 2 119 x22 ys :: intsH 2 x19 f :: stepsD 2 119 x20 xs :: intsH 2 x23 ((joinedF ar rs f xs g ys).1) :: stepsD 2 119 x24 ((joinedF ar rs f xs g ys).2.1) :: cellsH b10 [x23, x24] 73 :: cellsH b9 [x21, x22] 73 :: cellsH b8 [x19, x20] 73 :: cellsH b7 [x17, x18] 36 :: cellsH b6 [u7, u8] 73 :: cellsH b3 [gv, ysv] 69 :: cellsH b2 [fv, xsv] 69 :: cellsH b1 [arv, rsv] 27 :: L)
             refine cX (XOp.call (args := [.agg #[x17, x18], .int .i64 (1)]) call26 rfl (markSystem_spec (by (try simp only [List.length_append]); omega) (by omega)) ?_)
             rintro _ _ _ _ ⟨m1, m2, hm1, hk1, rfl, rfl, rfl⟩
             have hml1 := congrArg List.length hm1
             rw [iota_len] at hml1
             try simp only [List.length_append] at hml1
             refine XL.as (.int .i64 (1 + (((ar) ++ (rs.flatMap flatPair)).length : Int))) rfl ?_
             refine XL.nil (X.seq (X.region ?_))
             refine cX (XOp.loadN [x19, x20] isAgg73 sizeOf73 rfl rfl (Rd.ownN [_, _, _, _, _, _, _, _, _, _] rfl rfl) ?_)
             refine XL.mv (.int .i64 (1 + (((ar) ++ (rs.flatMap flatPair)).length : Int))) rfl ?_
             refine XL.weaken (Sub.front (A := [_, _, _, _, _])) ?_
             show XL _ _ _ _ _ _ _ (stepsD 2 119 x20 xs :: intsH 2 x17 m1 :: pairsD 2 98 x18 m2 :: intsH 2 x21 g :: stepsD 2 119 x22 ys :: intsH 2 x19 f :: intsH 2 x23 ((joinedF ar rs f xs g ys).1) :: stepsD 2 119 x24 ((joinedF ar rs f xs g ys).2.1) :: cellsH b10 [x23, x24] 73 :: cellsH b9 [x21, x22] 73 :: cellsH b8 [x19, x20] 73 :: cellsH b7 [x17, x18] 36 :: cellsH b6 [u7, u8] 73 :: cellsH b3 [gv, ysv] 69 :: cellsH b2 [fv, xsv] 69 :: cellsH b1 [arv, rsv] 27 :: L)
             refine XL.weaken (Sub.front (A := [_, _, _, _, _])) ?_
             show XL _ _ _ _ _ _ _ (intsH 2 x19 f :: stepsD 2 119 x20 xs :: intsH 2 x17 m1 :: pairsD 2 98 x18 m2 :: intsH 2 x21 g :: stepsD 2 119 x22 ys :: intsH 2 x23 ((joinedF ar rs f xs g ys).1) :: stepsD 2 119 x24 ((joinedF ar rs f xs g ys).2.1) :: cellsH b10 [x23, x24] 73 :: cellsH b9 [x21, x22] 73 :: cellsH b8 [x19, x20] 73 :: cellsH b7 [x17, x18] 36 :: cellsH b6 [u7, u8] 73 :: cellsH b3 [gv, ysv] 69 :: cellsH b2 [fv, xsv] 69 :: cellsH b1 [arv, rsv] 27 :: L)
             refine cX (XOp.call (args := [.agg #[x19, x20], .int .i64 (1 + (((ar) ++ (rs.flatMap flatPair)).length : Int))]) call40 rfl (markWalk_spec (by (try simp only [List.length_append]); omega) (by omega)) ?_)
             rintro _ _ _ _ ⟨m3, m4, hm2, hk2, rfl, rfl, rfl⟩
             have hml2 := congrArg List.length hm2
             rw [iota_len] at hml2
             try simp only [List.length_append] at hml2
             refine XL.as (.int .i64 ((1 + (((ar) ++ (rs.flatMap flatPair)).length : Int)) + (((f) ++ (xs.flatMap flatStep)).length : Int))) rfl ?_
             refine XL.nil (X.seq (X.region ?_))
             refine cX (XOp.loadN [x21, x22] isAgg73 sizeOf73 rfl rfl (Rd.ownN [_, _, _, _, _, _, _, _, _] rfl rfl) ?_)
             refine XL.mv (.int .i64 ((1 + (((ar) ++ (rs.flatMap flatPair)).length : Int)) + (((f) ++ (xs.flatMap flatStep)).length : Int))) rfl ?_
             refine XL.weaken (Sub.front (A := [_, _, _, _, _])) ?_
             show XL _ _ _ _ _ _ _ (stepsD 2 119 x22 ys :: intsH 2 x19 m3 :: stepsD 2 119 x20 m4 :: intsH 2 x17 m1 :: pairsD 2 98 x18 m2 :: intsH 2 x21 g :: intsH 2 x23 ((joinedF ar rs f xs g ys).1) :: stepsD 2 119 x24 ((joinedF ar rs f xs g ys).2.1) :: cellsH b10 [x23, x24] 73 :: cellsH b9 [x21, x22] 73 :: cellsH b8 [x19, x20] 73 :: cellsH b7 [x17, x18] 36 :: cellsH b6 [u7, u8] 73 :: cellsH b3 [gv, ysv] 69 :: cellsH b2 [fv, xsv] 69 :: cellsH b1 [arv, rsv] 27 :: L)
             refine XL.weaken (Sub.front (A := [_, _, _, _, _])) ?_
             show XL _ _ _ _ _ _ _ (intsH 2 x21 g :: stepsD 2 119 x22 ys :: intsH 2 x19 m3 :: stepsD 2 119 x20 m4 :: intsH 2 x17 m1 :: pairsD 2 98 x18 m2 :: intsH 2 x23 ((joinedF ar rs f xs g ys).1) :: stepsD 2 119 x24 ((joinedF ar rs f xs g ys).2.1) :: cellsH b10 [x23, x24] 73 :: cellsH b9 [x21, x22] 73 :: cellsH b8 [x19, x20] 73 :: cellsH b7 [x17, x18] 36 :: cellsH b6 [u7, u8] 73 :: cellsH b3 [gv, ysv] 69 :: cellsH b2 [fv, xsv] 69 :: cellsH b1 [arv, rsv] 27 :: L)
             refine cX (XOp.call (args := [.agg #[x21, x22], .int .i64 ((1 + (((ar) ++ (rs.flatMap flatPair)).length : Int)) + (((f) ++ (xs.flatMap flatStep)).length : Int))]) call40 rfl (markWalk_spec (by (try simp only [List.length_append]); omega) (by omega)) ?_)
             rintro _ _ _ _ ⟨m5, m6, hm3, hk3, rfl, rfl, rfl⟩
             have hml3 := congrArg List.length hm3
             rw [iota_len] at hml3
             try simp only [List.length_append] at hml3
             refine XL.as (.int .i64 (((1 + (((ar) ++ (rs.flatMap flatPair)).length : Int)) + (((f) ++ (xs.flatMap flatStep)).length : Int)) + (((g) ++ (ys.flatMap flatStep)).length : Int))) rfl ?_
             refine XL.nil (X.seq (X.seq (X.region ?_)))
             refine XL.mv (.int .i64 (((1 + (((ar) ++ (rs.flatMap flatPair)).length : Int)) + (((f) ++ (xs.flatMap flatStep)).length : Int)) + (((g) ++ (ys.flatMap flatStep)).length : Int))) rfl ?_
             refine cX (XOp.lss (a := ((1 + (((ar) ++ (rs.flatMap flatPair)).length : Int)) + (((f) ++ (xs.flatMap flatStep)).length : Int)) + (((g) ++ (ys.flatMap flatStep)).length : Int)) (b := 0) rfl rfl ?_)
             refine XL.mv (.bool (decide ((((1 + (((ar) ++ (rs.flatMap flatPair)).length : Int)) + (((f) ++ (xs.flatMap flatStep)).length : Int)) + (((g) ++ (ys.flatMap flatStep)).length : Int) : Int) < 0))) rfl ?_
             by_cases h9 : (((1 + (((ar) ++ (rs.flatMap flatPair)).length : Int)) + (((f) ++ (xs.flatMap flatStep)).length : Int)) + (((g) ++ (ys.flatMap flatStep)).length : Int) : Int) < 0
             ·exact absurd h9 (by omega)
             ·refine XL.yes (t := 93) rfl (vF h9) (XOp.loadN [x23, x24] isAgg73 sizeOf73 rfl rfl (Rd.ownN [_, _, _, _, _, _, _, _] rfl rfl) ?_)
              refine XL.yes (t := 93) rfl (vF h9) (XOp.loadN [u7, u8] isAgg73 sizeOf73 rfl rfl (Rd.ownN [_, _, _, _, _, _, _, _, _, _, _, _] rfl rfl) ?_)
              refine XL.yes (t := 93) rfl (vF h9) (XOp.lend [_, _, _, _, _, _] _ _ rfl (fun F37 le37 hz15 => ?_))
              refine id (XOp.lend [_, _, _, _, _, _] _ _ rfl (fun F38 le38 hz16 => ?_))
              have hf15 : IntsF _ x23 ((joinedF ar rs f xs g ys).1) := (intsH.fz (xs := (joinedF ar rs f xs g ys).1) hz15).mono le38
              have hf16 : StepsF _ x24 ((joinedF ar rs f xs g ys).2.1) := stepsD.fz hz16
              refine id (XOp.call (args := [.agg #[x23, x24], .agg #[u7, u8]]) call39 rfl (eqWalk_spec hf15 hf16 ((f6_1hr1.mono (FLe.trans le37 le38))) ((f6_1hr2.mono (FLe.trans le37 le38))) (hfl := (by first | assumption | rfl | omega | simp)) (hal := (by first | assumption | rfl | omega | simp)) (hbd := (by first | assumption | exact fun i hi => by have := hne i hi; omega))) ?_)
              rintro _ _ _ _ ⟨rfl, rfl, rfl⟩
              show XL _ _ _ _ _ _ _ (intsH 2 x23 ((joinedF ar rs f xs g ys).1) :: stepsD 2 119 x24 ((joinedF ar rs f xs g ys).2.1) :: intsH 2 x21 m5 :: stepsD 2 119 x22 m6 :: intsH 2 x19 m3 :: stepsD 2 119 x20 m4 :: intsH 2 x17 m1 :: pairsD 2 98 x18 m2 :: cellsH b10 [x23, x24] 73 :: cellsH b9 [x21, x22] 73 :: cellsH b8 [x19, x20] 73 :: cellsH b7 [x17, x18] 36 :: cellsH b6 [u7, u8] 73 :: cellsH b3 [gv, ysv] 69 :: cellsH b2 [fv, xsv] 69 :: cellsH b1 [arv, rsv] 27 :: L)
              refine XL.yes (t := 93) rfl (vF h9) (XOp.notD (p := ((joinedF ar rs f xs g ys).1) = ((joinedF ar rs f xs g ys).1) ∧ ((joinedF ar rs f xs g ys).2.1) = ((joinedF ar rs f xs g ys).2.1)) rfl ?_)
              refine cX (XOp.pickF (.bool (decide (¬(((joinedF ar rs f xs g ys).1) = ((joinedF ar rs f xs g ys).1) ∧ ((joinedF ar rs f xs g ys).2.1) = ((joinedF ar rs f xs g ys).2.1))))) (vF h9) rfl ?_)
              refine XL.mv (.bool (decide (¬(((joinedF ar rs f xs g ys).1) = ((joinedF ar rs f xs g ys).1) ∧ ((joinedF ar rs f xs g ys).2.1) = ((joinedF ar rs f xs g ys).2.1))))) rfl ?_
              refine XL.yes (t := 99) rfl (vF h4) (XOp.move (.bool ((joinedF ar rs f xs g ys).2.2)) rfl ?_)
              refine XL.yes (t := 99) rfl (vF h4) (XOp.move (.bool ((joinedF ar rs f xs g ys).2.2)) rfl ?_)
              refine XL.yes (t := 99) rfl (vF h4) (XOp.neB (a := (joinedF ar rs f xs g ys).2.2) (b := (joinedF ar rs f xs g ys).2.2) runUnderlying4 rfl rfl ?_)
              refine cX (XOp.pickF (.bool (decide (((joinedF ar rs f xs g ys).2.2) ≠ ((joinedF ar rs f xs g ys).2.2)))) (vF h4) rfl ?_)
              refine XL.nil ?_
              refine X.condF (vF h5) ?_
              refine X.skip (X.seq (X.region ?_))
              refine XL.as (.int .i64 (1)) rfl ?_
              refine XL.nil (X.seq (X.region ?_))
              refine cX (XOp.loadN [x23, x24] isAgg73 sizeOf73 rfl rfl (Rd.ownN [_, _, _, _, _, _, _, _] rfl rfl) ?_)
              refine XL.mv (.int .i64 (1)) rfl ?_
              refine XL.weaken (Sub.front (A := [_])) ?_
              show XL _ _ _ _ _ _ _ (stepsD 2 119 x24 ((joinedF ar rs f xs g ys).2.1) :: intsH 2 x23 ((joinedF ar rs f xs g ys).1) :: intsH 2 x21 m5 :: stepsD 2 119 x22 m6 :: intsH 2 x19 m3 :: stepsD 2 119 x20 m4 :: intsH 2 x17 m1 :: pairsD 2 98 x18 m2 :: cellsH b10 [x23, x24] 73 :: cellsH b9 [x21, x22] 73 :: cellsH b8 [x19, x20] 73 :: cellsH b7 [x17, x18] 36 :: cellsH b6 [u7, u8] 73 :: cellsH b3 [gv, ysv] 69 :: cellsH b2 [fv, xsv] 69 :: cellsH b1 [arv, rsv] 27 :: L)
              refine XL.weaken (Sub.front (A := [_])) ?_
              show XL _ _ _ _ _ _ _ (intsH 2 x23 ((joinedF ar rs f xs g ys).1) :: stepsD 2 119 x24 ((joinedF ar rs f xs g ys).2.1) :: intsH 2 x21 m5 :: stepsD 2 119 x22 m6 :: intsH 2 x19 m3 :: stepsD 2 119 x20 m4 :: intsH 2 x17 m1 :: pairsD 2 98 x18 m2 :: cellsH b10 [x23, x24] 73 :: cellsH b9 [x21, x22] 73 :: cellsH b8 [x19, x20] 73 :: cellsH b7 [x17, x18] 36 :: cellsH b6 [u7, u8] 73 :: cellsH b3 [gv, ysv] 69 :: cellsH b2 [fv, xsv] 69 :: cellsH b1 [arv, rsv] 27 :: L)
              refine cX (XOp.call (args := [.agg #[x23, x24], .int .i64 (1)]) call40 rfl (markWalk_spec (by (try simp only [List.length_append]); omega) (by omega)) ?_)
              rintro _ _ _ _ ⟨m7, m8, hm4, hk4, rfl, rfl, rfl⟩
              have hml4 := congrArg List.length hm4
              rw [iota_len] at hml4
              try simp only [List.length_append] at hml4
              refine XL.as (.int .i64 (1 + (((((joinedF ar rs f xs g ys).1)) ++ (((joinedF ar rs f xs g ys).2.1).flatMap flatStep)).length : Int))) rfl ?_
              refine XL.nil (X.seq (X.region ?_))
              refine XL.as (.int .i64 (1)) rfl ?_
              refine XL.nil (X.seq (X.region ?_))
              refine cX (XOp.loadN [x23, x24] isAgg73 sizeOf73 rfl rfl (Rd.ownN [_, _, _, _, _, _, _, _] rfl rfl) ?_)
              refine XL.mv (.int .i64 (1)) rfl ?_
              refine cX (XOp.lend [] _ _ rfl (fun F39 le39 hz17 => ?_))
              refine id (XOp.lend [] _ _ rfl (fun F40 le40 hz18 => ?_))
              have hf17 : IntsF _ x23 m7 := (intsH.fz (xs := m7) hz17).mono le40
              have hf18 : StepsF _ x24 m8 := stepsD.fz hz18
              refine id (XOp.call (args := [.agg #[x23, x24], .int .i64 (1)]) call41 rfl (heldWalk_spec (z := 1) hf17 hf18 (hzb := (by first | assumption | rfl | omega | simp)) (hxl := (by first | assumption | rfl | omega | simp))) ?_)
              rintro _ _ _ _ ⟨rfl, rfl, rfl⟩
              show XL _ _ _ _ _ _ _ (intsH 2 x23 m7 :: stepsD 2 119 x24 m8 :: intsH 2 x21 m5 :: stepsD 2 119 x22 m6 :: intsH 2 x19 m3 :: stepsD 2 119 x20 m4 :: intsH 2 x17 m1 :: pairsD 2 98 x18 m2 :: cellsH b10 [x23, x24] 73 :: cellsH b9 [x21, x22] 73 :: cellsH b8 [x19, x20] 73 :: cellsH b7 [x17, x18] 36 :: cellsH b6 [u7, u8] 73 :: cellsH b3 [gv, ysv] 69 :: cellsH b2 [fv, xsv] 69 :: cellsH b1 [arv, rsv] 27 :: L)
              refine XL.as (.int .i64 (heldF (m7 ++ m8.flatMap flatStep) 1)) rfl ?_
              refine XL.nil (X.seq (X.seq (X.region ?_)))
              refine XL.mv (.int .i64 (heldF (m7 ++ m8.flatMap flatStep) 1)) rfl ?_
              refine cX (XOp.lss (a := heldF (m7 ++ m8.flatMap flatStep) 1) (b := 0) rfl rfl ?_)
              refine XL.nil ?_
              refine X.condD (p := (heldF (m7 ++ m8.flatMap flatStep) 1 : Int) < 0) rfl (fun h10 => ?_) (fun h10 => ?_)
              ·rw [hm4, heldF_iota] at h10
               exact absurd h10 (by omega)
              ·have hh2 := (fun (l : List Int) (k k2 : Int) (n : Nat) (h : l = iota k n) (hk : k2 = k) => show heldF l k2 = k + n from (by subst hk; rw [h, heldF_iota])) _ _ (1) _ hm4 (by first | rfl | omega)
               have hh2l := hh2
               try simp only [List.length_append] at hh2l
               refine X.skip (X.seq (X.seq (X.region ?_)))
               refine XL.mv (.int .i64 (heldF (m7 ++ m8.flatMap flatStep) 1)) rfl ?_
               refine XL.mv (.int .i64 (1 + (((((joinedF ar rs f xs g ys).1)) ++ (((joinedF ar rs f xs g ys).2.1).flatMap flatStep)).length : Int))) rfl ?_
               refine cX (XOp.neq (a := heldF (m7 ++ m8.flatMap flatStep) 1) (b := 1 + (((((joinedF ar rs f xs g ys).1)) ++ (((joinedF ar rs f xs g ys).2.1).flatMap flatStep)).length : Int)) rfl rfl ?_)
               refine XL.nil ?_
               refine X.condD (p := (heldF (m7 ++ m8.flatMap flatStep) 1 : Int) ≠ 1 + (((((joinedF ar rs f xs g ys).1)) ++ (((joinedF ar rs f xs g ys).2.1).flatMap flatStep)).length : Int)) rfl (fun h11 => ?_) (fun h11 => ?_)
               ·exact absurd (by rw [hm4, heldF_iota]) h11
               ·refine X.skip (X.seq ?_)
                refine X.drawG [intsH 2 x23 m7, stepsD 2 119 x24 m8, intsH 2 x21 m5, stepsD 2 119 x22 m6, intsH 2 x19 m3, stepsD 2 119 x20 m4, intsH 2 x17 m1, pairsD 2 98 x18 m2, cellsH b10 [x23, x24] 73, cellsH b9 [x21, x22] 73, cellsH b8 [x19, x20] 73, cellsH b7 [x17, x18] 36, cellsH b6 [u7, u8] 73, cellsH b3 [gv, ysv] 69, cellsH b2 [fv, xsv] 69, cellsH b1 [arv, rsv] 27] L 12 [[], [], [], [], [], [], [], [6], [6], [], [], [6, 10]] [[], [0], [], [2], [], [4], [1, 3, 5], [6], [6, 7], [6, 7], [], [6, 8, 10]] [[], [], [], [], [], [], [], [], [], [], [], [10]] (phiG [fun FF us v => v = (.agg #[arv, rsv] : Value), fun FF us v => (.agg #[((aggAt v 0)), ((aggAt v 1))] : Value) = v ∧ (IntsF FF ((aggAt v 0)) ar) ∧ (PairsF FF ((aggAt v 1)) rs), fun FF us v => v = (.agg #[fv, xsv] : Value), fun FF us v => (.agg #[((aggAt v 0)), ((aggAt v 1))] : Value) = v ∧ (IntsF FF ((aggAt v 0)) f) ∧ (StepsF FF ((aggAt v 1)) xs), fun FF us v => v = (.agg #[gv, ysv] : Value), fun FF us v => (.agg #[((aggAt v 0)), ((aggAt v 1))] : Value) = v ∧ (IntsF FF ((aggAt v 0)) g) ∧ (StepsF FF ((aggAt v 1)) ys), fun FF us v => (.tuple #[.agg #[((aggAt (tupAt v 0) 0)), ((aggAt (tupAt v 0) 1))], .bool ((joinedF ar rs f xs g ys).2.2)] : Value) = v ∧ (IntsF FF ((aggAt (tupAt v 0) 0)) (joinedF ar rs f xs g ys).1) ∧ (StepsF FF ((aggAt (tupAt v 0) 1)) (joinedF ar rs f xs g ys).2.1), fun FF us v => v = (.tuple #[.agg #[((aggAt (tupAt (us.getD 0 undef) 0) 0)), ((aggAt (tupAt (us.getD 0 undef) 0) 1))], .bool ((joinedF ar rs f xs g ys).2.2)] : Value), fun FF us v => v = (.agg #[((aggAt (tupAt (us.getD 0 undef) 0) 0)), ((aggAt (tupAt (us.getD 0 undef) 0) 1))] : Value), fun FF us v => v = (.bool ((joinedF ar rs f xs g ys).2.2) : Value), fun FF us v => v = ptr (blk v) 0, fun FF us v => True]) (ownL [fun us v => [], fun us v => [], fun us v => [], fun us v => [], fun us v => [], fun us v => [], fun us v => [], fun us v => [], fun us v => [], fun us v => [], fun us v => [cellsH (blk v) [(.slice none 0 0), (.slice none 0 0)] 73], fun us v => [cellsH (blk (us.getD 1 undef)) [((aggAt (tupAt (us.getD 0 undef) 0) 0)), ((aggAt (tupAt (us.getD 0 undef) 0) 1))] 73]]) mixed rfl rfl (by kernel_rfl) (by kernel_rfl) (MonoG.get (MonoG.cons (fun le h => h) (MonoG.cons (fun le h => ⟨h.1, h.2.1.mono le, h.2.2.mono le⟩) (MonoG.cons (fun le h => h) (MonoG.cons (fun le h => ⟨h.1, h.2.1.mono le, h.2.2.mono le⟩) (MonoG.cons (fun le h => h) (MonoG.cons (fun le h => ⟨h.1, h.2.1.mono le, h.2.2.mono le⟩) (MonoG.cons (fun le h => ⟨h.1, h.2.1.mono le, h.2.2.mono le⟩) (MonoG.cons (fun le h => h) (MonoG.cons (fun le h => h) (MonoG.cons (fun le h => h) (MonoG.cons (fun le h => h) (MonoG.cons (fun le h => h) MonoG.nil))))))))))))) ?_ ?_
                ·refine stepsG.cons (fun vals Fs R leFs hpZ => ?_) ?_
                 ·replace har := har.mono leFs
                  replace hrs := hrs.mono leFs
                  replace hf := hf.mono leFs
                  replace hxs := hxs.mono leFs
                  replace hg := hg.mono leFs
                  replace hys := hys.mono leFs
                  replace f6_1hr1 := f6_1hr1.mono leFs
                  replace f6_1hr2 := f6_1hr2.mono leFs
                  refine XG.op (XOp.loadN [arv, rsv] isAgg27 sizeOf27 rfl rfl (Rd.ownN [_, _, _, _, _, _, _, _, _, _, _, _, _, _, _] rfl rfl) ?_)
                  exact ⟨rfl, rfl⟩
                 refine stepsG.cons (fun vals Fs R leFs hpZ => ?_) ?_
                 ·replace har := har.mono leFs
                  replace hrs := hrs.mono leFs
                  replace hf := hf.mono leFs
                  replace hxs := hxs.mono leFs
                  replace hg := hg.mono leFs
                  replace hys := hys.mono leFs
                  replace f6_1hr1 := f6_1hr1.mono leFs
                  replace f6_1hr2 := f6_1hr2.mono leFs
                  rw [eS (l := [(0, (.agg #[arv, rsv] : Value))]) ⟨(hpZ 0 (by decide)), trivial⟩]
                  refine XG.op (XOp.call (args := [.agg #[arv, rsv]]) call14 rfl (toSystem_spec har hrs (hla := (by first | assumption | rfl | omega | simp)) (hrl := (by first | assumption | rfl | omega | simp)) (hrb := (by first | assumption | rfl | omega | simp))) ?_)
                  rintro _ F45 _ le45 ⟨x45, x46, rfl, hr65, hr66, hr67, rfl⟩
                  replace har := har.mono le45
                  replace hf := hf.mono le45
                  replace hxs := hxs.mono le45
                  replace hg := hg.mono le45
                  replace hys := hys.mono le45
                  replace f6_1hr1 := f6_1hr1.mono le45
                  replace f6_1hr2 := f6_1hr2.mono le45
                  exact ⟨⟨rfl, hr65, hr66⟩, rfl⟩
                 refine stepsG.cons (fun vals Fs R leFs hpZ => ?_) ?_
                 ·replace har := har.mono leFs
                  replace hf := hf.mono leFs
                  replace hxs := hxs.mono leFs
                  replace hg := hg.mono leFs
                  replace hys := hys.mono leFs
                  replace f6_1hr1 := f6_1hr1.mono leFs
                  replace f6_1hr2 := f6_1hr2.mono leFs
                  refine XG.op (XOp.loadN [fv, xsv] isAgg69 sizeOf69 rfl rfl (Rd.ownN [_, _, _, _, _, _, _, _, _, _, _, _, _, _] rfl rfl) ?_)
                  exact ⟨rfl, rfl⟩
                 refine stepsG.cons (fun vals Fs R leFs hpZ => ?_) ?_
                 ·replace har := har.mono leFs
                  replace hf := hf.mono leFs
                  replace hxs := hxs.mono leFs
                  replace hg := hg.mono leFs
                  replace hys := hys.mono leFs
                  replace f6_1hr1 := f6_1hr1.mono leFs
                  replace f6_1hr2 := f6_1hr2.mono leFs
                  rw [eS (l := [(2, (.agg #[fv, xsv] : Value))]) ⟨(hpZ 2 (by decide)), trivial⟩]
                  refine XG.op (XOp.call (args := [.agg #[fv, xsv]]) call37 rfl (toWalk_spec hf hxs (hfl := (by first | assumption | rfl | omega | simp)) (hsl := (by first | assumption | rfl | omega | simp)) (hsb := (by first | assumption | rfl | omega | simp))) ?_)
                  rintro _ F46 _ le46 ⟨x47, x48, rfl, hr68, hr69, hr70, rfl⟩
                  replace har := har.mono le46
                  replace hg := hg.mono le46
                  replace hys := hys.mono le46
                  replace f6_1hr1 := f6_1hr1.mono le46
                  replace f6_1hr2 := f6_1hr2.mono le46
                  exact ⟨⟨rfl, hr68, hr69⟩, rfl⟩
                 refine stepsG.cons (fun vals Fs R leFs hpZ => ?_) ?_
                 ·replace har := har.mono leFs
                  replace hg := hg.mono leFs
                  replace hys := hys.mono leFs
                  replace f6_1hr1 := f6_1hr1.mono leFs
                  replace f6_1hr2 := f6_1hr2.mono leFs
                  refine XG.op (XOp.loadN [gv, ysv] isAgg69 sizeOf69 rfl rfl (Rd.ownN [_, _, _, _, _, _, _, _, _, _, _, _, _] rfl rfl) ?_)
                  exact ⟨rfl, rfl⟩
                 refine stepsG.cons (fun vals Fs R leFs hpZ => ?_) ?_
                 ·replace har := har.mono leFs
                  replace hg := hg.mono leFs
                  replace hys := hys.mono leFs
                  replace f6_1hr1 := f6_1hr1.mono leFs
                  replace f6_1hr2 := f6_1hr2.mono leFs
                  rw [eS (l := [(4, (.agg #[gv, ysv] : Value))]) ⟨(hpZ 4 (by decide)), trivial⟩]
                  refine XG.op (XOp.call (args := [.agg #[gv, ysv]]) call37 rfl (toWalk_spec hg hys (hfl := (by first | assumption | rfl | omega | simp)) (hsl := (by first | assumption | rfl | omega | simp)) (hsb := (by first | assumption | rfl | omega | simp))) ?_)
                  rintro _ F47 _ le47 ⟨x49, x50, rfl, hr71, hr72, hr73, rfl⟩
                  replace har := har.mono le47
                  replace f6_1hr1 := f6_1hr1.mono le47
                  replace f6_1hr2 := f6_1hr2.mono le47
                  exact ⟨⟨rfl, hr71, hr72⟩, rfl⟩
                 refine stepsG.cons (fun vals Fs R leFs hpZ => ?_) ?_
                 ·obtain ⟨e1, f1_5hr1, f1_5hr2⟩ := hpZ 1 (by decide)
                  obtain ⟨e3, f3_5hr1, f3_5hr2⟩ := hpZ 3 (by decide)
                  obtain ⟨e5, f5_5hr1, f5_5hr2⟩ := hpZ 5 (by decide)
                  replace har := har.mono leFs
                  replace f6_1hr1 := f6_1hr1.mono leFs
                  replace f6_1hr2 := f6_1hr2.mono leFs
                  rw [eS (l := [(1, (.agg #[((aggAt (vals 1) 0)), ((aggAt (vals 1) 1))] : Value)), (3, (.agg #[((aggAt (vals 3) 0)), ((aggAt (vals 3) 1))] : Value)), (5, (.agg #[((aggAt (vals 5) 0)), ((aggAt (vals 5) 1))] : Value))]) ⟨(e1).symm, (e3).symm, (e5).symm, trivial⟩]
                  refine XG.op (XOp.call (args := [.agg #[((aggAt (vals 1) 0)), ((aggAt (vals 1) 1))], .agg #[((aggAt (vals 3) 0)), ((aggAt (vals 3) 1))], .agg #[((aggAt (vals 5) 0)), ((aggAt (vals 5) 1))]]) call38 rfl (JoinedWalk_spec f1_5hr1 f1_5hr2 f3_5hr1 f3_5hr2 f5_5hr1 f5_5hr2 (hlf := (by first | assumption | rfl | omega | simp)) (hsb := (by first | assumption | rfl | omega | simp)) (hlg := (by first | assumption | rfl | omega | simp)) (hyb := (by first | assumption | rfl | omega | simp))) ?_)
                  rintro _ F48 _ le48 ⟨x51, x52, rfl, hr74, hr75, hr76, rfl⟩
                  replace har := har.mono le48
                  replace f6_1hr1 := f6_1hr1.mono le48
                  replace f6_1hr2 := f6_1hr2.mono le48
                  replace f1_5hr1 := f1_5hr1.mono le48
                  replace f1_5hr2 := f1_5hr2.mono le48
                  replace f3_5hr1 := f3_5hr1.mono le48
                  replace f3_5hr2 := f3_5hr2.mono le48
                  replace f5_5hr1 := f5_5hr1.mono le48
                  replace f5_5hr2 := f5_5hr2.mono le48
                  exact ⟨⟨rfl, hr74, hr75⟩, rfl⟩
                 refine stepsG.cons (fun vals Fs R leFs hpZ => ?_) ?_
                 ·obtain ⟨e6, f6_5hr1, f6_5hr2⟩ := hpZ 6 (by decide)
                  rw [eS (l := [(6, (.tuple #[.agg #[((aggAt (tupAt (vals 6) 0) 0)), ((aggAt (tupAt (vals 6) 0) 1))], .bool ((joinedF ar rs f xs g ys).2.2)] : Value))]) ⟨(e6).symm, trivial⟩]
                  refine XG.op (XOp.move (.tuple #[.agg #[((aggAt (tupAt (vals 6) 0) 0)), ((aggAt (tupAt (vals 6) 0) 1))], .bool ((joinedF ar rs f xs g ys).2.2)]) rfl ?_)
                  exact ⟨rfl, rfl⟩
                 refine stepsG.cons (fun vals Fs R leFs hpZ => ?_) ?_
                 ·obtain ⟨e6, f6_5hr1, f6_5hr2⟩ := hpZ 6 (by decide)
                  have e7 : vals 7 = (.tuple #[.agg #[((aggAt (tupAt (vals 6) 0) 0)), ((aggAt (tupAt (vals 6) 0) 1))], .bool ((joinedF ar rs f xs g ys).2.2)] : Value) := hpZ 7 (by decide)
                  rw [eS (l := [(6, (.tuple #[.agg #[((aggAt (tupAt (vals 6) 0) 0)), ((aggAt (tupAt (vals 6) 0) 1))], .bool ((joinedF ar rs f xs g ys).2.2)] : Value)), (7, (.tuple #[.agg #[((aggAt (tupAt (vals 6) 0) 0)), ((aggAt (tupAt (vals 6) 0) 1))], .bool ((joinedF ar rs f xs g ys).2.2)] : Value))]) ⟨(e6).symm, e7, trivial⟩]
                  refine XG.op (XOp.extract (.agg #[((aggAt (tupAt (vals 6) 0) 0)), ((aggAt (tupAt (vals 6) 0) 1))]) rfl rfl ?_)
                  exact ⟨rfl, rfl⟩
                 refine stepsG.cons (fun vals Fs R leFs hpZ => ?_) ?_
                 ·obtain ⟨e6, f6_5hr1, f6_5hr2⟩ := hpZ 6 (by decide)
                  have e7 : vals 7 = (.tuple #[.agg #[((aggAt (tupAt (vals 6) 0) 0)), ((aggAt (tupAt (vals 6) 0) 1))], .bool ((joinedF ar rs f xs g ys).2.2)] : Value) := hpZ 7 (by decide)
                  rw [eS (l := [(6, (.tuple #[.agg #[((aggAt (tupAt (vals 6) 0) 0)), ((aggAt (tupAt (vals 6) 0) 1))], .bool ((joinedF ar rs f xs g ys).2.2)] : Value)), (7, (.tuple #[.agg #[((aggAt (tupAt (vals 6) 0) 0)), ((aggAt (tupAt (vals 6) 0) 1))], .bool ((joinedF ar rs f xs g ys).2.2)] : Value))]) ⟨(e6).symm, e7, trivial⟩]
                  refine XG.op (XOp.extract (.bool ((joinedF ar rs f xs g ys).2.2)) rfl rfl ?_)
                  exact ⟨rfl, rfl⟩
                 refine stepsG.cons (fun vals Fs R leFs hpZ => ?_) ?_
                 ·replace har := har.mono leFs
                  replace f6_1hr1 := f6_1hr1.mono leFs
                  replace f6_1hr2 := f6_1hr2.mono leFs
                  refine XG.op (XOp.alloc [(.slice none 0 0), (.slice none 0 0)] zeroValue73 rfl ?_)
                  intro b12
                  exact ⟨rfl, rfl⟩
                 refine stepsG.cons (fun vals Fs R leFs hpZ => ?_) ?_
                 ·obtain ⟨e6, f6_5hr1, f6_5hr2⟩ := hpZ 6 (by decide)
                  have e8 : vals 8 = (.agg #[((aggAt (tupAt (vals 6) 0) 0)), ((aggAt (tupAt (vals 6) 0) 1))] : Value) := hpZ 8 (by decide)
                  have e10 : vals 10 = ptr (blk (vals 10)) 0 := hpZ 10 (by decide)
                  replace f6_1hr1 := f6_1hr1.mono leFs
                  replace f6_1hr2 := f6_1hr2.mono leFs
                  rw [eS (l := [(6, (.tuple #[.agg #[((aggAt (tupAt (vals 6) 0) 0)), ((aggAt (tupAt (vals 6) 0) 1))], .bool ((joinedF ar rs f xs g ys).2.2)] : Value)), (8, (.agg #[((aggAt (tupAt (vals 6) 0) 0)), ((aggAt (tupAt (vals 6) 0) 1))] : Value)), (10, ptr (blk (vals 10)) 0)]) ⟨(e6).symm, e8, e10, trivial⟩]
                  show XG _ _ _ _ _ (cellsH (blk (vals 10)) [(.slice none 0 0), (.slice none 0 0)] 73 :: ([intsH 2 x23 m7, stepsD 2 119 x24 m8, intsH 2 x21 m5, stepsD 2 119 x22 m6, intsH 2 x19 m3, stepsD 2 119 x20 m4, intsH 2 x17 m1, pairsD 2 98 x18 m2, cellsH b10 [x23, x24] 73, cellsH b9 [x21, x22] 73, cellsH b8 [x19, x20] 73, cellsH b7 [x17, x18] 36, cellsH b6 [u7, u8] 73, cellsH b3 [gv, ysv] 69, cellsH b2 [fv, xsv] 69, cellsH b1 [arv, rsv] 27] ++ R)) _
                  refine XG.op (XOp.storeN (vs := [((aggAt (tupAt (vals 6) 0) 0)), ((aggAt (tupAt (vals 6) 0) 1))]) [] _ [((aggAt (tupAt (vals 6) 0) 0)), ((aggAt (tupAt (vals 6) 0) 1))] sizeOf73 rfl rfl rfl (ones_cons (one_sl (IntsF.isSl f6_5hr1)) (ones_cons (one_sl (StepsF.isSl f6_5hr2)) ones_nil)) rfl rfl rfl ?_)
                  exact ⟨trivial, rfl⟩
                 exact stepsG.nil
                ·intro vals F49 le49 hphi
                 obtain ⟨e1, f1_5hr1, f1_5hr2⟩ := hphi 1 (by decide)
                 obtain ⟨e3, f3_5hr1, f3_5hr2⟩ := hphi 3 (by decide)
                 obtain ⟨e5, f5_5hr1, f5_5hr2⟩ := hphi 5 (by decide)
                 obtain ⟨e6, f6_5hr1, f6_5hr2⟩ := hphi 6 (by decide)
                 have e7 : vals 7 = (.tuple #[.agg #[((aggAt (tupAt (vals 6) 0) 0)), ((aggAt (tupAt (vals 6) 0) 1))], .bool ((joinedF ar rs f xs g ys).2.2)] : Value) := hphi 7 (by decide)
                 have e8 : vals 8 = (.agg #[((aggAt (tupAt (vals 6) 0) 0)), ((aggAt (tupAt (vals 6) 0) 1))] : Value) := hphi 8 (by decide)
                 have e10 : vals 10 = ptr (blk (vals 10)) 0 := hphi 10 (by decide)
                 generalize hu16 : ((aggAt (vals 1) 0)) = u15 at e1 f1_5hr1 f1_5hr2 e3 f3_5hr1 f3_5hr2 e5 f5_5hr1 f5_5hr2 e6 f6_5hr1 f6_5hr2 e7 e8 e10
                 generalize hu17 : ((aggAt (vals 1) 1)) = u16 at e1 f1_5hr1 f1_5hr2 e3 f3_5hr1 f3_5hr2 e5 f5_5hr1 f5_5hr2 e6 f6_5hr1 f6_5hr2 e7 e8 e10
                 generalize hu18 : ((aggAt (vals 3) 0)) = u17 at e1 f1_5hr1 f1_5hr2 e3 f3_5hr1 f3_5hr2 e5 f5_5hr1 f5_5hr2 e6 f6_5hr1 f6_5hr2 e7 e8 e10
                 generalize hu19 : ((aggAt (vals 3) 1)) = u18 at e1 f1_5hr1 f1_5hr2 e3 f3_5hr1 f3_5hr2 e5 f5_5hr1 f5_5hr2 e6 f6_5hr1 f6_5hr2 e7 e8 e10
                 generalize hu20 : ((aggAt (vals 5) 0)) = u19 at e1 f1_5hr1 f1_5hr2 e3 f3_5hr1 f3_5hr2 e5 f5_5hr1 f5_5hr2 e6 f6_5hr1 f6_5hr2 e7 e8 e10
                 generalize hu21 : ((aggAt (vals 5) 1)) = u20 at e1 f1_5hr1 f1_5hr2 e3 f3_5hr1 f3_5hr2 e5 f5_5hr1 f5_5hr2 e6 f6_5hr1 f6_5hr2 e7 e8 e10
                 generalize hu22 : ((aggAt (tupAt (vals 6) 0) 0)) = u21 at e1 f1_5hr1 f1_5hr2 e3 f3_5hr1 f3_5hr2 e5 f5_5hr1 f5_5hr2 e6 f6_5hr1 f6_5hr2 e7 e8 e10
                 generalize hu23 : ((aggAt (tupAt (vals 6) 0) 1)) = u22 at e1 f1_5hr1 f1_5hr2 e3 f3_5hr1 f3_5hr2 e5 f5_5hr1 f5_5hr2 e6 f6_5hr1 f6_5hr2 e7 e8 e10
                 generalize hu24 : blk (vals 10) = b13 at e1 f1_5hr1 f1_5hr2 e3 f3_5hr1 f3_5hr2 e5 f5_5hr1 f5_5hr2 e6 f6_5hr1 f6_5hr2 e7 e8 e10
                 rw [eS (l := [(6, (.tuple #[.agg #[u21, u22], .bool ((joinedF ar rs f xs g ys).2.2)] : Value)), (9, (.bool ((joinedF ar rs f xs g ys).2.2) : Value)), (10, ptr b13 0)]) ⟨(e6).symm, (hphi 9 (by decide)), e10, trivial⟩]
                 replace f6_1hr1 := f6_1hr1.mono le49
                 replace f6_1hr2 := f6_1hr2.mono le49
                 show XL _ _ _ _ _ _ _ (cellsH b13 [u21, u22] 73 :: intsH 2 x23 m7 :: stepsD 2 119 x24 m8 :: intsH 2 x21 m5 :: stepsD 2 119 x22 m6 :: intsH 2 x19 m3 :: stepsD 2 119 x20 m4 :: intsH 2 x17 m1 :: pairsD 2 98 x18 m2 :: cellsH b10 [x23, x24] 73 :: cellsH b9 [x21, x22] 73 :: cellsH b8 [x19, x20] 73 :: cellsH b7 [x17, x18] 36 :: cellsH b6 [u7, u8] 73 :: cellsH b3 [gv, ysv] 69 :: cellsH b2 [fv, xsv] 69 :: cellsH b1 [arv, rsv] 27 :: L)
                 refine XL.as (.bool ((joinedF ar rs f xs g ys).2.2)) rfl ?_
                 refine XL.nil (X.seq (X.seq (X.region ?_)))
                 refine cX (XOp.loadN [u21, u22] isAgg73 sizeOf73 rfl rfl (Rd.ownN [] rfl rfl) ?_)
                 refine cX (XOp.loadN [u7, u8] isAgg73 sizeOf73 rfl rfl (Rd.ownN [_, _, _, _, _, _, _, _, _, _, _, _, _] rfl rfl) ?_)
                 refine cX (XOp.call (args := [.agg #[u21, u22], .agg #[u7, u8]]) call39 rfl (eqWalk_spec f6_5hr1 f6_5hr2 f6_1hr1 f6_1hr2 (hfl := (by first | assumption | rfl | omega | simp)) (hal := (by first | assumption | rfl | omega | simp)) (hbd := (by first | assumption | exact fun i hi => by have := hne i hi; omega))) ?_)
                 rintro _ _ _ _ ⟨rfl, rfl, rfl⟩
                 refine cX (XOp.notD (p := ((joinedF ar rs f xs g ys).1) = ((joinedF ar rs f xs g ys).1) ∧ ((joinedF ar rs f xs g ys).2.1) = ((joinedF ar rs f xs g ys).2.1)) rfl ?_)
                 refine XL.mv (.bool (decide (¬(((joinedF ar rs f xs g ys).1) = ((joinedF ar rs f xs g ys).1) ∧ ((joinedF ar rs f xs g ys).2.1) = ((joinedF ar rs f xs g ys).2.1))))) rfl ?_
                 refine XL.yes (t := 129) rfl (vF h4) (XOp.move (.bool ((joinedF ar rs f xs g ys).2.2)) rfl ?_)
                 refine XL.yes (t := 129) rfl (vF h4) (XOp.move (.bool ((joinedF ar rs f xs g ys).2.2)) rfl ?_)
                 refine XL.yes (t := 129) rfl (vF h4) (XOp.neB (a := (joinedF ar rs f xs g ys).2.2) (b := (joinedF ar rs f xs g ys).2.2) runUnderlying4 rfl rfl ?_)
                 refine cX (XOp.pickF (.bool (decide (((joinedF ar rs f xs g ys).2.2) ≠ ((joinedF ar rs f xs g ys).2.2)))) (vF h4) rfl ?_)
                 refine XL.nil ?_
                 refine X.condF (vF h5) ?_
                 refine X.skip (X.seq (X.region ?_))
                 refine XL.as (.int .i64 (1)) rfl ?_
                 refine XL.nil (X.seq (X.region ?_))
                 refine cX (XOp.loadN [x23, x24] isAgg73 sizeOf73 rfl rfl (Rd.ownN [_, _, _, _, _, _, _, _, _] rfl rfl) ?_)
                 refine XL.mv (.int .i64 (1)) rfl ?_
                 refine cX (XOp.lend [_] _ _ rfl (fun F50 le50 hz19 => ?_))
                 refine id (XOp.lend [_] _ _ rfl (fun F51 le51 hz20 => ?_))
                 have hf19 : IntsF _ x23 m7 := (intsH.fz (xs := m7) hz19).mono le51
                 have hf20 : StepsF _ x24 m8 := stepsD.fz hz20
                 refine id (XOp.call (args := [.agg #[x23, x24], .int .i64 (1)]) call41 rfl (heldWalk_spec (z := 1) hf19 hf20 (hzb := (by first | assumption | rfl | omega | simp)) (hxl := (by first | assumption | rfl | omega | simp))) ?_)
                 rintro _ _ _ _ ⟨rfl, rfl, rfl⟩
                 show XL _ _ _ _ _ _ _ (intsH 2 x23 m7 :: stepsD 2 119 x24 m8 :: cellsH b13 [u21, u22] 73 :: intsH 2 x21 m5 :: stepsD 2 119 x22 m6 :: intsH 2 x19 m3 :: stepsD 2 119 x20 m4 :: intsH 2 x17 m1 :: pairsD 2 98 x18 m2 :: cellsH b10 [x23, x24] 73 :: cellsH b9 [x21, x22] 73 :: cellsH b8 [x19, x20] 73 :: cellsH b7 [x17, x18] 36 :: cellsH b6 [u7, u8] 73 :: cellsH b3 [gv, ysv] 69 :: cellsH b2 [fv, xsv] 69 :: cellsH b1 [arv, rsv] 27 :: L)
                 refine XL.as (.int .i64 (heldF (m7 ++ m8.flatMap flatStep) 1)) rfl ?_
                 refine XL.nil (X.seq (X.seq (X.region ?_)))
                 refine XL.mv (.int .i64 (heldF (m7 ++ m8.flatMap flatStep) 1)) rfl ?_
                 refine cX (XOp.lss (a := heldF (m7 ++ m8.flatMap flatStep) 1) (b := 0) rfl rfl ?_)
                 refine XL.nil ?_
                 refine X.condF (vF h10) ?_
                 refine X.skip (X.seq (X.seq (X.region ?_)))
                 refine XL.mv (.int .i64 (heldF (m7 ++ m8.flatMap flatStep) 1)) rfl ?_
                 refine XL.mv (.int .i64 (1 + (((((joinedF ar rs f xs g ys).1)) ++ (((joinedF ar rs f xs g ys).2.1).flatMap flatStep)).length : Int))) rfl ?_
                 refine cX (XOp.neq (a := heldF (m7 ++ m8.flatMap flatStep) 1) (b := 1 + (((((joinedF ar rs f xs g ys).1)) ++ (((joinedF ar rs f xs g ys).2.1).flatMap flatStep)).length : Int)) rfl rfl ?_)
                 refine XL.nil ?_
                 refine X.condF (vF h11) ?_
                 refine X.skip (X.seq (X.region ?_))
                 refine XL.as (.bool (true)) rfl ?_
                 refine XL.nil ?_
                 refine X.ret (retEnd (L' := L) [.bool (true)] (.bool (true)) (.tmp rfl .nil) rfl rF (FLe.trans (FLe.trans (FLe.trans (FLe.trans le9 le24) le29) le34) le49) (Sub.drop (Sub.drop (Sub.drop (Sub.drop (Sub.drop (Sub.drop (Sub.drop (Sub.drop (Sub.drop (Sub.drop (Sub.drop (Sub.drop (Sub.drop (Sub.drop (Sub.drop (Sub.drop (Sub.drop sR))))))))))))))))) ?_)
                 exact ⟨rfl, rfl, rfl⟩
end Go.Proofs.Ytnloeeaidknblaa
