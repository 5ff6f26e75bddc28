/-
  Walks, one after the other (part 5).
-/
import Derived.Test.YtiaanelimbmniaaGreatQwL1
import Derived.Test.YtiaanelimbmniaaGreatQwB3
set_option linter.unusedSimpArgs false
set_option linter.unusedVariables false
namespace Go.Proofs.YtiaanelimbmniaaGreat
open Go X M Tryz

/- impl.ShownBy$1 -/
theorem ShownBy1_spec {F : FH} {L : List HP} {tv : Value} {t : List Int} (ht : IntsF F tv t) {arv : Value} {ar : List Int} (har : IntsF F arv ar) {rsv : Value} {rs : List (List Int × List Int)} (hrs : PairsF F rsv rs) {b : Nat} (hzb : FzC F b [arv, rsv]) {n : Int} {c : Nat} (hzc : FzC F c [.int .i64 (n)]) (hsys : sysOk ar rs = true) (hn0 : 0 ≤ n ∧ n ≤ 60) (ho : termOk ar t = true) :
    Does prog 50 [tv, ptr b 0, ptr c 0] F (L) (fun v F' L' => ∃ (wa1 : Value), ∃ (wb1 : Value), (.tuple #[.agg #[wa1, wb1], .bool ((walkGo ar rs 1 n.toNat t).2)] : Value) = v ∧ (IntsF F' wa1 (t)) ∧ (StepsF F' wb1 ((walkGo ar rs 1 n.toNat t).1)) ∧ (Fresh F F' (star [intsH 2 wa1 (t), stepsD 2 116 wb1 ((walkGo ar rs 1 n.toNat t).1)])) ∧ L = L') := by
 refine Does.of_X func50 rfl rfl rfl ?_
 refine X.seq (X.region ?_)
 refine cX (XOp.alloc [(.slice none 0 0), (.slice none 0 0)] zeroValue57 rfl ?_)
 intro b1
 refine XL.as (.bool (false)) rfl ?_
 refine XL.nil (X.seq (X.region ?_))
 refine cX (XOp.loadN [arv, rsv] isAgg37 sizeOf37 rfl rfl (FzC.rd hzb rfl) ?_)
 refine XL.mv (tv) rfl ?_
 refine cX (XOp.load1 (v := .int .i64 (n)) isAgg2 rfl (FzC.rd1 hzc rfl) ?_)
 refine cX (XOp.call (args := [.agg #[arv, rsv], tv, .int .i64 (1), .int .i64 (((n).toNat : Nat) : Int)]) call51 (by rw [show (((n).toNat : Nat) : Int) = n from by omega]; rfl) (walkBy_spec (st := 1) (n := (n).toNat) har hrs ht (hsys := (by first | assumption | rfl | omega | simp)) (ho := (by first | assumption | rfl | omega | simp)) (hst := (by first | assumption | rfl | omega | simp)) (hn := (by first | assumption | rfl | omega | simp))) ?_)
 rintro _ F1 _ le1 ⟨x1, x2, rfl, hr1, hr2, hr3, rfl⟩
 refine cX (XOp.extract (.agg #[x1, x2]) rfl rfl ?_)
 refine cX (XOp.extract (.bool ((walkGo ar rs 1 ((n).toNat) t).2)) rfl rfl ?_)
 refine cX (XOp.storeN (vs := [x1, x2]) [] _ [x1, x2] sizeOf57 rfl rfl rfl (ones_cons (one_sl (IntsF.isSl hr1)) (ones_cons (one_sl (StepsF.isSl hr2)) ones_nil)) rfl rfl rfl ?_)
 refine XL.as (.bool ((walkGo ar rs 1 ((n).toNat) t).2)) rfl ?_
 refine XL.nil ?_
 refine X.ret (retEnd (L' := L) [.agg #[x1, x2], .bool ((walkGo ar rs 1 ((n).toNat) t).2)] (.tuple #[.agg #[x1, x2], .bool ((walkGo ar rs 1 ((n).toNat) t).2)]) (.cell rfl (loadNV [x1, x2] isAgg57 sizeOf57 rfl (Rd.ownN [] rfl rfl)) (.tmp rfl .nil)) rfl le1 rF (Sub.drop sR) ?_)
 exact ⟨_, _, rfl, hr1, hr2, hr3, rfl⟩

/- impl.both[impl.Walk] -/
theorem bothWalkS_spec {F : FH} {L : List HP} {xv : Value} {x : List Int} (hx : IntsF F xv x) {yv : Value} {y : List Int} (hy : IntsF F yv y) {arv : Value} {ar : List Int} (har : IntsF F arv ar) {rsv : Value} {rs : List (List Int × List Int)} (hrs : PairsF F rsv rs) {b : Nat} (hzb : FzC F b [arv, rsv]) {n : Int} {c : Nat} (hzc : FzC F c [.int .i64 (n)]) (hsys : sysOk ar rs = true) (hn0 : 0 ≤ n ∧ n ≤ 60) (hox : termOk ar x = true) (hoy : termOk ar y = true) :
    Does prog 49 [xv, yv, .func (.func 50) #[] #[ptr b 0, ptr c 0]] F (L) (fun v F' L' => ∃ (wa1 : Value), ∃ (wb1 : Value), ∃ (wa2 : Value), ∃ (wb2 : Value), (.tuple #[.agg #[wa1, wb1], .agg #[wa2, wb2], .bool (((walkGo ar rs 1 n.toNat x).2 && (walkGo ar rs 1 n.toNat y).2))] : Value) = v ∧ (IntsF F' wa1 (x)) ∧ (StepsF F' wb1 ((walkGo ar rs 1 n.toNat x).1)) ∧ (IntsF F' wa2 (y)) ∧ (StepsF F' wb2 ((walkGo ar rs 1 n.toNat y).1)) ∧ (Fresh F F' (star [intsH 2 wa1 (x), stepsD 2 116 wb1 ((walkGo ar rs 1 n.toNat x).1), intsH 2 wa2 (y), stepsD 2 116 wb2 ((walkGo ar rs 1 n.toNat y).1)])) ∧ L = L') := by
 refine Does.of_X func49 rfl rfl rfl ?_
 refine X.seq (X.region ?_)
 refine cX (XOp.alloc [(.slice none 0 0), (.slice none 0 0)] zeroValue57 rfl ?_)
 intro b1
 refine cX (XOp.alloc [(.slice none 0 0), (.slice none 0 0)] zeroValue57 rfl ?_)
 intro b2
 refine XL.as (.bool (false)) rfl ?_
 refine XL.nil (X.seq (X.region ?_))
 refine XL.mv (.func (.func 50) #[] #[ptr b 0, ptr c 0]) rfl ?_
 refine XL.mv (xv) rfl ?_
 refine cX (XOp.callV (first := []) (captured := [ptr b 0, ptr c 0]) (args := [xv, ptr b 0, ptr c 0]) call50 rfl rfl (ShownBy1_spec hx har hrs hzb hzc (hsys := (by first | assumption | rfl | omega | simp)) (hn0 := (by first | assumption | rfl | omega | simp)) (ho := (by first | assumption | rfl | omega | simp))) ?_)
 rintro _ F1 _ le1 ⟨x1, x2, rfl, hr1, hr2, hr3, rfl⟩
 replace hx := hx.mono le1
 replace hy := hy.mono le1
 replace har := har.mono le1
 replace hrs := hrs.mono le1
 replace hzb := hzb.mono le1
 replace hzc := hzc.mono le1
 refine XL.mv (.tuple #[.agg #[x1, x2], .bool ((walkGo ar rs 1 n.toNat x).2)]) rfl ?_
 refine cX (XOp.extract (.agg #[x1, x2]) rfl rfl ?_)
 refine cX (XOp.extract (.bool ((walkGo ar rs 1 n.toNat x).2)) rfl rfl ?_)
 refine cX (XOp.alloc [(.slice none 0 0), (.slice none 0 0)] zeroValue57 rfl ?_)
 intro b3
 refine cX (XOp.storeN (vs := [x1, x2]) [] _ [x1, x2] sizeOf57 rfl rfl rfl (ones_cons (one_sl (IntsF.isSl hr1)) (ones_cons (one_sl (StepsF.isSl hr2)) ones_nil)) rfl rfl rfl ?_)
 refine XL.as (.bool ((walkGo ar rs 1 n.toNat x).2)) rfl ?_
 refine XL.nil (X.seq (X.region ?_))
 refine XL.mv (.func (.func 50) #[] #[ptr b 0, ptr c 0]) rfl ?_
 refine XL.mv (yv) rfl ?_
 refine cX (XOp.callV (first := []) (captured := [ptr b 0, ptr c 0]) (args := [yv, ptr b 0, ptr c 0]) call50 rfl rfl (ShownBy1_spec hy har hrs hzb hzc (hsys := (by first | assumption | rfl | omega | simp)) (hn0 := (by first | assumption | rfl | omega | simp)) (ho := (by first | assumption | rfl | omega | simp))) ?_)
 rintro _ F2 _ le2 ⟨x3, x4, rfl, hr4, hr5, hr6, rfl⟩
 replace hx := hx.mono le2
 replace hr1 := hr1.mono le2
 replace hr2 := hr2.mono le2
 refine XL.mv (.tuple #[.agg #[x3, x4], .bool ((walkGo ar rs 1 n.toNat y).2)]) rfl ?_
 refine cX (XOp.extract (.agg #[x3, x4]) rfl rfl ?_)
 refine cX (XOp.extract (.bool ((walkGo ar rs 1 n.toNat y).2)) rfl rfl ?_)
 refine cX (XOp.alloc [(.slice none 0 0), (.slice none 0 0)] zeroValue57 rfl ?_)
 intro b4
 refine cX (XOp.storeN (vs := [x3, x4]) [] _ [x3, x4] sizeOf57 rfl rfl rfl (ones_cons (one_sl (IntsF.isSl hr4)) (ones_cons (one_sl (StepsF.isSl hr5)) ones_nil)) rfl rfl rfl ?_)
 refine XL.as (.bool ((walkGo ar rs 1 n.toNat y).2)) rfl ?_
 refine XL.nil (X.seq ?_)
 by_cases h1 : ((walkGo ar rs 1 n.toNat x).2) = true
 ·refine X.weaken (Sub.front (A := [_, _])) ?_
  refine X.weaken (Sub.front (A := [_, _, _])) ?_
  show X _ _ _ _ _ _ (cellsH b1 [(.slice none 0 0), (.slice none 0 0)] 57 :: cellsH b2 [(.slice none 0 0), (.slice none 0 0)] 57 :: cellsH b4 [x3, x4] 57 :: cellsH b3 [x1, x2] 57 :: L)
  refine X.drawH [cellsH b4 [x3, x4] 57, cellsH b3 [x1, x2] 57] L 8 [[], [], [], [], [], [], [], []] [[], [], [], [2], [3], [3, 4], [0], [1]] [[], [], [], [], [], [], [], []] (phiG [fun FF us v => v = (.agg #[x1, x2] : Value), fun FF us v => v = (.agg #[x3, x4] : Value), fun FF us v => v = (.bool ((walkGo ar rs 1 n.toNat x).2) : Value), fun FF us v => v = (.bool ((walkGo ar rs 1 n.toNat x).2) : Value), fun FF us v => v = (.bool ((walkGo ar rs 1 n.toNat y).2) : Value), fun FF us v => v = (.bool ((walkGo ar rs 1 n.toNat y).2) : Value), fun FF us v => True, fun FF us v => True]) (ownL [fun us v => [], fun us v => [], fun us v => [], fun us v => [], fun us v => [], fun us v => [], fun us v => [cellsH b1 [x1, x2] 57], fun us v => [cellsH b2 [x3, x4] 57]]) (fun i => ([[], [], [], [], [], [], [cellsH b1 [(.slice none 0 0), (.slice none 0 0)] 57], [cellsH b2 [(.slice none 0 0), (.slice none 0 0)] 57]] : List (List HP)).getD i []) mixed rfl rfl (by kernel_rfl) (by kernel_rfl) (MonoG.get (MonoG.cons (fun le h => h) (MonoG.cons (fun le h => h) (MonoG.cons (fun le h => h) (MonoG.cons (fun le h => h) (MonoG.cons (fun le h => h) (MonoG.cons (fun le h => h) (MonoG.cons (fun le h => h) (MonoG.cons (fun le h => h) MonoG.nil))))))))) ?_ ?_
  ·refine stepsT.cons (fun vals Fs R leFs hpZ => ?_) ?_
   ·replace hx := hx.mono leFs
    replace hr1 := hr1.mono leFs
    replace hr2 := hr2.mono leFs
    replace hr4 := hr4.mono leFs
    replace hr5 := hr5.mono leFs
    refine XG.op (XOp.loadN [x1, x2] isAgg57 sizeOf57 rfl rfl (Rd.ownN [_] rfl rfl) ?_)
    exact ⟨rfl, rfl⟩
   refine stepsT.cons (fun vals Fs R leFs hpZ => ?_) ?_
   ·replace hx := hx.mono leFs
    replace hr1 := hr1.mono leFs
    replace hr2 := hr2.mono leFs
    replace hr4 := hr4.mono leFs
    replace hr5 := hr5.mono leFs
    refine XG.op (XOp.loadN [x3, x4] isAgg57 sizeOf57 rfl rfl (Rd.ownN [] rfl rfl) ?_)
    exact ⟨rfl, rfl⟩
   refine stepsT.cons (fun vals Fs R leFs hpZ => ?_) ?_
   ·refine XG.op (XOp.move (.bool ((walkGo ar rs 1 n.toNat x).2)) rfl ?_)
    exact ⟨rfl, rfl⟩
   refine stepsT.cons (fun vals Fs R leFs hpZ => ?_) ?_
   ·rw [eS (l := [(2, (.bool ((walkGo ar rs 1 n.toNat x).2) : Value))]) ⟨(hpZ 2 (by decide)), trivial⟩]
    refine XG.op (XOp.move (.bool ((walkGo ar rs 1 n.toNat x).2)) rfl ?_)
    exact ⟨rfl, rfl⟩
   refine stepsT.cons (fun vals Fs R leFs hpZ => ?_) ?_
   ·rw [eS (l := [(3, (.bool ((walkGo ar rs 1 n.toNat x).2) : Value))]) ⟨(hpZ 3 (by decide)), trivial⟩]
    refine XG.yes (t := 28) rfl (vB h1) (XOp.move (.bool ((walkGo ar rs 1 n.toNat y).2)) rfl ?_)
    exact ⟨rfl, rfl⟩
   refine stepsT.cons (fun vals Fs R leFs hpZ => ?_) ?_
   ·rw [eS (l := [(3, (.bool ((walkGo ar rs 1 n.toNat x).2) : Value)), (4, (.bool ((walkGo ar rs 1 n.toNat y).2) : Value))]) ⟨(hpZ 3 (by decide)), (hpZ 4 (by decide)), trivial⟩]
    refine XG.op (XOp.pickT (.bool ((walkGo ar rs 1 n.toNat y).2)) (vB h1) rfl ?_)
    exact ⟨rfl, rfl⟩
   refine stepsT.cons (fun vals Fs R leFs hpZ => ?_) ?_
   ·replace hx := hx.mono leFs
    replace hr1 := hr1.mono leFs
    replace hr2 := hr2.mono leFs
    replace hr4 := hr4.mono leFs
    replace hr5 := hr5.mono leFs
    rw [eS (l := [(0, (.agg #[x1, x2] : Value))]) ⟨(hpZ 0 (by decide)), trivial⟩]
    show XG _ _ _ _ _ (cellsH b1 [(.slice none 0 0), (.slice none 0 0)] 57 :: ([cellsH b4 [x3, x4] 57, cellsH b3 [x1, x2] 57] ++ R)) _
    refine XG.op (XOp.storeN (vs := [x1, x2]) [] _ [x1, x2] sizeOf57 rfl rfl rfl (ones_cons (one_sl (IntsF.isSl hr1)) (ones_cons (one_sl (StepsF.isSl hr2)) ones_nil)) rfl rfl rfl ?_)
    exact ⟨trivial, rfl⟩
   refine stepsT.cons (fun vals Fs R leFs hpZ => ?_) ?_
   ·replace hx := hx.mono leFs
    replace hr1 := hr1.mono leFs
    replace hr2 := hr2.mono leFs
    replace hr4 := hr4.mono leFs
    replace hr5 := hr5.mono leFs
    rw [eS (l := [(1, (.agg #[x3, x4] : Value))]) ⟨(hpZ 1 (by decide)), trivial⟩]
    show XG _ _ _ _ _ (cellsH b2 [(.slice none 0 0), (.slice none 0 0)] 57 :: ([cellsH b4 [x3, x4] 57, cellsH b3 [x1, x2] 57] ++ R)) _
    refine XG.op (XOp.storeN (vs := [x3, x4]) [] _ [x3, x4] sizeOf57 rfl rfl rfl (ones_cons (one_sl (IntsF.isSl hr4)) (ones_cons (one_sl (StepsF.isSl hr5)) ones_nil)) rfl rfl rfl ?_)
    exact ⟨trivial, rfl⟩
   exact stepsT.nil
  ·intro vals F3 le3 hphi
   rw [eS (l := [(5, (.bool ((walkGo ar rs 1 n.toNat y).2) : Value))]) ⟨(hphi 5 (by decide)), trivial⟩]
   replace hx := hx.mono le3
   replace hr1 := hr1.mono le3
   replace hr2 := hr2.mono le3
   replace hr4 := hr4.mono le3
   replace hr5 := hr5.mono le3
   show XL _ _ _ _ _ _ _ (cellsH b1 [x1, x2] 57 :: cellsH b2 [x3, x4] 57 :: cellsH b4 [x3, x4] 57 :: cellsH b3 [x1, x2] 57 :: L)
   refine XL.as (.bool ((walkGo ar rs 1 n.toNat y).2)) rfl ?_
   refine XL.nil ?_
   refine X.ret (retEnd (L' := L) [.agg #[x1, x2], .agg #[x3, x4], .bool ((walkGo ar rs 1 n.toNat y).2)] (.tuple #[.agg #[x1, x2], .agg #[x3, x4], .bool ((walkGo ar rs 1 n.toNat y).2)]) (.cell rfl (loadNV [x1, x2] isAgg57 sizeOf57 rfl (Rd.ownN [] rfl rfl)) (.cell rfl (loadNV [x3, x4] isAgg57 sizeOf57 rfl (Rd.ownN [_] rfl rfl)) (.tmp rfl .nil))) rfl (FLe.trans (FLe.trans le1 le2) le3) rF (Sub.drop (Sub.drop (Sub.drop (Sub.drop sR)))) ?_)
   exact ⟨_, _, _, _, by first | rfl | (rw [‹(walkGo ar rs 1 n.toNat x).2 = _›]; rfl), hr1, hr2, hr4, hr5, ((Fresh.app hr3 le1 hr6 le2).mono le3), rfl⟩
 ·rw [Bool.not_eq_true] at h1
  refine X.weaken (Sub.front (A := [_, _])) ?_
  refine X.weaken (Sub.front (A := [_, _, _])) ?_
  show X _ _ _ _ _ _ (cellsH b1 [(.slice none 0 0), (.slice none 0 0)] 57 :: cellsH b2 [(.slice none 0 0), (.slice none 0 0)] 57 :: cellsH b4 [x3, x4] 57 :: cellsH b3 [x1, x2] 57 :: L)
  refine X.drawH [cellsH b4 [x3, x4] 57, cellsH b3 [x1, x2] 57] L 8 [[], [], [], [], [], [], [], []] [[], [], [], [2], [3], [3, 4], [0], [1]] [[], [], [], [], [], [], [], []] (phiG [fun FF us v => v = (.agg #[x1, x2] : Value), fun FF us v => v = (.agg #[x3, x4] : Value), fun FF us v => v = (.bool ((walkGo ar rs 1 n.toNat x).2) : Value), fun FF us v => v = (.bool ((walkGo ar rs 1 n.toNat x).2) : Value), fun FF us v => v = undef, fun FF us v => v = (.bool (false) : Value), fun FF us v => True, fun FF us v => True]) (ownL [fun us v => [], fun us v => [], fun us v => [], fun us v => [], fun us v => [], fun us v => [], fun us v => [cellsH b1 [x1, x2] 57], fun us v => [cellsH b2 [x3, x4] 57]]) (fun i => ([[], [], [], [], [], [], [cellsH b1 [(.slice none 0 0), (.slice none 0 0)] 57], [cellsH b2 [(.slice none 0 0), (.slice none 0 0)] 57]] : List (List HP)).getD i []) mixed rfl rfl (by kernel_rfl) (by kernel_rfl) (MonoG.get (MonoG.cons (fun le h => h) (MonoG.cons (fun le h => h) (MonoG.cons (fun le h => h) (MonoG.cons (fun le h => h) (MonoG.cons (fun le h => h) (MonoG.cons (fun le h => h) (MonoG.cons (fun le h => h) (MonoG.cons (fun le h => h) MonoG.nil))))))))) ?_ ?_
  ·refine stepsT.cons (fun vals Fs R leFs hpZ => ?_) ?_
   ·replace hx := hx.mono leFs
    replace hr1 := hr1.mono leFs
    replace hr2 := hr2.mono leFs
    replace hr4 := hr4.mono leFs
    replace hr5 := hr5.mono leFs
    refine XG.op (XOp.loadN [x1, x2] isAgg57 sizeOf57 rfl rfl (Rd.ownN [_] rfl rfl) ?_)
    exact ⟨rfl, rfl⟩
   refine stepsT.cons (fun vals Fs R leFs hpZ => ?_) ?_
   ·replace hx := hx.mono leFs
    replace hr1 := hr1.mono leFs
    replace hr2 := hr2.mono leFs
    replace hr4 := hr4.mono leFs
    replace hr5 := hr5.mono leFs
    refine XG.op (XOp.loadN [x3, x4] isAgg57 sizeOf57 rfl rfl (Rd.ownN [] rfl rfl) ?_)
    exact ⟨rfl, rfl⟩
   refine stepsT.cons (fun vals Fs R leFs hpZ => ?_) ?_
   ·refine XG.op (XOp.move (.bool ((walkGo ar rs 1 n.toNat x).2)) rfl ?_)
    exact ⟨rfl, rfl⟩
   refine stepsT.cons (fun vals Fs R leFs hpZ => ?_) ?_
   ·rw [eS (l := [(2, (.bool ((walkGo ar rs 1 n.toNat x).2) : Value))]) ⟨(hpZ 2 (by decide)), trivial⟩]
    refine XG.op (XOp.move (.bool ((walkGo ar rs 1 n.toNat x).2)) rfl ?_)
    exact ⟨rfl, rfl⟩
   refine stepsT.cons (fun vals Fs R leFs hpZ => ?_) ?_
   ·rw [eS (l := [(3, (.bool ((walkGo ar rs 1 n.toNat x).2) : Value))]) ⟨(hpZ 3 (by decide)), trivial⟩]
    exact XG.no (t := 28) rfl (vB h1) ⟨rfl, rfl⟩
   refine stepsT.cons (fun vals Fs R leFs hpZ => ?_) ?_
   ·rw [eS (l := [(3, (.bool ((walkGo ar rs 1 n.toNat x).2) : Value)), (4, undef)]) ⟨(hpZ 3 (by decide)), (hpZ 4 (by decide)), trivial⟩]
    refine XG.op (XOp.pickF (.bool (false)) (vB h1) rfl ?_)
    exact ⟨rfl, rfl⟩
   refine stepsT.cons (fun vals Fs R leFs hpZ => ?_) ?_
   ·replace hx := hx.mono leFs
    replace hr1 := hr1.mono leFs
    replace hr2 := hr2.mono leFs
    replace hr4 := hr4.mono leFs
    replace hr5 := hr5.mono leFs
    rw [eS (l := [(0, (.agg #[x1, x2] : Value))]) ⟨(hpZ 0 (by decide)), trivial⟩]
    show XG _ _ _ _ _ (cellsH b1 [(.slice none 0 0), (.slice none 0 0)] 57 :: ([cellsH b4 [x3, x4] 57, cellsH b3 [x1, x2] 57] ++ R)) _
    refine XG.op (XOp.storeN (vs := [x1, x2]) [] _ [x1, x2] sizeOf57 rfl rfl rfl (ones_cons (one_sl (IntsF.isSl hr1)) (ones_cons (one_sl (StepsF.isSl hr2)) ones_nil)) rfl rfl rfl ?_)
    exact ⟨trivial, rfl⟩
   refine stepsT.cons (fun vals Fs R leFs hpZ => ?_) ?_
   ·replace hx := hx.mono leFs
    replace hr1 := hr1.mono leFs
    replace hr2 := hr2.mono leFs
    replace hr4 := hr4.mono leFs
    replace hr5 := hr5.mono leFs
    rw [eS (l := [(1, (.agg #[x3, x4] : Value))]) ⟨(hpZ 1 (by decide)), trivial⟩]
    show XG _ _ _ _ _ (cellsH b2 [(.slice none 0 0), (.slice none 0 0)] 57 :: ([cellsH b4 [x3, x4] 57, cellsH b3 [x1, x2] 57] ++ R)) _
    refine XG.op (XOp.storeN (vs := [x3, x4]) [] _ [x3, x4] sizeOf57 rfl rfl rfl (ones_cons (one_sl (IntsF.isSl hr4)) (ones_cons (one_sl (StepsF.isSl hr5)) ones_nil)) rfl rfl rfl ?_)
    exact ⟨trivial, rfl⟩
   exact stepsT.nil
  ·intro vals F4 le4 hphi
   rw [eS (l := [(5, (.bool (false) : Value))]) ⟨(hphi 5 (by decide)), trivial⟩]
   replace hr1 := hr1.mono le4
   replace hr2 := hr2.mono le4
   replace hr4 := hr4.mono le4
   replace hr5 := hr5.mono le4
   show XL _ _ _ _ _ _ _ (cellsH b1 [x1, x2] 57 :: cellsH b2 [x3, x4] 57 :: cellsH b4 [x3, x4] 57 :: cellsH b3 [x1, x2] 57 :: L)
   refine XL.as (.bool (false)) rfl ?_
   refine XL.nil ?_
   refine X.ret (retEnd (L' := L) [.agg #[x1, x2], .agg #[x3, x4], .bool (false)] (.tuple #[.agg #[x1, x2], .agg #[x3, x4], .bool (false)]) (.cell rfl (loadNV [x1, x2] isAgg57 sizeOf57 rfl (Rd.ownN [] rfl rfl)) (.cell rfl (loadNV [x3, x4] isAgg57 sizeOf57 rfl (Rd.ownN [_] rfl rfl)) (.tmp rfl .nil))) rfl (FLe.trans (FLe.trans le1 le2) le4) rF (Sub.drop (Sub.drop (Sub.drop (Sub.drop sR)))) ?_)
   exact ⟨_, _, _, _, by first | rfl | (rw [‹(walkGo ar rs 1 n.toNat x).2 = _›]; rfl), hr1, hr2, hr4, hr5, ((Fresh.app hr3 le1 hr6 le2).mono le4), rfl⟩

/- impl.ShownBy -/
set_option maxHeartbeats 1000000 in
theorem ShownBy_spec {F : FH} {L : List HP} {arv : Value} {ar : List Int} (har : IntsF F arv ar) {rsv : Value} {rs : List (List Int × List Int)} (hrs : PairsF F rsv rs) {av : Value} {a : List Int} (ha : IntsF F av a) {bv : Value} {b : List Int} (hb : IntsF F bv b) {n : Int} :
    Does prog 12 [.agg #[arv, rsv], av, bv, .int .i64 (n)] F (L) (fun v F' L' => ∃ (a1 : Value), ∃ (b1 : Value), (.tuple #[.agg #[a1, b1], .bool ((shownF ar rs a b n).2.2)] : Value) = v ∧ (IntsF F' a1 (shownF ar rs a b n).1) ∧ (MovesF F' b1 (shownF ar rs a b n).2.1) ∧ (Fresh F F' (star [intsH 2 a1 (shownF ar rs a b n).1, movesD 2 146 b1 (shownF ar rs a b n).2.1])) ∧ L = L') := by
 refine Does.of_X func12 rfl rfl rfl ?_
 refine X.seq (X.region ?_)
 refine cX (XOp.box [arv, rsv] rfl rfl ?_)
 intro b1
 refine cX (XOp.box [.int .i64 (n)] rfl rfl ?_)
 intro b2
 refine cX (XOp.alloc [(.slice none 0 0), (.slice none 0 0)] zeroValue31 rfl ?_)
 intro b3
 refine XL.as (.bool (false)) rfl ?_
 refine XL.nil (X.seq (X.seq (X.region ?_)))
 refine cX (XOp.loadN [arv, rsv] isAgg37 sizeOf37 rfl rfl (Rd.ownN [_, _] rfl rfl) ?_)
 refine XL.mv (av) rfl ?_
 refine XL.mv (bv) rfl ?_
 refine cX (XOp.load1 (v := .int .i64 (n)) isAgg2 rfl (Rd.own [_] rfl rfl) ?_)
 refine cX (XOp.call (args := [.agg #[arv, rsv], av, bv, .int .i64 (n)]) call48 rfl (EqualBy_spec (n := n) har hrs ha hb) ?_)
 rintro _ _ _ _ ⟨rfl, rfl, rfl⟩
 refine cX (XOp.neq (a := eqB ar rs a b n) (b := 1) rfl rfl ?_)
 refine XL.nil ?_
 refine X.condD (p := (eqB ar rs a b n : Int) ≠ 1) rfl (fun h1 => ?_) (fun h1 => ?_)
 ·have q0 : eqB ar rs a b n ≠ 1 := h1
  refine X.seq (X.region ?_)
  refine cX (XOp.build [(.slice none 0 0), (.slice none 0 0)] [(.slice none 0 0), (.slice none 0 0)] [(0, 1), (1, 1)] [] runUnderlying31 zeroValue31 rfl (.cons rfl sizeOf22 (.cons rfl sizeOf29 PlacesAre.nil)) rfl CellsAre.nil ?_)
  refine cX (XOp.storeN (vs := [(.slice none 0 0), (.slice none 0 0)]) [] _ [(.slice none 0 0), (.slice none 0 0)] sizeOf31 rfl rfl rfl (ones_cons rfl (ones_cons rfl ones_nil)) rfl rfl rfl ?_)
  refine XL.as (.bool (false)) rfl ?_
  refine XL.nil ?_
  refine X.ret (thenQ_ret (retEnd (L' := L) [.agg #[(.slice none 0 0), (.slice none 0 0)], .bool (false)] (.tuple #[.agg #[(.slice none 0 0), (.slice none 0 0)], .bool (false)]) (.cell rfl (loadNV [(.slice none 0 0), (.slice none 0 0)] isAgg31 sizeOf31 rfl (Rd.ownN [] rfl rfl)) (.tmp rfl .nil)) rfl rF rF (Sub.drop (Sub.drop (Sub.drop sR))) ?_))
  have e : shownF ar rs a b n = ([], [], false) := shownF_no q0
  exact ⟨_, _, by rw [e], by rw [e]; exact IntsF.nilV, by rw [e]; exact SlOf.nilV, by rw [e]; exact Fresh.empty nilChain, rfl⟩
 ·have q0 : eqB ar rs a b n = 1 := Classical.not_not.1 h1
  have q4 := eqB_one q0
  have hsys := (right_iff.1 q4.1.1).1
  have hoa := (right_iff.1 q4.1.1).2
  have hob := (right_iff.1 q4.1.2).2
  have hn0 := q4.2.1
  have hw1 := walkGo_right q4.1.1 hn0
  have hw2 := walkGo_right q4.1.2 hn0
  have hwb1 := walkOk_bound hw1
  have hwc1 := hwb1.1
  have hwd1 := hwb1.2.1
  have hcl1 : (chainL (walkGo ar rs 1 n.toNat a).1).length = (walkGo ar rs 1 n.toNat a).1.length := chainL_len
  have hcb1 := mem_getD_le (chain_mem hwb1.2.2)
  have hwb2 := walkOk_bound hw2
  have hwc2 := hwb2.1
  have hwd2 := hwb2.2.1
  have hcl2 : (chainL (walkGo ar rs 1 n.toNat b).1).length = (walkGo ar rs 1 n.toNat b).1.length := chainL_len
  have hcb2 := mem_getD_le (chain_mem hwb2.2.2)
  have htl9 : (turnL b (chainL (walkGo ar rs 1 n.toNat b).1)).length = (chainL (walkGo ar rs 1 n.toNat b).1).length := turnL_len
  have htb9 := mem_getD_le (turn_mem hwb2.1 (chain_mem hwb2.2.2))
  have hen9 : (endM b (chainL (walkGo ar rs 1 n.toNat b).1)).length ≤ 60 := by unfold endM; split <;> first | exact hwb2.1 | exact hcb2 _ (by omega)
  have hB1 : walkB ar rs a 1 n = (a, walkGo ar rs 1 n.toNat a) := walkB_yes (by simp [wOk, q4.1.1, hn0])
  have hB2 : walkB ar rs b 1 n = (b, walkGo ar rs 1 n.toNat b) := walkB_yes (by simp [wOk, q4.1.2, hn0])
  refine X.skip (X.seq (X.region ?_))
  refine XL.mv (av) rfl ?_
  refine XL.mv (bv) rfl ?_
  refine cX (XOp.makeFuncL [] [ptr b1 0, ptr b2 0] rfl rfl ?_)
  refine XL.freeze [_, _] _ _ rfl (fun F1 le1 hz1 => ?_)
  replace har := har.mono le1
  replace hrs := hrs.mono le1
  replace ha := ha.mono le1
  replace hb := hb.mono le1
  have hf1 : FzC F1 b1 [arv, rsv] := Fz.cells hz1
  refine XL.freeze [_] _ _ rfl (fun F2 le2 hz2 => ?_)
  replace har := har.mono le2
  replace hrs := hrs.mono le2
  replace ha := ha.mono le2
  replace hb := hb.mono le2
  replace hf1 := hf1.mono le2
  have hf2 : FzC F2 b2 [.int .i64 (n)] := Fz.cells hz2
  refine cX (XOp.call (args := [av, bv, .func (.func 50) #[] #[ptr b1 0, ptr b2 0]]) call49 rfl (bothWalkS_spec ha hb har hrs hf1 hf2 (hsys := (by first | assumption | rfl | omega | simp)) (hn0 := (by first | assumption | rfl | omega | simp)) (hox := (by first | assumption | rfl | omega | simp)) (hoy := (by first | assumption | rfl | omega | simp))) ?_)
  rintro _ F3 _ le3 ⟨x1, x2, x3, x4, rfl, hr1, hr2, hr3, hr4, hr5, rfl⟩
  replace har := har.mono le3
  refine XL.mv (.tuple #[.agg #[x1, x2], .agg #[x3, x4], .bool (((walkGo ar rs 1 n.toNat a).2 && (walkGo ar rs 1 n.toNat b).2))]) rfl ?_
  refine cX (XOp.extract (.agg #[x1, x2]) rfl rfl ?_)
  refine cX (XOp.extract (.agg #[x3, x4]) rfl rfl ?_)
  refine cX (XOp.extract (.bool (((walkGo ar rs 1 n.toNat a).2 && (walkGo ar rs 1 n.toNat b).2))) rfl rfl ?_)
  refine cX (XOp.alloc [(.slice none 0 0), (.slice none 0 0)] zeroValue57 rfl ?_)
  intro b4
  refine cX (XOp.alloc [(.slice none 0 0), (.slice none 0 0)] zeroValue57 rfl ?_)
  intro b5
  refine cX (XOp.storeN (vs := [x1, x2]) [_] _ [x1, x2] sizeOf57 rfl rfl rfl (ones_cons (one_sl (IntsF.isSl hr1)) (ones_cons (one_sl (StepsF.isSl hr2)) ones_nil)) rfl rfl rfl ?_)
  refine cX (XOp.storeN (vs := [x3, x4]) [] _ [x3, x4] sizeOf57 rfl rfl rfl (ones_cons (one_sl (IntsF.isSl hr3)) (ones_cons (one_sl (StepsF.isSl hr4)) ones_nil)) rfl rfl rfl ?_)
  refine XL.as (.bool (((walkGo ar rs 1 n.toNat a).2 && (walkGo ar rs 1 n.toNat b).2))) rfl ?_
  refine XL.nil (X.seq ?_)
  refine X.drawG [cellsH b5 [x3, x4] 57, cellsH b4 [x1, x2] 57, cellsH b3 [(.slice none 0 0), (.slice none 0 0)] 31] L 8 [[], [], [], [], [], [], [5], []] [[], [0], [], [2], [3], [1, 4], [5], [5]] [[], [], [], [], [], [], [], []] (phiG [fun FF us v => v = (.agg #[x1, x2] : Value), fun FF us v => (.agg #[((aggAt v 0)), ((aggAt v 1))] : Value) = v ∧ (IntsF FF ((aggAt v 0)) a) ∧ (MovesF FF ((aggAt v 1)) (chainL ((walkGo ar rs 1 n.toNat a).1))) ∧ (FreshsF F3 FF (star [intsH 2 ((aggAt v 0)) a, movesD 2 146 ((aggAt v 1)) (chainL ((walkGo ar rs 1 n.toNat a).1))])), fun FF us v => v = (.agg #[x3, x4] : Value), fun FF us v => (.agg #[((aggAt v 0)), ((aggAt v 1))] : Value) = v ∧ (IntsF FF ((aggAt v 0)) b) ∧ (MovesF FF ((aggAt v 1)) (chainL ((walkGo ar rs 1 n.toNat b).1))) ∧ (FreshsF F3 FF (star [intsH 2 ((aggAt v 0)) b, movesD 2 146 ((aggAt v 1)) (chainL ((walkGo ar rs 1 n.toNat b).1))])), fun FF us v => (.agg #[((aggAt v 0)), ((aggAt v 1))] : Value) = v ∧ (IntsF FF ((aggAt v 0)) (endM b (chainL ((walkGo ar rs 1 n.toNat b).1)))) ∧ (MovesF FF ((aggAt v 1)) (turnL b (chainL ((walkGo ar rs 1 n.toNat b).1)))) ∧ (FreshsF F3 FF (star [intsH 2 ((aggAt v 0)) (endM b (chainL ((walkGo ar rs 1 n.toNat b).1))), movesD 2 146 ((aggAt v 1)) (turnL b (chainL ((walkGo ar rs 1 n.toNat b).1)))])), fun FF us v => (.tuple #[.agg #[((aggAt (tupAt v 0) 0)), ((aggAt (tupAt v 0) 1))], .bool ((joinG a (chainL ((walkGo ar rs 1 n.toNat a).1)) (endM b (chainL ((walkGo ar rs 1 n.toNat b).1))) (turnL b (chainL ((walkGo ar rs 1 n.toNat b).1)))).2.2)] : Value) = v ∧ (IntsF FF ((aggAt (tupAt v 0) 0)) (joinG a (chainL ((walkGo ar rs 1 n.toNat a).1)) (endM b (chainL ((walkGo ar rs 1 n.toNat b).1))) (turnL b (chainL ((walkGo ar rs 1 n.toNat b).1)))).1) ∧ (MovesF FF ((aggAt (tupAt v 0) 1)) (joinG a (chainL ((walkGo ar rs 1 n.toNat a).1)) (endM b (chainL ((walkGo ar rs 1 n.toNat b).1))) (turnL b (chainL ((walkGo ar rs 1 n.toNat b).1)))).2.1) ∧ (FreshsF F3 FF (star [intsH 2 ((aggAt (tupAt v 0) 0)) (joinG a (chainL ((walkGo ar rs 1 n.toNat a).1)) (endM b (chainL ((walkGo ar rs 1 n.toNat b).1))) (turnL b (chainL ((walkGo ar rs 1 n.toNat b).1)))).1, movesD 2 146 ((aggAt (tupAt v 0) 1)) (joinG a (chainL ((walkGo ar rs 1 n.toNat a).1)) (endM b (chainL ((walkGo ar rs 1 n.toNat b).1))) (turnL b (chainL ((walkGo ar rs 1 n.toNat b).1)))).2.1])), fun FF us v => v = (.agg #[((aggAt (tupAt (us.getD 0 undef) 0) 0)), ((aggAt (tupAt (us.getD 0 undef) 0) 1))] : Value), fun FF us v => v = (.bool ((joinG a (chainL ((walkGo ar rs 1 n.toNat a).1)) (endM b (chainL ((walkGo ar rs 1 n.toNat b).1))) (turnL b (chainL ((walkGo ar rs 1 n.toNat b).1)))).2.2) : Value)]) (ownL [fun us v => [], fun us v => [], fun us v => [], fun us v => [], fun us v => [], fun us v => [], fun us v => [], fun us v => []]) mixed rfl rfl (by kernel_rfl) (by kernel_rfl) (MonoG.get (MonoG.cons (fun le h => h) (MonoG.cons (fun le h => ⟨h.1, h.2.1.mono le, h.2.2.1.mono le, h.2.2.2.mono le⟩) (MonoG.cons (fun le h => h) (MonoG.cons (fun le h => ⟨h.1, h.2.1.mono le, h.2.2.1.mono le, h.2.2.2.mono le⟩) (MonoG.cons (fun le h => ⟨h.1, h.2.1.mono le, h.2.2.1.mono le, h.2.2.2.mono le⟩) (MonoG.cons (fun le h => ⟨h.1, h.2.1.mono le, h.2.2.1.mono le, h.2.2.2.mono le⟩) (MonoG.cons (fun le h => h) (MonoG.cons (fun le h => h) MonoG.nil))))))))) ?_ ?_
  ·refine stepsG.cons (fun vals Fs R leFs hpZ => ?_) ?_
   ·replace har := har.mono leFs
    replace hr1 := hr1.mono leFs
    replace hr2 := hr2.mono leFs
    replace hr3 := hr3.mono leFs
    replace hr4 := hr4.mono leFs
    refine XG.op (XOp.loadN [x1, x2] isAgg57 sizeOf57 rfl rfl (Rd.ownN [_] rfl rfl) ?_)
    exact ⟨rfl, rfl⟩
   refine stepsG.cons (fun vals Fs R leFs hpZ => ?_) ?_
   ·replace har := har.mono leFs
    replace hr1 := hr1.mono leFs
    replace hr2 := hr2.mono leFs
    replace hr3 := hr3.mono leFs
    replace hr4 := hr4.mono leFs
    rw [eS (l := [(0, (.agg #[x1, x2] : Value))]) ⟨(hpZ 0 (by decide)), trivial⟩]
    refine XG.op (XOp.call (args := [.agg #[x1, x2]]) call53 rfl (chainOfWalk_spec hr1 hr2 (hlf := (by first | assumption | rfl | omega | simp)) (hlx := (by first | assumption | rfl | omega | simp)) (hxb := (hwb1.2.2))) ?_)
    rintro _ F8 _ le8 ⟨x13, x14, rfl, hr18, hr19, hr20, rfl⟩
    replace har := har.mono le8
    replace hr3 := hr3.mono le8
    replace hr4 := hr4.mono le8
    exact ⟨⟨rfl, hr18, hr19, (hr20.base leFs)⟩, rfl⟩
   refine stepsG.cons (fun vals Fs R leFs hpZ => ?_) ?_
   ·replace har := har.mono leFs
    replace hr3 := hr3.mono leFs
    replace hr4 := hr4.mono leFs
    refine XG.op (XOp.loadN [x3, x4] isAgg57 sizeOf57 rfl rfl (Rd.ownN [] rfl rfl) ?_)
    exact ⟨rfl, rfl⟩
   refine stepsG.cons (fun vals Fs R leFs hpZ => ?_) ?_
   ·replace har := har.mono leFs
    replace hr3 := hr3.mono leFs
    replace hr4 := hr4.mono leFs
    rw [eS (l := [(2, (.agg #[x3, x4] : Value))]) ⟨(hpZ 2 (by decide)), trivial⟩]
    refine XG.op (XOp.call (args := [.agg #[x3, x4]]) call53 rfl (chainOfWalk_spec hr3 hr4 (hlf := (by first | assumption | rfl | omega | simp)) (hlx := (by first | assumption | rfl | omega | simp)) (hxb := (hwb2.2.2))) ?_)
    rintro _ F9 _ le9 ⟨x15, x16, rfl, hr21, hr22, hr23, rfl⟩
    exact ⟨⟨rfl, hr21, hr22, (hr23.base leFs)⟩, rfl⟩
   refine stepsG.cons (fun vals Fs R leFs hpZ => ?_) ?_
   ·obtain ⟨e3, f3_1hr1, f3_1hr2, f3_1hz⟩ := hpZ 3 (by decide)
    rw [eS (l := [(3, (.agg #[((aggAt (vals 3) 0)), ((aggAt (vals 3) 1))] : Value))]) ⟨(e3).symm, trivial⟩]
    refine XG.op (XOp.call (args := [.agg #[((aggAt (vals 3) 0)), ((aggAt (vals 3) 1))]]) call54 rfl (turned_spec f3_1hr1 f3_1hr2 (hlf := (hwc2)) (hln := (by omega)) (hnb := (hcb2))) ?_)
    rintro _ F10 _ le10 ⟨x17, x18, rfl, hr24, hr25, hr26, rfl⟩
    replace f3_1hr1 := f3_1hr1.mono le10
    replace f3_1hr2 := f3_1hr2.mono le10
    replace f3_1hz := f3_1hz.mono le10
    exact ⟨⟨rfl, hr24, hr25, (hr26.base leFs)⟩, rfl⟩
   refine stepsG.cons (fun vals Fs R leFs hpZ => ?_) ?_
   ·obtain ⟨e1, f1_1hr1, f1_1hr2, f1_1hz⟩ := hpZ 1 (by decide)
    obtain ⟨e4, f4_1hr1, f4_1hr2, f4_1hz⟩ := hpZ 4 (by decide)
    rw [eS (l := [(1, (.agg #[((aggAt (vals 1) 0)), ((aggAt (vals 1) 1))] : Value)), (4, (.agg #[((aggAt (vals 4) 0)), ((aggAt (vals 4) 1))] : Value))]) ⟨(e1).symm, (e4).symm, trivial⟩]
    refine XG.op (XOp.call (args := [.agg #[((aggAt (vals 1) 0)), ((aggAt (vals 1) 1))], .agg #[((aggAt (vals 4) 0)), ((aggAt (vals 4) 1))]]) call52 rfl (joinChains_spec f1_1hr1 f1_1hr2 f4_1hr1 f4_1hr2 (hlf := (hwc1)) (hln := (by omega)) (hlk := (by omega)) (hnb := (hcb1)) (hkb := (htb9)) (hgl := (hen9))) ?_)
    rintro _ F11 _ le11 ⟨x19, x20, rfl, hr27, hr28, hr29, rfl⟩
    replace f1_1hr1 := f1_1hr1.mono le11
    replace f1_1hr2 := f1_1hr2.mono le11
    replace f1_1hz := f1_1hz.mono le11
    replace f4_1hr1 := f4_1hr1.mono le11
    replace f4_1hr2 := f4_1hr2.mono le11
    replace f4_1hz := f4_1hz.mono le11
    exact ⟨⟨rfl, hr27, hr28, (hr29.base leFs)⟩, rfl⟩
   refine stepsG.cons (fun vals Fs R leFs hpZ => ?_) ?_
   ·obtain ⟨e5, f5_1hr1, f5_1hr2, f5_1hz⟩ := hpZ 5 (by decide)
    rw [eS (l := [(5, (.tuple #[.agg #[((aggAt (tupAt (vals 5) 0) 0)), ((aggAt (tupAt (vals 5) 0) 1))], .bool ((joinG a (chainL ((walkGo ar rs 1 n.toNat a).1)) (endM b (chainL ((walkGo ar rs 1 n.toNat b).1))) (turnL b (chainL ((walkGo ar rs 1 n.toNat b).1)))).2.2)] : Value))]) ⟨(e5).symm, trivial⟩]
    refine XG.op (XOp.extract (.agg #[((aggAt (tupAt (vals 5) 0) 0)), ((aggAt (tupAt (vals 5) 0) 1))]) rfl rfl ?_)
    exact ⟨rfl, rfl⟩
   refine stepsG.cons (fun vals Fs R leFs hpZ => ?_) ?_
   ·obtain ⟨e5, f5_1hr1, f5_1hr2, f5_1hz⟩ := hpZ 5 (by decide)
    rw [eS (l := [(5, (.tuple #[.agg #[((aggAt (tupAt (vals 5) 0) 0)), ((aggAt (tupAt (vals 5) 0) 1))], .bool ((joinG a (chainL ((walkGo ar rs 1 n.toNat a).1)) (endM b (chainL ((walkGo ar rs 1 n.toNat b).1))) (turnL b (chainL ((walkGo ar rs 1 n.toNat b).1)))).2.2)] : Value))]) ⟨(e5).symm, trivial⟩]
    refine XG.op (XOp.extract (.bool ((joinG a (chainL ((walkGo ar rs 1 n.toNat a).1)) (endM b (chainL ((walkGo ar rs 1 n.toNat b).1))) (turnL b (chainL ((walkGo ar rs 1 n.toNat b).1)))).2.2)) rfl rfl ?_)
    exact ⟨rfl, rfl⟩
   exact stepsG.nil
  ·intro vals F12 le12 hphi
   obtain ⟨e1, f1_1hr1, f1_1hr2, f1_1hz⟩ := hphi 1 (by decide)
   obtain ⟨e3, f3_1hr1, f3_1hr2, f3_1hz⟩ := hphi 3 (by decide)
   obtain ⟨e4, f4_1hr1, f4_1hr2, f4_1hz⟩ := hphi 4 (by decide)
   obtain ⟨e5, f5_1hr1, f5_1hr2, f5_1hz⟩ := hphi 5 (by decide)
   have e6 : vals 6 = (.agg #[((aggAt (tupAt (vals 5) 0) 0)), ((aggAt (tupAt (vals 5) 0) 1))] : Value) := hphi 6 (by decide)
   generalize hu1 : ((aggAt (vals 1) 0)) = u1 at e1 f1_1hr1 f1_1hr2 f1_1hz e3 f3_1hr1 f3_1hr2 f3_1hz e4 f4_1hr1 f4_1hr2 f4_1hz e5 f5_1hr1 f5_1hr2 f5_1hz e6
   generalize hu2 : ((aggAt (vals 1) 1)) = u2 at e1 f1_1hr1 f1_1hr2 f1_1hz e3 f3_1hr1 f3_1hr2 f3_1hz e4 f4_1hr1 f4_1hr2 f4_1hz e5 f5_1hr1 f5_1hr2 f5_1hz e6
   generalize hu3 : ((aggAt (vals 3) 0)) = u3 at e1 f1_1hr1 f1_1hr2 f1_1hz e3 f3_1hr1 f3_1hr2 f3_1hz e4 f4_1hr1 f4_1hr2 f4_1hz e5 f5_1hr1 f5_1hr2 f5_1hz e6
   generalize hu4 : ((aggAt (vals 3) 1)) = u4 at e1 f1_1hr1 f1_1hr2 f1_1hz e3 f3_1hr1 f3_1hr2 f3_1hz e4 f4_1hr1 f4_1hr2 f4_1hz e5 f5_1hr1 f5_1hr2 f5_1hz e6
   generalize hu5 : ((aggAt (vals 4) 0)) = u5 at e1 f1_1hr1 f1_1hr2 f1_1hz e3 f3_1hr1 f3_1hr2 f3_1hz e4 f4_1hr1 f4_1hr2 f4_1hz e5 f5_1hr1 f5_1hr2 f5_1hz e6
   generalize hu6 : ((aggAt (vals 4) 1)) = u6 at e1 f1_1hr1 f1_1hr2 f1_1hz e3 f3_1hr1 f3_1hr2 f3_1hz e4 f4_1hr1 f4_1hr2 f4_1hz e5 f5_1hr1 f5_1hr2 f5_1hz e6
   generalize hu7 : ((aggAt (tupAt (vals 5) 0) 0)) = u7 at e1 f1_1hr1 f1_1hr2 f1_1hz e3 f3_1hr1 f3_1hr2 f3_1hz e4 f4_1hr1 f4_1hr2 f4_1hz e5 f5_1hr1 f5_1hr2 f5_1hz e6
   generalize hu8 : ((aggAt (tupAt (vals 5) 0) 1)) = u8 at e1 f1_1hr1 f1_1hr2 f1_1hz e3 f3_1hr1 f3_1hr2 f3_1hz e4 f4_1hr1 f4_1hr2 f4_1hz e5 f5_1hr1 f5_1hr2 f5_1hz e6
   rw [eS (l := [(5, (.tuple #[.agg #[u7, u8], .bool ((joinG a (chainL ((walkGo ar rs 1 n.toNat a).1)) (endM b (chainL ((walkGo ar rs 1 n.toNat b).1))) (turnL b (chainL ((walkGo ar rs 1 n.toNat b).1)))).2.2)] : Value)), (6, (.agg #[u7, u8] : Value)), (7, (.bool ((joinG a (chainL ((walkGo ar rs 1 n.toNat a).1)) (endM b (chainL ((walkGo ar rs 1 n.toNat b).1))) (turnL b (chainL ((walkGo ar rs 1 n.toNat b).1)))).2.2) : Value))]) ⟨(e5).symm, e6, (hphi 7 (by decide)), trivial⟩]
   show XL _ _ _ _ _ _ _ (cellsH b5 [x3, x4] 57 :: cellsH b4 [x1, x2] 57 :: cellsH b3 [(.slice none 0 0), (.slice none 0 0)] 31 :: L)
   refine cX (XOp.storeN (vs := [u7, u8]) [_, _] _ [u7, u8] sizeOf31 rfl rfl rfl (ones_cons (one_sl (IntsF.isSl f5_1hr1)) (ones_cons (one_sl (MovesF.isSl f5_1hr2)) ones_nil)) rfl rfl rfl ?_)
   refine XL.as (.bool ((joinG a (chainL ((walkGo ar rs 1 n.toNat a).1)) (endM b (chainL ((walkGo ar rs 1 n.toNat b).1))) (turnL b (chainL ((walkGo ar rs 1 n.toNat b).1)))).2.2)) rfl ?_
   refine XL.nil ?_
   refine X.ret (retEnd (L' := L) [.agg #[u7, u8], .bool ((joinG a (chainL ((walkGo ar rs 1 n.toNat a).1)) (endM b (chainL ((walkGo ar rs 1 n.toNat b).1))) (turnL b (chainL ((walkGo ar rs 1 n.toNat b).1)))).2.2)] (.tuple #[.agg #[u7, u8], .bool ((joinG a (chainL ((walkGo ar rs 1 n.toNat a).1)) (endM b (chainL ((walkGo ar rs 1 n.toNat b).1))) (turnL b (chainL ((walkGo ar rs 1 n.toNat b).1)))).2.2)]) (.cell rfl (loadNV [u7, u8] isAgg31 sizeOf31 rfl (Rd.ownN [_, _] rfl rfl)) (.tmp rfl .nil)) rfl (FLe.trans (FLe.trans (FLe.trans le1 le2) le3) le12) rF (Sub.drop (Sub.drop (Sub.drop sR))) ?_)
   have e := (shownF_yes q0).trans (joinG_chain hw1 hw2).symm
   rw [e]
   exact ⟨_, _, rfl, f5_1hr1, f5_1hr2, (f5_1hz.base (FLe.trans (FLe.trans le1 le2) le3)), rfl⟩

/- spec.ShownBy -/
theorem sShownBy_spec {F : FH} {L : List HP} {arv : Value} {ar : List Int} (har : IntsF F arv ar) {rsv : Value} {rs : List (List Int × List Int)} (hrs : PairsF F rsv rs) {av : Value} {a : List Int} (ha : IntsF F av a) {bv : Value} {b : List Int} (hb : IntsF F bv b) {n : Int} (hla : ar.length ≤ 4000000) (hlr : rs.length ≤ 4000000) (hrb : ∀ i, i < rs.length → (rs.getD i ([], [])).1.length ≤ 4000000 ∧ (rs.getD i ([], [])).2.length ≤ 4000000) (hlta : a.length ≤ 4000000) (hltb : b.length ≤ 4000000) :
    Does prog 9 [.agg #[arv, rsv], av, bv, .int .i64 (n)] F (L) (fun v F' L' => ∃ (a1 : Value), ∃ (b1 : Value), (.tuple #[.agg #[a1, b1], .bool ((shownF ar rs a b n).2.2)] : Value) = v ∧ (IntsF F' a1 (shownF ar rs a b n).1) ∧ (MovesF F' b1 (shownF ar rs a b n).2.1) ∧ L = L') := by
 refine Does.of_X func9 rfl rfl rfl ?_
 refine X.seq (X.region ?_)
 refine cX (XOp.box [arv, rsv] rfl rfl ?_)
 intro b1
 refine cX (XOp.alloc [(.slice none 0 0), (.slice none 0 0)] zeroValue31 rfl ?_)
 intro b2
 refine XL.as (.bool (false)) rfl ?_
 refine XL.nil (X.seq (X.seq (X.region ?_)))
 refine cX (XOp.loadN [arv, rsv] isAgg37 sizeOf37 rfl rfl (Rd.ownN [_] rfl rfl) ?_)
 refine XL.mv (av) rfl ?_
 refine XL.mv (bv) rfl ?_
 refine XL.mv (.int .i64 (n)) rfl ?_
 refine cX (XOp.call (args := [.agg #[arv, rsv], av, bv, .int .i64 (n)]) call43 rfl (sEqualBy_spec (n := n) har hrs ha hb (hla := (by first | assumption | rfl | omega | simp)) (hlr := (by first | assumption | rfl | omega | simp)) (hrb := (by first | assumption | rfl | omega | simp)) (hlta := (by first | assumption | rfl | omega | simp)) (hltb := (by first | assumption | rfl | omega | simp))) ?_)
 rintro _ _ _ _ ⟨rfl, rfl, rfl⟩
 refine cX (XOp.neq (a := eqB ar rs a b n) (b := 1) rfl rfl ?_)
 refine XL.nil ?_
 refine X.condD (p := (eqB ar rs a b n : Int) ≠ 1) rfl (fun h1 => ?_) (fun h1 => ?_)
 ·have q0 : eqB ar rs a b n ≠ 1 := h1
  refine X.seq (X.region ?_)
  refine cX (XOp.build [(.slice none 0 0), (.slice none 0 0)] [(.slice none 0 0), (.slice none 0 0)] [(0, 1), (1, 1)] [] runUnderlying31 zeroValue31 rfl (.cons rfl sizeOf22 (.cons rfl sizeOf29 PlacesAre.nil)) rfl CellsAre.nil ?_)
  refine cX (XOp.storeN (vs := [(.slice none 0 0), (.slice none 0 0)]) [] _ [(.slice none 0 0), (.slice none 0 0)] sizeOf31 rfl rfl rfl (ones_cons rfl (ones_cons rfl ones_nil)) rfl rfl rfl ?_)
  refine XL.as (.bool (false)) rfl ?_
  refine XL.nil ?_
  refine X.ret (thenQ_ret (retEnd (L' := L) [.agg #[(.slice none 0 0), (.slice none 0 0)], .bool (false)] (.tuple #[.agg #[(.slice none 0 0), (.slice none 0 0)], .bool (false)]) (.cell rfl (loadNV [(.slice none 0 0), (.slice none 0 0)] isAgg31 sizeOf31 rfl (Rd.ownN [] rfl rfl)) (.tmp rfl .nil)) rfl rF rF (Sub.drop (Sub.drop sR)) ?_))
  have e : shownF ar rs a b n = ([], [], false) := shownF_no q0
  exact ⟨_, _, by rw [e], by rw [e]; exact IntsF.nilV, by rw [e]; exact SlOf.nilV, rfl⟩
 ·have q0 : eqB ar rs a b n = 1 := Classical.not_not.1 h1
  have q4 := eqB_one q0
  have hsys := (right_iff.1 q4.1.1).1
  have hoa := (right_iff.1 q4.1.1).2
  have hob := (right_iff.1 q4.1.2).2
  have hn0 := q4.2.1
  have hw1 := walkGo_right q4.1.1 hn0
  have hw2 := walkGo_right q4.1.2 hn0
  have hwb1 := walkOk_bound hw1
  have hwc1 := hwb1.1
  have hwd1 := hwb1.2.1
  have hcl1 : (chainL (walkGo ar rs 1 n.toNat a).1).length = (walkGo ar rs 1 n.toNat a).1.length := chainL_len
  have hcb1 := mem_getD_le (chain_mem hwb1.2.2)
  have hwb2 := walkOk_bound hw2
  have hwc2 := hwb2.1
  have hwd2 := hwb2.2.1
  have hcl2 : (chainL (walkGo ar rs 1 n.toNat b).1).length = (walkGo ar rs 1 n.toNat b).1.length := chainL_len
  have hcb2 := mem_getD_le (chain_mem hwb2.2.2)
  have htl9 : (turnL b (chainL (walkGo ar rs 1 n.toNat b).1)).length = (chainL (walkGo ar rs 1 n.toNat b).1).length := turnL_len
  have htb9 := mem_getD_le (turn_mem hwb2.1 (chain_mem hwb2.2.2))
  have hen9 : (endM b (chainL (walkGo ar rs 1 n.toNat b).1)).length ≤ 60 := by unfold endM; split <;> first | exact hwb2.1 | exact hcb2 _ (by omega)
  have hB1 : walkB ar rs a 1 n = (a, walkGo ar rs 1 n.toNat a) := walkB_yes (by simp [wOk, q4.1.1, hn0])
  have hB2 : walkB ar rs b 1 n = (b, walkGo ar rs 1 n.toNat b) := walkB_yes (by simp [wOk, q4.1.2, hn0])
  refine X.skip (X.seq (X.region ?_))
  refine cX (XOp.loadN [arv, rsv] isAgg37 sizeOf37 rfl rfl (Rd.ownN [_] rfl rfl) ?_)
  refine XL.mv (av) rfl ?_
  refine XL.mv (.int .i64 (n)) rfl ?_
  refine cX (XOp.call (args := [.agg #[arv, rsv], av, .int .i64 (1), .int .i64 (n)]) call44 rfl (sWalkBy_spec (st := 1) (n := n) har hrs ha (hla := (by first | assumption | rfl | omega | simp)) (hlr := (by first | assumption | rfl | omega | simp)) (hrb := (by first | assumption | rfl | omega | simp)) (hlt := (by first | assumption | rfl | omega | simp))) ?_)
  rintro _ F1 _ le1 ⟨x1, x2, rfl, hr1, hr2, rfl⟩
  replace har := har.mono le1
  replace hrs := hrs.mono le1
  replace hb := hb.mono le1
  refine XL.mv (.tuple #[.agg #[x1, x2], .bool ((walkB ar rs a 1 n).2.2)]) rfl ?_
  refine cX (XOp.extract (.agg #[x1, x2]) rfl rfl ?_)
  refine cX (XOp.extract (.bool ((walkB ar rs a 1 n).2.2)) rfl rfl ?_)
  refine cX (XOp.alloc [(.slice none 0 0), (.slice none 0 0)] zeroValue57 rfl ?_)
  intro b3
  refine cX (XOp.storeN (vs := [x1, x2]) [] _ [x1, x2] sizeOf57 rfl rfl rfl (ones_cons (one_sl (IntsF.isSl hr1)) (ones_cons (one_sl (StepsF.isSl hr2)) ones_nil)) rfl rfl rfl ?_)
  refine XL.as (.bool ((walkB ar rs a 1 n).2.2)) rfl ?_
  refine XL.nil (X.seq (X.region ?_))
  refine cX (XOp.loadN [arv, rsv] isAgg37 sizeOf37 rfl rfl (Rd.ownN [_, _] rfl rfl) ?_)
  refine XL.mv (bv) rfl ?_
  refine XL.mv (.int .i64 (n)) rfl ?_
  refine cX (XOp.call (args := [.agg #[arv, rsv], bv, .int .i64 (1), .int .i64 (n)]) call44 rfl (sWalkBy_spec (st := 1) (n := n) har hrs hb (hla := (by first | assumption | rfl | omega | simp)) (hlr := (by first | assumption | rfl | omega | simp)) (hrb := (by first | assumption | rfl | omega | simp)) (hlt := (by first | assumption | rfl | omega | simp))) ?_)
  rintro _ F2 _ le2 ⟨x3, x4, rfl, hr3, hr4, rfl⟩
  replace har := har.mono le2
  replace hrs := hrs.mono le2
  replace hr1 := hr1.mono le2
  replace hr2 := hr2.mono le2
  refine XL.mv (.tuple #[.agg #[x3, x4], .bool ((walkB ar rs b 1 n).2.2)]) rfl ?_
  refine cX (XOp.extract (.agg #[x3, x4]) rfl rfl ?_)
  refine cX (XOp.extract (.bool ((walkB ar rs b 1 n).2.2)) rfl rfl ?_)
  refine cX (XOp.alloc [(.slice none 0 0), (.slice none 0 0)] zeroValue57 rfl ?_)
  intro b4
  refine cX (XOp.storeN (vs := [x3, x4]) [] _ [x3, x4] sizeOf57 rfl rfl rfl (ones_cons (one_sl (IntsF.isSl hr3)) (ones_cons (one_sl (StepsF.isSl hr4)) ones_nil)) rfl rfl rfl ?_)
  refine XL.as (.bool ((walkB ar rs b 1 n).2.2)) rfl ?_
  refine XL.nil (X.seq (X.region ?_))
  refine cX (XOp.loadN [arv, rsv] isAgg37 sizeOf37 rfl rfl (Rd.ownN [_, _, _] rfl rfl) ?_)
  refine cX (XOp.loadN [x1, x2] isAgg57 sizeOf57 rfl rfl (Rd.ownN [_] rfl rfl) ?_)
  refine cX (XOp.loadN [x3, x4] isAgg57 sizeOf57 rfl rfl (Rd.ownN [] rfl rfl) ?_)
  refine cX (XOp.call (args := [.agg #[arv, rsv], .agg #[x1, x2], .agg #[x3, x4]]) call45 rfl (sChainOfJoin_spec har hrs hr1 hr2 hr3 hr4 (hla := (by first | assumption | rfl | omega | simp)) (hlr := (by first | assumption | rfl | omega | simp)) (hrb := (by first | assumption | rfl | omega | simp)) (hlf := (by rw [hB1]; exact hlta)) (hlss := (by rw [hB1]; exact Nat.le_trans hwd1 (by omega))) (hsb := (by rw [hB1]; exact fun i hi => Nat.le_trans (hwb1.2.2 i hi) (by omega))) (hlg := (by rw [hB2]; exact hltb)) (hlys := (by rw [hB2]; exact Nat.le_trans hwd2 (by omega))) (hyb := (by rw [hB2]; exact fun i hi => Nat.le_trans (hwb2.2.2 i hi) (by omega)))) ?_)
  rintro _ F3 _ le3 ⟨x5, x6, rfl, hr5, hr6, rfl⟩
  refine cX (XOp.extract (.agg #[x5, x6]) rfl rfl ?_)
  refine cX (XOp.extract (.bool ((chainJF ar rs ((walkB ar rs a 1 n).1) ((walkB ar rs a 1 n).2.1) ((walkB ar rs b 1 n).1) ((walkB ar rs b 1 n).2.1)).2.2)) rfl rfl ?_)
  refine cX (XOp.storeN (vs := [x5, x6]) [_, _] _ [x5, x6] sizeOf31 rfl rfl rfl (ones_cons (one_sl (IntsF.isSl hr5)) (ones_cons (one_sl (MovesF.isSl hr6)) ones_nil)) rfl rfl rfl ?_)
  refine XL.as (.bool ((chainJF ar rs ((walkB ar rs a 1 n).1) ((walkB ar rs a 1 n).2.1) ((walkB ar rs b 1 n).1) ((walkB ar rs b 1 n).2.1)).2.2)) rfl ?_
  refine XL.nil ?_
  refine X.ret (retEnd (L' := L) [.agg #[x5, x6], .bool ((chainJF ar rs ((walkB ar rs a 1 n).1) ((walkB ar rs a 1 n).2.1) ((walkB ar rs b 1 n).1) ((walkB ar rs b 1 n).2.1)).2.2)] (.tuple #[.agg #[x5, x6], .bool ((chainJF ar rs ((walkB ar rs a 1 n).1) ((walkB ar rs a 1 n).2.1) ((walkB ar rs b 1 n).1) ((walkB ar rs b 1 n).2.1)).2.2)]) (.cell rfl (loadNV [x5, x6] isAgg31 sizeOf31 rfl (Rd.ownN [_, _] rfl rfl)) (.tmp rfl .nil)) rfl (FLe.trans (FLe.trans le1 le2) le3) rF (Sub.drop (Sub.drop (Sub.drop (Sub.drop sR)))) ?_)
  have e : shownF ar rs a b n = chainJF ar rs (walkB ar rs a 1 n).1 (walkB ar rs a 1 n).2.1 (walkB ar rs b 1 n).1 (walkB ar rs b 1 n).2.1 := by rw [hB1, hB2]; exact shownF_yes q0
  rw [e]
  exact ⟨_, _, rfl, hr5, hr6, rfl⟩

/- laws.eqMove -/
theorem eqMove_spec {F : FH} {L : List HP} {i : Int} {j : Int} {x : Bool} {av : Value} {a : List Int} (ha : IntsF F av a) {p : Int} {q : Int} {y : Bool} {bv : Value} {b : List Int} (hb : IntsF F bv b) (hbd : a.length ≤ 9223372036854775807 ∨ b.length ≤ 9223372036854775807) :
    Does prog 119 [.agg #[.int .i64 (i), .int .i64 (j), .bool (x), av], .agg #[.int .i64 (p), .int .i64 (q), .bool (y), bv]] F (L) (fun v F' L' => (.bool (decide ((i, j, x, a) = (p, q, y, b))) : Value) = v ∧ F = F' ∧ L = L') := by
 refine Does.of_X func119 rfl rfl rfl ?_
 refine X.seq (X.region ?_)
 refine cX (XOp.box [.int .i64 (i), .int .i64 (j), .bool (x), av] rfl rfl ?_)
 intro b1
 refine cX (XOp.box [.int .i64 (p), .int .i64 (q), .bool (y), bv] rfl rfl ?_)
 intro b2
 refine XL.as (.bool (false)) rfl ?_
 refine XL.nil (X.seq (X.seq (X.region ?_)))
 refine cX (XOp.fieldP (b := b1) (0) runUnderlying146 rfl sizeOf2 (by decide) rfl rfl ?_)
 refine cX (XOp.load1 (v := .int .i64 (i)) isAgg2 rfl (Rd.own [_] rfl rfl) ?_)
 refine cX (XOp.fieldP (b := b2) (0) runUnderlying146 rfl sizeOf2 (by decide) rfl rfl ?_)
 refine cX (XOp.load1 (v := .int .i64 (p)) isAgg2 rfl (Rd.own [] rfl rfl) ?_)
 refine cX (XOp.neq (a := i) (b := p) rfl rfl ?_)
 refine XL.nil ?_
 refine X.condD (p := (i : Int) ≠ p) rfl (fun h1 => ?_) (fun h1 => ?_)
 ·refine X.seq (X.region ?_)
  refine XL.as (.bool (false)) rfl ?_
  refine XL.nil ?_
  refine X.ret (thenQ_ret (retEnd (L' := L) [.bool (false)] (.bool (false)) (.tmp rfl .nil) rfl rF rF (Sub.drop (Sub.drop sR)) ?_))
  exact ⟨(vB (decide_eq_false (by intro e; simp_all))), rfl, rfl⟩
 ·refine X.skip (X.seq (X.seq (X.region ?_)))
  refine cX (XOp.fieldP (b := b1) (1) runUnderlying146 rfl sizeOf2 (by decide) rfl rfl ?_)
  refine cX (XOp.load1 (v := .int .i64 (j)) isAgg2 rfl (Rd.own [_] rfl rfl) ?_)
  refine cX (XOp.fieldP (b := b2) (1) runUnderlying146 rfl sizeOf2 (by decide) rfl rfl ?_)
  refine cX (XOp.load1 (v := .int .i64 (q)) isAgg2 rfl (Rd.own [] rfl rfl) ?_)
  refine cX (XOp.neq (a := j) (b := q) rfl rfl ?_)
  refine XL.nil ?_
  refine X.condD (p := (j : Int) ≠ q) rfl (fun h2 => ?_) (fun h2 => ?_)
  ·refine X.seq (X.region ?_)
   refine XL.as (.bool (false)) rfl ?_
   refine XL.nil ?_
   refine X.ret (thenQ_ret (retEnd (L' := L) [.bool (false)] (.bool (false)) (.tmp rfl .nil) rfl rF rF (Sub.drop (Sub.drop sR)) ?_))
   exact ⟨(vB (decide_eq_false (by intro e; simp_all))), rfl, rfl⟩
  ·refine X.skip (X.seq (X.seq (X.region ?_)))
   refine cX (XOp.fieldP (b := b1) (2) runUnderlying146 rfl sizeOf4 (by decide) rfl rfl ?_)
   refine cX (XOp.load1 (v := .bool (x)) isAgg4 rfl (Rd.own [_] rfl rfl) ?_)
   refine cX (XOp.fieldP (b := b2) (2) runUnderlying146 rfl sizeOf4 (by decide) rfl rfl ?_)
   refine cX (XOp.load1 (v := .bool (y)) isAgg4 rfl (Rd.own [] rfl rfl) ?_)
   refine cX (XOp.neB (a := x) (b := y) runUnderlying4 rfl rfl ?_)
   refine XL.nil ?_
   refine X.condD (p := (x) ≠ (y)) rfl (fun h3 => ?_) (fun h3 => ?_)
   ·refine X.seq (X.region ?_)
    refine XL.as (.bool (false)) rfl ?_
    refine XL.nil ?_
    refine X.ret (thenQ_ret (retEnd (L' := L) [.bool (false)] (.bool (false)) (.tmp rfl .nil) rfl rF rF (Sub.drop (Sub.drop sR)) ?_))
    exact ⟨(vB (decide_eq_false (by intro e; simp_all))), rfl, rfl⟩
   ·refine X.skip (X.seq (X.seq (X.region ?_)))
    refine cX (XOp.fieldP (b := b1) (3) runUnderlying146 rfl sizeOf22 (by decide) rfl rfl ?_)
    refine cX (XOp.load1 (v := av) isAgg22 rfl (Rd.own [_] rfl rfl) ?_)
    refine cX (XOp.fieldP (b := b2) (3) runUnderlying146 rfl sizeOf22 (by decide) rfl rfl ?_)
    refine cX (XOp.load1 (v := bv) isAgg22 rfl (Rd.own [] rfl rfl) ?_)
    refine cX (XOp.call (args := [av, bv]) call15 rfl (eqInt64S_spec ha hb (hbd := (by first | assumption | rfl | omega | (left; simp; done) | (right; simp; done)))) ?_)
    rintro _ _ _ _ ⟨rfl, rfl, rfl⟩
    refine cX (XOp.notD (p := a = b) rfl ?_)
    refine XL.nil ?_
    refine X.condD (p := ¬(a = b)) rfl (fun h4 => ?_) (fun h4 => ?_)
    ·refine X.seq (X.region ?_)
     refine XL.as (.bool (false)) rfl ?_
     refine XL.nil ?_
     refine X.ret (thenQ_ret (retEnd (L' := L) [.bool (false)] (.bool (false)) (.tmp rfl .nil) rfl rF rF (Sub.drop (Sub.drop sR)) ?_))
     exact ⟨(vB (decide_eq_false (by intro e; simp_all))), rfl, rfl⟩
    ·refine X.skip (X.seq (X.region ?_))
     refine XL.as (.bool (true)) rfl ?_
     refine XL.nil ?_
     refine X.ret (retEnd (L' := L) [.bool (true)] (.bool (true)) (.tmp rfl .nil) rfl rF rF (Sub.drop (Sub.drop sR)) ?_)
     exact ⟨(vB (decide_eq_true (by simp_all))), rfl, rfl⟩

/- laws.eqMoveS -/
theorem eqMoveS_spec {F : FH} {L : List HP} {av : Value} {a : List MoveT} (ha : MovesF F av a) {bv : Value} {b : List MoveT} (hb : MovesF F bv b) (hal : a.length ≤ 9223372036854775807) (hbd : ∀ i, i < a.length → (a.getD i (0, 0, false, [])).2.2.2.length ≤ 9223372036854775807) :
    Does prog 55 [av, bv] F (L) (fun v F' L' => (.bool (decide (a = b)) : Value) = v ∧ F = F' ∧ L = L') := by
 refine Does.of_X func55 rfl rfl rfl ?_
 refine X.seq (X.region ?_)
 refine XL.as (.bool (false)) rfl ?_
 refine XL.nil (X.seq (X.seq (X.region ?_)))
 refine XL.mv (av) rfl ?_
 refine cX (XOp.lenS (v := av) (n := (a).length) runUnderlying29 rfl ha.slv ?_)
 refine XL.mv (bv) rfl ?_
 refine cX (XOp.lenS (v := bv) (n := (b).length) runUnderlying29 rfl hb.slv ?_)
 refine cX (XOp.neq (a := (a.length : Int)) (b := (b.length : Int)) rfl rfl ?_)
 refine XL.nil ?_
 refine X.condD (p := ((a.length : Int) : Int) ≠ (b.length : Int)) rfl (fun h1 => ?_) (fun h1 => ?_)
 ·refine X.seq (X.region ?_)
  refine XL.as (.bool (false)) rfl ?_
  refine XL.nil ?_
  refine X.ret (thenQ_ret (retEnd (L' := L) [.bool (false)] (.bool (false)) (.tmp rfl .nil) rfl rF rF sR ?_))
  exact ⟨(vB (decide_eq_false (fun e => by rw [e] at h1; omega))), rfl, rfl⟩
 ·refine X.skip (X.seq (X.seq (X.region ?_)))
  refine XL.as (.int .i64 (0)) rfl ?_
  refine XL.nil (X.block ?_)
  refine X.loop (α := Nat) (fun k => [(0, av), (1, bv), (5, .int .i64 ((k : Int)))]) (fun k => L) (fun k F' => F = F' ∧ (k ≤ a.length) ∧ (∀ i, i < k → a.getD i (0, 0, false, []) = b.getD i (0, 0, false, []))) (fun k => a.length - k) 0 ⟨rfl, rfl, rfl, trivial⟩ sR ⟨rfl, (by (try dsimp only) <;> omega), (fun i hi => absurd hi (by omega))⟩ ?_
  rintro k rE _ _ ⟨rfl, hk, hall⟩
  show X _ _ _ _ (envs [(0, av), (1, bv), (5, .int .i64 ((k : Int)))] rE) _ (L)
  have hbk := hbd k
  refine X.seq (X.seq (X.region ?_))
  refine XL.mv (.int .i64 ((k : Int))) rfl ?_
  refine XL.mv (av) rfl ?_
  refine cX (XOp.lenS (v := av) (n := (a).length) runUnderlying29 rfl ha.slv ?_)
  refine cX (XOp.lss (a := (k : Int)) (b := (a.length : Int)) rfl rfl ?_)
  refine XL.nil ?_
  refine X.condD (p := (k : Int) < (a.length : Int)) rfl (fun h2 => ?_) (fun h2 => ?_)
  ·refine X.skip (X.seq (X.block (X.seq ?_)))
   obtain ⟨a1, ha1, hrg1, hq1⟩ := ha.rd (i := k) (by omega)
   obtain ⟨a2, ha2, hrg2, hq2⟩ := hb.rd (i := k) (by omega)
   refine X.draw [] L 8 [[], [], [], [], [], [], [], []] [[], [], [0, 1], [2], [], [], [4, 5], [6]] (phiL [fun us v => v = av, fun us v => v = (.int .i64 ((k : Int)) : Value), fun us v => v = (.pointer (some (elemA av (k * 4))) : Value), fun us v => v = (.agg #[.int .i64 ((a.getD k (0, 0, false, [])).1), .int .i64 ((a.getD k (0, 0, false, [])).2.1), .bool ((a.getD k (0, 0, false, [])).2.2.1), a1] : Value), fun us v => v = bv, fun us v => v = (.int .i64 ((k : Int)) : Value), fun us v => v = (.pointer (some (elemA bv (k * 4))) : Value), fun us v => v = (.agg #[.int .i64 ((b.getD k (0, 0, false, [])).1), .int .i64 ((b.getD k (0, 0, false, [])).2.1), .bool ((b.getD k (0, 0, false, [])).2.2.1), a2] : Value)]) (ownL [fun us v => [], fun us v => [], fun us v => [], fun us v => [], fun us v => [], fun us v => [], fun us v => [], fun us v => []]) mixed rfl rfl (by kernel_rfl) ?_ ?_
   ·refine stepsP.cons (fun vals R hpZ => ?_) ?_
    ·refine XG.op (XOp.move (av) rfl ?_)
     exact ⟨rfl, rfl, rfl⟩
    refine stepsP.cons (fun vals R hpZ => ?_) ?_
    ·refine XG.op (XOp.move (.int .i64 ((k : Int))) rfl ?_)
     exact ⟨rfl, rfl, rfl⟩
    refine stepsP.cons (fun vals R hpZ => ?_) ?_
    ·rw [eS (l := [(0, av), (1, (.int .i64 ((k : Int)) : Value))]) ⟨hpZ 0 (by decide), hpZ 1 (by decide), trivial⟩]
     refine XG.op (XOp.indexS (v := av) (i := (k : Int)) (n := (a).length) k runUnderlying29 sizeOf146 rfl rfl rfl ha.slv (by omega) rfl ?_)
     exact ⟨rfl, rfl, rfl⟩
    refine stepsP.cons (fun vals R hpZ => ?_) ?_
    ·rw [eS (l := [(2, (.pointer (some (elemA av (k * 4))) : Value))]) ⟨hpZ 2 (by decide), trivial⟩]
     refine XG.op (XOp.loadN [.int .i64 ((a.getD k (0, 0, false, [])).1), .int .i64 ((a.getD k (0, 0, false, [])).2.1), .bool ((a.getD k (0, 0, false, [])).2.2.1), a1] isAgg146 sizeOf146 rfl rfl (Rd.all (hrg1 _)) ?_)
     exact ⟨rfl, rfl, rfl⟩
    refine stepsP.cons (fun vals R hpZ => ?_) ?_
    ·refine XG.op (XOp.move (bv) rfl ?_)
     exact ⟨rfl, rfl, rfl⟩
    refine stepsP.cons (fun vals R hpZ => ?_) ?_
    ·refine XG.op (XOp.move (.int .i64 ((k : Int))) rfl ?_)
     exact ⟨rfl, rfl, rfl⟩
    refine stepsP.cons (fun vals R hpZ => ?_) ?_
    ·rw [eS (l := [(4, bv), (5, (.int .i64 ((k : Int)) : Value))]) ⟨hpZ 4 (by decide), hpZ 5 (by decide), trivial⟩]
     refine XG.op (XOp.indexS (v := bv) (i := (k : Int)) (n := (b).length) k runUnderlying29 sizeOf146 rfl rfl rfl hb.slv (by omega) rfl ?_)
     exact ⟨rfl, rfl, rfl⟩
    refine stepsP.cons (fun vals R hpZ => ?_) ?_
    ·rw [eS (l := [(6, (.pointer (some (elemA bv (k * 4))) : Value))]) ⟨hpZ 6 (by decide), trivial⟩]
     refine XG.op (XOp.loadN [.int .i64 ((b.getD k (0, 0, false, [])).1), .int .i64 ((b.getD k (0, 0, false, [])).2.1), .bool ((b.getD k (0, 0, false, [])).2.2.1), a2] isAgg146 sizeOf146 rfl rfl (Rd.all (hrg2 _)) ?_)
     exact ⟨rfl, rfl, rfl⟩
    exact stepsP.nil
   ·intro vals hphi
    rw [eS (l := [(3, (.agg #[.int .i64 ((a.getD k (0, 0, false, [])).1), .int .i64 ((a.getD k (0, 0, false, [])).2.1), .bool ((a.getD k (0, 0, false, [])).2.2.1), a1] : Value)), (7, (.agg #[.int .i64 ((b.getD k (0, 0, false, [])).1), .int .i64 ((b.getD k (0, 0, false, [])).2.1), .bool ((b.getD k (0, 0, false, [])).2.2.1), a2] : Value))]) ⟨(hphi 3 (by decide)), (hphi 7 (by decide)), trivial⟩]
    show XL _ _ _ _ _ _ _ (L)
    refine cX (XOp.call (args := [.agg #[.int .i64 ((a.getD k (0, 0, false, [])).1), .int .i64 ((a.getD k (0, 0, false, [])).2.1), .bool ((a.getD k (0, 0, false, [])).2.2.1), a1], .agg #[.int .i64 ((b.getD k (0, 0, false, [])).1), .int .i64 ((b.getD k (0, 0, false, [])).2.1), .bool ((b.getD k (0, 0, false, [])).2.2.1), a2]]) call119 rfl (eqMove_spec ha1 ha2 (hbd := (.inl (hbk (by omega))))) ?_)
    rintro _ _ _ _ ⟨rfl, rfl, rfl⟩
    refine cX (XOp.notD (p := (((a.getD k (0, 0, false, [])).1), ((a.getD k (0, 0, false, [])).2.1), ((a.getD k (0, 0, false, [])).2.2.1), ((a.getD k (0, 0, false, [])).2.2.2)) = (((b.getD k (0, 0, false, [])).1), ((b.getD k (0, 0, false, [])).2.1), ((b.getD k (0, 0, false, [])).2.2.1), ((b.getD k (0, 0, false, [])).2.2.2))) rfl ?_)
    refine XL.nil ?_
    refine X.condD (p := ¬((((a.getD k (0, 0, false, [])).1), ((a.getD k (0, 0, false, [])).2.1), ((a.getD k (0, 0, false, [])).2.2.1), ((a.getD k (0, 0, false, [])).2.2.2)) = (((b.getD k (0, 0, false, [])).1), ((b.getD k (0, 0, false, [])).2.1), ((b.getD k (0, 0, false, [])).2.2.1), ((b.getD k (0, 0, false, [])).2.2.2)))) rfl (fun h3 => ?_) (fun h3 => ?_)
    ·refine X.seq (X.region ?_)
     refine XL.as (.bool (false)) rfl ?_
     refine XL.nil ?_
     refine X.ret (blockQ_ret (thenQ_ret (thenQ_ret (blockQ_ret (thenQ_ret (retEnd (L' := L) [.bool (false)] (.bool (false)) (.tmp rfl .nil) rfl rF rF sR ?_))))))
     exact ⟨(vB (decide_eq_false (fun e => by subst e; simp at *))), rfl, rfl⟩
    ·refine X.skip (X.region ?_)
     refine XL.mv (.int .i64 ((k : Int))) rfl ?_
     refine cX (XOp.addR (a := (k : Int)) (b := 1) (((k + 1 : Nat) : Int)) rfl rfl (by omega) (by omega) ?_)
     refine XL.as (.int .i64 (((k + 1 : Nat) : Int))) rfl ?_
     refine XL.nil ?_
     exact ⟨k + 1, _, FLe.refl _, rF, ⟨rfl, rfl, rfl, trivial⟩, sR, ⟨rfl, (by (try dsimp only) <;> omega), (fun i hi => (Nat.lt_or_ge i k).elim (fun h => hall i h) (fun h => by obtain rfl : i = k := (by omega); first | assumption | exact Classical.not_not.1 (by assumption)))⟩, (by omega)⟩
  ·refine X.exit (thenQ_exit (thenQ_exit (blockQ_exit ?_)))
   refine X.seq (X.region ?_)
   refine XL.as (.bool (true)) rfl ?_
   refine XL.nil ?_
   refine X.ret (retEnd (L' := L) [.bool (true)] (.bool (true)) (.tmp rfl .nil) rfl rF rF sR ?_)
   exact ⟨(vB (decide_eq_true (ext_any ((0 : Int), (0 : Int), false, ([] : List Int)) (by omega) (fun i hi => hall i (by omega))))), rfl, rfl⟩

/- laws.eqChain -/
theorem eqChain_spec {F : FH} {L : List HP} {fv : Value} {f : List Int} (hf : IntsF F fv f) {av : Value} {a : List MoveT} (ha : MovesF F av a) {gv : Value} {g : List Int} (hg : IntsF F gv g) {bv : Value} {b : List MoveT} (hb : MovesF F bv b) (hfl : f.length ≤ 9223372036854775807) (hal : a.length ≤ 9223372036854775807) (hbd : ∀ i, i < a.length → (a.getD i (0, 0, false, [])).2.2.2.length ≤ 9223372036854775807) :
    Does prog 13 [.agg #[fv, av], .agg #[gv, bv]] F (L) (fun v F' L' => (.bool (decide (f = g ∧ a = b)) : Value) = v ∧ F = F' ∧ L = L') := by
 refine Does.of_X func13 rfl rfl rfl ?_
 refine X.seq (X.region ?_)
 refine cX (XOp.box [fv, av] rfl rfl ?_)
 intro b1
 refine cX (XOp.box [gv, bv] rfl rfl ?_)
 intro b2
 refine XL.as (.bool (false)) rfl ?_
 refine XL.nil (X.seq (X.seq (X.region ?_)))
 refine cX (XOp.fieldP (b := b1) (0) runUnderlying31 rfl sizeOf22 (by decide) rfl rfl ?_)
 refine cX (XOp.load1 (v := fv) isAgg22 rfl (Rd.own [_] rfl rfl) ?_)
 refine cX (XOp.fieldP (b := b2) (0) runUnderlying31 rfl sizeOf22 (by decide) rfl rfl ?_)
 refine cX (XOp.load1 (v := gv) isAgg22 rfl (Rd.own [] rfl rfl) ?_)
 refine cX (XOp.call (args := [fv, gv]) call15 rfl (eqInt64S_spec hf hg (hbd := (.inl hfl))) ?_)
 rintro _ _ _ _ ⟨rfl, rfl, rfl⟩
 refine cX (XOp.notD (p := f = g) rfl ?_)
 refine XL.nil ?_
 refine X.condD (p := ¬(f = g)) rfl (fun h1 => ?_) (fun h1 => ?_)
 ·refine X.seq (X.region ?_)
  refine XL.as (.bool (false)) rfl ?_
  refine XL.nil ?_
  refine X.ret (thenQ_ret (retEnd (L' := L) [.bool (false)] (.bool (false)) (.tmp rfl .nil) rfl rF rF (Sub.drop (Sub.drop sR)) ?_))
  exact ⟨(vB (decide_eq_false (by intro e; simp_all))), rfl, rfl⟩
 ·refine X.skip (X.seq (X.seq (X.region ?_)))
  refine cX (XOp.fieldP (b := b1) (1) runUnderlying31 rfl sizeOf29 (by decide) rfl rfl ?_)
  refine cX (XOp.load1 (v := av) isAgg29 rfl (Rd.own [_] rfl rfl) ?_)
  refine cX (XOp.fieldP (b := b2) (1) runUnderlying31 rfl sizeOf29 (by decide) rfl rfl ?_)
  refine cX (XOp.load1 (v := bv) isAgg29 rfl (Rd.own [] rfl rfl) ?_)
  refine cX (XOp.call (args := [av, bv]) call55 rfl (eqMoveS_spec ha hb (hal := (by first | assumption | rfl | omega | simp)) (hbd := (by first | assumption | rfl | omega | simp))) ?_)
  rintro _ _ _ _ ⟨rfl, rfl, rfl⟩
  refine cX (XOp.notD (p := a = b) rfl ?_)
  refine XL.nil ?_
  refine X.condD (p := ¬(a = b)) rfl (fun h2 => ?_) (fun h2 => ?_)
  ·refine X.seq (X.region ?_)
   refine XL.as (.bool (false)) rfl ?_
   refine XL.nil ?_
   refine X.ret (thenQ_ret (retEnd (L' := L) [.bool (false)] (.bool (false)) (.tmp rfl .nil) rfl rF rF (Sub.drop (Sub.drop sR)) ?_))
   exact ⟨(vB (decide_eq_false (by intro e; simp_all))), rfl, rfl⟩
  ·refine X.skip (X.seq (X.region ?_))
   refine XL.as (.bool (true)) rfl ?_
   refine XL.nil ?_
   refine X.ret (retEnd (L' := L) [.bool (true)] (.bool (true)) (.tmp rfl .nil) rfl rF rF (Sub.drop (Sub.drop sR)) ?_)
   exact ⟨(vB (decide_eq_true (by simp_all))), rfl, rfl⟩

/- laws.markMoveS -/
theorem markMoveS_spec {F : FH} {L : List HP} {xv : Value} {x : List MoveT} {z : Int} (hz : 0 ≤ z ∧ z + (((x.flatMap flatMove)).length : Int) ≤ 9000000000) (hnx : x.length ≤ 4000000) :
    Does prog 60 [xv, .int .i64 (z)] F (movesD 2 146 xv x :: L) (fun v F' L' => ∃ x' : List MoveT, ((x'.flatMap flatMove)) = iota z ((x.flatMap flatMove)).length ∧ x'.length = x.length ∧ (.int .i64 (z + (((x.flatMap flatMove)).length : Int)) : Value) = v ∧ F = F' ∧ movesD 2 146 xv x' :: L = L') := by
 refine Does.of_X func60 rfl rfl rfl ?_
 refine X.openDeep (fun cs Ls hd => ?_)
 refine X.weaken (Sub.front (A := [_])) ?_
 show X _ _ _ _ _ _ (star Ls :: slH 146 4 xv x.length cs :: L)
 refine X.seq (X.region ?_)
 refine XL.as (.int .i64 (0)) rfl ?_
 refine XL.nil (X.seq (X.seq (X.region ?_)))
 refine XL.as (.int .i64 (0)) rfl ?_
 refine XL.nil (X.block ?_)
 refine X.loop (α := Nat × List MoveT × List HP × List Value) (fun xQ => [(0, xv), (1, .int .i64 (z + ((((x.take xQ.1).flatMap flatMove).length : Nat) : Int))), (5, .int .i64 (((xQ.1 : Nat) : Int)))]) (fun xQ => star xQ.2.2.1 :: slH 146 4 xv x.length xQ.2.2.2 :: L) (fun xQ F' => F = F' ∧ (DeepL 4 (MoveO 2) xQ.2.2.2 (xQ.2.1 ++ x.drop xQ.1) xQ.2.2.1) ∧ (xQ.1 ≤ x.length) ∧ (xQ.2.1.length = xQ.1) ∧ (xQ.2.1.flatMap flatMove = iota z ((x.take xQ.1).flatMap flatMove).length)) (fun xQ => x.length - xQ.1) (0, [], Ls, cs) ⟨rfl, (show Value.int .i64 z = .int .i64 (z + ((((x.take 0).flatMap flatMove).length : Nat) : Int)) from congrArg (Value.int .i64) (by simp)), rfl, trivial⟩ (Sub.cons (Sub.cons sR)) ⟨rfl, (hd), (by (try dsimp only) <;> omega), (rfl), (rfl)⟩ ?_
 rintro ⟨k, os, Ls, cs⟩ rE _ _ ⟨rfl, hd, hk, hol, hfl⟩
 show X _ _ _ _ (envs [(0, xv), (1, .int .i64 (z + ((((x.take k).flatMap flatMove).length : Nat) : Int))), (5, .int .i64 ((k : Int)))] rE) _ (star Ls :: slH 146 4 xv x.length cs :: L)
 dsimp only at hd hk hol hfl
 have htl := fun (h : k < x.length) => flat_take_le (f := flatMove) (l := x) ((0 : Int), (0 : Int), false, ([] : List Int)) h
 have hlen : (os ++ x.drop k).length = x.length := by rw [List.length_append, List.length_drop]; omega
 refine X.seq (X.seq (X.region ?_))
 refine XL.mv (.int .i64 ((k : Int))) rfl ?_
 refine XL.mv (xv) rfl ?_
 refine cX (XOp.lenS (v := xv) (n := x.length) runUnderlying29 rfl (SlV.own [_] rfl) ?_)
 refine cX (XOp.lss (a := (k : Int)) (b := (x.length : Int)) rfl rfl ?_)
 refine XL.nil ?_
 refine X.condD (p := (k : Int) < (x.length : Int)) rfl (fun h1 => ?_) (fun h1 => ?_)
 ·refine X.skip (X.seq (X.block (X.seq (X.region ?_))))
  have hkx : k < x.length := by omega
  have htl2 := htl hkx
  obtain ⟨A, K, B, es, hLs, hel, hR, hg, hput⟩ := hd.at (d := ((0 : Int), (0 : Int), false, ([] : List Int))) (k := k) (by omega)
  rw [app_getD hol] at hR
  have hself := splice_self hel hg (hd.bound (k := k) (by omega))
  obtain ⟨c, he, hK⟩ := hR
  subst he hK
  have hfp : (flatMove (x.getD k (0, 0, false, []))).length = (x.getD k (0, 0, false, [])).2.2.2.length + 1 + 1 + 1 := rfl
  have hbd := hd.bound (k := k) (by omega)
  subst hLs
  refine XL.weaken (Sub.pull (A := A)) ?_
  show XL _ _ _ _ _ _ _ (intsH 2 c ((x.getD k (0, 0, false, [])).2.2.2) :: star (A ++ B) :: slH 146 4 xv x.length cs :: L)
  skip
  refine XL.mv (xv) rfl ?_
  refine XL.mv (.int .i64 ((k : Int))) rfl ?_
  refine XL.mv (.int .i64 (z + ((((x.take k).flatMap flatMove).length : Nat) : Int))) rfl ?_
  refine cX (XOp.indexS (v := xv) (i := (k : Int)) (n := x.length) k runUnderlying29 sizeOf146 rfl rfl rfl (SlV.own [_, _] rfl) (by omega) rfl ?_)
  refine cX (XOp.fieldE (v := xv) (k * 4) runUnderlying146 rfl sizeOf2 (by decide) rfl rfl ?_)
  refine cX (XOp.storeS (i := k * 4) (cs := cs) [_, _] _ sizeOf2 rfl rfl rfl rfl (by (try simp only [List.length_set]); omega) ?_)
  refine XL.nil (X.seq (X.region ?_))
  refine XL.mv (.int .i64 (z + ((((x.take k).flatMap flatMove).length : Nat) : Int))) rfl ?_
  refine cX (XOp.addR (a := z + ((((x.take k).flatMap flatMove).length : Nat) : Int)) (b := 1) ((z + ((((x.take k).flatMap flatMove).length : Nat) : Int)) + 1) rfl rfl (by omega) (by omega) ?_)
  refine XL.as (.int .i64 ((z + ((((x.take k).flatMap flatMove).length : Nat) : Int)) + 1)) rfl ?_
  refine XL.nil (X.seq (X.region ?_))
  refine XL.mv (xv) rfl ?_
  refine XL.mv (.int .i64 ((k : Int))) rfl ?_
  refine XL.mv (.int .i64 ((z + ((((x.take k).flatMap flatMove).length : Nat) : Int)) + 1)) rfl ?_
  refine cX (XOp.indexS (v := xv) (i := (k : Int)) (n := x.length) k runUnderlying29 sizeOf146 rfl rfl rfl (SlV.own [_, _] rfl) (by omega) rfl ?_)
  refine cX (XOp.fieldE (v := xv) (k * 4 + 1) runUnderlying146 rfl sizeOf2 (by decide) rfl rfl ?_)
  refine cX (XOp.storeS (i := k * 4 + 1) (cs := (cs.set (k * 4) (.int .i64 (z + ((((x.take k).flatMap flatMove).length : Nat) : Int))))) [_, _] _ sizeOf2 rfl rfl rfl rfl (by (try simp only [List.length_set]); omega) ?_)
  refine XL.nil (X.seq (X.region ?_))
  refine XL.mv (.int .i64 ((z + ((((x.take k).flatMap flatMove).length : Nat) : Int)) + 1)) rfl ?_
  refine cX (XOp.addR (a := (z + ((((x.take k).flatMap flatMove).length : Nat) : Int)) + 1) (b := 1) (((z + ((((x.take k).flatMap flatMove).length : Nat) : Int)) + 1) + 1) rfl rfl (by omega) (by omega) ?_)
  refine XL.as (.int .i64 (((z + ((((x.take k).flatMap flatMove).length : Nat) : Int)) + 1) + 1)) rfl ?_
  refine XL.nil (X.seq (X.region ?_))
  refine XL.mv (xv) rfl ?_
  refine XL.mv (.int .i64 ((k : Int))) rfl ?_
  refine XL.mv (.int .i64 (((z + ((((x.take k).flatMap flatMove).length : Nat) : Int)) + 1) + 1)) rfl ?_
  refine cX (XOp.remC (a := ((z + ((((x.take k).flatMap flatMove).length : Nat) : Int)) + 1) + 1) (b := 3) rfl rfl (by omega) (by decide) ?_)
  refine cX (XOp.eql (a := (((z + ((((x.take k).flatMap flatMove).length : Nat) : Int)) + 1) + 1) % 3) (b := 0) rfl rfl ?_)
  refine cX (XOp.indexS (v := xv) (i := (k : Int)) (n := x.length) k runUnderlying29 sizeOf146 rfl rfl rfl (SlV.own [_, _] rfl) (by omega) rfl ?_)
  refine cX (XOp.fieldE (v := xv) (k * 4 + 2) runUnderlying146 rfl sizeOf4 (by decide) rfl rfl ?_)
  refine cX (XOp.storeS (i := k * 4 + 2) (cs := (((cs.set (k * 4) (.int .i64 (z + ((((x.take k).flatMap flatMove).length : Nat) : Int))))).set (k * 4 + 1) (.int .i64 ((z + ((((x.take k).flatMap flatMove).length : Nat) : Int)) + 1)))) [_, _] _ sizeOf4 rfl rfl rfl rfl (by (try simp only [List.length_set]); omega) ?_)
  refine XL.nil (X.seq (X.region ?_))
  refine XL.mv (.int .i64 (((z + ((((x.take k).flatMap flatMove).length : Nat) : Int)) + 1) + 1)) rfl ?_
  refine cX (XOp.addR (a := ((z + ((((x.take k).flatMap flatMove).length : Nat) : Int)) + 1) + 1) (b := 1) ((((z + ((((x.take k).flatMap flatMove).length : Nat) : Int)) + 1) + 1) + 1) rfl rfl (by omega) (by omega) ?_)
  refine XL.as (.int .i64 ((((z + ((((x.take k).flatMap flatMove).length : Nat) : Int)) + 1) + 1) + 1)) rfl ?_
  refine XL.nil (X.region ?_)
  refine XL.mv (xv) rfl ?_
  refine XL.mv (.int .i64 ((k : Int))) rfl ?_
  refine cX (XOp.indexS (v := xv) (i := (k : Int)) (n := x.length) k runUnderlying29 sizeOf146 rfl rfl rfl (SlV.own [_, _] rfl) (by omega) rfl ?_)
  refine cX (XOp.fieldE (v := xv) (k * 4 + 3) runUnderlying146 rfl sizeOf22 (by decide) rfl rfl ?_)
  refine cX (XOp.load1 (v := c) isAgg22 rfl (Rd.sl [_, _] rfl (by rw [List.getElem?_set_ne (by omega), List.getElem?_set_ne (by omega), List.getElem?_set_ne (by omega)]; exact hg 3 _ rfl)) ?_)
  refine XL.mv (.int .i64 ((((z + ((((x.take k).flatMap flatMove).length : Nat) : Int)) + 1) + 1) + 1)) rfl ?_
  refine cX (XOp.call (args := [c, .int .i64 ((((z + ((((x.take k).flatMap flatMove).length : Nat) : Int)) + 1) + 1) + 1)]) call17 rfl (markInt64S_spec (by omega)) ?_)
  rintro _ _ _ _ ⟨m1, hm1, rfl, rfl, rfl⟩
  have hml1 := congrArg List.length hm1
  rw [iota_len] at hml1
  try simp only [List.length_append] at hml1
  refine XL.as (.int .i64 (((((z + ((((x.take k).flatMap flatMove).length : Nat) : Int)) + 1) + 1) + 1) + (((((x.getD k (0, 0, false, [])).2.2.2))).length : Int))) rfl ?_
  refine XL.nil (X.region ?_)
  refine XL.weaken (Sub.cons (Sub.cons (Sub.cons sR))) ?_
  refine XL.weaken (Sub.push (A := A) (K := [intsH 2 c m1]) (B := B)) ?_
  show XL _ _ _ _ _ _ _ (star (A ++ ([intsH 2 c m1] ++ B)) :: slH 146 4 xv x.length ((((((cs.set (k * 4) (.int .i64 (z + ((((x.take k).flatMap flatMove).length : Nat) : Int))))).set (k * 4 + 1) (.int .i64 ((z + ((((x.take k).flatMap flatMove).length : Nat) : Int)) + 1)))).set (k * 4 + 2) (.bool (decide (((((z + ((((x.take k).flatMap flatMove).length : Nat) : Int)) + 1) + 1) % 3 : Int) = 0))))) :: L)
  have hdn := hput [.int .i64 (z + ((((x.take k).flatMap flatMove).length : Nat) : Int)), .int .i64 ((z + ((((x.take k).flatMap flatMove).length : Nat) : Int)) + 1), .bool (decide (((z + ((((x.take k).flatMap flatMove).length : Nat) : Int)) + 1 + 1) % 3 = 0)), c] ((z + ((((x.take k).flatMap flatMove).length : Nat) : Int)), (z + ((((x.take k).flatMap flatMove).length : Nat) : Int)) + 1, decide (((z + ((((x.take k).flatMap flatMove).length : Nat) : Int)) + 1 + 1) % 3 = 0), m1) _ rfl ⟨c, rfl, rfl⟩
  rw [← set_four (hg 0 _ rfl) (hg 1 _ rfl) (hg 2 _ rfl) (hg 3 _ rfl), app_set hol hkx] at hdn
  have hfm : flatMove ((z + ((((x.take k).flatMap flatMove).length : Nat) : Int)), (z + ((((x.take k).flatMap flatMove).length : Nat) : Int)) + 1, decide (((z + ((((x.take k).flatMap flatMove).length : Nat) : Int)) + 1 + 1) % 3 = 0), m1) = (z + ((((x.take k).flatMap flatMove).length : Nat) : Int)) :: ((z + ((((x.take k).flatMap flatMove).length : Nat) : Int)) + 1) :: ((z + ((((x.take k).flatMap flatMove).length : Nat) : Int)) + 1 + 1) :: m1 := by unfold flatMove; dsimp only; rw [if_pos rfl]
  have hfx : flatMove ((z + ((((x.take k).flatMap flatMove).length : Nat) : Int)), (z + ((((x.take k).flatMap flatMove).length : Nat) : Int)) + 1, decide (((z + ((((x.take k).flatMap flatMove).length : Nat) : Int)) + 1 + 1) % 3 = 0), m1) = iota (z + ((((x.take k).flatMap flatMove).length : Nat) : Int)) (flatMove (x.getD k (0, 0, false, []))).length := by rw [hfm, hfp, iota_cons, iota_cons, iota_cons]; congr 3
  have hnext : (z + ((((x.take k).flatMap flatMove).length : Nat) : Int)) + 1 + 1 + 1 + ((x.getD k (0, 0, false, [])).2.2.2.length : Int) = z + ((((x.take (k + 1)).flatMap flatMove).length : Nat) : Int) := by rw [flatMap_take_succ flatMove (0, 0, false, []) hkx, List.length_append, hfp]; omega
  skip
  refine XL.mv (.int .i64 ((k : Int))) rfl ?_
  refine cX (XOp.addR (a := (k : Int)) (b := 1) (((k + 1 : Nat) : Int)) rfl rfl (by omega) (by omega) ?_)
  refine XL.as (.int .i64 (((k + 1 : Nat) : Int))) rfl ?_
  refine XL.nil ?_
  exact ⟨(k + 1, os ++ [((z + ((((x.take k).flatMap flatMove).length : Nat) : Int)), (z + ((((x.take k).flatMap flatMove).length : Nat) : Int)) + 1, decide (((z + ((((x.take k).flatMap flatMove).length : Nat) : Int)) + 1 + 1) % 3 = 0), m1)], A ++ ([intsH 2 c m1] ++ B), (((((cs.set (k * 4) (.int .i64 (z + ((((x.take k).flatMap flatMove).length : Nat) : Int))))).set (k * 4 + 1) (.int .i64 ((z + ((((x.take k).flatMap flatMove).length : Nat) : Int)) + 1)))).set (k * 4 + 2) (.bool (decide (((((z + ((((x.take k).flatMap flatMove).length : Nat) : Int)) + 1) + 1) % 3 : Int) = 0))))), _, FLe.refl _, rF, ⟨rfl, (vI hnext), rfl, trivial⟩, (Sub.cons (Sub.cons sR)), ⟨rfl, (hdn), (by (try dsimp only) <;> omega), (by simp [hol]), (marked (d := ((0 : Int), (0 : Int), false, ([] : List Int))) (by omega) hfl hfx)⟩, (by omega)⟩
 ·refine X.exit (thenQ_exit (thenQ_exit (blockQ_exit ?_)))
  refine X.seq (X.region ?_)
  refine XL.mv (.int .i64 (z + ((((x.take k).flatMap flatMove).length : Nat) : Int))) rfl ?_
  refine XL.as (.int .i64 (z + ((((x.take k).flatMap flatMove).length : Nat) : Int))) rfl ?_
  refine XL.nil ?_
  refine X.ret (retEnd (L' := movesD 2 146 xv os :: L) [.int .i64 (z + ((((x.take k).flatMap flatMove).length : Nat) : Int))] (.int .i64 (z + ((((x.take k).flatMap flatMove).length : Nat) : Int))) (.tmp rfl .nil) rfl rF rF (Sub.trans (Sub.front (A := [_])) (Sub.closeDeep (by rw [app_all (by omega)] at hd; exact hd) (by omega))) ?_)
  rw [app_all (by omega)] at hd
  have hkl : k = x.length := by omega
  exact ⟨os, by rw [hfl, hkl, List.take_length], by omega, by rw [hkl, List.take_length], rfl, rfl⟩

/- laws.markChain -/
theorem markChain_spec {F : FH} {L : List HP} {xv : Value} {x : List Int} {yv : Value} {y : List MoveT} {z : Int} (hz : 0 ≤ z ∧ z + (((x) ++ (y.flatMap flatMove)).length : Int) ≤ 9000000000) (hny : y.length ≤ 4000000) :
    Does prog 18 [.agg #[xv, yv], .int .i64 (z)] F (intsH 2 xv x :: movesD 2 146 yv y :: L) (fun v F' L' => ∃ x' : List Int, ∃ y' : List MoveT, ((x') ++ (y'.flatMap flatMove)) = iota z ((x) ++ (y.flatMap flatMove)).length ∧ y'.length = y.length ∧ (.int .i64 (z + (((x) ++ (y.flatMap flatMove)).length : Int)) : Value) = v ∧ F = F' ∧ intsH 2 xv x' :: movesD 2 146 yv y' :: L = L') := by
 refine Does.of_X func18 rfl rfl rfl ?_
 have hlx : ((x) ++ (y.flatMap flatMove)).length = x.length + (y.flatMap flatMove).length := List.length_append
 refine X.seq (X.region ?_)
 refine cX (XOp.box [xv, yv] rfl rfl ?_)
 intro b1
 refine XL.as (.int .i64 (0)) rfl ?_
 refine XL.nil (X.seq (X.region ?_))
 refine cX (XOp.fieldP (b := b1) (0) runUnderlying31 rfl sizeOf22 (by decide) rfl rfl ?_)
 refine cX (XOp.load1 (v := xv) isAgg22 rfl (Rd.own [] rfl rfl) ?_)
 refine XL.mv (.int .i64 (z)) rfl ?_
 refine XL.weaken (Sub.front (A := [_])) ?_
 show XL _ _ _ _ _ _ _ (intsH 2 xv x :: cellsH b1 [xv, yv] 31 :: movesD 2 146 yv y :: L)
 refine cX (XOp.call (args := [xv, .int .i64 (z)]) call17 rfl (markInt64S_spec (by omega)) ?_)
 rintro _ _ _ _ ⟨m1, hm1, rfl, rfl, rfl⟩
 have hml1 := congrArg List.length hm1
 rw [iota_len] at hml1
 try simp only [List.length_append] at hml1
 refine XL.as (.int .i64 (z + (((x)).length : Int))) rfl ?_
 refine XL.nil (X.seq (X.region ?_))
 refine cX (XOp.fieldP (b := b1) (1) runUnderlying31 rfl sizeOf29 (by decide) rfl rfl ?_)
 refine cX (XOp.load1 (v := yv) isAgg29 rfl (Rd.own [_] rfl rfl) ?_)
 refine XL.mv (.int .i64 (z + (((x)).length : Int))) rfl ?_
 refine XL.weaken (Sub.front (A := [_, _])) ?_
 show XL _ _ _ _ _ _ _ (movesD 2 146 yv y :: intsH 2 xv m1 :: cellsH b1 [xv, yv] 31 :: L)
 refine cX (XOp.call (args := [yv, .int .i64 (z + (((x)).length : Int))]) call60 rfl (markMoveS_spec (by omega) (by omega)) ?_)
 rintro _ _ _ _ ⟨m2, hm2, hk1, rfl, rfl, rfl⟩
 have hml2 := congrArg List.length hm2
 rw [iota_len] at hml2
 try simp only [List.length_append] at hml2
 refine XL.as (.int .i64 ((z + (((x)).length : Int)) + (((y.flatMap flatMove)).length : Int))) rfl ?_
 refine XL.nil (X.seq (X.region ?_))
 refine XL.mv (.int .i64 ((z + (((x)).length : Int)) + (((y.flatMap flatMove)).length : Int))) rfl ?_
 refine XL.as (.int .i64 ((z + (((x)).length : Int)) + (((y.flatMap flatMove)).length : Int))) rfl ?_
 refine XL.nil ?_
 refine X.ret (retEnd (L' := intsH 2 xv m1 :: movesD 2 146 yv m2 :: L) [.int .i64 ((z + (((x)).length : Int)) + (((y.flatMap flatMove)).length : Int))] (.int .i64 ((z + (((x)).length : Int)) + (((y.flatMap flatMove)).length : Int))) (.tmp rfl .nil) rfl rF rF (Sub.trans (Sub.front (A := [_])) (Sub.cons (Sub.cons (Sub.drop sR)))) ?_)
 exact ⟨m1, m2, by rw [List.length_append, iota_add, hm1, hm2], (by assumption), congrArg (Value.int .i64) (by first | rfl | (simp only [List.length_append]; omega)), rfl, rfl⟩

/- laws.heldMoveS -/
theorem heldMoveS_spec {F : FH} {L : List HP} {xv : Value} {x : List MoveT} (hx : MovesF F xv x) {z : Int} (hzb : 0 ≤ z ∧ z + ((x.flatMap flatMove).length : Int) ≤ 9000000000) (hxl : x.length ≤ 4000000) :
    Does prog 62 [xv, .int .i64 (z)] F (L) (fun v F' L' => (.int .i64 (heldF (x.flatMap flatMove) z) : Value) = v ∧ F = F' ∧ L = L') := by
 refine Does.of_X func62 rfl rfl rfl ?_
 refine X.seq (X.region ?_)
 refine XL.as (.int .i64 (0)) rfl ?_
 refine XL.nil (X.seq (X.seq (X.region ?_)))
 refine XL.as (.int .i64 (0)) rfl ?_
 refine XL.nil (X.block ?_)
 refine X.loop (α := Nat) (fun k => [(0, xv), (1, .int .i64 (heldF ((x.take k).flatMap flatMove) z)), (5, .int .i64 ((k : Int)))]) (fun k => L) (fun k F' => F = F' ∧ (k ≤ x.length) ∧ (0 ≤ heldF ((x.take k).flatMap flatMove) z)) (fun k => x.length - k) 0 ⟨rfl, (show Value.int .i64 z = .int .i64 (heldF ((x.take 0).flatMap flatMove) z) from congrArg (Value.int .i64) (by simp [heldF_nil])), rfl, trivial⟩ sR ⟨rfl, (by (try dsimp only) <;> omega), (by simp [heldF_nil]; omega)⟩ ?_
 rintro k rE _ _ ⟨rfl, hk, hnn⟩
 show X _ _ _ _ (envs [(0, xv), (1, .int .i64 (heldF ((x.take k).flatMap flatMove) z)), (5, .int .i64 ((k : Int)))] rE) _ (L)
 have hhp := heldF_pos (a := (x.take k).flatMap flatMove) (k := z) (by omega)
 have htl := fun (h : k < x.length) => flat_take_le (f := flatMove) (l := x) ((0 : Int), (0 : Int), false, ([] : List Int)) h
 have hnx := fun (h : k < x.length) => held_next (f := flatMove) (l := x) (k := k) ((0 : Int), (0 : Int), false, ([] : List Int)) hzb.1 h (by omega)
 have hsx : k < x.length → (flatMove (x.getD k (0, 0, false, []))).length = (x.getD k (0, 0, false, [])).2.2.2.length + 1 + 1 + 1 := fun _ => rfl
 have hun : k < x.length → heldF (flatMove (x.getD k (0, 0, false, []))) (heldF ((x.take k).flatMap flatMove) z) = (if (x.getD k (0, 0, false, [])).1 = heldF ((x.take k).flatMap flatMove) z then (if (x.getD k (0, 0, false, [])).2.1 = heldF ((x.take k).flatMap flatMove) z + 1 then (if (x.getD k (0, 0, false, [])).2.2.1 = decide ((heldF ((x.take k).flatMap flatMove) z + 1 + 1) % 3 = 0) then heldF (x.getD k (0, 0, false, [])).2.2.2 (heldF ((x.take k).flatMap flatMove) z + 1 + 1 + 1) else -1) else -1) else -1) := fun _ => held_move hnn
 refine X.seq (X.seq (X.region ?_))
 refine XL.mv (.int .i64 ((k : Int))) rfl ?_
 refine XL.mv (xv) rfl ?_
 refine cX (XOp.lenS (v := xv) (n := (x).length) runUnderlying29 rfl hx.slv ?_)
 refine cX (XOp.lss (a := (k : Int)) (b := (x.length : Int)) rfl rfl ?_)
 refine XL.nil ?_
 refine X.condD (p := (k : Int) < (x.length : Int)) rfl (fun h1 => ?_) (fun h1 => ?_)
 ·refine X.skip (X.seq (X.block (X.seq (X.seq (X.region ?_)))))
  refine XL.mv (xv) rfl ?_
  refine XL.mv (.int .i64 ((k : Int))) rfl ?_
  refine cX (XOp.indexS (v := xv) (i := (k : Int)) (n := (x).length) k runUnderlying29 sizeOf146 rfl rfl rfl hx.slv (by omega) rfl ?_)
  refine cX (XOp.fieldE (v := xv) (k * 4) runUnderlying146 rfl sizeOf2 (by decide) rfl rfl ?_)
  obtain ⟨a1, ha1, hrg1, hq1⟩ := hx.rd (i := k) (by omega)
  refine cX (XOp.load1 (v := .int .i64 ((x.getD k (0, 0, false, [])).1)) isAgg2 rfl (hrg1 _ 0 _ rfl) ?_)
  refine XL.mv (.int .i64 (heldF ((x.take k).flatMap flatMove) z)) rfl ?_
  refine cX (XOp.neq (a := (x.getD k (0, 0, false, [])).1) (b := heldF ((x.take k).flatMap flatMove) z) rfl rfl ?_)
  refine XL.nil ?_
  refine X.condD (p := ((x.getD k (0, 0, false, [])).1 : Int) ≠ heldF ((x.take k).flatMap flatMove) z) rfl (fun h2 => ?_) (fun h2 => ?_)
  ·refine X.seq (X.region ?_)
   refine XL.as (.int .i64 (-1)) rfl ?_
   refine XL.nil ?_
   refine X.ret (thenQ_ret (blockQ_ret (thenQ_ret (thenQ_ret (blockQ_ret (thenQ_ret (retEnd (L' := L) [.int .i64 (-1)] (.int .i64 (-1)) (.tmp rfl .nil) rfl rF rF sR ?_)))))))
   exact ⟨(vI (by exact held_fail (k := k) ((0 : Int), (0 : Int), false, ([] : List Int)) hzb.1 (by omega) (by rw [hnx (by omega), hun (by omega), if_neg (by assumption)]; omega))), rfl, rfl⟩
  ·refine X.skip (X.seq (X.region ?_))
   refine XL.mv (.int .i64 (heldF ((x.take k).flatMap flatMove) z)) rfl ?_
   refine cX (XOp.addR (a := heldF ((x.take k).flatMap flatMove) z) (b := 1) ((heldF ((x.take k).flatMap flatMove) z) + 1) rfl rfl (by omega) (by omega) ?_)
   refine XL.as (.int .i64 ((heldF ((x.take k).flatMap flatMove) z) + 1)) rfl ?_
   refine XL.nil (X.seq (X.seq (X.region ?_)))
   refine XL.mv (xv) rfl ?_
   refine XL.mv (.int .i64 ((k : Int))) rfl ?_
   refine cX (XOp.indexS (v := xv) (i := (k : Int)) (n := (x).length) k runUnderlying29 sizeOf146 rfl rfl rfl hx.slv (by omega) rfl ?_)
   refine cX (XOp.fieldE (v := xv) (k * 4 + 1) runUnderlying146 rfl sizeOf2 (by decide) rfl rfl ?_)
   refine cX (XOp.load1 (v := .int .i64 ((x.getD k (0, 0, false, [])).2.1)) isAgg2 rfl (hrg1 _ 1 _ rfl) ?_)
   refine XL.mv (.int .i64 ((heldF ((x.take k).flatMap flatMove) z) + 1)) rfl ?_
   refine cX (XOp.neq (a := (x.getD k (0, 0, false, [])).2.1) (b := (heldF ((x.take k).flatMap flatMove) z) + 1) rfl rfl ?_)
   refine XL.nil ?_
   refine X.condD (p := ((x.getD k (0, 0, false, [])).2.1 : Int) ≠ (heldF ((x.take k).flatMap flatMove) z) + 1) rfl (fun h3 => ?_) (fun h3 => ?_)
   ·refine X.seq (X.region ?_)
    refine XL.as (.int .i64 (-1)) rfl ?_
    refine XL.nil ?_
    refine X.ret (thenQ_ret (blockQ_ret (thenQ_ret (thenQ_ret (blockQ_ret (thenQ_ret (retEnd (L' := L) [.int .i64 (-1)] (.int .i64 (-1)) (.tmp rfl .nil) rfl rF rF sR ?_)))))))
    exact ⟨(vI (by exact held_fail (k := k) ((0 : Int), (0 : Int), false, ([] : List Int)) hzb.1 (by omega) (by rw [hnx (by omega), hun (by omega), if_pos (by first | assumption | exact Classical.not_not.1 (by assumption)), if_neg (by assumption)]; omega))), rfl, rfl⟩
   ·refine X.skip (X.seq (X.region ?_))
    refine XL.mv (.int .i64 ((heldF ((x.take k).flatMap flatMove) z) + 1)) rfl ?_
    refine cX (XOp.addR (a := (heldF ((x.take k).flatMap flatMove) z) + 1) (b := 1) (((heldF ((x.take k).flatMap flatMove) z) + 1) + 1) rfl rfl (by omega) (by omega) ?_)
    refine XL.as (.int .i64 (((heldF ((x.take k).flatMap flatMove) z) + 1) + 1)) rfl ?_
    refine XL.nil (X.seq (X.seq (X.region ?_)))
    refine XL.mv (xv) rfl ?_
    refine XL.mv (.int .i64 ((k : Int))) rfl ?_
    refine cX (XOp.indexS (v := xv) (i := (k : Int)) (n := (x).length) k runUnderlying29 sizeOf146 rfl rfl rfl hx.slv (by omega) rfl ?_)
    refine cX (XOp.fieldE (v := xv) (k * 4 + 2) runUnderlying146 rfl sizeOf4 (by decide) rfl rfl ?_)
    refine cX (XOp.load1 (v := .bool ((x.getD k (0, 0, false, [])).2.2.1)) isAgg4 rfl (hrg1 _ 2 _ rfl) ?_)
    refine XL.mv (.int .i64 (((heldF ((x.take k).flatMap flatMove) z) + 1) + 1)) rfl ?_
    refine cX (XOp.remC (a := ((heldF ((x.take k).flatMap flatMove) z) + 1) + 1) (b := 3) rfl rfl (by omega) (by decide) ?_)
    refine cX (XOp.eql (a := (((heldF ((x.take k).flatMap flatMove) z) + 1) + 1) % 3) (b := 0) rfl rfl ?_)
    refine cX (XOp.neB (a := (x.getD k (0, 0, false, [])).2.2.1) (b := decide (((((heldF ((x.take k).flatMap flatMove) z) + 1) + 1) % 3 : Int) = 0)) runUnderlying4 rfl rfl ?_)
    refine XL.nil ?_
    refine X.condD (p := ((x.getD k (0, 0, false, [])).2.2.1) ≠ (decide (((((heldF ((x.take k).flatMap flatMove) z) + 1) + 1) % 3 : Int) = 0))) rfl (fun h4 => ?_) (fun h4 => ?_)
    ·refine X.seq (X.region ?_)
     refine XL.as (.int .i64 (-1)) rfl ?_
     refine XL.nil ?_
     refine X.ret (thenQ_ret (blockQ_ret (thenQ_ret (thenQ_ret (blockQ_ret (thenQ_ret (retEnd (L' := L) [.int .i64 (-1)] (.int .i64 (-1)) (.tmp rfl .nil) rfl rF rF sR ?_)))))))
     exact ⟨(vI (by exact held_fail (k := k) ((0 : Int), (0 : Int), false, ([] : List Int)) hzb.1 (by omega) (by rw [hnx (by omega), hun (by omega), if_pos (by first | assumption | exact Classical.not_not.1 (by assumption)), if_pos (by first | assumption | exact Classical.not_not.1 (by assumption)), if_neg (by assumption)]; omega))), rfl, rfl⟩
    ·refine X.skip (X.seq (X.region ?_))
     refine XL.mv (.int .i64 (((heldF ((x.take k).flatMap flatMove) z) + 1) + 1)) rfl ?_
     refine cX (XOp.addR (a := ((heldF ((x.take k).flatMap flatMove) z) + 1) + 1) (b := 1) ((((heldF ((x.take k).flatMap flatMove) z) + 1) + 1) + 1) rfl rfl (by omega) (by omega) ?_)
     refine XL.as (.int .i64 ((((heldF ((x.take k).flatMap flatMove) z) + 1) + 1) + 1)) rfl ?_
     refine XL.nil (X.seq (X.region ?_))
     refine XL.mv (xv) rfl ?_
     refine XL.mv (.int .i64 ((k : Int))) rfl ?_
     refine cX (XOp.indexS (v := xv) (i := (k : Int)) (n := (x).length) k runUnderlying29 sizeOf146 rfl rfl rfl hx.slv (by omega) rfl ?_)
     refine cX (XOp.fieldE (v := xv) (k * 4 + 3) runUnderlying146 rfl sizeOf22 (by decide) rfl rfl ?_)
     refine cX (XOp.load1 (v := a1) isAgg22 rfl (hrg1 _ 3 _ rfl) ?_)
     refine XL.mv (.int .i64 ((((heldF ((x.take k).flatMap flatMove) z) + 1) + 1) + 1)) rfl ?_
     refine cX (XOp.call (args := [a1, .int .i64 ((((heldF ((x.take k).flatMap flatMove) z) + 1) + 1) + 1)]) call61 rfl (heldInt64S_spec (z := (((heldF ((x.take k).flatMap flatMove) z) + 1) + 1) + 1) ha1 (hzb := (by first | assumption | rfl | omega | simp))) ?_)
     rintro _ _ _ _ ⟨rfl, rfl, rfl⟩
     refine XL.as (.int .i64 (heldF ((x.getD k (0, 0, false, [])).2.2.2) ((((heldF ((x.take k).flatMap flatMove) z) + 1) + 1) + 1))) rfl ?_
     refine XL.nil (X.seq (X.region ?_))
     refine XL.mv (.int .i64 (heldF ((x.getD k (0, 0, false, [])).2.2.2) ((((heldF ((x.take k).flatMap flatMove) z) + 1) + 1) + 1))) rfl ?_
     refine cX (XOp.lss (a := heldF ((x.getD k (0, 0, false, [])).2.2.2) ((((heldF ((x.take k).flatMap flatMove) z) + 1) + 1) + 1)) (b := 0) rfl rfl ?_)
     refine XL.nil ?_
     refine X.condD (p := (heldF ((x.getD k (0, 0, false, [])).2.2.2) ((((heldF ((x.take k).flatMap flatMove) z) + 1) + 1) + 1) : Int) < 0) rfl (fun h5 => ?_) (fun h5 => ?_)
     ·refine X.seq (X.region ?_)
      refine XL.as (.int .i64 (-1)) rfl ?_
      refine XL.nil ?_
      refine X.ret (blockQ_ret (thenQ_ret (thenQ_ret (blockQ_ret (thenQ_ret (retEnd (L' := L) [.int .i64 (-1)] (.int .i64 (-1)) (.tmp rfl .nil) rfl rF rF sR ?_))))))
      exact ⟨(vI (by exact held_fail (k := k) ((0 : Int), (0 : Int), false, ([] : List Int)) hzb.1 (by omega) (by rw [hnx (by omega), hun (by omega), if_pos (by first | assumption | exact Classical.not_not.1 (by assumption)), if_pos (by first | assumption | exact Classical.not_not.1 (by assumption)), if_pos (by first | assumption | exact Classical.not_not.1 (by assumption))]; omega))), rfl, rfl⟩
     ·refine X.skip (X.region ?_)
      refine XL.mv (.int .i64 ((k : Int))) rfl ?_
      refine cX (XOp.addR (a := (k : Int)) (b := 1) (((k + 1 : Nat) : Int)) rfl rfl (by omega) (by omega) ?_)
      refine XL.as (.int .i64 (((k + 1 : Nat) : Int))) rfl ?_
      refine XL.nil ?_
      exact ⟨k + 1, _, FLe.refl _, rF, ⟨rfl, (vI (by rw [hnx (by omega), hun (by omega), if_pos (by first | assumption | exact Classical.not_not.1 (by assumption)), if_pos (by first | assumption | exact Classical.not_not.1 (by assumption)), if_pos (by first | assumption | exact Classical.not_not.1 (by assumption))])), rfl, trivial⟩, sR, ⟨rfl, (by (try dsimp only) <;> omega), (by (try dsimp only); rw [hnx (by omega), hun (by omega), if_pos (by first | assumption | exact Classical.not_not.1 (by assumption)), if_pos (by first | assumption | exact Classical.not_not.1 (by assumption)), if_pos (by first | assumption | exact Classical.not_not.1 (by assumption))]; omega)⟩, (by omega)⟩
 ·refine X.exit (thenQ_exit (thenQ_exit (blockQ_exit ?_)))
  refine X.seq (X.region ?_)
  refine XL.mv (.int .i64 (heldF ((x.take k).flatMap flatMove) z)) rfl ?_
  refine XL.as (.int .i64 (heldF ((x.take k).flatMap flatMove) z)) rfl ?_
  refine XL.nil ?_
  refine X.ret (retEnd (L' := L) [.int .i64 (heldF ((x.take k).flatMap flatMove) z)] (.int .i64 (heldF ((x.take k).flatMap flatMove) z)) (.tmp rfl .nil) rfl rF rF sR ?_)
  exact ⟨(vI (by rw [List.take_of_length_le (by omega)])), rfl, rfl⟩

/- laws.heldChain -/
theorem heldChain_spec {F : FH} {L : List HP} {fv : Value} {f : List Int} (hf : IntsF F fv f) {xv : Value} {x : List MoveT} (hx : MovesF F xv x) {z : Int} (hzb : 0 ≤ z ∧ z + ((f.length + (x.flatMap flatMove).length : Nat) : Int) ≤ 9000000000) (hxl : x.length ≤ 4000000) :
    Does prog 19 [.agg #[fv, xv], .int .i64 (z)] F (L) (fun v F' L' => (.int .i64 (heldF (f ++ x.flatMap flatMove) z) : Value) = v ∧ F = F' ∧ L = L') := by
 refine Does.of_X func19 rfl rfl rfl ?_
 have hh1 := heldF_range (xs := f) hzb.1
 refine X.seq (X.region ?_)
 refine cX (XOp.box [fv, xv] rfl rfl ?_)
 intro b1
 refine XL.as (.int .i64 (0)) rfl ?_
 refine XL.nil (X.seq (X.region ?_))
 refine cX (XOp.fieldP (b := b1) (0) runUnderlying31 rfl sizeOf22 (by decide) rfl rfl ?_)
 refine cX (XOp.load1 (v := fv) isAgg22 rfl (Rd.own [] rfl rfl) ?_)
 refine XL.mv (.int .i64 (z)) rfl ?_
 refine cX (XOp.call (args := [fv, .int .i64 (z)]) call61 rfl (heldInt64S_spec (z := z) hf (hzb := (by first | assumption | rfl | omega | simp))) ?_)
 rintro _ _ _ _ ⟨rfl, rfl, rfl⟩
 refine XL.as (.int .i64 (heldF f z)) rfl ?_
 refine XL.nil (X.seq (X.seq (X.region ?_)))
 refine XL.mv (.int .i64 (heldF f z)) rfl ?_
 refine cX (XOp.lss (a := heldF f z) (b := 0) rfl rfl ?_)
 refine XL.nil ?_
 refine X.condD (p := (heldF f z : Int) < 0) rfl (fun h1 => ?_) (fun h1 => ?_)
 ·refine X.seq (X.region ?_)
  refine XL.as (.int .i64 (-1)) rfl ?_
  refine XL.nil ?_
  refine X.ret (thenQ_ret (retEnd (L' := L) [.int .i64 (-1)] (.int .i64 (-1)) (.tmp rfl .nil) rfl rF rF (Sub.drop sR) ?_))
  exact ⟨(vI (by rw [heldF_append hzb.1, if_pos (by omega)])), rfl, rfl⟩
 ·refine X.skip (X.seq (X.region ?_))
  refine cX (XOp.fieldP (b := b1) (1) runUnderlying31 rfl sizeOf29 (by decide) rfl rfl ?_)
  refine cX (XOp.load1 (v := xv) isAgg29 rfl (Rd.own [] rfl rfl) ?_)
  refine XL.mv (.int .i64 (heldF f z)) rfl ?_
  refine cX (XOp.call (args := [xv, .int .i64 (heldF f z)]) call62 rfl (heldMoveS_spec (z := heldF f z) hx (hzb := (by first | assumption | rfl | omega | simp)) (hxl := (by first | assumption | rfl | omega | simp))) ?_)
  rintro _ _ _ _ ⟨rfl, rfl, rfl⟩
  refine XL.as (.int .i64 (heldF (x.flatMap flatMove) (heldF f z))) rfl ?_
  refine XL.nil (X.seq (X.seq (X.region ?_)))
  refine XL.mv (.int .i64 (heldF (x.flatMap flatMove) (heldF f z))) rfl ?_
  refine cX (XOp.lss (a := heldF (x.flatMap flatMove) (heldF f z)) (b := 0) rfl rfl ?_)
  refine XL.nil ?_
  refine X.condD (p := (heldF (x.flatMap flatMove) (heldF f z) : Int) < 0) rfl (fun h2 => ?_) (fun h2 => ?_)
  ·refine X.seq (X.region ?_)
   refine XL.as (.int .i64 (-1)) rfl ?_
   refine XL.nil ?_
   refine X.ret (thenQ_ret (retEnd (L' := L) [.int .i64 (-1)] (.int .i64 (-1)) (.tmp rfl .nil) rfl rF rF (Sub.drop sR) ?_))
   exact ⟨(vI (by rw [heldF_append hzb.1, if_neg (by omega)]; have := (heldF_range (xs := x.flatMap flatMove) (k := heldF f z) (by omega)).1; omega)), rfl, rfl⟩
  ·refine X.skip (X.seq (X.region ?_))
   refine XL.mv (.int .i64 (heldF (x.flatMap flatMove) (heldF f z))) rfl ?_
   refine XL.as (.int .i64 (heldF (x.flatMap flatMove) (heldF f z))) rfl ?_
   refine XL.nil ?_
   refine X.ret (retEnd (L' := L) [.int .i64 (heldF (x.flatMap flatMove) (heldF f z))] (.int .i64 (heldF (x.flatMap flatMove) (heldF f z))) (.tmp rfl .nil) rfl rF rF (Sub.drop sR) ?_)
   exact ⟨(vI (by rw [heldF_append hzb.1, if_neg (by omega)])), rfl, rfl⟩

/- laws.FnExactShownBy -/
set_option maxRecDepth 20000 in
theorem FnExactShownBy_does {F : FH} {L : List HP} {arv : Value} {ar : List Int} (har : IntsF F arv ar) {rsv : Value} {rs : List (List Int × List Int)} (hrs : PairsF F rsv rs) {av : Value} {a : List Int} (ha : IntsF F av a) {bv : Value} {b : List Int} (hb : IntsF F bv b) {n : Int} (hlar : ar.length ≤ 9223372036854775807) (hlrs : rs.length ≤ 9223372036854775807) (hbrs : ∀ i, i < rs.length → (rs.getD i ([], [])).1.length ≤ 9223372036854775807 ∧ (rs.getD i ([], [])).2.length ≤ 9223372036854775807) (hla : a.length ≤ 9223372036854775807) (hlb : b.length ≤ 9223372036854775807) :
    Does prog 3 [.agg #[arv, rsv], av, bv, .int .i64 (n)] F (L) (fun v F' L' => (.bool (true) : Value) = v ∧ F = F' ∧ L = L') := by
 refine Does.of_X func3 rfl rfl rfl ?_
 have hnb : ChainB (shownF ar rs a b n).1 (shownF ar rs a b n).2.1 := shownF_bound
 have hnc := hnb.1
 have hnd := hnb.2.1
 have hne := hnb.2.2.1
 have hnf := hnb.2.2.2
 refine X.seq (X.region ?_)
 refine cX (XOp.box [arv, rsv] rfl rfl ?_)
 intro b1
 refine XL.as (.bool (false)) rfl ?_
 refine XL.nil (X.seq (X.seq (X.region ?_)))
 refine XL.mv (av) rfl ?_
 refine cX (XOp.lenS (v := av) (n := (a).length) runUnderlying22 rfl ha.slv ?_)
 refine cX (XOp.gtr (a := (a.length : Int)) (b := 1048576) rfl rfl ?_)
 refine XL.nil ?_
 refine X.condD (p := ((a.length : Int) : Int) > 1048576) rfl (fun h1 => ?_) (fun h1 => ?_)
 ·refine X.seq (X.region ?_)
  refine XL.as (.bool (true)) rfl ?_
  refine XL.nil ?_
  refine X.ret (thenQ_ret (retEnd (L' := L) [.bool (true)] (.bool (true)) (.tmp rfl .nil) rfl rF rF (Sub.drop sR) ?_))
  exact ⟨rfl, rfl, rfl⟩
 ·refine X.skip (X.seq (X.seq (X.region ?_)))
  refine XL.mv (bv) rfl ?_
  refine cX (XOp.lenS (v := bv) (n := (b).length) runUnderlying22 rfl hb.slv ?_)
  refine cX (XOp.gtr (a := (b.length : Int)) (b := 1048576) rfl rfl ?_)
  refine XL.nil ?_
  refine X.condD (p := ((b.length : Int) : Int) > 1048576) rfl (fun h2 => ?_) (fun h2 => ?_)
  ·refine X.seq (X.region ?_)
   refine XL.as (.bool (true)) rfl ?_
   refine XL.nil ?_
   refine X.ret (thenQ_ret (retEnd (L' := L) [.bool (true)] (.bool (true)) (.tmp rfl .nil) rfl rF rF (Sub.drop sR) ?_))
   exact ⟨rfl, rfl, rfl⟩
  ·refine X.skip (X.seq (X.region ?_))
   refine XL.as (.int .i64 (1048576)) rfl ?_
   refine XL.nil (X.seq (X.region ?_))
   refine cX (XOp.loadN [arv, rsv] isAgg27 sizeOf27 rfl rfl (Rd.ownN [] rfl rfl) ?_)
   refine XL.mv (.int .i64 (1048576)) rfl ?_
   refine cX (XOp.call (args := [.agg #[arv, rsv], .int .i64 (1048576)]) call8 rfl (szSystem_spec (z := 1048576) har hrs (hz := (by first | assumption | rfl | omega | simp)) (hal := (by first | assumption | rfl | omega | simp)) (hrl := (by first | assumption | rfl | omega | simp)) (hrb := (by first | assumption | rfl | omega | simp))) ?_)
   rintro _ _ _ _ ⟨rfl, rfl, rfl⟩
   refine XL.as (.int .i64 (dec 1048576 (ar.length + szR rs))) rfl ?_
   refine XL.nil (X.seq (X.seq (X.region ?_)))
   refine XL.mv (.int .i64 (dec 1048576 (ar.length + szR rs))) rfl ?_
   refine cX (XOp.lss (a := dec 1048576 (ar.length + szR rs)) (b := 0) rfl rfl ?_)
   refine XL.nil ?_
   refine X.condD (p := (dec 1048576 (ar.length + szR rs) : Int) < 0) rfl (fun h3 => ?_) (fun h3 => ?_)
   ·refine X.seq (X.region ?_)
    refine XL.as (.bool (true)) rfl ?_
    refine XL.nil ?_
    refine X.ret (thenQ_ret (retEnd (L' := L) [.bool (true)] (.bool (true)) (.tmp rfl .nil) rfl rF rF (Sub.drop sR) ?_))
    exact ⟨rfl, rfl, rfl⟩
   ·have hd1 := dec_le2 h3 (by omega)
    have hzrs := szR_le (rs := rs)
    have hirs := hzrs.2
    have hcrs : ∀ i, i < rs.length → (rs.getD i ([], [])).1.length ≤ 4000000 ∧ (rs.getD i ([], [])).2.length ≤ 4000000 := fun i hi => by have := hirs i hi; omega
    have hfrs := flatPair_len rs
    refine X.skip (X.seq (X.region ?_))
    refine cX (XOp.loadN [arv, rsv] isAgg27 sizeOf27 rfl rfl (Rd.ownN [] rfl rfl) ?_)
    refine cX (XOp.thawL ?_)
    refine id (XOp.call (args := [.agg #[arv, rsv]]) call10 rfl (toSystem_spec har hrs (hla := (by first | assumption | rfl | omega | simp)) (hrl := (by first | assumption | rfl | omega | simp)) (hrb := (by first | assumption | rfl | omega | simp))) ?_)
    rintro _ F1 _ le1 ⟨x1, x2, rfl, hr1, hr2, hr3, rfl⟩
    refine ⟨[intsH 2 x1 ar, pairsD 2 121 x2 rs], hr3, ?_⟩
    show XL _ _ _ _ _ _ _ (intsH 2 x1 ar :: pairsD 2 121 x2 rs :: cellsH b1 [arv, rsv] 27 :: L)
    refine XL.mv (av) rfl ?_
    refine cX (XOp.call (args := [av]) call11 rfl (toInt64S_spec ha (hlx := (by first | assumption | rfl | omega | simp))) ?_)
    rintro v1 _ _ _ ⟨rfl, hs1, rfl⟩
    refine XL.mv (bv) rfl ?_
    refine cX (XOp.call (args := [bv]) call11 rfl (toInt64S_spec hb (hlx := (by first | assumption | rfl | omega | simp))) ?_)
    rintro v2 _ _ _ ⟨rfl, hs2, rfl⟩
    refine XL.mv (.int .i64 (n)) rfl ?_
    refine XL.freezeF [_, _] _ _ rfl (fun F2 le2 hz1 => ?_)
    replace har := har.mono le2
    replace hrs := hrs.mono le2
    replace ha := ha.mono le2
    replace hb := hb.mono le2
    have hf1 : IntsF F2 x1 ar := intsH.fz (xs := ar) hz1.fz
    refine XL.freezeF [_, _] _ _ rfl (fun F3 le3 hz2 => ?_)
    replace har := har.mono le3
    replace hrs := hrs.mono le3
    replace ha := ha.mono le3
    replace hb := hb.mono le3
    replace hf1 := hf1.mono le3
    have hf2 : PairsF F3 x2 rs := pairsD.fz hz2.fz
    refine XL.freezeF [_] _ _ rfl (fun F4 le4 hz3 => ?_)
    replace har := har.mono le4
    replace hrs := hrs.mono le4
    replace ha := ha.mono le4
    replace hb := hb.mono le4
    replace hf1 := hf1.mono le4
    replace hf2 := hf2.mono le4
    have hf3 : IntsF F4 v1 ((a)) := intsH.fz (xs := (a)) hz3.fz
    refine XL.freezeF [] _ _ rfl (fun F5 le5 hz4 => ?_)
    replace har := har.mono le5
    replace hrs := hrs.mono le5
    replace ha := ha.mono le5
    replace hb := hb.mono le5
    replace hf1 := hf1.mono le5
    replace hf2 := hf2.mono le5
    replace hf3 := hf3.mono le5
    have hf4 : IntsF F5 v2 ((b)) := intsH.fz (xs := (b)) hz4.fz
    refine cX (XOp.call (args := [.agg #[x1, x2], v1, v2, .int .i64 (n)]) call9 rfl (sShownBy_spec (n := n) hf1 hf2 hf3 hf4 (hla := (by first | assumption | rfl | omega | simp)) (hlr := (by first | assumption | rfl | omega | simp)) (hrb := (by first | assumption | rfl | omega | simp)) (hlta := (by first | assumption | rfl | omega | simp)) (hltb := (by first | assumption | rfl | omega | simp))) ?_)
    rintro _ F6 _ le6 ⟨x3, x4, rfl, hr4, hr5, rfl⟩
    replace har := har.mono le6
    replace hrs := hrs.mono le6
    replace ha := ha.mono le6
    replace hb := hb.mono le6
    refine XL.mv (.tuple #[.agg #[x3, x4], .bool ((shownF ar rs ((a)) ((b)) n).2.2)]) rfl ?_
    refine cX (XOp.extract (.agg #[x3, x4]) rfl rfl ?_)
    refine cX (XOp.extract (.bool ((shownF ar rs ((a)) ((b)) n).2.2)) rfl rfl ?_)
    refine cX (XOp.alloc [(.slice none 0 0), (.slice none 0 0)] zeroValue31 rfl ?_)
    intro b2
    refine cX (XOp.storeN (vs := [x3, x4]) [] _ [x3, x4] sizeOf31 rfl rfl rfl (ones_cons (one_sl (IntsF.isSl hr4)) (ones_cons (one_sl (MovesF.isSl hr5)) ones_nil)) rfl rfl rfl ?_)
    refine XL.as (.bool ((shownF ar rs ((a)) ((b)) n).2.2)) rfl ?_
    refine XL.nil (X.seq (X.region ?_))
    refine cX (XOp.loadN [arv, rsv] isAgg27 sizeOf27 rfl rfl (Rd.ownN [_] rfl rfl) ?_)
    refine cX (XOp.thawL ?_)
    refine id (XOp.call (args := [.agg #[arv, rsv]]) call10 rfl (toSystem_spec har hrs (hla := (by first | assumption | rfl | omega | simp)) (hrl := (by first | assumption | rfl | omega | simp)) (hrb := (by first | assumption | rfl | omega | simp))) ?_)
    rintro _ F7 _ le7 ⟨x5, x6, rfl, hr6, hr7, hr8, rfl⟩
    refine ⟨[intsH 2 x5 ar, pairsD 2 121 x6 rs], hr8, ?_⟩
    show XL _ _ _ _ _ _ _ (intsH 2 x5 ar :: pairsD 2 121 x6 rs :: cellsH b2 [x3, x4] 31 :: cellsH b1 [arv, rsv] 27 :: L)
    refine cX (XOp.alloc [(.slice none 0 0), (.slice none 0 0)] zeroValue37 rfl ?_)
    intro b3
    refine cX (XOp.storeN (vs := [x5, x6]) [] _ [x5, x6] sizeOf37 rfl rfl rfl (ones_cons (one_sl (IntsF.isSl hr6)) (ones_cons (one_sl (PairsF.isSl hr7)) ones_nil)) rfl rfl rfl ?_)
    refine XL.nil (X.seq (X.region ?_))
    refine XL.mv (av) rfl ?_
    refine cX (XOp.call (args := [av]) call11 rfl (toInt64S_spec ha (hlx := (by first | assumption | rfl | omega | simp))) ?_)
    rintro v3 _ _ _ ⟨rfl, hs3, rfl⟩
    refine XL.as (v3) rfl ?_
    refine XL.nil (X.seq (X.region ?_))
    refine XL.mv (bv) rfl ?_
    refine cX (XOp.call (args := [bv]) call11 rfl (toInt64S_spec hb (hlx := (by first | assumption | rfl | omega | simp))) ?_)
    rintro v4 _ _ _ ⟨rfl, hs4, rfl⟩
    refine XL.as (v4) rfl ?_
    refine XL.nil (X.seq (X.region ?_))
    refine cX (XOp.loadN [x5, x6] isAgg37 sizeOf37 rfl rfl (Rd.ownN [_, _] rfl rfl) ?_)
    refine XL.mv (v3) rfl ?_
    refine XL.mv (v4) rfl ?_
    refine XL.mv (.int .i64 (n)) rfl ?_
    refine cX (XOp.lend [_, _, _] _ _ rfl (fun F8 le8 hz5 => ?_))
    refine id (XOp.lend [_, _, _] _ _ rfl (fun F9 le9 hz6 => ?_))
    refine id (XOp.lend [_] _ _ rfl (fun F10 le10 hz7 => ?_))
    refine id (XOp.lend [] _ _ rfl (fun F11 le11 hz8 => ?_))
    have hf5 : IntsF _ x5 ar := (intsH.fz (xs := ar) hz5).mono (FLe.trans (FLe.trans le9 le10) le11)
    have hf6 : PairsF _ x6 rs := (pairsD.fz hz6).mono (FLe.trans le10 le11)
    have hf7 : IntsF _ v3 ((a)) := (intsH.fz (xs := (a)) hz7).mono le11
    have hf8 : IntsF _ v4 ((b)) := intsH.fz (xs := (b)) hz8
    refine id (XOp.thawL ?_)
    refine id (XOp.call (args := [.agg #[x5, x6], v3, v4, .int .i64 (n)]) call12 rfl (ShownBy_spec (n := n) hf5 hf6 hf7 hf8) ?_)
    rintro _ F12 _ le12 ⟨x7, x8, rfl, hr9, hr10, hr11, rfl⟩
    refine ⟨[intsH 2 x7 ((shownF ar rs ((a)) ((b)) n).1), movesD 2 146 x8 ((shownF ar rs ((a)) ((b)) n).2.1)], hr11, ?_⟩
    show XL _ _ _ _ _ _ _ (intsH 2 x5 ar :: pairsD 2 121 x6 rs :: intsH 2 v3 ((a)) :: intsH 2 v4 ((b)) :: intsH 2 x7 ((shownF ar rs ((a)) ((b)) n).1) :: movesD 2 146 x8 ((shownF ar rs ((a)) ((b)) n).2.1) :: cellsH b3 [x5, x6] 37 :: cellsH b2 [x3, x4] 31 :: cellsH b1 [arv, rsv] 27 :: L)
    refine XL.mv (.tuple #[.agg #[x7, x8], .bool ((shownF ar rs ((a)) ((b)) n).2.2)]) rfl ?_
    refine cX (XOp.extract (.agg #[x7, x8]) rfl rfl ?_)
    refine cX (XOp.extract (.bool ((shownF ar rs ((a)) ((b)) n).2.2)) rfl rfl ?_)
    refine cX (XOp.alloc [(.slice none 0 0), (.slice none 0 0)] zeroValue31 rfl ?_)
    intro b4
    refine cX (XOp.storeN (vs := [x7, x8]) [] _ [x7, x8] sizeOf31 rfl rfl rfl (ones_cons (one_sl (IntsF.isSl hr9)) (ones_cons (one_sl (MovesF.isSl hr10)) ones_nil)) rfl rfl rfl ?_)
    refine XL.as (.bool ((shownF ar rs ((a)) ((b)) n).2.2)) rfl ?_
    refine XL.nil (X.seq (X.seq (X.region ?_)))
    refine cX (XOp.loadN [x7, x8] isAgg31 sizeOf31 rfl rfl (Rd.ownN [] rfl rfl) ?_)
    refine cX (XOp.loadN [x3, x4] isAgg31 sizeOf31 rfl rfl (Rd.ownN [_, _, _, _, _, _, _, _] rfl rfl) ?_)
    refine cX (XOp.lend [_, _, _, _, _] _ _ rfl (fun F13 le13 hz9 => ?_))
    refine id (XOp.lend [_, _, _, _, _] _ _ rfl (fun F14 le14 hz10 => ?_))
    have hf9 : IntsF _ x7 ((shownF ar rs ((a)) ((b)) n).1) := (intsH.fz (xs := (shownF ar rs ((a)) ((b)) n).1) hz9).mono le14
    have hf10 : MovesF _ x8 ((shownF ar rs ((a)) ((b)) n).2.1) := movesD.fz hz10
    refine id (XOp.call (args := [.agg #[x7, x8], .agg #[x3, x4]]) call13 rfl (eqChain_spec hf9 hf10 ((hr4.mono (FLe.trans le13 le14))) ((hr5.mono (FLe.trans le13 le14))) (hfl := (by first | assumption | rfl | omega | simp)) (hal := (by first | assumption | rfl | omega | simp)) (hbd := (by first | assumption | exact fun i hi => by have := hne i hi; omega))) ?_)
    rintro _ _ _ _ ⟨rfl, rfl, rfl⟩
    show XL _ _ _ _ _ _ _ (intsH 2 x7 ((shownF ar rs ((a)) ((b)) n).1) :: movesD 2 146 x8 ((shownF ar rs ((a)) ((b)) n).2.1) :: cellsH b4 [x7, x8] 31 :: intsH 2 x5 ar :: pairsD 2 121 x6 rs :: intsH 2 v3 ((a)) :: intsH 2 v4 ((b)) :: cellsH b3 [x5, x6] 37 :: cellsH b2 [x3, x4] 31 :: cellsH b1 [arv, rsv] 27 :: L)
    refine cX (XOp.notD (p := ((shownF ar rs ((a)) ((b)) n).1) = ((shownF ar rs ((a)) ((b)) n).1) ∧ ((shownF ar rs ((a)) ((b)) n).2.1) = ((shownF ar rs ((a)) ((b)) n).2.1)) rfl ?_)
    refine XL.mv (.bool (decide (¬(((shownF ar rs ((a)) ((b)) n).1) = ((shownF ar rs ((a)) ((b)) n).1) ∧ ((shownF ar rs ((a)) ((b)) n).2.1) = ((shownF ar rs ((a)) ((b)) n).2.1))))) rfl ?_
    by_cases h4 : ¬(((shownF ar rs ((a)) ((b)) n).1) = ((shownF ar rs ((a)) ((b)) n).1) ∧ ((shownF ar rs ((a)) ((b)) n).2.1) = ((shownF ar rs ((a)) ((b)) n).2.1))
    ·exact absurd (by first | rfl | exact ⟨rfl, rfl⟩ | exact ⟨⟨rfl, rfl⟩, rfl, rfl⟩ | simp) h4
    ·refine XL.yes (t := 62) rfl (vF h4) (XOp.move (.bool ((shownF ar rs ((a)) ((b)) n).2.2)) rfl ?_)
     refine XL.yes (t := 62) rfl (vF h4) (XOp.move (.bool ((shownF ar rs ((a)) ((b)) n).2.2)) rfl ?_)
     refine XL.yes (t := 62) rfl (vF h4) (XOp.neB (a := (shownF ar rs ((a)) ((b)) n).2.2) (b := (shownF ar rs ((a)) ((b)) n).2.2) runUnderlying4 rfl rfl ?_)
     refine cX (XOp.pickF (.bool (decide (((shownF ar rs ((a)) ((b)) n).2.2) ≠ ((shownF ar rs ((a)) ((b)) n).2.2)))) (vF h4) rfl ?_)
     refine XL.nil ?_
     refine X.condD (p := ((shownF ar rs ((a)) ((b)) n).2.2) ≠ ((shownF ar rs ((a)) ((b)) n).2.2)) rfl (fun h5 => ?_) (fun h5 => ?_)
     ·exact absurd rfl h5
     ·refine X.skip (X.seq (X.seq ?_))
      refine X.drawG [intsH 2 x7 ((shownF ar rs ((a)) ((b)) n).1), movesD 2 146 x8 ((shownF ar rs ((a)) ((b)) n).2.1), cellsH b4 [x7, x8] 31, intsH 2 x5 ar, pairsD 2 121 x6 rs, intsH 2 v3 ((a)), intsH 2 v4 ((b)), cellsH b3 [x5, x6] 37, cellsH b2 [x3, x4] 31, cellsH b1 [arv, rsv] 27] L 3 [[], [], []] [[], [], [1]] [[], [], []] (phiG [fun FF us v => v = (.agg #[x5, x6] : Value), fun FF us v => v = (.agg #[arv, rsv] : Value), fun FF us v => (.agg #[((aggAt v 0)), ((aggAt v 1))] : Value) = v ∧ (IntsF FF ((aggAt v 0)) ar) ∧ (PairsF FF ((aggAt v 1)) rs)]) (ownL [fun us v => [], fun us v => [], fun us v => []]) mixed rfl rfl (by kernel_rfl) (by kernel_rfl) (MonoG.get (MonoG.cons (fun le h => h) (MonoG.cons (fun le h => h) (MonoG.cons (fun le h => ⟨h.1, h.2.1.mono le, h.2.2.mono le⟩) MonoG.nil)))) ?_ ?_
      ·refine stepsG.cons (fun vals Fs R leFs hpZ => ?_) ?_
       ·replace har := har.mono leFs
        replace hrs := hrs.mono leFs
        replace ha := ha.mono leFs
        replace hb := hb.mono leFs
        replace hr4 := hr4.mono leFs
        replace hr5 := hr5.mono leFs
        refine XG.op (XOp.loadN [x5, x6] isAgg37 sizeOf37 rfl rfl (Rd.ownN [_, _, _, _, _, _, _] rfl rfl) ?_)
        exact ⟨rfl, rfl⟩
       refine stepsG.cons (fun vals Fs R leFs hpZ => ?_) ?_
       ·replace har := har.mono leFs
        replace hrs := hrs.mono leFs
        replace ha := ha.mono leFs
        replace hb := hb.mono leFs
        replace hr4 := hr4.mono leFs
        replace hr5 := hr5.mono leFs
        refine XG.op (XOp.loadN [arv, rsv] isAgg27 sizeOf27 rfl rfl (Rd.ownN [_, _, _, _, _, _, _, _, _] rfl rfl) ?_)
        exact ⟨rfl, rfl⟩
       refine stepsG.cons (fun vals Fs R leFs hpZ => ?_) ?_
       ·replace har := har.mono leFs
        replace hrs := hrs.mono leFs
        replace ha := ha.mono leFs
        replace hb := hb.mono leFs
        replace hr4 := hr4.mono leFs
        replace hr5 := hr5.mono leFs
        rw [eS (l := [(1, (.agg #[arv, rsv] : Value))]) ⟨(hpZ 1 (by decide)), trivial⟩]
        refine XG.op (XOp.call (args := [.agg #[arv, rsv]]) call10 rfl (toSystem_spec har hrs (hla := (by first | assumption | rfl | omega | simp)) (hrl := (by first | assumption | rfl | omega | simp)) (hrb := (by first | assumption | rfl | omega | simp))) ?_)
        rintro _ F16 _ le16 ⟨x11, x12, rfl, hr15, hr16, hr17, rfl⟩
        replace har := har.mono le16
        replace hrs := hrs.mono le16
        replace ha := ha.mono le16
        replace hb := hb.mono le16
        replace hr4 := hr4.mono le16
        replace hr5 := hr5.mono le16
        exact ⟨⟨rfl, hr15, hr16⟩, rfl⟩
       exact stepsG.nil
      ·intro vals F17 le17 hphi
       obtain ⟨e2, f2_1hr1, f2_1hr2⟩ := hphi 2 (by decide)
       generalize hu1 : ((aggAt (vals 2) 0)) = u1 at e2 f2_1hr1 f2_1hr2
       generalize hu2 : ((aggAt (vals 2) 1)) = u2 at e2 f2_1hr1 f2_1hr2
       rw [eS (l := [(0, (.agg #[x5, x6] : Value)), (2, (.agg #[u1, u2] : Value))]) ⟨(hphi 0 (by decide)), (e2).symm, trivial⟩]
       replace har := har.mono le17
       replace hrs := hrs.mono le17
       replace ha := ha.mono le17
       replace hb := hb.mono le17
       replace hr4 := hr4.mono le17
       replace hr5 := hr5.mono le17
       show XL _ _ _ _ _ _ _ (intsH 2 x7 ((shownF ar rs ((a)) ((b)) n).1) :: movesD 2 146 x8 ((shownF ar rs ((a)) ((b)) n).2.1) :: cellsH b4 [x7, x8] 31 :: intsH 2 x5 ar :: pairsD 2 121 x6 rs :: intsH 2 v3 ((a)) :: intsH 2 v4 ((b)) :: cellsH b3 [x5, x6] 37 :: cellsH b2 [x3, x4] 31 :: cellsH b1 [arv, rsv] 27 :: L)
       refine cX (XOp.lend [_, _, _] _ _ rfl (fun F18 le18 hz11 => ?_))
       refine id (XOp.lend [_, _, _] _ _ rfl (fun F19 le19 hz12 => ?_))
       have hf11 : IntsF _ x5 ar := (intsH.fz (xs := ar) hz11).mono le19
       have hf12 : PairsF _ x6 rs := pairsD.fz hz12
       refine id (XOp.call (args := [.agg #[x5, x6], .agg #[u1, u2]]) call14 rfl (eqSystem_spec hf11 hf12 ((f2_1hr1.mono (FLe.trans le18 le19))) ((f2_1hr2.mono (FLe.trans le18 le19))) (hcl := (by first | assumption | rfl | omega | simp)) (hal := (by first | assumption | rfl | omega | simp)) (hbd := (by first | assumption | rfl | omega | simp))) ?_)
       rintro _ _ _ _ ⟨rfl, rfl, rfl⟩
       show XL _ _ _ _ _ _ _ (intsH 2 x5 ar :: pairsD 2 121 x6 rs :: intsH 2 x7 ((shownF ar rs ((a)) ((b)) n).1) :: movesD 2 146 x8 ((shownF ar rs ((a)) ((b)) n).2.1) :: cellsH b4 [x7, x8] 31 :: intsH 2 v3 ((a)) :: intsH 2 v4 ((b)) :: cellsH b3 [x5, x6] 37 :: cellsH b2 [x3, x4] 31 :: cellsH b1 [arv, rsv] 27 :: L)
       refine cX (XOp.notD (p := ar = ar ∧ rs = rs) rfl ?_)
       refine XL.nil ?_
       refine X.condD (p := ¬(ar = ar ∧ rs = rs)) rfl (fun h6 => ?_) (fun h6 => ?_)
       ·exact absurd (by first | rfl | exact ⟨rfl, rfl⟩ | exact ⟨⟨rfl, rfl⟩, rfl, rfl⟩ | simp) h6
       ·refine X.skip (X.seq (X.seq (X.region ?_)))
        refine XL.mv (v3) rfl ?_
        refine XL.mv (av) rfl ?_
        refine cX (XOp.call (args := [av]) call11 rfl (toInt64S_spec ha (hlx := (by first | assumption | rfl | omega | simp))) ?_)
        rintro v5 _ _ _ ⟨rfl, hs5, rfl⟩
        refine cX (XOp.lend [_, _, _, _, _, _] _ _ rfl (fun F20 le20 hz13 => ?_))
        refine id (XOp.lend [] _ _ rfl (fun F21 le21 hz14 => ?_))
        have hf13 : IntsF _ v3 ((a)) := (intsH.fz (xs := (a)) hz13).mono le21
        have hf14 : IntsF _ v5 ((a)) := intsH.fz (xs := (a)) hz14
        refine id (XOp.call (args := [v3, v5]) call15 rfl (eqInt64S_spec hf13 hf14 (hbd := (by first | assumption | rfl | omega | (left; simp; done) | (right; simp; done)))) ?_)
        rintro _ _ _ _ ⟨rfl, rfl, rfl⟩
        show XL _ _ _ _ _ _ _ (intsH 2 v3 ((a)) :: intsH 2 v5 ((a)) :: intsH 2 x5 ar :: pairsD 2 121 x6 rs :: intsH 2 x7 ((shownF ar rs ((a)) ((b)) n).1) :: movesD 2 146 x8 ((shownF ar rs ((a)) ((b)) n).2.1) :: cellsH b4 [x7, x8] 31 :: intsH 2 v4 ((b)) :: cellsH b3 [x5, x6] 37 :: cellsH b2 [x3, x4] 31 :: cellsH b1 [arv, rsv] 27 :: L)
        refine cX (XOp.notD (p := ((a)) = ((a))) rfl ?_)
        refine XL.nil ?_
        refine X.condD (p := ¬(((a)) = ((a)))) rfl (fun h7 => ?_) (fun h7 => ?_)
        ·exact absurd (by first | rfl | exact ⟨rfl, rfl⟩ | exact ⟨⟨rfl, rfl⟩, rfl, rfl⟩ | simp) h7
        ·refine X.skip (X.seq (X.seq (X.region ?_)))
         refine XL.mv (v4) rfl ?_
         refine XL.mv (bv) rfl ?_
         refine cX (XOp.call (args := [bv]) call11 rfl (toInt64S_spec hb (hlx := (by first | assumption | rfl | omega | simp))) ?_)
         rintro v6 _ _ _ ⟨rfl, hs6, rfl⟩
         refine cX (XOp.lend [_, _, _, _, _, _, _, _] _ _ rfl (fun F22 le22 hz15 => ?_))
         refine id (XOp.lend [] _ _ rfl (fun F23 le23 hz16 => ?_))
         have hf15 : IntsF _ v4 ((b)) := (intsH.fz (xs := (b)) hz15).mono le23
         have hf16 : IntsF _ v6 ((b)) := intsH.fz (xs := (b)) hz16
         refine id (XOp.call (args := [v4, v6]) call15 rfl (eqInt64S_spec hf15 hf16 (hbd := (by first | assumption | rfl | omega | (left; simp; done) | (right; simp; done)))) ?_)
         rintro _ _ _ _ ⟨rfl, rfl, rfl⟩
         show XL _ _ _ _ _ _ _ (intsH 2 v4 ((b)) :: intsH 2 v6 ((b)) :: intsH 2 v3 ((a)) :: intsH 2 v5 ((a)) :: intsH 2 x5 ar :: pairsD 2 121 x6 rs :: intsH 2 x7 ((shownF ar rs ((a)) ((b)) n).1) :: movesD 2 146 x8 ((shownF ar rs ((a)) ((b)) n).2.1) :: cellsH b4 [x7, x8] 31 :: cellsH b3 [x5, x6] 37 :: cellsH b2 [x3, x4] 31 :: cellsH b1 [arv, rsv] 27 :: L)
         refine cX (XOp.notD (p := ((b)) = ((b))) rfl ?_)
         refine XL.nil ?_
         refine X.condD (p := ¬(((b)) = ((b)))) rfl (fun h8 => ?_) (fun h8 => ?_)
         ·exact absurd (by first | rfl | exact ⟨rfl, rfl⟩ | exact ⟨⟨rfl, rfl⟩, rfl, rfl⟩ | simp) h8
         ·refine X.skip (X.seq (X.region ?_))
          refine XL.as (.int .i64 (1)) rfl ?_
          refine XL.nil (X.seq (X.region ?_))
          refine cX (XOp.loadN [x5, x6] isAgg37 sizeOf37 rfl rfl (Rd.ownN [_, _, _, _, _, _, _, _, _] rfl rfl) ?_)
          refine XL.mv (.int .i64 (1)) rfl ?_
          refine XL.weaken (Sub.front (A := [_, _, _, _, _])) ?_
          show XL _ _ _ _ _ _ _ (pairsD 2 121 x6 rs :: intsH 2 v4 ((b)) :: intsH 2 v6 ((b)) :: intsH 2 v3 ((a)) :: intsH 2 v5 ((a)) :: intsH 2 x5 ar :: intsH 2 x7 ((shownF ar rs ((a)) ((b)) n).1) :: movesD 2 146 x8 ((shownF ar rs ((a)) ((b)) n).2.1) :: cellsH b4 [x7, x8] 31 :: cellsH b3 [x5, x6] 37 :: cellsH b2 [x3, x4] 31 :: cellsH b1 [arv, rsv] 27 :: L)
          refine XL.weaken (Sub.front (A := [_, _, _, _, _])) ?_
          show XL _ _ _ _ _ _ _ (intsH 2 x5 ar :: pairsD 2 121 x6 rs :: intsH 2 v4 ((b)) :: intsH 2 v6 ((b)) :: intsH 2 v3 ((a)) :: intsH 2 v5 ((a)) :: intsH 2 x7 ((shownF ar rs ((a)) ((b)) n).1) :: movesD 2 146 x8 ((shownF ar rs ((a)) ((b)) n).2.1) :: cellsH b4 [x7, x8] 31 :: cellsH b3 [x5, x6] 37 :: cellsH b2 [x3, x4] 31 :: cellsH b1 [arv, rsv] 27 :: L)
          refine cX (XOp.call (args := [.agg #[x5, x6], .int .i64 (1)]) call16 rfl (markSystem_spec (by (try simp only [List.length_append]); omega) (by omega)) ?_)
          rintro _ _ _ _ ⟨m1, m2, hm1, hk1, rfl, rfl, rfl⟩
          have hml1 := congrArg List.length hm1
          rw [iota_len] at hml1
          try simp only [List.length_append] at hml1
          refine XL.as (.int .i64 (1 + (((ar) ++ (rs.flatMap flatPair)).length : Int))) rfl ?_
          refine XL.nil (X.seq (X.region ?_))
          refine XL.mv (v3) rfl ?_
          refine XL.mv (.int .i64 (1 + (((ar) ++ (rs.flatMap flatPair)).length : Int))) rfl ?_
          refine XL.weaken (Sub.front (A := [_, _, _, _])) ?_
          show XL _ _ _ _ _ _ _ (intsH 2 v3 ((a)) :: intsH 2 x5 m1 :: pairsD 2 121 x6 m2 :: intsH 2 v4 ((b)) :: intsH 2 v6 ((b)) :: intsH 2 v5 ((a)) :: intsH 2 x7 ((shownF ar rs ((a)) ((b)) n).1) :: movesD 2 146 x8 ((shownF ar rs ((a)) ((b)) n).2.1) :: cellsH b4 [x7, x8] 31 :: cellsH b3 [x5, x6] 37 :: cellsH b2 [x3, x4] 31 :: cellsH b1 [arv, rsv] 27 :: L)
          refine cX (XOp.call (args := [v3, .int .i64 (1 + (((ar) ++ (rs.flatMap flatPair)).length : Int))]) call17 rfl (markInt64S_spec (by (try simp only [List.length_append]); omega)) ?_)
          rintro _ _ _ _ ⟨m3, hm2, rfl, rfl, rfl⟩
          have hml2 := congrArg List.length hm2
          rw [iota_len] at hml2
          try simp only [List.length_append] at hml2
          refine XL.as (.int .i64 ((1 + (((ar) ++ (rs.flatMap flatPair)).length : Int)) + (((((a)))).length : Int))) rfl ?_
          refine XL.nil (X.seq (X.region ?_))
          refine XL.mv (v4) rfl ?_
          refine XL.mv (.int .i64 ((1 + (((ar) ++ (rs.flatMap flatPair)).length : Int)) + (((((a)))).length : Int))) rfl ?_
          refine XL.weaken (Sub.front (A := [_, _, _])) ?_
          show XL _ _ _ _ _ _ _ (intsH 2 v4 ((b)) :: intsH 2 v3 m3 :: intsH 2 x5 m1 :: pairsD 2 121 x6 m2 :: intsH 2 v6 ((b)) :: intsH 2 v5 ((a)) :: intsH 2 x7 ((shownF ar rs ((a)) ((b)) n).1) :: movesD 2 146 x8 ((shownF ar rs ((a)) ((b)) n).2.1) :: cellsH b4 [x7, x8] 31 :: cellsH b3 [x5, x6] 37 :: cellsH b2 [x3, x4] 31 :: cellsH b1 [arv, rsv] 27 :: L)
          refine cX (XOp.call (args := [v4, .int .i64 ((1 + (((ar) ++ (rs.flatMap flatPair)).length : Int)) + (((((a)))).length : Int))]) call17 rfl (markInt64S_spec (by (try simp only [List.length_append]); omega)) ?_)
          rintro _ _ _ _ ⟨m4, hm3, rfl, rfl, rfl⟩
          have hml3 := congrArg List.length hm3
          rw [iota_len] at hml3
          try simp only [List.length_append] at hml3
          refine XL.as (.int .i64 (((1 + (((ar) ++ (rs.flatMap flatPair)).length : Int)) + (((((a)))).length : Int)) + (((((b)))).length : Int))) rfl ?_
          refine XL.nil (X.seq (X.seq (X.region ?_)))
          refine XL.mv (.int .i64 (((1 + (((ar) ++ (rs.flatMap flatPair)).length : Int)) + (((((a)))).length : Int)) + (((((b)))).length : Int))) rfl ?_
          refine cX (XOp.lss (a := ((1 + (((ar) ++ (rs.flatMap flatPair)).length : Int)) + (((((a)))).length : Int)) + (((((b)))).length : Int)) (b := 0) rfl rfl ?_)
          refine XL.mv (.bool (decide ((((1 + (((ar) ++ (rs.flatMap flatPair)).length : Int)) + (((((a)))).length : Int)) + (((((b)))).length : Int) : Int) < 0))) rfl ?_
          by_cases h9 : (((1 + (((ar) ++ (rs.flatMap flatPair)).length : Int)) + (((((a)))).length : Int)) + (((((b)))).length : Int) : Int) < 0
          ·exact absurd h9 (by omega)
          ·refine XL.yes (t := 93) rfl (vF h9) (XOp.loadN [x7, x8] isAgg31 sizeOf31 rfl rfl (Rd.ownN [_, _, _, _, _, _, _, _] rfl rfl) ?_)
           refine XL.yes (t := 93) rfl (vF h9) (XOp.loadN [x3, x4] isAgg31 sizeOf31 rfl rfl (Rd.ownN [_, _, _, _, _, _, _, _, _, _] rfl rfl) ?_)
           refine XL.yes (t := 93) rfl (vF h9) (XOp.lend [_, _, _, _, _, _] _ _ rfl (fun F24 le24 hz17 => ?_))
           refine id (XOp.lend [_, _, _, _, _, _] _ _ rfl (fun F25 le25 hz18 => ?_))
           have hf17 : IntsF _ x7 ((shownF ar rs ((a)) ((b)) n).1) := (intsH.fz (xs := (shownF ar rs ((a)) ((b)) n).1) hz17).mono le25
           have hf18 : MovesF _ x8 ((shownF ar rs ((a)) ((b)) n).2.1) := movesD.fz hz18
           refine id (XOp.call (args := [.agg #[x7, x8], .agg #[x3, x4]]) call13 rfl (eqChain_spec hf17 hf18 ((hr4.mono (FLe.trans le24 le25))) ((hr5.mono (FLe.trans le24 le25))) (hfl := (by first | assumption | rfl | omega | simp)) (hal := (by first | assumption | rfl | omega | simp)) (hbd := (by first | assumption | exact fun i hi => by have := hne i hi; omega))) ?_)
           rintro _ _ _ _ ⟨rfl, rfl, rfl⟩
           show XL _ _ _ _ _ _ _ (intsH 2 x7 ((shownF ar rs ((a)) ((b)) n).1) :: movesD 2 146 x8 ((shownF ar rs ((a)) ((b)) n).2.1) :: intsH 2 v4 m4 :: intsH 2 v3 m3 :: intsH 2 x5 m1 :: pairsD 2 121 x6 m2 :: intsH 2 v6 ((b)) :: intsH 2 v5 ((a)) :: cellsH b4 [x7, x8] 31 :: cellsH b3 [x5, x6] 37 :: cellsH b2 [x3, x4] 31 :: cellsH b1 [arv, rsv] 27 :: L)
           refine XL.yes (t := 93) rfl (vF h9) (XOp.notD (p := ((shownF ar rs ((a)) ((b)) n).1) = ((shownF ar rs ((a)) ((b)) n).1) ∧ ((shownF ar rs ((a)) ((b)) n).2.1) = ((shownF ar rs ((a)) ((b)) n).2.1)) rfl ?_)
           refine cX (XOp.pickF (.bool (decide (¬(((shownF ar rs ((a)) ((b)) n).1) = ((shownF ar rs ((a)) ((b)) n).1) ∧ ((shownF ar rs ((a)) ((b)) n).2.1) = ((shownF ar rs ((a)) ((b)) n).2.1))))) (vF h9) rfl ?_)
           refine XL.mv (.bool (decide (¬(((shownF ar rs ((a)) ((b)) n).1) = ((shownF ar rs ((a)) ((b)) n).1) ∧ ((shownF ar rs ((a)) ((b)) n).2.1) = ((shownF ar rs ((a)) ((b)) n).2.1))))) rfl ?_
           refine XL.yes (t := 99) rfl (vF h4) (XOp.move (.bool ((shownF ar rs ((a)) ((b)) n).2.2)) rfl ?_)
           refine XL.yes (t := 99) rfl (vF h4) (XOp.move (.bool ((shownF ar rs ((a)) ((b)) n).2.2)) rfl ?_)
           refine XL.yes (t := 99) rfl (vF h4) (XOp.neB (a := (shownF ar rs ((a)) ((b)) n).2.2) (b := (shownF ar rs ((a)) ((b)) n).2.2) runUnderlying4 rfl rfl ?_)
           refine cX (XOp.pickF (.bool (decide (((shownF ar rs ((a)) ((b)) n).2.2) ≠ ((shownF ar rs ((a)) ((b)) n).2.2)))) (vF h4) rfl ?_)
           refine XL.nil ?_
           refine X.condF (vF h5) ?_
           refine X.skip (X.seq (X.region ?_))
           refine XL.as (.int .i64 (1)) rfl ?_
           refine XL.nil (X.seq (X.region ?_))
           refine cX (XOp.loadN [x7, x8] isAgg31 sizeOf31 rfl rfl (Rd.ownN [_, _, _, _, _, _, _, _] rfl rfl) ?_)
           refine XL.mv (.int .i64 (1)) rfl ?_
           refine XL.weaken (Sub.front (A := [_])) ?_
           show XL _ _ _ _ _ _ _ (movesD 2 146 x8 ((shownF ar rs ((a)) ((b)) n).2.1) :: intsH 2 x7 ((shownF ar rs ((a)) ((b)) n).1) :: intsH 2 v4 m4 :: intsH 2 v3 m3 :: intsH 2 x5 m1 :: pairsD 2 121 x6 m2 :: intsH 2 v6 ((b)) :: intsH 2 v5 ((a)) :: cellsH b4 [x7, x8] 31 :: cellsH b3 [x5, x6] 37 :: cellsH b2 [x3, x4] 31 :: cellsH b1 [arv, rsv] 27 :: L)
           refine XL.weaken (Sub.front (A := [_])) ?_
           show XL _ _ _ _ _ _ _ (intsH 2 x7 ((shownF ar rs ((a)) ((b)) n).1) :: movesD 2 146 x8 ((shownF ar rs ((a)) ((b)) n).2.1) :: intsH 2 v4 m4 :: intsH 2 v3 m3 :: intsH 2 x5 m1 :: pairsD 2 121 x6 m2 :: intsH 2 v6 ((b)) :: intsH 2 v5 ((a)) :: cellsH b4 [x7, x8] 31 :: cellsH b3 [x5, x6] 37 :: cellsH b2 [x3, x4] 31 :: cellsH b1 [arv, rsv] 27 :: L)
           refine cX (XOp.call (args := [.agg #[x7, x8], .int .i64 (1)]) call18 rfl (markChain_spec (by (try simp only [List.length_append]); omega) (by omega)) ?_)
           rintro _ _ _ _ ⟨m5, m6, hm4, hk2, rfl, rfl, rfl⟩
           have hml4 := congrArg List.length hm4
           rw [iota_len] at hml4
           try simp only [List.length_append] at hml4
           refine XL.as (.int .i64 (1 + (((((shownF ar rs ((a)) ((b)) n).1)) ++ (((shownF ar rs ((a)) ((b)) n).2.1).flatMap flatMove)).length : Int))) rfl ?_
           refine XL.nil (X.seq (X.region ?_))
           refine XL.as (.int .i64 (1)) rfl ?_
           refine XL.nil (X.seq (X.region ?_))
           refine cX (XOp.loadN [x7, x8] isAgg31 sizeOf31 rfl rfl (Rd.ownN [_, _, _, _, _, _, _, _] rfl rfl) ?_)
           refine XL.mv (.int .i64 (1)) rfl ?_
           refine cX (XOp.lend [] _ _ rfl (fun F26 le26 hz19 => ?_))
           refine id (XOp.lend [] _ _ rfl (fun F27 le27 hz20 => ?_))
           have hf19 : IntsF _ x7 m5 := (intsH.fz (xs := m5) hz19).mono le27
           have hf20 : MovesF _ x8 m6 := movesD.fz hz20
           refine id (XOp.call (args := [.agg #[x7, x8], .int .i64 (1)]) call19 rfl (heldChain_spec (z := 1) hf19 hf20 (hzb := (by first | assumption | rfl | omega | simp)) (hxl := (by first | assumption | rfl | omega | simp))) ?_)
           rintro _ _ _ _ ⟨rfl, rfl, rfl⟩
           show XL _ _ _ _ _ _ _ (intsH 2 x7 m5 :: movesD 2 146 x8 m6 :: intsH 2 v4 m4 :: intsH 2 v3 m3 :: intsH 2 x5 m1 :: pairsD 2 121 x6 m2 :: intsH 2 v6 ((b)) :: intsH 2 v5 ((a)) :: cellsH b4 [x7, x8] 31 :: cellsH b3 [x5, x6] 37 :: cellsH b2 [x3, x4] 31 :: cellsH b1 [arv, rsv] 27 :: L)
           refine XL.as (.int .i64 (heldF (m5 ++ m6.flatMap flatMove) 1)) rfl ?_
           refine XL.nil (X.seq (X.seq (X.region ?_)))
           refine XL.mv (.int .i64 (heldF (m5 ++ m6.flatMap flatMove) 1)) rfl ?_
           refine cX (XOp.lss (a := heldF (m5 ++ m6.flatMap flatMove) 1) (b := 0) rfl rfl ?_)
           refine XL.nil ?_
           refine X.condD (p := (heldF (m5 ++ m6.flatMap flatMove) 1 : Int) < 0) rfl (fun h10 => ?_) (fun h10 => ?_)
           ·rw [hm4, heldF_iota] at h10
            exact absurd h10 (by omega)
           ·have hh2 := (fun (l : List Int) (k k2 : Int) (n : Nat) (h : l = iota k n) (hk : k2 = k) => show heldF l k2 = k + n from (by subst hk; rw [h, heldF_iota])) _ _ (1) _ hm4 (by first | rfl | omega)
            have hh2l := hh2
            try simp only [List.length_append] at hh2l
            refine X.skip (X.seq (X.seq (X.region ?_)))
            refine XL.mv (.int .i64 (heldF (m5 ++ m6.flatMap flatMove) 1)) rfl ?_
            refine XL.mv (.int .i64 (1 + (((((shownF ar rs ((a)) ((b)) n).1)) ++ (((shownF ar rs ((a)) ((b)) n).2.1).flatMap flatMove)).length : Int))) rfl ?_
            refine cX (XOp.neq (a := heldF (m5 ++ m6.flatMap flatMove) 1) (b := 1 + (((((shownF ar rs ((a)) ((b)) n).1)) ++ (((shownF ar rs ((a)) ((b)) n).2.1).flatMap flatMove)).length : Int)) rfl rfl ?_)
            refine XL.nil ?_
            refine X.condD (p := (heldF (m5 ++ m6.flatMap flatMove) 1 : Int) ≠ 1 + (((((shownF ar rs ((a)) ((b)) n).1)) ++ (((shownF ar rs ((a)) ((b)) n).2.1).flatMap flatMove)).length : Int)) rfl (fun h11 => ?_) (fun h11 => ?_)
            ·exact absurd (by rw [hm4, heldF_iota]) h11
            ·refine X.skip (X.seq (X.region ?_))
             refine cX (XOp.loadN [arv, rsv] isAgg27 sizeOf27 rfl rfl (Rd.ownN [_, _, _, _, _, _, _, _, _, _, _] rfl rfl) ?_)
             refine cX (XOp.thawL ?_)
             refine id (XOp.call (args := [.agg #[arv, rsv]]) call10 rfl (toSystem_spec har hrs (hla := (by first | assumption | rfl | omega | simp)) (hrl := (by first | assumption | rfl | omega | simp)) (hrb := (by first | assumption | rfl | omega | simp))) ?_)
             rintro _ F28 _ le28 ⟨x13, x14, rfl, hr18, hr19, hr20, rfl⟩
             refine ⟨[intsH 2 x13 ar, pairsD 2 121 x14 rs], hr20, ?_⟩
             show XL _ _ _ _ _ _ _ (intsH 2 x13 ar :: pairsD 2 121 x14 rs :: intsH 2 x7 m5 :: movesD 2 146 x8 m6 :: intsH 2 v4 m4 :: intsH 2 v3 m3 :: intsH 2 x5 m1 :: pairsD 2 121 x6 m2 :: intsH 2 v6 ((b)) :: intsH 2 v5 ((a)) :: cellsH b4 [x7, x8] 31 :: cellsH b3 [x5, x6] 37 :: cellsH b2 [x3, x4] 31 :: cellsH b1 [arv, rsv] 27 :: L)
             refine XL.mv (av) rfl ?_
             refine cX (XOp.call (args := [av]) call11 rfl (toInt64S_spec ha (hlx := (by first | assumption | rfl | omega | simp))) ?_)
             rintro v7 _ _ _ ⟨rfl, hs7, rfl⟩
             refine XL.mv (bv) rfl ?_
             refine cX (XOp.call (args := [bv]) call11 rfl (toInt64S_spec hb (hlx := (by first | assumption | rfl | omega | simp))) ?_)
             rintro v8 _ _ _ ⟨rfl, hs8, rfl⟩
             refine XL.mv (.int .i64 (n)) rfl ?_
             refine cX (XOp.lend [_, _] _ _ rfl (fun F29 le29 hz21 => ?_))
             refine id (XOp.lend [_, _] _ _ rfl (fun F30 le30 hz22 => ?_))
             refine id (XOp.lend [_] _ _ rfl (fun F31 le31 hz23 => ?_))
             refine id (XOp.lend [] _ _ rfl (fun F32 le32 hz24 => ?_))
             have hf21 : IntsF _ x13 ar := (intsH.fz (xs := ar) hz21).mono (FLe.trans (FLe.trans le30 le31) le32)
             have hf22 : PairsF _ x14 rs := (pairsD.fz hz22).mono (FLe.trans le31 le32)
             have hf23 : IntsF _ v7 ((a)) := (intsH.fz (xs := (a)) hz23).mono le32
             have hf24 : IntsF _ v8 ((b)) := intsH.fz (xs := (b)) hz24
             refine id (XOp.thawL ?_)
             refine id (XOp.call (args := [.agg #[x13, x14], v7, v8, .int .i64 (n)]) call12 rfl (ShownBy_spec (n := n) hf21 hf22 hf23 hf24) ?_)
             rintro _ F33 _ le33 ⟨x15, x16, rfl, hr21, hr22, hr23, rfl⟩
             refine ⟨[intsH 2 x15 ((shownF ar rs ((a)) ((b)) n).1), movesD 2 146 x16 ((shownF ar rs ((a)) ((b)) n).2.1)], hr23, ?_⟩
             show XL _ _ _ _ _ _ _ (intsH 2 x13 ar :: pairsD 2 121 x14 rs :: intsH 2 v7 ((a)) :: intsH 2 v8 ((b)) :: intsH 2 x15 ((shownF ar rs ((a)) ((b)) n).1) :: movesD 2 146 x16 ((shownF ar rs ((a)) ((b)) n).2.1) :: intsH 2 x7 m5 :: movesD 2 146 x8 m6 :: intsH 2 v4 m4 :: intsH 2 v3 m3 :: intsH 2 x5 m1 :: pairsD 2 121 x6 m2 :: intsH 2 v6 ((b)) :: intsH 2 v5 ((a)) :: cellsH b4 [x7, x8] 31 :: cellsH b3 [x5, x6] 37 :: cellsH b2 [x3, x4] 31 :: cellsH b1 [arv, rsv] 27 :: L)
             refine XL.mv (.tuple #[.agg #[x15, x16], .bool ((shownF ar rs ((a)) ((b)) n).2.2)]) rfl ?_
             refine cX (XOp.extract (.agg #[x15, x16]) rfl rfl ?_)
             refine cX (XOp.extract (.bool ((shownF ar rs ((a)) ((b)) n).2.2)) rfl rfl ?_)
             refine cX (XOp.alloc [(.slice none 0 0), (.slice none 0 0)] zeroValue31 rfl ?_)
             intro b5
             refine cX (XOp.storeN (vs := [x15, x16]) [] _ [x15, x16] sizeOf31 rfl rfl rfl (ones_cons (one_sl (IntsF.isSl hr21)) (ones_cons (one_sl (MovesF.isSl hr22)) ones_nil)) rfl rfl rfl ?_)
             refine XL.as (.bool ((shownF ar rs ((a)) ((b)) n).2.2)) rfl ?_
             refine XL.nil (X.seq (X.seq (X.region ?_)))
             refine cX (XOp.loadN [x15, x16] isAgg31 sizeOf31 rfl rfl (Rd.ownN [] rfl rfl) ?_)
             refine cX (XOp.loadN [x3, x4] isAgg31 sizeOf31 rfl rfl (Rd.ownN [_, _, _, _, _, _, _, _, _, _, _, _, _, _, _, _, _] rfl rfl) ?_)
             refine cX (XOp.lend [_, _, _, _, _] _ _ rfl (fun F34 le34 hz25 => ?_))
             refine id (XOp.lend [_, _, _, _, _] _ _ rfl (fun F35 le35 hz26 => ?_))
             have hf25 : IntsF _ x15 ((shownF ar rs ((a)) ((b)) n).1) := (intsH.fz (xs := (shownF ar rs ((a)) ((b)) n).1) hz25).mono le35
             have hf26 : MovesF _ x16 ((shownF ar rs ((a)) ((b)) n).2.1) := movesD.fz hz26
             refine id (XOp.call (args := [.agg #[x15, x16], .agg #[x3, x4]]) call13 rfl (eqChain_spec hf25 hf26 ((hr4.mono (FLe.trans le34 le35))) ((hr5.mono (FLe.trans le34 le35))) (hfl := (by first | assumption | rfl | omega | simp)) (hal := (by first | assumption | rfl | omega | simp)) (hbd := (by first | assumption | exact fun i hi => by have := hne i hi; omega))) ?_)
             rintro _ _ _ _ ⟨rfl, rfl, rfl⟩
             show XL _ _ _ _ _ _ _ (intsH 2 x15 ((shownF ar rs ((a)) ((b)) n).1) :: movesD 2 146 x16 ((shownF ar rs ((a)) ((b)) n).2.1) :: cellsH b5 [x15, x16] 31 :: intsH 2 x13 ar :: pairsD 2 121 x14 rs :: intsH 2 v7 ((a)) :: intsH 2 v8 ((b)) :: intsH 2 x7 m5 :: movesD 2 146 x8 m6 :: intsH 2 v4 m4 :: intsH 2 v3 m3 :: intsH 2 x5 m1 :: pairsD 2 121 x6 m2 :: intsH 2 v6 ((b)) :: intsH 2 v5 ((a)) :: cellsH b4 [x7, x8] 31 :: cellsH b3 [x5, x6] 37 :: cellsH b2 [x3, x4] 31 :: cellsH b1 [arv, rsv] 27 :: L)
             refine cX (XOp.notD (p := ((shownF ar rs ((a)) ((b)) n).1) = ((shownF ar rs ((a)) ((b)) n).1) ∧ ((shownF ar rs ((a)) ((b)) n).2.1) = ((shownF ar rs ((a)) ((b)) n).2.1)) rfl ?_)
             refine XL.mv (.bool (decide (¬(((shownF ar rs ((a)) ((b)) n).1) = ((shownF ar rs ((a)) ((b)) n).1) ∧ ((shownF ar rs ((a)) ((b)) n).2.1) = ((shownF ar rs ((a)) ((b)) n).2.1))))) rfl ?_
             refine XL.yes (t := 130) rfl (vF h4) (XOp.move (.bool ((shownF ar rs ((a)) ((b)) n).2.2)) rfl ?_)
             refine XL.yes (t := 130) rfl (vF h4) (XOp.move (.bool ((shownF ar rs ((a)) ((b)) n).2.2)) rfl ?_)
             refine XL.yes (t := 130) rfl (vF h4) (XOp.neB (a := (shownF ar rs ((a)) ((b)) n).2.2) (b := (shownF ar rs ((a)) ((b)) n).2.2) runUnderlying4 rfl rfl ?_)
             refine cX (XOp.pickF (.bool (decide (((shownF ar rs ((a)) ((b)) n).2.2) ≠ ((shownF ar rs ((a)) ((b)) n).2.2)))) (vF h4) rfl ?_)
             refine XL.nil ?_
             refine X.condF (vF h5) ?_
             refine X.skip (X.seq (X.region ?_))
             refine XL.as (.int .i64 (1)) rfl ?_
             refine XL.nil (X.seq (X.region ?_))
             refine cX (XOp.loadN [x7, x8] isAgg31 sizeOf31 rfl rfl (Rd.ownN [_, _, _, _, _, _, _, _, _, _, _, _, _, _, _] rfl rfl) ?_)
             refine XL.mv (.int .i64 (1)) rfl ?_
             refine cX (XOp.lend [_, _, _, _, _, _, _] _ _ rfl (fun F36 le36 hz27 => ?_))
             refine id (XOp.lend [_, _, _, _, _, _, _] _ _ rfl (fun F37 le37 hz28 => ?_))
             have hf27 : IntsF _ x7 m5 := (intsH.fz (xs := m5) hz27).mono le37
             have hf28 : MovesF _ x8 m6 := movesD.fz hz28
             refine id (XOp.call (args := [.agg #[x7, x8], .int .i64 (1)]) call19 rfl (heldChain_spec (z := 1) hf27 hf28 (hzb := (by first | assumption | rfl | omega | simp)) (hxl := (by first | assumption | rfl | omega | simp))) ?_)
             rintro _ _ _ _ ⟨rfl, rfl, rfl⟩
             show XL _ _ _ _ _ _ _ (intsH 2 x7 m5 :: movesD 2 146 x8 m6 :: intsH 2 x15 ((shownF ar rs ((a)) ((b)) n).1) :: movesD 2 146 x16 ((shownF ar rs ((a)) ((b)) n).2.1) :: cellsH b5 [x15, x16] 31 :: intsH 2 x13 ar :: pairsD 2 121 x14 rs :: intsH 2 v7 ((a)) :: intsH 2 v8 ((b)) :: intsH 2 v4 m4 :: intsH 2 v3 m3 :: intsH 2 x5 m1 :: pairsD 2 121 x6 m2 :: intsH 2 v6 ((b)) :: intsH 2 v5 ((a)) :: cellsH b4 [x7, x8] 31 :: cellsH b3 [x5, x6] 37 :: cellsH b2 [x3, x4] 31 :: cellsH b1 [arv, rsv] 27 :: L)
             refine XL.as (.int .i64 (heldF (m5 ++ m6.flatMap flatMove) 1)) rfl ?_
             refine XL.nil (X.seq (X.seq (X.region ?_)))
             refine XL.mv (.int .i64 (heldF (m5 ++ m6.flatMap flatMove) 1)) rfl ?_
             refine cX (XOp.lss (a := heldF (m5 ++ m6.flatMap flatMove) 1) (b := 0) rfl rfl ?_)
             refine XL.nil ?_
             refine X.condF (vF h10) ?_
             refine X.skip (X.seq (X.seq (X.region ?_)))
             refine XL.mv (.int .i64 (heldF (m5 ++ m6.flatMap flatMove) 1)) rfl ?_
             refine XL.mv (.int .i64 (1 + (((((shownF ar rs ((a)) ((b)) n).1)) ++ (((shownF ar rs ((a)) ((b)) n).2.1).flatMap flatMove)).length : Int))) rfl ?_
             refine cX (XOp.neq (a := heldF (m5 ++ m6.flatMap flatMove) 1) (b := 1 + (((((shownF ar rs ((a)) ((b)) n).1)) ++ (((shownF ar rs ((a)) ((b)) n).2.1).flatMap flatMove)).length : Int)) rfl rfl ?_)
             refine XL.nil ?_
             refine X.condF (vF h11) ?_
             refine X.skip (X.seq (X.region ?_))
             refine XL.as (.bool (true)) rfl ?_
             refine XL.nil ?_
             refine X.ret (retEnd (L' := L) [.bool (true)] (.bool (true)) (.tmp rfl .nil) rfl rF (FLe.trans (FLe.trans (FLe.trans (FLe.trans (FLe.trans le2 le3) le4) le5) le6) le17) (Sub.drop (Sub.drop (Sub.drop (Sub.drop (Sub.drop (Sub.drop (Sub.drop (Sub.drop (Sub.drop (Sub.drop (Sub.drop (Sub.drop (Sub.drop (Sub.drop (Sub.drop (Sub.drop (Sub.drop (Sub.drop (Sub.drop sR))))))))))))))))))) ?_)
             exact ⟨rfl, rfl, rfl⟩
end Go.Proofs.YtiaanelimbmniaaGreat
