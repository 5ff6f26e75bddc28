/-
  Walks: words that are refuted; the statement RefutedBy.
-/
import Derived.Test.YtbooflphoaaoeaaGreatQiFy
import Derived.Test.YtbooflphoaaoeaaGreatP15
import Derived.Test.YtbooflphoaaoeaaGreatX15
set_option linter.unusedSimpArgs false
set_option linter.unusedVariables false
namespace Go.Proofs.YtbooflphoaaoeaaGreat
open Go X M

/- impl.RefutedBy$1 -/
theorem RefutedBy1_spec {F : FH} {L : List HP} {tv : Value} {t : List Int} (ht : IntsF F tv t) {arv : Value} {ar : List Int} (har : IntsF F arv ar) {rsv : Value} {rs : List (List Int × List Int)} (hrs : PairsF F rsv rs) {b : Nat} (hzb : FzC F b [arv, rsv]) {n : Int} {c : Nat} (hzc : FzC F c [.int .i64 (n)]) (hsys : sysOk ar rs = true) (hn0 : 0 ≤ n ∧ n ≤ 60) (ho : termOk ar t = true) :
    Does Tryz.prog 90 [tv, ptr b 0, ptr c 0] F (L) (fun v F' L' => ∃ (wa1 : Value), ∃ (wb1 : Value), (.tuple #[.agg #[wa1, wb1], .bool ((walkGo ar rs 1 n.toNat t).2)] : Value) = v ∧ (IntsF F' wa1 (t)) ∧ (StepsF F' wb1 ((walkGo ar rs 1 n.toNat t).1)) ∧ (Fresh F F' (star [intsH 2 wa1 (t), stepsD 2 133 wb1 ((walkGo ar rs 1 n.toNat t).1)])) ∧ L = L') := by
  refine Does.of_X Tryz.func90 rfl rfl rfl ?_
  refine X.seq ?_
  refine X.region ?_
  refine XL.cons (XOp.alloc [(.slice none 0 0), (.slice none 0 0)] Tryz.zeroValue66 rfl ?_)
  intro b1
  refine XL.cons (XOp.assign (.bool (false)) rfl ?_)
  refine XL.nil ?_
  refine X.seq ?_
  refine X.region ?_
  refine XL.cons (XOp.loadN [arv, rsv] Tryz.isAgg37 Tryz.sizeOf37 rfl rfl (FzC.rd hzb rfl) ?_)
  refine XL.cons (XOp.move (tv) rfl ?_)
  refine XL.cons (XOp.load1 (v := .int .i64 (n)) Tryz.isAgg2 rfl (FzC.rd1 hzc rfl) ?_)
  refine XL.cons (XOp.call (args := [.agg #[arv, rsv], tv, .int .i64 (1), .int .i64 (((n).toNat : Nat) : Int)]) Tryz.call56 (by rw [show (((n).toNat : Nat) : Int) = n from by omega]; rfl) (walkBy_spec (st := 1) (n := (n).toNat) har hrs ht (hsys := (by first | assumption | rfl | omega | (left; simp; done) | (right; simp; done))) (ho := (by first | assumption | rfl | omega | (left; simp; done) | (right; simp; done))) (hst := (by first | assumption | rfl | omega | (left; simp; done) | (right; simp; done))) (hn := (by first | assumption | rfl | omega | (left; simp; done) | (right; simp; done)))) ?_)
  rintro _ F1 _ le1 ⟨x1, x2, rfl, hr1, hr2, hr3, rfl⟩
  replace ht := ht.mono le1
  replace har := har.mono le1
  replace hrs := hrs.mono le1
  replace hzb := hzb.mono le1
  replace hzc := hzc.mono le1
  refine XL.cons (XOp.extract (.agg #[x1, x2]) rfl rfl ?_)
  refine XL.cons (XOp.extract (.bool ((walkGo ar rs 1 ((n).toNat) t).2)) rfl rfl ?_)
  refine XL.cons (XOp.storeN (vs := [x1, x2]) [] _ [x1, x2] Tryz.sizeOf66 rfl rfl rfl (ones_cons (one_sl (IntsF.isSl hr1)) (ones_cons (one_sl (StepsF.isSl hr2)) ones_nil)) rfl rfl rfl ?_)
  refine XL.cons (XOp.assign (.bool ((walkGo ar rs 1 ((n).toNat) t).2)) rfl ?_)
  refine XL.nil ?_
  refine X.ret (retEnd (L' := L) [.agg #[x1, x2], .bool ((walkGo ar rs 1 ((n).toNat) t).2)] (.tuple #[.agg #[x1, x2], .bool ((walkGo ar rs 1 ((n).toNat) t).2)]) (.cell rfl (loadNV [x1, x2] Tryz.isAgg66 Tryz.sizeOf66 rfl (Rd.ownN [] rfl rfl)) (.tmp rfl .nil)) rfl le1 (FLe.refl _) (Sub.drop (Sub.refl _)) ?_)
  exact ⟨_, _, rfl, hr1, hr2, hr3, rfl⟩

/- impl.both[impl.Walk] -/
theorem bothWalk_spec {F : FH} {L : List HP} {xv : Value} {x : List Int} (hx : IntsF F xv x) {yv : Value} {y : List Int} (hy : IntsF F yv y) {arv : Value} {ar : List Int} (har : IntsF F arv ar) {rsv : Value} {rs : List (List Int × List Int)} (hrs : PairsF F rsv rs) {b : Nat} (hzb : FzC F b [arv, rsv]) {n : Int} {c : Nat} (hzc : FzC F c [.int .i64 (n)]) (hsys : sysOk ar rs = true) (hn0 : 0 ≤ n ∧ n ≤ 60) (hox : termOk ar x = true) (hoy : termOk ar y = true) :
    Does Tryz.prog 54 [xv, yv, .func (.func 90) #[] #[ptr b 0, ptr c 0]] F (L) (fun v F' L' => ∃ (wa1 : Value), ∃ (wb1 : Value), ∃ (wa2 : Value), ∃ (wb2 : Value), (.tuple #[.agg #[wa1, wb1], .agg #[wa2, wb2], .bool (((walkGo ar rs 1 n.toNat x).2 && (walkGo ar rs 1 n.toNat y).2))] : Value) = v ∧ (IntsF F' wa1 (x)) ∧ (StepsF F' wb1 ((walkGo ar rs 1 n.toNat x).1)) ∧ (IntsF F' wa2 (y)) ∧ (StepsF F' wb2 ((walkGo ar rs 1 n.toNat y).1)) ∧ (Fresh F F' (star [intsH 2 wa1 (x), stepsD 2 133 wb1 ((walkGo ar rs 1 n.toNat x).1), intsH 2 wa2 (y), stepsD 2 133 wb2 ((walkGo ar rs 1 n.toNat y).1)])) ∧ L = L') := by
  refine Does.of_X Tryz.func54 rfl rfl rfl ?_
  refine X.seq ?_
  refine X.region ?_
  refine XL.cons (XOp.alloc [(.slice none 0 0), (.slice none 0 0)] Tryz.zeroValue66 rfl ?_)
  intro b1
  refine XL.cons (XOp.alloc [(.slice none 0 0), (.slice none 0 0)] Tryz.zeroValue66 rfl ?_)
  intro b2
  refine XL.cons (XOp.assign (.bool (false)) rfl ?_)
  refine XL.nil ?_
  refine X.seq ?_
  refine X.region ?_
  refine XL.cons (XOp.move (.func (.func 90) #[] #[ptr b 0, ptr c 0]) rfl ?_)
  refine XL.cons (XOp.move (xv) rfl ?_)
  refine XL.cons (XOp.callV (first := []) (captured := [ptr b 0, ptr c 0]) (args := [xv, ptr b 0, ptr c 0]) Tryz.call90 rfl rfl (RefutedBy1_spec hx har hrs hzb hzc (hsys := (by first | assumption | rfl | omega | (left; simp; done) | (right; simp; done))) (hn0 := (by first | assumption | rfl | omega | (left; simp; done) | (right; simp; done))) (ho := (by first | assumption | rfl | omega | (left; simp; done) | (right; simp; done)))) ?_)
  rintro _ F1 _ le1 ⟨x1, x2, rfl, hr1, hr2, hr3, rfl⟩
  replace hx := hx.mono le1
  replace hy := hy.mono le1
  replace har := har.mono le1
  replace hrs := hrs.mono le1
  replace hzb := hzb.mono le1
  replace hzc := hzc.mono le1
  refine XL.cons (XOp.move (.tuple #[.agg #[x1, x2], .bool ((walkGo ar rs 1 n.toNat x).2)]) rfl ?_)
  refine XL.cons (XOp.extract (.agg #[x1, x2]) rfl rfl ?_)
  refine XL.cons (XOp.extract (.bool ((walkGo ar rs 1 n.toNat x).2)) rfl rfl ?_)
  refine XL.cons (XOp.alloc [(.slice none 0 0), (.slice none 0 0)] Tryz.zeroValue66 rfl ?_)
  intro b3
  refine XL.cons (XOp.storeN (vs := [x1, x2]) [] _ [x1, x2] Tryz.sizeOf66 rfl rfl rfl (ones_cons (one_sl (IntsF.isSl hr1)) (ones_cons (one_sl (StepsF.isSl hr2)) ones_nil)) rfl rfl rfl ?_)
  refine XL.cons (XOp.assign (.bool ((walkGo ar rs 1 n.toNat x).2)) rfl ?_)
  refine XL.nil ?_
  refine X.seq ?_
  refine X.region ?_
  refine XL.cons (XOp.move (.func (.func 90) #[] #[ptr b 0, ptr c 0]) rfl ?_)
  refine XL.cons (XOp.move (yv) rfl ?_)
  refine XL.cons (XOp.callV (first := []) (captured := [ptr b 0, ptr c 0]) (args := [yv, ptr b 0, ptr c 0]) Tryz.call90 rfl rfl (RefutedBy1_spec hy har hrs hzb hzc (hsys := (by first | assumption | rfl | omega | (left; simp; done) | (right; simp; done))) (hn0 := (by first | assumption | rfl | omega | (left; simp; done) | (right; simp; done))) (ho := (by first | assumption | rfl | omega | (left; simp; done) | (right; simp; done)))) ?_)
  rintro _ F2 _ le2 ⟨x3, x4, rfl, hr4, hr5, hr6, rfl⟩
  replace hx := hx.mono le2
  replace hy := hy.mono le2
  replace har := har.mono le2
  replace hrs := hrs.mono le2
  replace hzb := hzb.mono le2
  replace hzc := hzc.mono le2
  replace hr1 := hr1.mono le2
  replace hr2 := hr2.mono le2
  refine XL.cons (XOp.move (.tuple #[.agg #[x3, x4], .bool ((walkGo ar rs 1 n.toNat y).2)]) rfl ?_)
  refine XL.cons (XOp.extract (.agg #[x3, x4]) rfl rfl ?_)
  refine XL.cons (XOp.extract (.bool ((walkGo ar rs 1 n.toNat y).2)) rfl rfl ?_)
  refine XL.cons (XOp.alloc [(.slice none 0 0), (.slice none 0 0)] Tryz.zeroValue66 rfl ?_)
  intro b4
  refine XL.cons (XOp.storeN (vs := [x3, x4]) [] _ [x3, x4] Tryz.sizeOf66 rfl rfl rfl (ones_cons (one_sl (IntsF.isSl hr4)) (ones_cons (one_sl (StepsF.isSl hr5)) ones_nil)) rfl rfl rfl ?_)
  refine XL.cons (XOp.assign (.bool ((walkGo ar rs 1 n.toNat y).2)) rfl ?_)
  refine XL.nil ?_
  refine X.seq ?_
  by_cases h1 : ((walkGo ar rs 1 n.toNat x).2) = true
  · refine X.weaken (Sub.front (A := [_, _])) ?_
    refine X.weaken (Sub.front (A := [_, _, _])) ?_
    show X _ _ _ _ _ _ (cellsH b1 [(.slice none 0 0), (.slice none 0 0)] 66 :: cellsH b2 [(.slice none 0 0), (.slice none 0 0)] 66 :: cellsH b4 [x3, x4] 66 :: cellsH b3 [x1, x2] 66 :: L)
    refine X.drawH [cellsH b4 [x3, x4] 66, cellsH b3 [x1, x2] 66] L 8 [[], [], [], [], [], [], [], []] [[], [], [], [2], [3], [3, 4], [0], [1]] [[], [], [], [], [], [], [], []] (phiG [fun FF us v => v = (.agg #[x1, x2] : Value), fun FF us v => v = (.agg #[x3, x4] : Value), fun FF us v => v = (.bool ((walkGo ar rs 1 n.toNat x).2) : Value), fun FF us v => v = (.bool ((walkGo ar rs 1 n.toNat x).2) : Value), fun FF us v => v = (.bool ((walkGo ar rs 1 n.toNat y).2) : Value), fun FF us v => v = (.bool ((walkGo ar rs 1 n.toNat y).2) : Value), fun FF us v => True, fun FF us v => True]) (ownL [fun us v => [], fun us v => [], fun us v => [], fun us v => [], fun us v => [], fun us v => [], fun us v => [cellsH b1 [x1, x2] 66], fun us v => [cellsH b2 [x3, x4] 66]]) (fun i => ([[], [], [], [], [], [], [cellsH b1 [(.slice none 0 0), (.slice none 0 0)] 66], [cellsH b2 [(.slice none 0 0), (.slice none 0 0)] 66]] : List (List HP)).getD i []) mixed rfl rfl (by kernel_rfl) (by kernel_rfl) (MonoG.get (MonoG.cons (fun le h => h) (MonoG.cons (fun le h => h) (MonoG.cons (fun le h => h) (MonoG.cons (fun le h => h) (MonoG.cons (fun le h => h) (MonoG.cons (fun le h => h) (MonoG.cons (fun le h => h) (MonoG.cons (fun le h => h) MonoG.nil))))))))) ?_ ?_
    · refine stepsT.cons (fun vals Fs R leFs hpZ => ?_) ?_
      · replace hx := hx.mono leFs
        replace hy := hy.mono leFs
        replace har := har.mono leFs
        replace hrs := hrs.mono leFs
        replace hzb := hzb.mono leFs
        replace hzc := hzc.mono leFs
        replace hr1 := hr1.mono leFs
        replace hr2 := hr2.mono leFs
        replace hr4 := hr4.mono leFs
        replace hr5 := hr5.mono leFs
        refine XG.op (XOp.loadN [x1, x2] Tryz.isAgg66 Tryz.sizeOf66 rfl rfl (Rd.ownN [_] rfl rfl) ?_)
        exact ⟨rfl, rfl⟩
      refine stepsT.cons (fun vals Fs R leFs hpZ => ?_) ?_
      · replace hx := hx.mono leFs
        replace hy := hy.mono leFs
        replace har := har.mono leFs
        replace hrs := hrs.mono leFs
        replace hzb := hzb.mono leFs
        replace hzc := hzc.mono leFs
        replace hr1 := hr1.mono leFs
        replace hr2 := hr2.mono leFs
        replace hr4 := hr4.mono leFs
        replace hr5 := hr5.mono leFs
        refine XG.op (XOp.loadN [x3, x4] Tryz.isAgg66 Tryz.sizeOf66 rfl rfl (Rd.ownN [] rfl rfl) ?_)
        exact ⟨rfl, rfl⟩
      refine stepsT.cons (fun vals Fs R leFs hpZ => ?_) ?_
      · refine XG.op (XOp.move (.bool ((walkGo ar rs 1 n.toNat x).2)) rfl ?_)
        exact ⟨rfl, rfl⟩
      refine stepsT.cons (fun vals Fs R leFs hpZ => ?_) ?_
      · have e2 : vals 2 = (.bool ((walkGo ar rs 1 n.toNat x).2) : Value) := hpZ 2 (by decide)
        rw [(envs_of_sat (l := [(2, (.bool ((walkGo ar rs 1 n.toNat x).2) : Value))]) ⟨e2, trivial⟩).symm]
        refine XG.op (XOp.move (.bool ((walkGo ar rs 1 n.toNat x).2)) rfl ?_)
        exact ⟨rfl, rfl⟩
      refine stepsT.cons (fun vals Fs R leFs hpZ => ?_) ?_
      · have e3 : vals 3 = (.bool ((walkGo ar rs 1 n.toNat x).2) : Value) := hpZ 3 (by decide)
        rw [(envs_of_sat (l := [(3, (.bool ((walkGo ar rs 1 n.toNat x).2) : Value))]) ⟨e3, trivial⟩).symm]
        refine XG.yes (t := 28) rfl (congrArg Value.bool h1) (XOp.move (.bool ((walkGo ar rs 1 n.toNat y).2)) rfl ?_)
        exact ⟨rfl, rfl⟩
      refine stepsT.cons (fun vals Fs R leFs hpZ => ?_) ?_
      · have e3 : vals 3 = (.bool ((walkGo ar rs 1 n.toNat x).2) : Value) := hpZ 3 (by decide)
        have e4 : vals 4 = (.bool ((walkGo ar rs 1 n.toNat y).2) : Value) := hpZ 4 (by decide)
        rw [(envs_of_sat (l := [(3, (.bool ((walkGo ar rs 1 n.toNat x).2) : Value)), (4, (.bool ((walkGo ar rs 1 n.toNat y).2) : Value))]) ⟨e3, e4, trivial⟩).symm]
        refine XG.op (XOp.pickT (.bool ((walkGo ar rs 1 n.toNat y).2)) (congrArg Value.bool h1) rfl ?_)
        exact ⟨rfl, rfl⟩
      refine stepsT.cons (fun vals Fs R leFs hpZ => ?_) ?_
      · have e0 : vals 0 = (.agg #[x1, x2] : Value) := hpZ 0 (by decide)
        replace hx := hx.mono leFs
        replace hy := hy.mono leFs
        replace har := har.mono leFs
        replace hrs := hrs.mono leFs
        replace hzb := hzb.mono leFs
        replace hzc := hzc.mono leFs
        replace hr1 := hr1.mono leFs
        replace hr2 := hr2.mono leFs
        replace hr4 := hr4.mono leFs
        replace hr5 := hr5.mono leFs
        rw [(envs_of_sat (l := [(0, (.agg #[x1, x2] : Value))]) ⟨e0, trivial⟩).symm]
        show XG _ _ _ _ _ (cellsH b1 [(.slice none 0 0), (.slice none 0 0)] 66 :: ([cellsH b4 [x3, x4] 66, cellsH b3 [x1, x2] 66] ++ R)) _
        refine XG.op (XOp.storeN (vs := [x1, x2]) [] _ [x1, x2] Tryz.sizeOf66 rfl rfl rfl (ones_cons (one_sl (IntsF.isSl hr1)) (ones_cons (one_sl (StepsF.isSl hr2)) ones_nil)) rfl rfl rfl ?_)
        exact ⟨trivial, rfl⟩
      refine stepsT.cons (fun vals Fs R leFs hpZ => ?_) ?_
      · have e1 : vals 1 = (.agg #[x3, x4] : Value) := hpZ 1 (by decide)
        replace hx := hx.mono leFs
        replace hy := hy.mono leFs
        replace har := har.mono leFs
        replace hrs := hrs.mono leFs
        replace hzb := hzb.mono leFs
        replace hzc := hzc.mono leFs
        replace hr1 := hr1.mono leFs
        replace hr2 := hr2.mono leFs
        replace hr4 := hr4.mono leFs
        replace hr5 := hr5.mono leFs
        rw [(envs_of_sat (l := [(1, (.agg #[x3, x4] : Value))]) ⟨e1, trivial⟩).symm]
        show XG _ _ _ _ _ (cellsH b2 [(.slice none 0 0), (.slice none 0 0)] 66 :: ([cellsH b4 [x3, x4] 66, cellsH b3 [x1, x2] 66] ++ R)) _
        refine XG.op (XOp.storeN (vs := [x3, x4]) [] _ [x3, x4] Tryz.sizeOf66 rfl rfl rfl (ones_cons (one_sl (IntsF.isSl hr4)) (ones_cons (one_sl (StepsF.isSl hr5)) ones_nil)) rfl rfl rfl ?_)
        exact ⟨trivial, rfl⟩
      exact stepsT.nil
    · intro vals F3 le3 hphi
      have e0 : vals 0 = (.agg #[x1, x2] : Value) := hphi 0 (by decide)
      have e1 : vals 1 = (.agg #[x3, x4] : Value) := hphi 1 (by decide)
      have e2 : vals 2 = (.bool ((walkGo ar rs 1 n.toNat x).2) : Value) := hphi 2 (by decide)
      have e3 : vals 3 = (.bool ((walkGo ar rs 1 n.toNat x).2) : Value) := hphi 3 (by decide)
      have e4 : vals 4 = (.bool ((walkGo ar rs 1 n.toNat y).2) : Value) := hphi 4 (by decide)
      have e5 : vals 5 = (.bool ((walkGo ar rs 1 n.toNat y).2) : Value) := hphi 5 (by decide)
      rw [(envs_of_sat (l := [(0, (.agg #[x1, x2] : Value)), (1, (.agg #[x3, x4] : Value)), (2, (.bool ((walkGo ar rs 1 n.toNat x).2) : Value)), (3, (.bool ((walkGo ar rs 1 n.toNat x).2) : Value)), (4, (.bool ((walkGo ar rs 1 n.toNat y).2) : Value)), (5, (.bool ((walkGo ar rs 1 n.toNat y).2) : Value))]) ⟨e0, e1, e2, e3, e4, e5, trivial⟩).symm]
      replace hx := hx.mono le3
      replace hy := hy.mono le3
      replace har := har.mono le3
      replace hrs := hrs.mono le3
      replace hzb := hzb.mono le3
      replace hzc := hzc.mono le3
      replace hr1 := hr1.mono le3
      replace hr2 := hr2.mono le3
      replace hr4 := hr4.mono le3
      replace hr5 := hr5.mono le3
      show XL _ _ _ _ _ _ _ (cellsH b1 [x1, x2] 66 :: cellsH b2 [x3, x4] 66 :: cellsH b4 [x3, x4] 66 :: cellsH b3 [x1, x2] 66 :: L)
      refine XL.cons (XOp.assign (.bool ((walkGo ar rs 1 n.toNat y).2)) rfl ?_)
      refine XL.nil ?_
      refine X.ret (retEnd (L' := L) [.agg #[x1, x2], .agg #[x3, x4], .bool ((walkGo ar rs 1 n.toNat y).2)] (.tuple #[.agg #[x1, x2], .agg #[x3, x4], .bool ((walkGo ar rs 1 n.toNat y).2)]) (.cell rfl (loadNV [x1, x2] Tryz.isAgg66 Tryz.sizeOf66 rfl (Rd.ownN [] rfl rfl)) (.cell rfl (loadNV [x3, x4] Tryz.isAgg66 Tryz.sizeOf66 rfl (Rd.ownN [_] rfl rfl)) (.tmp rfl .nil))) rfl (FLe.trans (FLe.trans le1 le2) le3) (FLe.refl _) (Sub.drop (Sub.drop (Sub.drop (Sub.drop (Sub.refl _))))) ?_)
      exact ⟨_, _, _, _, by first | rfl | (rw [‹(walkGo ar rs 1 n.toNat x).2 = _›]; rfl), hr1, hr2, hr4, hr5, ((Fresh.app hr3 le1 hr6 le2).mono le3), rfl⟩
  · rw [Bool.not_eq_true] at h1
    refine X.weaken (Sub.front (A := [_, _])) ?_
    refine X.weaken (Sub.front (A := [_, _, _])) ?_
    show X _ _ _ _ _ _ (cellsH b1 [(.slice none 0 0), (.slice none 0 0)] 66 :: cellsH b2 [(.slice none 0 0), (.slice none 0 0)] 66 :: cellsH b4 [x3, x4] 66 :: cellsH b3 [x1, x2] 66 :: L)
    refine X.drawH [cellsH b4 [x3, x4] 66, cellsH b3 [x1, x2] 66] L 8 [[], [], [], [], [], [], [], []] [[], [], [], [2], [3], [3, 4], [0], [1]] [[], [], [], [], [], [], [], []] (phiG [fun FF us v => v = (.agg #[x1, x2] : Value), fun FF us v => v = (.agg #[x3, x4] : Value), fun FF us v => v = (.bool ((walkGo ar rs 1 n.toNat x).2) : Value), fun FF us v => v = (.bool ((walkGo ar rs 1 n.toNat x).2) : Value), fun FF us v => v = undef, fun FF us v => v = (.bool (false) : Value), fun FF us v => True, fun FF us v => True]) (ownL [fun us v => [], fun us v => [], fun us v => [], fun us v => [], fun us v => [], fun us v => [], fun us v => [cellsH b1 [x1, x2] 66], fun us v => [cellsH b2 [x3, x4] 66]]) (fun i => ([[], [], [], [], [], [], [cellsH b1 [(.slice none 0 0), (.slice none 0 0)] 66], [cellsH b2 [(.slice none 0 0), (.slice none 0 0)] 66]] : List (List HP)).getD i []) mixed rfl rfl (by kernel_rfl) (by kernel_rfl) (MonoG.get (MonoG.cons (fun le h => h) (MonoG.cons (fun le h => h) (MonoG.cons (fun le h => h) (MonoG.cons (fun le h => h) (MonoG.cons (fun le h => h) (MonoG.cons (fun le h => h) (MonoG.cons (fun le h => h) (MonoG.cons (fun le h => h) MonoG.nil))))))))) ?_ ?_
    · refine stepsT.cons (fun vals Fs R leFs hpZ => ?_) ?_
      · replace hx := hx.mono leFs
        replace hy := hy.mono leFs
        replace har := har.mono leFs
        replace hrs := hrs.mono leFs
        replace hzb := hzb.mono leFs
        replace hzc := hzc.mono leFs
        replace hr1 := hr1.mono leFs
        replace hr2 := hr2.mono leFs
        replace hr4 := hr4.mono leFs
        replace hr5 := hr5.mono leFs
        refine XG.op (XOp.loadN [x1, x2] Tryz.isAgg66 Tryz.sizeOf66 rfl rfl (Rd.ownN [_] rfl rfl) ?_)
        exact ⟨rfl, rfl⟩
      refine stepsT.cons (fun vals Fs R leFs hpZ => ?_) ?_
      · replace hx := hx.mono leFs
        replace hy := hy.mono leFs
        replace har := har.mono leFs
        replace hrs := hrs.mono leFs
        replace hzb := hzb.mono leFs
        replace hzc := hzc.mono leFs
        replace hr1 := hr1.mono leFs
        replace hr2 := hr2.mono leFs
        replace hr4 := hr4.mono leFs
        replace hr5 := hr5.mono leFs
        refine XG.op (XOp.loadN [x3, x4] Tryz.isAgg66 Tryz.sizeOf66 rfl rfl (Rd.ownN [] rfl rfl) ?_)
        exact ⟨rfl, rfl⟩
      refine stepsT.cons (fun vals Fs R leFs hpZ => ?_) ?_
      · refine XG.op (XOp.move (.bool ((walkGo ar rs 1 n.toNat x).2)) rfl ?_)
        exact ⟨rfl, rfl⟩
      refine stepsT.cons (fun vals Fs R leFs hpZ => ?_) ?_
      · have e2 : vals 2 = (.bool ((walkGo ar rs 1 n.toNat x).2) : Value) := hpZ 2 (by decide)
        rw [(envs_of_sat (l := [(2, (.bool ((walkGo ar rs 1 n.toNat x).2) : Value))]) ⟨e2, trivial⟩).symm]
        refine XG.op (XOp.move (.bool ((walkGo ar rs 1 n.toNat x).2)) rfl ?_)
        exact ⟨rfl, rfl⟩
      refine stepsT.cons (fun vals Fs R leFs hpZ => ?_) ?_
      · have e3 : vals 3 = (.bool ((walkGo ar rs 1 n.toNat x).2) : Value) := hpZ 3 (by decide)
        rw [(envs_of_sat (l := [(3, (.bool ((walkGo ar rs 1 n.toNat x).2) : Value))]) ⟨e3, trivial⟩).symm]
        exact XG.no (t := 28) rfl (congrArg Value.bool h1) ⟨rfl, rfl⟩
      refine stepsT.cons (fun vals Fs R leFs hpZ => ?_) ?_
      · have e3 : vals 3 = (.bool ((walkGo ar rs 1 n.toNat x).2) : Value) := hpZ 3 (by decide)
        have e4 : vals 4 = undef := hpZ 4 (by decide)
        rw [(envs_of_sat (l := [(3, (.bool ((walkGo ar rs 1 n.toNat x).2) : Value)), (4, undef)]) ⟨e3, e4, trivial⟩).symm]
        refine XG.op (XOp.pickF (.bool (false)) (congrArg Value.bool h1) rfl ?_)
        exact ⟨rfl, rfl⟩
      refine stepsT.cons (fun vals Fs R leFs hpZ => ?_) ?_
      · have e0 : vals 0 = (.agg #[x1, x2] : Value) := hpZ 0 (by decide)
        replace hx := hx.mono leFs
        replace hy := hy.mono leFs
        replace har := har.mono leFs
        replace hrs := hrs.mono leFs
        replace hzb := hzb.mono leFs
        replace hzc := hzc.mono leFs
        replace hr1 := hr1.mono leFs
        replace hr2 := hr2.mono leFs
        replace hr4 := hr4.mono leFs
        replace hr5 := hr5.mono leFs
        rw [(envs_of_sat (l := [(0, (.agg #[x1, x2] : Value))]) ⟨e0, trivial⟩).symm]
        show XG _ _ _ _ _ (cellsH b1 [(.slice none 0 0), (.slice none 0 0)] 66 :: ([cellsH b4 [x3, x4] 66, cellsH b3 [x1, x2] 66] ++ R)) _
        refine XG.op (XOp.storeN (vs := [x1, x2]) [] _ [x1, x2] Tryz.sizeOf66 rfl rfl rfl (ones_cons (one_sl (IntsF.isSl hr1)) (ones_cons (one_sl (StepsF.isSl hr2)) ones_nil)) rfl rfl rfl ?_)
        exact ⟨trivial, rfl⟩
      refine stepsT.cons (fun vals Fs R leFs hpZ => ?_) ?_
      · have e1 : vals 1 = (.agg #[x3, x4] : Value) := hpZ 1 (by decide)
        replace hx := hx.mono leFs
        replace hy := hy.mono leFs
        replace har := har.mono leFs
        replace hrs := hrs.mono leFs
        replace hzb := hzb.mono leFs
        replace hzc := hzc.mono leFs
        replace hr1 := hr1.mono leFs
        replace hr2 := hr2.mono leFs
        replace hr4 := hr4.mono leFs
        replace hr5 := hr5.mono leFs
        rw [(envs_of_sat (l := [(1, (.agg #[x3, x4] : Value))]) ⟨e1, trivial⟩).symm]
        show XG _ _ _ _ _ (cellsH b2 [(.slice none 0 0), (.slice none 0 0)] 66 :: ([cellsH b4 [x3, x4] 66, cellsH b3 [x1, x2] 66] ++ R)) _
        refine XG.op (XOp.storeN (vs := [x3, x4]) [] _ [x3, x4] Tryz.sizeOf66 rfl rfl rfl (ones_cons (one_sl (IntsF.isSl hr4)) (ones_cons (one_sl (StepsF.isSl hr5)) ones_nil)) rfl rfl rfl ?_)
        exact ⟨trivial, rfl⟩
      exact stepsT.nil
    · intro vals F4 le4 hphi
      have e0 : vals 0 = (.agg #[x1, x2] : Value) := hphi 0 (by decide)
      have e1 : vals 1 = (.agg #[x3, x4] : Value) := hphi 1 (by decide)
      have e2 : vals 2 = (.bool ((walkGo ar rs 1 n.toNat x).2) : Value) := hphi 2 (by decide)
      have e3 : vals 3 = (.bool ((walkGo ar rs 1 n.toNat x).2) : Value) := hphi 3 (by decide)
      have e4 : vals 4 = undef := hphi 4 (by decide)
      have e5 : vals 5 = (.bool (false) : Value) := hphi 5 (by decide)
      rw [(envs_of_sat (l := [(0, (.agg #[x1, x2] : Value)), (1, (.agg #[x3, x4] : Value)), (2, (.bool ((walkGo ar rs 1 n.toNat x).2) : Value)), (3, (.bool ((walkGo ar rs 1 n.toNat x).2) : Value)), (4, undef), (5, (.bool (false) : Value))]) ⟨e0, e1, e2, e3, e4, e5, trivial⟩).symm]
      replace hx := hx.mono le4
      replace hy := hy.mono le4
      replace har := har.mono le4
      replace hrs := hrs.mono le4
      replace hzb := hzb.mono le4
      replace hzc := hzc.mono le4
      replace hr1 := hr1.mono le4
      replace hr2 := hr2.mono le4
      replace hr4 := hr4.mono le4
      replace hr5 := hr5.mono le4
      show XL _ _ _ _ _ _ _ (cellsH b1 [x1, x2] 66 :: cellsH b2 [x3, x4] 66 :: cellsH b4 [x3, x4] 66 :: cellsH b3 [x1, x2] 66 :: L)
      refine XL.cons (XOp.assign (.bool (false)) rfl ?_)
      refine XL.nil ?_
      refine X.ret (retEnd (L' := L) [.agg #[x1, x2], .agg #[x3, x4], .bool (false)] (.tuple #[.agg #[x1, x2], .agg #[x3, x4], .bool (false)]) (.cell rfl (loadNV [x1, x2] Tryz.isAgg66 Tryz.sizeOf66 rfl (Rd.ownN [] rfl rfl)) (.cell rfl (loadNV [x3, x4] Tryz.isAgg66 Tryz.sizeOf66 rfl (Rd.ownN [_] rfl rfl)) (.tmp rfl .nil))) rfl (FLe.trans (FLe.trans le1 le2) le4) (FLe.refl _) (Sub.drop (Sub.drop (Sub.drop (Sub.drop (Sub.refl _))))) ?_)
      exact ⟨_, _, _, _, by first | rfl | (rw [‹(walkGo ar rs 1 n.toNat x).2 = _›]; rfl), hr1, hr2, hr4, hr5, ((Fresh.app hr3 le1 hr6 le2).mono le4), rfl⟩

/- impl.RefutedBy -/
theorem RefutedBy_spec {F : FH} {L : List HP} {arv : Value} {ar : List Int} (har : IntsF F arv ar) {rsv : Value} {rs : List (List Int × List Int)} (hrs : PairsF F rsv rs) {av : Value} {a : List Int} (ha : IntsF F av a) {bv : Value} {b : List Int} (hb : IntsF F bv b) {n : Int} :
    Does Tryz.prog 39 [.agg #[arv, rsv], av, bv, .int .i64 (n)] F (L) (fun v F' L' => ∃ (wa1 : Value), ∃ (wb1 : Value), ∃ (wa2 : Value), ∃ (wb2 : Value), (.tuple #[.agg #[wa1, wb1], .agg #[wa2, wb2], .bool ((refW ar rs a b a n).2.2)] : Value) = v ∧ (IntsF F' wa1 ((refW ar rs a b a n).1)) ∧ (StepsF F' wb1 ((refW ar rs a b a n).2.1)) ∧ (IntsF F' wa2 ((refW ar rs a b b n).1)) ∧ (StepsF F' wb2 ((refW ar rs a b b n).2.1)) ∧ (Fresh F F' (star [intsH 2 wa1 ((refW ar rs a b a n).1), stepsD 2 133 wb1 ((refW ar rs a b a n).2.1), intsH 2 wa2 ((refW ar rs a b b n).1), stepsD 2 133 wb2 ((refW ar rs a b b n).2.1)])) ∧ L = L') := by
  refine Does.of_X Tryz.func39 rfl rfl rfl ?_
  refine X.seq ?_
  refine X.region ?_
  refine XL.cons (XOp.box [arv, rsv] rfl rfl ?_)
  intro b1
  refine XL.cons (XOp.box [.int .i64 (n)] rfl rfl ?_)
  intro b2
  refine XL.cons (XOp.alloc [(.slice none 0 0), (.slice none 0 0)] Tryz.zeroValue66 rfl ?_)
  intro b3
  refine XL.cons (XOp.alloc [(.slice none 0 0), (.slice none 0 0)] Tryz.zeroValue66 rfl ?_)
  intro b4
  refine XL.cons (XOp.assign (.bool (false)) rfl ?_)
  refine XL.nil ?_
  refine X.seq ?_
  refine X.seq ?_
  refine X.region ?_
  refine XL.cons (XOp.loadN [arv, rsv] Tryz.isAgg37 Tryz.sizeOf37 rfl rfl (Rd.ownN [_, _, _] rfl rfl) ?_)
  refine XL.cons (XOp.move (av) rfl ?_)
  refine XL.cons (XOp.move (bv) rfl ?_)
  refine XL.cons (XOp.load1 (v := .int .i64 (n)) Tryz.isAgg2 rfl (Rd.own [_, _] rfl rfl) ?_)
  refine XL.cons (XOp.call (args := [.agg #[arv, rsv], av, bv, .int .i64 (n)]) Tryz.call53 rfl (EqualBy_spec (n := n) har hrs ha hb) ?_)
  rintro _ _ _ _ ⟨rfl, rfl, rfl⟩
  refine XL.cons (XOp.neq (a := eqB ar rs a b n) (b := 0) rfl rfl ?_)
  refine XL.nil ?_
  refine X.condD (p := (eqB ar rs a b n : Int) ≠ 0) rfl (fun h1 => ?_) (fun h1 => ?_)
  · refine X.seq ?_
    refine X.region ?_
    refine XL.cons (XOp.build [(.slice none 0 0), (.slice none 0 0)] [(.slice none 0 0), (.slice none 0 0)] [(0, 1), (1, 1)] [] Tryz.runUnderlying66 Tryz.zeroValue66 rfl (.cons rfl Tryz.sizeOf22 (.cons rfl Tryz.sizeOf64 PlacesAre.nil)) rfl CellsAre.nil ?_)
    refine XL.cons (XOp.build [(.slice none 0 0), (.slice none 0 0)] [(.slice none 0 0), (.slice none 0 0)] [(0, 1), (1, 1)] [] Tryz.runUnderlying66 Tryz.zeroValue66 rfl (.cons rfl Tryz.sizeOf22 (.cons rfl Tryz.sizeOf64 PlacesAre.nil)) rfl CellsAre.nil ?_)
    refine XL.cons (XOp.storeN (vs := [(.slice none 0 0), (.slice none 0 0)]) [_] _ [(.slice none 0 0), (.slice none 0 0)] Tryz.sizeOf66 rfl rfl rfl (ones_cons rfl (ones_cons rfl ones_nil)) rfl rfl rfl ?_)
    refine XL.cons (XOp.storeN (vs := [(.slice none 0 0), (.slice none 0 0)]) [] _ [(.slice none 0 0), (.slice none 0 0)] Tryz.sizeOf66 rfl rfl rfl (ones_cons rfl (ones_cons rfl ones_nil)) rfl rfl rfl ?_)
    refine XL.cons (XOp.assign (.bool (false)) rfl ?_)
    refine XL.nil ?_
    refine X.ret (thenQ_ret (retEnd (L' := L) [.agg #[(.slice none 0 0), (.slice none 0 0)], .agg #[(.slice none 0 0), (.slice none 0 0)], .bool (false)] (.tuple #[.agg #[(.slice none 0 0), (.slice none 0 0)], .agg #[(.slice none 0 0), (.slice none 0 0)], .bool (false)]) (.cell rfl (loadNV [(.slice none 0 0), (.slice none 0 0)] Tryz.isAgg66 Tryz.sizeOf66 rfl (Rd.ownN [_] rfl rfl)) (.cell rfl (loadNV [(.slice none 0 0), (.slice none 0 0)] Tryz.isAgg66 Tryz.sizeOf66 rfl (Rd.ownN [] rfl rfl)) (.tmp rfl .nil))) rfl (FLe.refl _) (FLe.refl _) (Sub.drop (Sub.drop (Sub.drop (Sub.drop (Sub.refl _))))) ?_))
    have q1 : refW ar rs a b a n = ([], [], false) := refW_no (by assumption)
    have q2 : refW ar rs a b b n = ([], [], false) := refW_no (by assumption)
    exact ⟨_, _, _, _, by rw [q1], by rw [q1]; exact IntsF.nilV, by rw [q1]; exact SlOf.nilV, by rw [q2]; exact IntsF.nilV, by rw [q2]; exact SlOf.nilV, by rw [q1, q2]; exact Fresh.app (M := [_, _]) (Fresh.empty nilWalk) (FLe.refl _) (Fresh.empty nilWalk) (FLe.refl _), rfl⟩
  · have q0 : eqB ar rs a b n = 0 := Classical.not_not.1 h1
    have q4 := eqB_right q0
    have hsys := (right_iff.1 q4.1.1).1
    have hoa := (right_iff.1 q4.1.1).2
    have hob := (right_iff.1 q4.1.2).2
    have hn0 := q4.2
    obtain ⟨q1, q2, q5, q6⟩ := refW_go q0
    have q7 := refW_yes (t := a) q0
    have q8 := refW_yes (t := b) q0
    refine X.skip ?_
    refine X.seq ?_
    refine X.region ?_
    refine XL.cons (XOp.move (av) rfl ?_)
    refine XL.cons (XOp.move (bv) rfl ?_)
    refine XL.cons (XOp.makeFuncL [] [ptr b1 0, ptr b2 0] rfl rfl ?_)
    refine XL.freeze [_, _, _] _ _ rfl (fun F1 le1 hz1 => ?_)
    replace har := har.mono le1
    replace hrs := hrs.mono le1
    replace ha := ha.mono le1
    replace hb := hb.mono le1
    have hf1 : FzC F1 b1 [arv, rsv] := Fz.cells hz1
    refine XL.freeze [_, _] _ _ rfl (fun F2 le2 hz2 => ?_)
    replace har := har.mono le2
    replace hrs := hrs.mono le2
    replace ha := ha.mono le2
    replace hb := hb.mono le2
    replace hf1 := hf1.mono le2
    have hf2 : FzC F2 b2 [.int .i64 (n)] := Fz.cells hz2
    refine XL.cons (XOp.call (args := [av, bv, .func (.func 90) #[] #[ptr b1 0, ptr b2 0]]) Tryz.call54 rfl (bothWalk_spec ha hb har hrs hf1 hf2 (hsys := (by first | assumption | rfl | omega | (left; simp; done) | (right; simp; done))) (hn0 := (by first | assumption | rfl | omega | (left; simp; done) | (right; simp; done))) (hox := (by first | assumption | rfl | omega | (left; simp; done) | (right; simp; done))) (hoy := (by first | assumption | rfl | omega | (left; simp; done) | (right; simp; done)))) ?_)
    rintro _ F3 _ le3 ⟨x1, x2, x3, x4, rfl, hr1, hr2, hr3, hr4, hr5, rfl⟩
    replace har := har.mono le3
    replace hrs := hrs.mono le3
    replace ha := ha.mono le3
    replace hb := hb.mono le3
    replace hf1 := hf1.mono le3
    replace hf2 := hf2.mono le3
    refine XL.cons (XOp.extract (.agg #[x1, x2]) rfl rfl ?_)
    refine XL.cons (XOp.extract (.agg #[x3, x4]) rfl rfl ?_)
    refine XL.cons (XOp.extract (.bool (((walkGo ar rs 1 n.toNat a).2 && (walkGo ar rs 1 n.toNat b).2))) rfl rfl ?_)
    refine XL.cons (XOp.storeN (vs := [x1, x2]) [_] _ [x1, x2] Tryz.sizeOf66 rfl rfl rfl (ones_cons (one_sl (IntsF.isSl hr1)) (ones_cons (one_sl (StepsF.isSl hr2)) ones_nil)) rfl rfl rfl ?_)
    refine XL.cons (XOp.storeN (vs := [x3, x4]) [] _ [x3, x4] Tryz.sizeOf66 rfl rfl rfl (ones_cons (one_sl (IntsF.isSl hr3)) (ones_cons (one_sl (StepsF.isSl hr4)) ones_nil)) rfl rfl rfl ?_)
    refine XL.cons (XOp.assign (.bool (((walkGo ar rs 1 n.toNat a).2 && (walkGo ar rs 1 n.toNat b).2))) rfl ?_)
    refine XL.nil ?_
    refine X.ret (retEnd (L' := L) [.agg #[x1, x2], .agg #[x3, x4], .bool (((walkGo ar rs 1 n.toNat a).2 && (walkGo ar rs 1 n.toNat b).2))] (.tuple #[.agg #[x1, x2], .agg #[x3, x4], .bool (((walkGo ar rs 1 n.toNat a).2 && (walkGo ar rs 1 n.toNat b).2))]) (.cell rfl (loadNV [x1, x2] Tryz.isAgg66 Tryz.sizeOf66 rfl (Rd.ownN [_] rfl rfl)) (.cell rfl (loadNV [x3, x4] Tryz.isAgg66 Tryz.sizeOf66 rfl (Rd.ownN [] rfl rfl)) (.tmp rfl .nil))) rfl (FLe.trans (FLe.trans le1 le2) le3) (FLe.refl _) (Sub.drop (Sub.drop (Sub.refl _))) ?_)
    exact ⟨_, _, _, _, by rw [q1, q5, q6]; rfl, by rw [q1]; exact hr1, by rw [q1]; exact hr2, by rw [q2]; exact hr3, by rw [q2]; exact hr4, by rw [q1, q2]; exact (hr5.base (FLe.trans le1 le2)), rfl⟩

/- spec.RefutedBy -/
theorem sRefutedBy_spec {F : FH} {L : List HP} {arv : Value} {ar : List Int} (har : IntsF F arv ar) {rsv : Value} {rs : List (List Int × List Int)} (hrs : PairsF F rsv rs) {av : Value} {a : List Int} (ha : IntsF F av a) {bv : Value} {b : List Int} (hb : IntsF F bv b) {n : Int} (hla : ar.length ≤ 4000000) (hlr : rs.length ≤ 4000000) (hrb : ∀ i, i < rs.length → (rs.getD i ([], [])).1.length ≤ 4000000 ∧ (rs.getD i ([], [])).2.length ≤ 4000000) (hlta : a.length ≤ 4000000) (hltb : b.length ≤ 4000000) :
    Does Tryz.prog 38 [.agg #[arv, rsv], av, bv, .int .i64 (n)] F (L) (fun v F' L' => ∃ (wa1 : Value), ∃ (wb1 : Value), ∃ (wa2 : Value), ∃ (wb2 : Value), (.tuple #[.agg #[wa1, wb1], .agg #[wa2, wb2], .bool ((refW ar rs a b a n).2.2)] : Value) = v ∧ (IntsF F' wa1 ((refW ar rs a b a n).1)) ∧ (StepsF F' wb1 ((refW ar rs a b a n).2.1)) ∧ (IntsF F' wa2 ((refW ar rs a b b n).1)) ∧ (StepsF F' wb2 ((refW ar rs a b b n).2.1)) ∧ L = L') := by
  refine Does.of_X Tryz.func38 rfl rfl rfl ?_
  refine X.seq ?_
  refine X.region ?_
  refine XL.cons (XOp.box [arv, rsv] rfl rfl ?_)
  intro b1
  refine XL.cons (XOp.alloc [(.slice none 0 0), (.slice none 0 0)] Tryz.zeroValue66 rfl ?_)
  intro b2
  refine XL.cons (XOp.alloc [(.slice none 0 0), (.slice none 0 0)] Tryz.zeroValue66 rfl ?_)
  intro b3
  refine XL.cons (XOp.assign (.bool (false)) rfl ?_)
  refine XL.nil ?_
  refine X.seq ?_
  refine X.seq ?_
  refine X.region ?_
  refine XL.cons (XOp.loadN [arv, rsv] Tryz.isAgg37 Tryz.sizeOf37 rfl rfl (Rd.ownN [_, _] rfl rfl) ?_)
  refine XL.cons (XOp.move (av) rfl ?_)
  refine XL.cons (XOp.move (bv) rfl ?_)
  refine XL.cons (XOp.move (.int .i64 (n)) rfl ?_)
  refine XL.cons (XOp.call (args := [.agg #[arv, rsv], av, bv, .int .i64 (n)]) Tryz.call49 rfl (sEqualBy_spec (n := n) har hrs ha hb (hla := (by first | assumption | rfl | omega | (left; simp; done) | (right; simp; done))) (hlr := (by first | assumption | rfl | omega | (left; simp; done) | (right; simp; done))) (hrb := (by first | assumption | rfl | omega | (left; simp; done) | (right; simp; done))) (hlta := (by first | assumption | rfl | omega | (left; simp; done) | (right; simp; done))) (hltb := (by first | assumption | rfl | omega | (left; simp; done) | (right; simp; done)))) ?_)
  rintro _ _ _ _ ⟨rfl, rfl, rfl⟩
  refine XL.cons (XOp.neq (a := eqB ar rs a b n) (b := 0) rfl rfl ?_)
  refine XL.nil ?_
  refine X.condD (p := (eqB ar rs a b n : Int) ≠ 0) rfl (fun h1 => ?_) (fun h1 => ?_)
  · refine X.seq ?_
    refine X.region ?_
    refine XL.cons (XOp.build [(.slice none 0 0), (.slice none 0 0)] [(.slice none 0 0), (.slice none 0 0)] [(0, 1), (1, 1)] [] Tryz.runUnderlying66 Tryz.zeroValue66 rfl (.cons rfl Tryz.sizeOf22 (.cons rfl Tryz.sizeOf64 PlacesAre.nil)) rfl CellsAre.nil ?_)
    refine XL.cons (XOp.build [(.slice none 0 0), (.slice none 0 0)] [(.slice none 0 0), (.slice none 0 0)] [(0, 1), (1, 1)] [] Tryz.runUnderlying66 Tryz.zeroValue66 rfl (.cons rfl Tryz.sizeOf22 (.cons rfl Tryz.sizeOf64 PlacesAre.nil)) rfl CellsAre.nil ?_)
    refine XL.cons (XOp.storeN (vs := [(.slice none 0 0), (.slice none 0 0)]) [_] _ [(.slice none 0 0), (.slice none 0 0)] Tryz.sizeOf66 rfl rfl rfl (ones_cons rfl (ones_cons rfl ones_nil)) rfl rfl rfl ?_)
    refine XL.cons (XOp.storeN (vs := [(.slice none 0 0), (.slice none 0 0)]) [] _ [(.slice none 0 0), (.slice none 0 0)] Tryz.sizeOf66 rfl rfl rfl (ones_cons rfl (ones_cons rfl ones_nil)) rfl rfl rfl ?_)
    refine XL.cons (XOp.assign (.bool (false)) rfl ?_)
    refine XL.nil ?_
    refine X.ret (thenQ_ret (retEnd (L' := L) [.agg #[(.slice none 0 0), (.slice none 0 0)], .agg #[(.slice none 0 0), (.slice none 0 0)], .bool (false)] (.tuple #[.agg #[(.slice none 0 0), (.slice none 0 0)], .agg #[(.slice none 0 0), (.slice none 0 0)], .bool (false)]) (.cell rfl (loadNV [(.slice none 0 0), (.slice none 0 0)] Tryz.isAgg66 Tryz.sizeOf66 rfl (Rd.ownN [_] rfl rfl)) (.cell rfl (loadNV [(.slice none 0 0), (.slice none 0 0)] Tryz.isAgg66 Tryz.sizeOf66 rfl (Rd.ownN [] rfl rfl)) (.tmp rfl .nil))) rfl (FLe.refl _) (FLe.refl _) (Sub.drop (Sub.drop (Sub.drop (Sub.refl _)))) ?_))
    have q1 : refW ar rs a b a n = ([], [], false) := refW_no (by assumption)
    have q2 : refW ar rs a b b n = ([], [], false) := refW_no (by assumption)
    exact ⟨_, _, _, _, by rw [q1], by rw [q1]; exact IntsF.nilV, by rw [q1]; exact SlOf.nilV, by rw [q2]; exact IntsF.nilV, by rw [q2]; exact SlOf.nilV, rfl⟩
  · have q0 : eqB ar rs a b n = 0 := Classical.not_not.1 h1
    have q4 := eqB_right q0
    have hsys := (right_iff.1 q4.1.1).1
    have hoa := (right_iff.1 q4.1.1).2
    have hob := (right_iff.1 q4.1.2).2
    have hn0 := q4.2
    obtain ⟨q1, q2, q5, q6⟩ := refW_go q0
    have q7 := refW_yes (t := a) q0
    have q8 := refW_yes (t := b) q0
    refine X.skip ?_
    refine X.seq ?_
    refine X.region ?_
    refine XL.cons (XOp.loadN [arv, rsv] Tryz.isAgg37 Tryz.sizeOf37 rfl rfl (Rd.ownN [_, _] rfl rfl) ?_)
    refine XL.cons (XOp.move (av) rfl ?_)
    refine XL.cons (XOp.move (.int .i64 (n)) rfl ?_)
    refine XL.cons (XOp.call (args := [.agg #[arv, rsv], av, .int .i64 (1), .int .i64 (n)]) Tryz.call50 rfl (sWalkBy_spec (st := 1) (n := n) har hrs ha (hla := (by first | assumption | rfl | omega | (left; simp; done) | (right; simp; done))) (hlr := (by first | assumption | rfl | omega | (left; simp; done) | (right; simp; done))) (hrb := (by first | assumption | rfl | omega | (left; simp; done) | (right; simp; done))) (hlt := (by first | assumption | rfl | omega | (left; simp; done) | (right; simp; done)))) ?_)
    rintro _ F1 _ le1 ⟨x1, x2, rfl, hr1, hr2, rfl⟩
    replace har := har.mono le1
    replace hrs := hrs.mono le1
    replace ha := ha.mono le1
    replace hb := hb.mono le1
    refine XL.cons (XOp.move (.tuple #[.agg #[x1, x2], .bool ((walkB ar rs a 1 n).2.2)]) rfl ?_)
    refine XL.cons (XOp.extract (.agg #[x1, x2]) rfl rfl ?_)
    refine XL.cons (XOp.extract (.bool ((walkB ar rs a 1 n).2.2)) rfl rfl ?_)
    refine XL.cons (XOp.alloc [(.slice none 0 0), (.slice none 0 0)] Tryz.zeroValue66 rfl ?_)
    intro b4
    refine XL.cons (XOp.storeN (vs := [x1, x2]) [] _ [x1, x2] Tryz.sizeOf66 rfl rfl rfl (ones_cons (one_sl (IntsF.isSl hr1)) (ones_cons (one_sl (StepsF.isSl hr2)) ones_nil)) rfl rfl rfl ?_)
    refine XL.cons (XOp.assign (.bool ((walkB ar rs a 1 n).2.2)) rfl ?_)
    refine XL.nil ?_
    refine X.seq ?_
    refine X.region ?_
    refine XL.cons (XOp.loadN [arv, rsv] Tryz.isAgg37 Tryz.sizeOf37 rfl rfl (Rd.ownN [_, _, _] rfl rfl) ?_)
    refine XL.cons (XOp.move (bv) rfl ?_)
    refine XL.cons (XOp.move (.int .i64 (n)) rfl ?_)
    refine XL.cons (XOp.call (args := [.agg #[arv, rsv], bv, .int .i64 (1), .int .i64 (n)]) Tryz.call50 rfl (sWalkBy_spec (st := 1) (n := n) har hrs hb (hla := (by first | assumption | rfl | omega | (left; simp; done) | (right; simp; done))) (hlr := (by first | assumption | rfl | omega | (left; simp; done) | (right; simp; done))) (hrb := (by first | assumption | rfl | omega | (left; simp; done) | (right; simp; done))) (hlt := (by first | assumption | rfl | omega | (left; simp; done) | (right; simp; done)))) ?_)
    rintro _ F2 _ le2 ⟨x3, x4, rfl, hr3, hr4, rfl⟩
    replace har := har.mono le2
    replace hrs := hrs.mono le2
    replace ha := ha.mono le2
    replace hb := hb.mono le2
    replace hr1 := hr1.mono le2
    replace hr2 := hr2.mono le2
    refine XL.cons (XOp.move (.tuple #[.agg #[x3, x4], .bool ((walkB ar rs b 1 n).2.2)]) rfl ?_)
    refine XL.cons (XOp.extract (.agg #[x3, x4]) rfl rfl ?_)
    refine XL.cons (XOp.extract (.bool ((walkB ar rs b 1 n).2.2)) rfl rfl ?_)
    refine XL.cons (XOp.alloc [(.slice none 0 0), (.slice none 0 0)] Tryz.zeroValue66 rfl ?_)
    intro b5
    refine XL.cons (XOp.storeN (vs := [x3, x4]) [] _ [x3, x4] Tryz.sizeOf66 rfl rfl rfl (ones_cons (one_sl (IntsF.isSl hr3)) (ones_cons (one_sl (StepsF.isSl hr4)) ones_nil)) rfl rfl rfl ?_)
    refine XL.cons (XOp.assign (.bool ((walkB ar rs b 1 n).2.2)) rfl ?_)
    refine XL.nil ?_
    refine X.seq ?_
    refine X.weaken (Sub.front (A := [_, _, _])) ?_
    show X _ _ _ _ _ _ (cellsH b2 [(.slice none 0 0), (.slice none 0 0)] 66 :: cellsH b5 [x3, x4] 66 :: cellsH b4 [x1, x2] 66 :: cellsH b3 [(.slice none 0 0), (.slice none 0 0)] 66 :: cellsH b1 [arv, rsv] 37 :: L)
    refine X.drawH [cellsH b5 [x3, x4] 66, cellsH b4 [x1, x2] 66, cellsH b3 [(.slice none 0 0), (.slice none 0 0)] 66, cellsH b1 [arv, rsv] 37] L 3 [[], [], []] [[], [], [0]] [[], [], []] (phiG [fun FF us v => v = (.agg #[x1, x2] : Value), fun FF us v => v = (.agg #[x3, x4] : Value), fun FF us v => True]) (ownL [fun us v => [], fun us v => [], fun us v => [cellsH b2 [x1, x2] 66]]) (fun i => ([[], [], [cellsH b2 [(.slice none 0 0), (.slice none 0 0)] 66]] : List (List HP)).getD i []) mixed rfl rfl (by kernel_rfl) (by kernel_rfl) (MonoG.get (MonoG.cons (fun le h => h) (MonoG.cons (fun le h => h) (MonoG.cons (fun le h => h) MonoG.nil)))) ?_ ?_
    · refine stepsT.cons (fun vals Fs R leFs hpZ => ?_) ?_
      · replace har := har.mono leFs
        replace hrs := hrs.mono leFs
        replace ha := ha.mono leFs
        replace hb := hb.mono leFs
        replace hr1 := hr1.mono leFs
        replace hr2 := hr2.mono leFs
        replace hr3 := hr3.mono leFs
        replace hr4 := hr4.mono leFs
        refine XG.op (XOp.loadN [x1, x2] Tryz.isAgg66 Tryz.sizeOf66 rfl rfl (Rd.ownN [_] rfl rfl) ?_)
        exact ⟨rfl, rfl⟩
      refine stepsT.cons (fun vals Fs R leFs hpZ => ?_) ?_
      · replace har := har.mono leFs
        replace hrs := hrs.mono leFs
        replace ha := ha.mono leFs
        replace hb := hb.mono leFs
        replace hr1 := hr1.mono leFs
        replace hr2 := hr2.mono leFs
        replace hr3 := hr3.mono leFs
        replace hr4 := hr4.mono leFs
        refine XG.op (XOp.loadN [x3, x4] Tryz.isAgg66 Tryz.sizeOf66 rfl rfl (Rd.ownN [] rfl rfl) ?_)
        exact ⟨rfl, rfl⟩
      refine stepsT.cons (fun vals Fs R leFs hpZ => ?_) ?_
      · have e0 : vals 0 = (.agg #[x1, x2] : Value) := hpZ 0 (by decide)
        replace har := har.mono leFs
        replace hrs := hrs.mono leFs
        replace ha := ha.mono leFs
        replace hb := hb.mono leFs
        replace hr1 := hr1.mono leFs
        replace hr2 := hr2.mono leFs
        replace hr3 := hr3.mono leFs
        replace hr4 := hr4.mono leFs
        rw [(envs_of_sat (l := [(0, (.agg #[x1, x2] : Value))]) ⟨e0, trivial⟩).symm]
        show XG _ _ _ _ _ (cellsH b2 [(.slice none 0 0), (.slice none 0 0)] 66 :: ([cellsH b5 [x3, x4] 66, cellsH b4 [x1, x2] 66, cellsH b3 [(.slice none 0 0), (.slice none 0 0)] 66, cellsH b1 [arv, rsv] 37] ++ R)) _
        refine XG.op (XOp.storeN (vs := [x1, x2]) [] _ [x1, x2] Tryz.sizeOf66 rfl rfl rfl (ones_cons (one_sl (IntsF.isSl hr1)) (ones_cons (one_sl (StepsF.isSl hr2)) ones_nil)) rfl rfl rfl ?_)
        exact ⟨trivial, rfl⟩
      exact stepsT.nil
    · intro vals F3 le3 hphi
      have e0 : vals 0 = (.agg #[x1, x2] : Value) := hphi 0 (by decide)
      have e1 : vals 1 = (.agg #[x3, x4] : Value) := hphi 1 (by decide)
      rw [(envs_of_sat (l := [(0, (.agg #[x1, x2] : Value)), (1, (.agg #[x3, x4] : Value))]) ⟨e0, e1, trivial⟩).symm]
      replace har := har.mono le3
      replace hrs := hrs.mono le3
      replace ha := ha.mono le3
      replace hb := hb.mono le3
      replace hr1 := hr1.mono le3
      replace hr2 := hr2.mono le3
      replace hr3 := hr3.mono le3
      replace hr4 := hr4.mono le3
      show XL _ _ _ _ _ _ _ (cellsH b2 [x1, x2] 66 :: cellsH b5 [x3, x4] 66 :: cellsH b4 [x1, x2] 66 :: cellsH b3 [(.slice none 0 0), (.slice none 0 0)] 66 :: cellsH b1 [arv, rsv] 37 :: L)
      refine XL.cons (XOp.storeN (vs := [x3, x4]) [_, _, _] _ [x3, x4] Tryz.sizeOf66 rfl rfl rfl (ones_cons (one_sl (IntsF.isSl hr3)) (ones_cons (one_sl (StepsF.isSl hr4)) ones_nil)) rfl rfl rfl ?_)
      refine XL.cons (XOp.assign (.bool (true)) rfl ?_)
      refine XL.nil ?_
      refine X.ret (retEnd (L' := L) [.agg #[x1, x2], .agg #[x3, x4], .bool (true)] (.tuple #[.agg #[x1, x2], .agg #[x3, x4], .bool (true)]) (.cell rfl (loadNV [x1, x2] Tryz.isAgg66 Tryz.sizeOf66 rfl (Rd.ownN [] rfl rfl)) (.cell rfl (loadNV [x3, x4] Tryz.isAgg66 Tryz.sizeOf66 rfl (Rd.ownN [_, _, _] rfl rfl)) (.tmp rfl .nil))) rfl (FLe.trans (FLe.trans le1 le2) le3) (FLe.refl _) (Sub.drop (Sub.drop (Sub.drop (Sub.drop (Sub.drop (Sub.refl _)))))) ?_)
      exact ⟨_, _, _, _, by rw [q1, q5], by rw [q7]; exact hr1, by rw [q7]; exact hr2, by rw [q8]; exact hr3, by rw [q8]; exact hr4, rfl⟩

/- laws.FnExactRefutedBy -/
set_option maxRecDepth 20000 in
theorem FnExactRefutedBy_does {F : FH} {L : List HP} {arv : Value} {ar : List Int} (har : IntsF F arv ar) {rsv : Value} {rs : List (List Int × List Int)} (hrs : PairsF F rsv rs) {av : Value} {a : List Int} (ha : IntsF F av a) {bv : Value} {b : List Int} (hb : IntsF F bv b) {n : Int} (hlar : ar.length ≤ 9223372036854775807) (hlrs : rs.length ≤ 9223372036854775807) (hbrs : ∀ i, i < rs.length → (rs.getD i ([], [])).1.length ≤ 9223372036854775807 ∧ (rs.getD i ([], [])).2.length ≤ 9223372036854775807) (hla : a.length ≤ 9223372036854775807) (hlb : b.length ≤ 9223372036854775807) :
    Does Tryz.prog 8 [.agg #[arv, rsv], av, bv, .int .i64 (n)] F (L) (fun v F' L' => (.bool (true) : Value) = v ∧ F = F' ∧ L = L') := by
  refine Does.of_X Tryz.func8 rfl rfl rfl ?_
  have hnb91 := refW_len (ar := ar) (rs := rs) (a := a) (b := b) (t := a) (n := n)
  have hnc91 := refW_bounds (ar := ar) (rs := rs) (a := a) (b := b) (t := a) (n := n)
  have hnd91 := hnc91.2.1
  have hne91 := hnc91.2.2
  have hnb92 := refW_len (ar := ar) (rs := rs) (a := a) (b := b) (t := b) (n := n)
  have hnc92 := refW_bounds (ar := ar) (rs := rs) (a := a) (b := b) (t := b) (n := n)
  have hnd92 := hnc92.2.1
  have hne92 := hnc92.2.2
  refine X.seq ?_
  refine X.region ?_
  refine XL.cons (XOp.box [arv, rsv] rfl rfl ?_)
  intro b1
  refine XL.cons (XOp.assign (.bool (false)) rfl ?_)
  refine XL.nil ?_
  refine X.seq ?_
  refine X.seq ?_
  refine X.region ?_
  refine XL.cons (XOp.move (av) rfl ?_)
  refine XL.cons (XOp.lenS (v := av) (n := (a).length) Tryz.runUnderlying22 rfl ha.slv ?_)
  refine XL.cons (XOp.gtr (a := (((a).length : Nat) : Int)) (b := 1048576) rfl rfl ?_)
  refine XL.nil ?_
  refine X.condD (p := ((((a).length : Nat) : Int) : Int) > 1048576) rfl (fun h1 => ?_) (fun h1 => ?_)
  · refine X.seq ?_
    refine X.region ?_
    refine XL.cons (XOp.assign (.bool (true)) rfl ?_)
    refine XL.nil ?_
    refine X.ret (thenQ_ret (retEnd (L' := L) [.bool (true)] (.bool (true)) (.tmp rfl .nil) rfl (FLe.refl _) (FLe.refl _) (Sub.drop (Sub.refl _)) ?_))
    exact ⟨rfl, rfl, rfl⟩
  · refine X.skip ?_
    refine X.seq ?_
    refine X.seq ?_
    refine X.region ?_
    refine XL.cons (XOp.move (bv) rfl ?_)
    refine XL.cons (XOp.lenS (v := bv) (n := (b).length) Tryz.runUnderlying22 rfl hb.slv ?_)
    refine XL.cons (XOp.gtr (a := (((b).length : Nat) : Int)) (b := 1048576) rfl rfl ?_)
    refine XL.nil ?_
    refine X.condD (p := ((((b).length : Nat) : Int) : Int) > 1048576) rfl (fun h2 => ?_) (fun h2 => ?_)
    · refine X.seq ?_
      refine X.region ?_
      refine XL.cons (XOp.assign (.bool (true)) rfl ?_)
      refine XL.nil ?_
      refine X.ret (thenQ_ret (retEnd (L' := L) [.bool (true)] (.bool (true)) (.tmp rfl .nil) rfl (FLe.refl _) (FLe.refl _) (Sub.drop (Sub.refl _)) ?_))
      exact ⟨rfl, rfl, rfl⟩
    · refine X.skip ?_
      refine X.seq ?_
      refine X.region ?_
      refine XL.cons (XOp.assign (.int .i64 (1048576)) rfl ?_)
      refine XL.nil ?_
      refine X.seq ?_
      refine X.region ?_
      refine XL.cons (XOp.loadN [arv, rsv] Tryz.isAgg27 Tryz.sizeOf27 rfl rfl (Rd.ownN [] rfl rfl) ?_)
      refine XL.cons (XOp.move (.int .i64 (1048576)) rfl ?_)
      refine XL.cons (XOp.call (args := [.agg #[arv, rsv], .int .i64 (1048576)]) Tryz.call10 rfl (szSystem_spec (z := 1048576) har hrs (hz := (by first | assumption | rfl | omega | (left; simp; done) | (right; simp; done))) (hal := (by first | assumption | rfl | omega | (left; simp; done) | (right; simp; done))) (hrl := (by first | assumption | rfl | omega | (left; simp; done) | (right; simp; done))) (hrb := (by first | assumption | rfl | omega | (left; simp; done) | (right; simp; done)))) ?_)
      rintro _ _ _ _ ⟨rfl, rfl, rfl⟩
      refine XL.cons (XOp.assign (.int .i64 (dec 1048576 (ar.length + szR rs))) rfl ?_)
      refine XL.nil ?_
      refine X.seq ?_
      refine X.seq ?_
      refine X.region ?_
      refine XL.cons (XOp.move (.int .i64 (dec 1048576 (ar.length + szR rs))) rfl ?_)
      refine XL.cons (XOp.lss (a := dec 1048576 (ar.length + szR rs)) (b := 0) rfl rfl ?_)
      refine XL.nil ?_
      refine X.condD (p := (dec 1048576 (ar.length + szR rs) : Int) < 0) rfl (fun h3 => ?_) (fun h3 => ?_)
      · refine X.seq ?_
        refine X.region ?_
        refine XL.cons (XOp.assign (.bool (true)) rfl ?_)
        refine XL.nil ?_
        refine X.ret (thenQ_ret (retEnd (L' := L) [.bool (true)] (.bool (true)) (.tmp rfl .nil) rfl (FLe.refl _) (FLe.refl _) (Sub.drop (Sub.refl _)) ?_))
        exact ⟨rfl, rfl, rfl⟩
      · have hd1 := dec_le2 h3 (by omega)
        have hzrs := szR_le (rs := rs)
        have hirs := hzrs.2
        have hcrs : ∀ i, i < rs.length → (rs.getD i ([], [])).1.length ≤ 4000000 ∧ (rs.getD i ([], [])).2.length ≤ 4000000 := fun i hi => by have := hirs i hi; omega
        have hfrs := flatPair_len rs
        refine X.skip ?_
        refine X.seq ?_
        refine X.region ?_
        refine XL.cons (XOp.loadN [arv, rsv] Tryz.isAgg27 Tryz.sizeOf27 rfl rfl (Rd.ownN [] rfl rfl) ?_)
        refine XL.cons (XOp.thawL ?_)
        refine id (XOp.call (args := [.agg #[arv, rsv]]) Tryz.call12 rfl (toSystem_spec har hrs (hla := (by first | assumption | rfl | omega | (left; simp; done) | (right; simp; done))) (hrl := (by first | assumption | rfl | omega | (left; simp; done) | (right; simp; done))) (hrb := (by first | assumption | rfl | omega | (left; simp; done) | (right; simp; done)))) ?_)
        rintro _ F1 _ le1 ⟨x1, x2, rfl, hr1, hr2, hr3, rfl⟩
        refine ⟨[intsH 2 x1 ar, pairsD 2 135 x2 rs], hr3, ?_⟩
        show XL _ _ _ _ _ _ _ (intsH 2 x1 ar :: pairsD 2 135 x2 rs :: cellsH b1 [arv, rsv] 27 :: L)
        refine XL.cons (XOp.move (av) rfl ?_)
        refine XL.cons (XOp.call (args := [av]) Tryz.call13 rfl (toInt64S_spec ha (hlx := (by first | assumption | rfl | omega | (left; simp; done) | (right; simp; done)))) ?_)
        rintro v1 _ _ _ ⟨rfl, hs1, rfl⟩
        refine XL.cons (XOp.move (bv) rfl ?_)
        refine XL.cons (XOp.call (args := [bv]) Tryz.call13 rfl (toInt64S_spec hb (hlx := (by first | assumption | rfl | omega | (left; simp; done) | (right; simp; done)))) ?_)
        rintro v2 _ _ _ ⟨rfl, hs2, rfl⟩
        refine XL.cons (XOp.move (.int .i64 (n)) rfl ?_)
        refine XL.freezeF [_, _] _ _ rfl (fun F2 le2 hz1 => ?_)
        replace har := har.mono le2
        replace hrs := hrs.mono le2
        replace ha := ha.mono le2
        replace hb := hb.mono le2
        have hf1 : IntsF F2 x1 ar := intsH.fz (xs := ar) hz1.fz
        refine XL.freezeF [_, _] _ _ rfl (fun F3 le3 hz2 => ?_)
        replace har := har.mono le3
        replace hrs := hrs.mono le3
        replace ha := ha.mono le3
        replace hb := hb.mono le3
        replace hf1 := hf1.mono le3
        have hf2 : PairsF F3 x2 rs := pairsD.fz hz2.fz
        refine XL.freezeF [_] _ _ rfl (fun F4 le4 hz3 => ?_)
        replace har := har.mono le4
        replace hrs := hrs.mono le4
        replace ha := ha.mono le4
        replace hb := hb.mono le4
        replace hf1 := hf1.mono le4
        replace hf2 := hf2.mono le4
        have hf3 : IntsF F4 v1 ((a)) := intsH.fz (xs := (a)) hz3.fz
        refine XL.freezeF [] _ _ rfl (fun F5 le5 hz4 => ?_)
        replace har := har.mono le5
        replace hrs := hrs.mono le5
        replace ha := ha.mono le5
        replace hb := hb.mono le5
        replace hf1 := hf1.mono le5
        replace hf2 := hf2.mono le5
        replace hf3 := hf3.mono le5
        have hf4 : IntsF F5 v2 ((b)) := intsH.fz (xs := (b)) hz4.fz
        refine XL.cons (XOp.call (args := [.agg #[x1, x2], v1, v2, .int .i64 (n)]) Tryz.call38 rfl (sRefutedBy_spec (n := n) hf1 hf2 hf3 hf4 (hla := (by first | assumption | rfl | omega | (left; simp; done) | (right; simp; done))) (hlr := (by first | assumption | rfl | omega | (left; simp; done) | (right; simp; done))) (hrb := (by first | assumption | rfl | omega | (left; simp; done) | (right; simp; done))) (hlta := (by first | assumption | rfl | omega | (left; simp; done) | (right; simp; done))) (hltb := (by first | assumption | rfl | omega | (left; simp; done) | (right; simp; done)))) ?_)
        rintro _ F6 _ le6 ⟨x3, x4, x5, x6, rfl, hr4, hr5, hr6, hr7, rfl⟩
        replace har := har.mono le6
        replace hrs := hrs.mono le6
        replace ha := ha.mono le6
        replace hb := hb.mono le6
        replace hf1 := hf1.mono le6
        replace hf2 := hf2.mono le6
        replace hf3 := hf3.mono le6
        replace hf4 := hf4.mono le6
        refine XL.cons (XOp.move (.tuple #[.agg #[x3, x4], .agg #[x5, x6], .bool ((refW ar rs ((a)) ((b)) ((a)) n).2.2)]) rfl ?_)
        refine XL.cons (XOp.extract (.agg #[x3, x4]) rfl rfl ?_)
        refine XL.cons (XOp.extract (.agg #[x5, x6]) rfl rfl ?_)
        refine XL.cons (XOp.extract (.bool ((refW ar rs ((a)) ((b)) ((a)) n).2.2)) rfl rfl ?_)
        refine XL.cons (XOp.alloc [(.slice none 0 0), (.slice none 0 0)] Tryz.zeroValue66 rfl ?_)
        intro b2
        refine XL.cons (XOp.alloc [(.slice none 0 0), (.slice none 0 0)] Tryz.zeroValue66 rfl ?_)
        intro b3
        refine XL.cons (XOp.storeN (vs := [x3, x4]) [_] _ [x3, x4] Tryz.sizeOf66 rfl rfl rfl (ones_cons (one_sl (IntsF.isSl hr4)) (ones_cons (one_sl (StepsF.isSl hr5)) ones_nil)) rfl rfl rfl ?_)
        refine XL.cons (XOp.storeN (vs := [x5, x6]) [] _ [x5, x6] Tryz.sizeOf66 rfl rfl rfl (ones_cons (one_sl (IntsF.isSl hr6)) (ones_cons (one_sl (StepsF.isSl hr7)) ones_nil)) rfl rfl rfl ?_)
        refine XL.cons (XOp.assign (.bool ((refW ar rs ((a)) ((b)) ((a)) n).2.2)) rfl ?_)
        refine XL.nil ?_
        refine X.seq ?_
        refine X.region ?_
        refine XL.cons (XOp.loadN [arv, rsv] Tryz.isAgg27 Tryz.sizeOf27 rfl rfl (Rd.ownN [_, _] rfl rfl) ?_)
        refine XL.cons (XOp.thawL ?_)
        refine id (XOp.call (args := [.agg #[arv, rsv]]) Tryz.call12 rfl (toSystem_spec har hrs (hla := (by first | assumption | rfl | omega | (left; simp; done) | (right; simp; done))) (hrl := (by first | assumption | rfl | omega | (left; simp; done) | (right; simp; done))) (hrb := (by first | assumption | rfl | omega | (left; simp; done) | (right; simp; done)))) ?_)
        rintro _ F7 _ le7 ⟨x7, x8, rfl, hr8, hr9, hr10, rfl⟩
        refine ⟨[intsH 2 x7 ar, pairsD 2 135 x8 rs], hr10, ?_⟩
        show XL _ _ _ _ _ _ _ (intsH 2 x7 ar :: pairsD 2 135 x8 rs :: cellsH b3 [x5, x6] 66 :: cellsH b2 [x3, x4] 66 :: cellsH b1 [arv, rsv] 27 :: L)
        refine XL.cons (XOp.alloc [(.slice none 0 0), (.slice none 0 0)] Tryz.zeroValue37 rfl ?_)
        intro b4
        refine XL.cons (XOp.storeN (vs := [x7, x8]) [] _ [x7, x8] Tryz.sizeOf37 rfl rfl rfl (ones_cons (one_sl (IntsF.isSl hr8)) (ones_cons (one_sl (PairsF.isSl hr9)) ones_nil)) rfl rfl rfl ?_)
        refine XL.nil ?_
        refine X.seq ?_
        refine X.region ?_
        refine XL.cons (XOp.move (av) rfl ?_)
        refine XL.cons (XOp.call (args := [av]) Tryz.call13 rfl (toInt64S_spec ha (hlx := (by first | assumption | rfl | omega | (left; simp; done) | (right; simp; done)))) ?_)
        rintro v3 _ _ _ ⟨rfl, hs3, rfl⟩
        refine XL.cons (XOp.assign (v3) rfl ?_)
        refine XL.nil ?_
        refine X.seq ?_
        refine X.region ?_
        refine XL.cons (XOp.move (bv) rfl ?_)
        refine XL.cons (XOp.call (args := [bv]) Tryz.call13 rfl (toInt64S_spec hb (hlx := (by first | assumption | rfl | omega | (left; simp; done) | (right; simp; done)))) ?_)
        rintro v4 _ _ _ ⟨rfl, hs4, rfl⟩
        refine XL.cons (XOp.assign (v4) rfl ?_)
        refine XL.nil ?_
        refine X.seq ?_
        refine X.region ?_
        refine XL.cons (XOp.loadN [x7, x8] Tryz.isAgg37 Tryz.sizeOf37 rfl rfl (Rd.ownN [_, _] rfl rfl) ?_)
        refine XL.cons (XOp.move (v3) rfl ?_)
        refine XL.cons (XOp.move (v4) rfl ?_)
        refine XL.cons (XOp.move (.int .i64 (n)) rfl ?_)
        refine XL.cons (XOp.lend [_, _, _] _ _ rfl (fun F8 le8 hz5 => ?_))
        refine id (XOp.lend [_, _, _] _ _ rfl (fun F9 le9 hz6 => ?_))
        refine id (XOp.lend [_] _ _ rfl (fun F10 le10 hz7 => ?_))
        refine id (XOp.lend [] _ _ rfl (fun F11 le11 hz8 => ?_))
        have hf5 : IntsF _ x7 ar := (intsH.fz (xs := ar) hz5).mono (FLe.trans (FLe.trans le9 le10) le11)
        have hf6 : PairsF _ x8 rs := (pairsD.fz hz6).mono (FLe.trans le10 le11)
        have hf7 : IntsF _ v3 ((a)) := (intsH.fz (xs := (a)) hz7).mono le11
        have hf8 : IntsF _ v4 ((b)) := intsH.fz (xs := (b)) hz8
        refine id (XOp.thawL ?_)
        refine id (XOp.call (args := [.agg #[x7, x8], v3, v4, .int .i64 (n)]) Tryz.call39 rfl (RefutedBy_spec (n := n) hf5 hf6 hf7 hf8) ?_)
        rintro _ F12 _ le12 ⟨x9, x10, x11, x12, rfl, hr11, hr12, hr13, hr14, hr15, rfl⟩
        refine ⟨[intsH 2 x9 ((refW ar rs ((a)) ((b)) ((a)) n).1), stepsD 2 133 x10 ((refW ar rs ((a)) ((b)) ((a)) n).2.1), intsH 2 x11 ((refW ar rs ((a)) ((b)) ((b)) n).1), stepsD 2 133 x12 ((refW ar rs ((a)) ((b)) ((b)) n).2.1)], hr15, ?_⟩
        show XL _ _ _ _ _ _ _ (intsH 2 x7 ar :: pairsD 2 135 x8 rs :: intsH 2 v3 ((a)) :: intsH 2 v4 ((b)) :: intsH 2 x9 ((refW ar rs ((a)) ((b)) ((a)) n).1) :: stepsD 2 133 x10 ((refW ar rs ((a)) ((b)) ((a)) n).2.1) :: intsH 2 x11 ((refW ar rs ((a)) ((b)) ((b)) n).1) :: stepsD 2 133 x12 ((refW ar rs ((a)) ((b)) ((b)) n).2.1) :: cellsH b4 [x7, x8] 37 :: cellsH b3 [x5, x6] 66 :: cellsH b2 [x3, x4] 66 :: cellsH b1 [arv, rsv] 27 :: L)
        refine XL.cons (XOp.move (.tuple #[.agg #[x9, x10], .agg #[x11, x12], .bool ((refW ar rs ((a)) ((b)) ((a)) n).2.2)]) rfl ?_)
        refine XL.cons (XOp.extract (.agg #[x9, x10]) rfl rfl ?_)
        refine XL.cons (XOp.extract (.agg #[x11, x12]) rfl rfl ?_)
        refine XL.cons (XOp.extract (.bool ((refW ar rs ((a)) ((b)) ((a)) n).2.2)) rfl rfl ?_)
        refine XL.cons (XOp.alloc [(.slice none 0 0), (.slice none 0 0)] Tryz.zeroValue66 rfl ?_)
        intro b5
        refine XL.cons (XOp.alloc [(.slice none 0 0), (.slice none 0 0)] Tryz.zeroValue66 rfl ?_)
        intro b6
        refine XL.cons (XOp.storeN (vs := [x9, x10]) [_] _ [x9, x10] Tryz.sizeOf66 rfl rfl rfl (ones_cons (one_sl (IntsF.isSl hr11)) (ones_cons (one_sl (StepsF.isSl hr12)) ones_nil)) rfl rfl rfl ?_)
        refine XL.cons (XOp.storeN (vs := [x11, x12]) [] _ [x11, x12] Tryz.sizeOf66 rfl rfl rfl (ones_cons (one_sl (IntsF.isSl hr13)) (ones_cons (one_sl (StepsF.isSl hr14)) ones_nil)) rfl rfl rfl ?_)
        refine XL.cons (XOp.assign (.bool ((refW ar rs ((a)) ((b)) ((a)) n).2.2)) rfl ?_)
        refine XL.nil ?_
        refine X.seq ?_
        refine X.seq ?_
        refine X.region ?_
        refine XL.cons (XOp.loadN [x9, x10] Tryz.isAgg66 Tryz.sizeOf66 rfl rfl (Rd.ownN [_] rfl rfl) ?_)
        refine XL.cons (XOp.loadN [x3, x4] Tryz.isAgg66 Tryz.sizeOf66 rfl rfl (Rd.ownN [_, _, _, _, _, _, _, _, _, _, _, _] rfl rfl) ?_)
        refine XL.cons (XOp.lend [_, _, _, _, _, _] _ _ rfl (fun F13 le13 hz9 => ?_))
        refine id (XOp.lend [_, _, _, _, _, _] _ _ rfl (fun F14 le14 hz10 => ?_))
        have hf9 : IntsF _ x9 ((refW ar rs ((a)) ((b)) ((a)) n).1) := (intsH.fz (xs := (refW ar rs ((a)) ((b)) ((a)) n).1) hz9).mono le14
        have hf10 : StepsF _ x10 ((refW ar rs ((a)) ((b)) ((a)) n).2.1) := stepsD.fz hz10
        refine id (XOp.call (args := [.agg #[x9, x10], .agg #[x3, x4]]) Tryz.call40 rfl (eqWalk_spec hf9 hf10 ((hr4.mono (FLe.trans le13 le14))) ((hr5.mono (FLe.trans le13 le14))) (hfl := (by first | assumption | rfl | omega | (left; simp; done) | (right; simp; done))) (hal := (by first | assumption | rfl | omega | (left; simp; done) | (right; simp; done))) (hbd := (by first | assumption | exact fun i hi => by have := hnd91 i hi; omega | exact fun i hi => by have := hnd92 i hi; omega))) ?_)
        rintro _ _ _ _ ⟨rfl, rfl, rfl⟩
        show XL _ _ _ _ _ _ _ (intsH 2 x9 ((refW ar rs ((a)) ((b)) ((a)) n).1) :: stepsD 2 133 x10 ((refW ar rs ((a)) ((b)) ((a)) n).2.1) :: cellsH b6 [x11, x12] 66 :: cellsH b5 [x9, x10] 66 :: intsH 2 x7 ar :: pairsD 2 135 x8 rs :: intsH 2 v3 ((a)) :: intsH 2 v4 ((b)) :: intsH 2 x11 ((refW ar rs ((a)) ((b)) ((b)) n).1) :: stepsD 2 133 x12 ((refW ar rs ((a)) ((b)) ((b)) n).2.1) :: cellsH b4 [x7, x8] 37 :: cellsH b3 [x5, x6] 66 :: cellsH b2 [x3, x4] 66 :: cellsH b1 [arv, rsv] 27 :: L)
        refine XL.cons (XOp.notD (p := ((refW ar rs ((a)) ((b)) ((a)) n).1) = ((refW ar rs ((a)) ((b)) ((a)) n).1) ∧ ((refW ar rs ((a)) ((b)) ((a)) n).2.1) = ((refW ar rs ((a)) ((b)) ((a)) n).2.1)) rfl ?_)
        refine XL.cons (XOp.move (.bool (decide (¬(((refW ar rs ((a)) ((b)) ((a)) n).1) = ((refW ar rs ((a)) ((b)) ((a)) n).1) ∧ ((refW ar rs ((a)) ((b)) ((a)) n).2.1) = ((refW ar rs ((a)) ((b)) ((a)) n).2.1))))) rfl ?_)
        by_cases h4 : ¬(((refW ar rs ((a)) ((b)) ((a)) n).1) = ((refW ar rs ((a)) ((b)) ((a)) n).1) ∧ ((refW ar rs ((a)) ((b)) ((a)) n).2.1) = ((refW ar rs ((a)) ((b)) ((a)) n).2.1))
        · exact absurd (by first | rfl | exact ⟨rfl, rfl⟩ | exact ⟨⟨rfl, rfl⟩, rfl, rfl⟩ | simp) h4
        · refine XL.yes (t := 67) rfl (congrArg Value.bool (decide_eq_false h4)) (XOp.loadN [x11, x12] Tryz.isAgg66 Tryz.sizeOf66 rfl rfl (Rd.ownN [_, _] rfl rfl) ?_)
          refine XL.yes (t := 67) rfl (congrArg Value.bool (decide_eq_false h4)) (XOp.loadN [x5, x6] Tryz.isAgg66 Tryz.sizeOf66 rfl rfl (Rd.ownN [_, _, _, _, _, _, _, _, _, _, _] rfl rfl) ?_)
          refine XL.yes (t := 67) rfl (congrArg Value.bool (decide_eq_false h4)) (XOp.lend [_, _, _, _, _, _, _, _] _ _ rfl (fun F15 le15 hz11 => ?_))
          refine id (XOp.lend [_, _, _, _, _, _, _, _] _ _ rfl (fun F16 le16 hz12 => ?_))
          have hf11 : IntsF _ x11 ((refW ar rs ((a)) ((b)) ((b)) n).1) := (intsH.fz (xs := (refW ar rs ((a)) ((b)) ((b)) n).1) hz11).mono le16
          have hf12 : StepsF _ x12 ((refW ar rs ((a)) ((b)) ((b)) n).2.1) := stepsD.fz hz12
          refine id (XOp.call (args := [.agg #[x11, x12], .agg #[x5, x6]]) Tryz.call40 rfl (eqWalk_spec hf11 hf12 ((hr6.mono (FLe.trans le15 le16))) ((hr7.mono (FLe.trans le15 le16))) (hfl := (by first | assumption | rfl | omega | (left; simp; done) | (right; simp; done))) (hal := (by first | assumption | rfl | omega | (left; simp; done) | (right; simp; done))) (hbd := (by first | assumption | exact fun i hi => by have := hnd91 i hi; omega | exact fun i hi => by have := hnd92 i hi; omega))) ?_)
          rintro _ _ _ _ ⟨rfl, rfl, rfl⟩
          show XL _ _ _ _ _ _ _ (intsH 2 x11 ((refW ar rs ((a)) ((b)) ((b)) n).1) :: stepsD 2 133 x12 ((refW ar rs ((a)) ((b)) ((b)) n).2.1) :: intsH 2 x9 ((refW ar rs ((a)) ((b)) ((a)) n).1) :: stepsD 2 133 x10 ((refW ar rs ((a)) ((b)) ((a)) n).2.1) :: cellsH b6 [x11, x12] 66 :: cellsH b5 [x9, x10] 66 :: intsH 2 x7 ar :: pairsD 2 135 x8 rs :: intsH 2 v3 ((a)) :: intsH 2 v4 ((b)) :: cellsH b4 [x7, x8] 37 :: cellsH b3 [x5, x6] 66 :: cellsH b2 [x3, x4] 66 :: cellsH b1 [arv, rsv] 27 :: L)
          refine XL.yes (t := 67) rfl (congrArg Value.bool (decide_eq_false h4)) (XOp.notD (p := ((refW ar rs ((a)) ((b)) ((b)) n).1) = ((refW ar rs ((a)) ((b)) ((b)) n).1) ∧ ((refW ar rs ((a)) ((b)) ((b)) n).2.1) = ((refW ar rs ((a)) ((b)) ((b)) n).2.1)) rfl ?_)
          refine XL.cons (XOp.pickF (.bool (decide (¬(((refW ar rs ((a)) ((b)) ((b)) n).1) = ((refW ar rs ((a)) ((b)) ((b)) n).1) ∧ ((refW ar rs ((a)) ((b)) ((b)) n).2.1) = ((refW ar rs ((a)) ((b)) ((b)) n).2.1))))) (congrArg Value.bool (decide_eq_false h4)) rfl ?_)
          refine XL.cons (XOp.move (.bool (decide (¬(((refW ar rs ((a)) ((b)) ((b)) n).1) = ((refW ar rs ((a)) ((b)) ((b)) n).1) ∧ ((refW ar rs ((a)) ((b)) ((b)) n).2.1) = ((refW ar rs ((a)) ((b)) ((b)) n).2.1))))) rfl ?_)
          by_cases h5 : ¬(((refW ar rs ((a)) ((b)) ((b)) n).1) = ((refW ar rs ((a)) ((b)) ((b)) n).1) ∧ ((refW ar rs ((a)) ((b)) ((b)) n).2.1) = ((refW ar rs ((a)) ((b)) ((b)) n).2.1))
          · exact absurd (by first | rfl | exact ⟨rfl, rfl⟩ | exact ⟨⟨rfl, rfl⟩, rfl, rfl⟩ | simp) h5
          · refine XL.yes (t := 73) rfl (congrArg Value.bool (decide_eq_false h5)) (XOp.move (.bool ((refW ar rs ((a)) ((b)) ((a)) n).2.2)) rfl ?_)
            refine XL.yes (t := 73) rfl (congrArg Value.bool (decide_eq_false h5)) (XOp.move (.bool ((refW ar rs ((a)) ((b)) ((a)) n).2.2)) rfl ?_)
            refine XL.yes (t := 73) rfl (congrArg Value.bool (decide_eq_false h5)) (XOp.neB (a := (refW ar rs ((a)) ((b)) ((a)) n).2.2) (b := (refW ar rs ((a)) ((b)) ((a)) n).2.2) Tryz.runUnderlying4 rfl rfl ?_)
            refine XL.cons (XOp.pickF (.bool (decide (((refW ar rs ((a)) ((b)) ((a)) n).2.2) ≠ ((refW ar rs ((a)) ((b)) ((a)) n).2.2)))) (congrArg Value.bool (decide_eq_false h5)) rfl ?_)
            refine XL.nil ?_
            refine X.condD (p := ((refW ar rs ((a)) ((b)) ((a)) n).2.2) ≠ ((refW ar rs ((a)) ((b)) ((a)) n).2.2)) rfl (fun h6 => ?_) (fun h6 => ?_)
            · exact absurd rfl h6
            · refine X.skip ?_
              refine X.seq ?_
              refine X.seq ?_
              refine X.drawG [intsH 2 x11 ((refW ar rs ((a)) ((b)) ((b)) n).1), stepsD 2 133 x12 ((refW ar rs ((a)) ((b)) ((b)) n).2.1), intsH 2 x9 ((refW ar rs ((a)) ((b)) ((a)) n).1), stepsD 2 133 x10 ((refW ar rs ((a)) ((b)) ((a)) n).2.1), cellsH b6 [x11, x12] 66, cellsH b5 [x9, x10] 66, intsH 2 x7 ar, pairsD 2 135 x8 rs, intsH 2 v3 ((a)), intsH 2 v4 ((b)), cellsH b4 [x7, x8] 37, cellsH b3 [x5, x6] 66, cellsH b2 [x3, x4] 66, cellsH b1 [arv, rsv] 27] L 3 [[], [], []] [[], [], [1]] [[], [], []] (phiG [fun FF us v => v = (.agg #[x7, x8] : Value), fun FF us v => v = (.agg #[arv, rsv] : Value), fun FF us v => (.agg #[((aggAt v 0)), ((aggAt v 1))] : Value) = v ∧ (IntsF FF ((aggAt v 0)) ar) ∧ (PairsF FF ((aggAt v 1)) rs)]) (ownL [fun us v => [], fun us v => [], fun us v => []]) mixed rfl rfl (by kernel_rfl) (by kernel_rfl) (MonoG.get (MonoG.cons (fun le h => h) (MonoG.cons (fun le h => h) (MonoG.cons (fun le h => ⟨h.1, h.2.1.mono le, h.2.2.mono le⟩) MonoG.nil)))) ?_ ?_
              · refine stepsG.cons (fun vals Fs R leFs hpZ => ?_) ?_
                · replace har := har.mono leFs
                  replace hrs := hrs.mono leFs
                  replace ha := ha.mono leFs
                  replace hb := hb.mono leFs
                  replace hf1 := hf1.mono leFs
                  replace hf2 := hf2.mono leFs
                  replace hf3 := hf3.mono leFs
                  replace hf4 := hf4.mono leFs
                  replace hr4 := hr4.mono leFs
                  replace hr5 := hr5.mono leFs
                  replace hr6 := hr6.mono leFs
                  replace hr7 := hr7.mono leFs
                  refine XG.op (XOp.loadN [x7, x8] Tryz.isAgg37 Tryz.sizeOf37 rfl rfl (Rd.ownN [_, _, _, _, _, _, _, _, _, _] rfl rfl) ?_)
                  exact ⟨rfl, rfl⟩
                refine stepsG.cons (fun vals Fs R leFs hpZ => ?_) ?_
                · replace har := har.mono leFs
                  replace hrs := hrs.mono leFs
                  replace ha := ha.mono leFs
                  replace hb := hb.mono leFs
                  replace hf1 := hf1.mono leFs
                  replace hf2 := hf2.mono leFs
                  replace hf3 := hf3.mono leFs
                  replace hf4 := hf4.mono leFs
                  replace hr4 := hr4.mono leFs
                  replace hr5 := hr5.mono leFs
                  replace hr6 := hr6.mono leFs
                  replace hr7 := hr7.mono leFs
                  refine XG.op (XOp.loadN [arv, rsv] Tryz.isAgg27 Tryz.sizeOf27 rfl rfl (Rd.ownN [_, _, _, _, _, _, _, _, _, _, _, _, _] rfl rfl) ?_)
                  exact ⟨rfl, rfl⟩
                refine stepsG.cons (fun vals Fs R leFs hpZ => ?_) ?_
                · have e1 : vals 1 = (.agg #[arv, rsv] : Value) := hpZ 1 (by decide)
                  replace har := har.mono leFs
                  replace hrs := hrs.mono leFs
                  replace ha := ha.mono leFs
                  replace hb := hb.mono leFs
                  replace hf1 := hf1.mono leFs
                  replace hf2 := hf2.mono leFs
                  replace hf3 := hf3.mono leFs
                  replace hf4 := hf4.mono leFs
                  replace hr4 := hr4.mono leFs
                  replace hr5 := hr5.mono leFs
                  replace hr6 := hr6.mono leFs
                  replace hr7 := hr7.mono leFs
                  rw [(envs_of_sat (l := [(1, (.agg #[arv, rsv] : Value))]) ⟨e1, trivial⟩).symm]
                  refine XG.op (XOp.call (args := [.agg #[arv, rsv]]) Tryz.call12 rfl (toSystem_spec har hrs (hla := (by first | assumption | rfl | omega | (left; simp; done) | (right; simp; done))) (hrl := (by first | assumption | rfl | omega | (left; simp; done) | (right; simp; done))) (hrb := (by first | assumption | rfl | omega | (left; simp; done) | (right; simp; done)))) ?_)
                  rintro _ F18 _ le18 ⟨x15, x16, rfl, hr19, hr20, hr21, rfl⟩
                  replace har := har.mono le18
                  replace hrs := hrs.mono le18
                  replace ha := ha.mono le18
                  replace hb := hb.mono le18
                  replace hf1 := hf1.mono le18
                  replace hf2 := hf2.mono le18
                  replace hf3 := hf3.mono le18
                  replace hf4 := hf4.mono le18
                  replace hr4 := hr4.mono le18
                  replace hr5 := hr5.mono le18
                  replace hr6 := hr6.mono le18
                  replace hr7 := hr7.mono le18
                  exact ⟨⟨rfl, hr19, hr20⟩, rfl⟩
                exact stepsG.nil
              · intro vals F19 le19 hphi
                have e0 : vals 0 = (.agg #[x7, x8] : Value) := hphi 0 (by decide)
                have e1 : vals 1 = (.agg #[arv, rsv] : Value) := hphi 1 (by decide)
                obtain ⟨e2, f2_1hr1, f2_1hr2⟩ := hphi 2 (by decide)
                generalize hu1 : ((aggAt (vals 2) 0)) = u1 at e0 e1 e2 f2_1hr1 f2_1hr2
                generalize hu2 : ((aggAt (vals 2) 1)) = u2 at e0 e1 e2 f2_1hr1 f2_1hr2
                rw [(envs_of_sat (l := [(0, (.agg #[x7, x8] : Value)), (1, (.agg #[arv, rsv] : Value)), (2, (.agg #[u1, u2] : Value))]) ⟨e0, e1, (e2).symm, trivial⟩).symm]
                replace har := har.mono le19
                replace hrs := hrs.mono le19
                replace ha := ha.mono le19
                replace hb := hb.mono le19
                replace hf1 := hf1.mono le19
                replace hf2 := hf2.mono le19
                replace hf3 := hf3.mono le19
                replace hf4 := hf4.mono le19
                replace hr4 := hr4.mono le19
                replace hr5 := hr5.mono le19
                replace hr6 := hr6.mono le19
                replace hr7 := hr7.mono le19
                show XL _ _ _ _ _ _ _ (intsH 2 x11 ((refW ar rs ((a)) ((b)) ((b)) n).1) :: stepsD 2 133 x12 ((refW ar rs ((a)) ((b)) ((b)) n).2.1) :: intsH 2 x9 ((refW ar rs ((a)) ((b)) ((a)) n).1) :: stepsD 2 133 x10 ((refW ar rs ((a)) ((b)) ((a)) n).2.1) :: cellsH b6 [x11, x12] 66 :: cellsH b5 [x9, x10] 66 :: intsH 2 x7 ar :: pairsD 2 135 x8 rs :: intsH 2 v3 ((a)) :: intsH 2 v4 ((b)) :: cellsH b4 [x7, x8] 37 :: cellsH b3 [x5, x6] 66 :: cellsH b2 [x3, x4] 66 :: cellsH b1 [arv, rsv] 27 :: L)
                refine XL.cons (XOp.lend [_, _, _, _, _, _] _ _ rfl (fun F20 le20 hz13 => ?_))
                refine id (XOp.lend [_, _, _, _, _, _] _ _ rfl (fun F21 le21 hz14 => ?_))
                have hf13 : IntsF _ x7 ar := (intsH.fz (xs := ar) hz13).mono le21
                have hf14 : PairsF _ x8 rs := pairsD.fz hz14
                refine id (XOp.call (args := [.agg #[x7, x8], .agg #[u1, u2]]) Tryz.call16 rfl (eqSystem_spec hf13 hf14 ((f2_1hr1.mono (FLe.trans le20 le21))) ((f2_1hr2.mono (FLe.trans le20 le21))) (hcl := (by first | assumption | rfl | omega | (left; simp; done) | (right; simp; done))) (hal := (by first | assumption | rfl | omega | (left; simp; done) | (right; simp; done))) (hbd := (by first | assumption | rfl | omega | (left; simp; done) | (right; simp; done)))) ?_)
                rintro _ _ _ _ ⟨rfl, rfl, rfl⟩
                show XL _ _ _ _ _ _ _ (intsH 2 x7 ar :: pairsD 2 135 x8 rs :: intsH 2 x11 ((refW ar rs ((a)) ((b)) ((b)) n).1) :: stepsD 2 133 x12 ((refW ar rs ((a)) ((b)) ((b)) n).2.1) :: intsH 2 x9 ((refW ar rs ((a)) ((b)) ((a)) n).1) :: stepsD 2 133 x10 ((refW ar rs ((a)) ((b)) ((a)) n).2.1) :: cellsH b6 [x11, x12] 66 :: cellsH b5 [x9, x10] 66 :: intsH 2 v3 ((a)) :: intsH 2 v4 ((b)) :: cellsH b4 [x7, x8] 37 :: cellsH b3 [x5, x6] 66 :: cellsH b2 [x3, x4] 66 :: cellsH b1 [arv, rsv] 27 :: L)
                refine XL.cons (XOp.notD (p := ar = ar ∧ rs = rs) rfl ?_)
                refine XL.nil ?_
                refine X.condD (p := ¬(ar = ar ∧ rs = rs)) rfl (fun h7 => ?_) (fun h7 => ?_)
                · exact absurd (by first | rfl | exact ⟨rfl, rfl⟩ | exact ⟨⟨rfl, rfl⟩, rfl, rfl⟩ | simp) h7
                · refine X.skip ?_
                  refine X.seq ?_
                  refine X.seq ?_
                  refine X.region ?_
                  refine XL.cons (XOp.move (v3) rfl ?_)
                  refine XL.cons (XOp.move (av) rfl ?_)
                  refine XL.cons (XOp.call (args := [av]) Tryz.call13 rfl (toInt64S_spec ha (hlx := (by first | assumption | rfl | omega | (left; simp; done) | (right; simp; done)))) ?_)
                  rintro v5 _ _ _ ⟨rfl, hs5, rfl⟩
                  refine XL.cons (XOp.lend [_, _, _, _, _, _, _, _, _] _ _ rfl (fun F22 le22 hz15 => ?_))
                  refine id (XOp.lend [] _ _ rfl (fun F23 le23 hz16 => ?_))
                  have hf15 : IntsF _ v3 ((a)) := (intsH.fz (xs := (a)) hz15).mono le23
                  have hf16 : IntsF _ v5 ((a)) := intsH.fz (xs := (a)) hz16
                  refine id (XOp.call (args := [v3, v5]) Tryz.call17 rfl (eqInt64S_spec hf15 hf16 (hbd := (by first | assumption | rfl | omega | (left; simp; done) | (right; simp; done)))) ?_)
                  rintro _ _ _ _ ⟨rfl, rfl, rfl⟩
                  show XL _ _ _ _ _ _ _ (intsH 2 v3 ((a)) :: intsH 2 v5 ((a)) :: intsH 2 x7 ar :: pairsD 2 135 x8 rs :: intsH 2 x11 ((refW ar rs ((a)) ((b)) ((b)) n).1) :: stepsD 2 133 x12 ((refW ar rs ((a)) ((b)) ((b)) n).2.1) :: intsH 2 x9 ((refW ar rs ((a)) ((b)) ((a)) n).1) :: stepsD 2 133 x10 ((refW ar rs ((a)) ((b)) ((a)) n).2.1) :: cellsH b6 [x11, x12] 66 :: cellsH b5 [x9, x10] 66 :: intsH 2 v4 ((b)) :: cellsH b4 [x7, x8] 37 :: cellsH b3 [x5, x6] 66 :: cellsH b2 [x3, x4] 66 :: cellsH b1 [arv, rsv] 27 :: L)
                  refine XL.cons (XOp.notD (p := ((a)) = ((a))) rfl ?_)
                  refine XL.nil ?_
                  refine X.condD (p := ¬(((a)) = ((a)))) rfl (fun h8 => ?_) (fun h8 => ?_)
                  · exact absurd (by first | rfl | exact ⟨rfl, rfl⟩ | exact ⟨⟨rfl, rfl⟩, rfl, rfl⟩ | simp) h8
                  · refine X.skip ?_
                    refine X.seq ?_
                    refine X.seq ?_
                    refine X.region ?_
                    refine XL.cons (XOp.move (v4) rfl ?_)
                    refine XL.cons (XOp.move (bv) rfl ?_)
                    refine XL.cons (XOp.call (args := [bv]) Tryz.call13 rfl (toInt64S_spec hb (hlx := (by first | assumption | rfl | omega | (left; simp; done) | (right; simp; done)))) ?_)
                    rintro v6 _ _ _ ⟨rfl, hs6, rfl⟩
                    refine XL.cons (XOp.lend [_, _, _, _, _, _, _, _, _, _, _] _ _ rfl (fun F24 le24 hz17 => ?_))
                    refine id (XOp.lend [] _ _ rfl (fun F25 le25 hz18 => ?_))
                    have hf17 : IntsF _ v4 ((b)) := (intsH.fz (xs := (b)) hz17).mono le25
                    have hf18 : IntsF _ v6 ((b)) := intsH.fz (xs := (b)) hz18
                    refine id (XOp.call (args := [v4, v6]) Tryz.call17 rfl (eqInt64S_spec hf17 hf18 (hbd := (by first | assumption | rfl | omega | (left; simp; done) | (right; simp; done)))) ?_)
                    rintro _ _ _ _ ⟨rfl, rfl, rfl⟩
                    show XL _ _ _ _ _ _ _ (intsH 2 v4 ((b)) :: intsH 2 v6 ((b)) :: intsH 2 v3 ((a)) :: intsH 2 v5 ((a)) :: intsH 2 x7 ar :: pairsD 2 135 x8 rs :: intsH 2 x11 ((refW ar rs ((a)) ((b)) ((b)) n).1) :: stepsD 2 133 x12 ((refW ar rs ((a)) ((b)) ((b)) n).2.1) :: intsH 2 x9 ((refW ar rs ((a)) ((b)) ((a)) n).1) :: stepsD 2 133 x10 ((refW ar rs ((a)) ((b)) ((a)) n).2.1) :: cellsH b6 [x11, x12] 66 :: cellsH b5 [x9, x10] 66 :: cellsH b4 [x7, x8] 37 :: cellsH b3 [x5, x6] 66 :: cellsH b2 [x3, x4] 66 :: cellsH b1 [arv, rsv] 27 :: L)
                    refine XL.cons (XOp.notD (p := ((b)) = ((b))) rfl ?_)
                    refine XL.nil ?_
                    refine X.condD (p := ¬(((b)) = ((b)))) rfl (fun h9 => ?_) (fun h9 => ?_)
                    · exact absurd (by first | rfl | exact ⟨rfl, rfl⟩ | exact ⟨⟨rfl, rfl⟩, rfl, rfl⟩ | simp) h9
                    · refine X.skip ?_
                      refine X.seq ?_
                      refine X.region ?_
                      refine XL.cons (XOp.assign (.int .i64 (1)) rfl ?_)
                      refine XL.nil ?_
                      refine X.seq ?_
                      refine X.region ?_
                      refine XL.cons (XOp.loadN [x7, x8] Tryz.isAgg37 Tryz.sizeOf37 rfl rfl (Rd.ownN [_, _, _, _, _, _, _, _, _, _, _, _] rfl rfl) ?_)
                      refine XL.cons (XOp.move (.int .i64 (1)) rfl ?_)
                      refine XL.weaken (Sub.front (A := [_, _, _, _, _])) ?_
                      show XL _ _ _ _ _ _ _ (pairsD 2 135 x8 rs :: intsH 2 v4 ((b)) :: intsH 2 v6 ((b)) :: intsH 2 v3 ((a)) :: intsH 2 v5 ((a)) :: intsH 2 x7 ar :: intsH 2 x11 ((refW ar rs ((a)) ((b)) ((b)) n).1) :: stepsD 2 133 x12 ((refW ar rs ((a)) ((b)) ((b)) n).2.1) :: intsH 2 x9 ((refW ar rs ((a)) ((b)) ((a)) n).1) :: stepsD 2 133 x10 ((refW ar rs ((a)) ((b)) ((a)) n).2.1) :: cellsH b6 [x11, x12] 66 :: cellsH b5 [x9, x10] 66 :: cellsH b4 [x7, x8] 37 :: cellsH b3 [x5, x6] 66 :: cellsH b2 [x3, x4] 66 :: cellsH b1 [arv, rsv] 27 :: L)
                      refine XL.weaken (Sub.front (A := [_, _, _, _, _])) ?_
                      show XL _ _ _ _ _ _ _ (intsH 2 x7 ar :: pairsD 2 135 x8 rs :: intsH 2 v4 ((b)) :: intsH 2 v6 ((b)) :: intsH 2 v3 ((a)) :: intsH 2 v5 ((a)) :: intsH 2 x11 ((refW ar rs ((a)) ((b)) ((b)) n).1) :: stepsD 2 133 x12 ((refW ar rs ((a)) ((b)) ((b)) n).2.1) :: intsH 2 x9 ((refW ar rs ((a)) ((b)) ((a)) n).1) :: stepsD 2 133 x10 ((refW ar rs ((a)) ((b)) ((a)) n).2.1) :: cellsH b6 [x11, x12] 66 :: cellsH b5 [x9, x10] 66 :: cellsH b4 [x7, x8] 37 :: cellsH b3 [x5, x6] 66 :: cellsH b2 [x3, x4] 66 :: cellsH b1 [arv, rsv] 27 :: L)
                      refine XL.cons (XOp.call (args := [.agg #[x7, x8], .int .i64 (1)]) Tryz.call18 rfl (markSystem_spec (by (try simp only [List.length_append]); omega) (by omega)) ?_)
                      rintro _ _ _ _ ⟨m1, m2, hm1, hk1, rfl, rfl, rfl⟩
                      have hml1 := congrArg List.length hm1
                      rw [iota_len] at hml1
                      try simp only [List.length_append] at hml1
                      refine XL.cons (XOp.assign (.int .i64 (1 + (((ar) ++ (rs.flatMap flatPair)).length : Int))) rfl ?_)
                      refine XL.nil ?_
                      refine X.seq ?_
                      refine X.region ?_
                      refine XL.cons (XOp.move (v3) rfl ?_)
                      refine XL.cons (XOp.move (.int .i64 (1 + (((ar) ++ (rs.flatMap flatPair)).length : Int))) rfl ?_)
                      refine XL.weaken (Sub.front (A := [_, _, _, _])) ?_
                      show XL _ _ _ _ _ _ _ (intsH 2 v3 ((a)) :: intsH 2 x7 m1 :: pairsD 2 135 x8 m2 :: intsH 2 v4 ((b)) :: intsH 2 v6 ((b)) :: intsH 2 v5 ((a)) :: intsH 2 x11 ((refW ar rs ((a)) ((b)) ((b)) n).1) :: stepsD 2 133 x12 ((refW ar rs ((a)) ((b)) ((b)) n).2.1) :: intsH 2 x9 ((refW ar rs ((a)) ((b)) ((a)) n).1) :: stepsD 2 133 x10 ((refW ar rs ((a)) ((b)) ((a)) n).2.1) :: cellsH b6 [x11, x12] 66 :: cellsH b5 [x9, x10] 66 :: cellsH b4 [x7, x8] 37 :: cellsH b3 [x5, x6] 66 :: cellsH b2 [x3, x4] 66 :: cellsH b1 [arv, rsv] 27 :: L)
                      refine XL.cons (XOp.call (args := [v3, .int .i64 (1 + (((ar) ++ (rs.flatMap flatPair)).length : Int))]) Tryz.call19 rfl (markInt64S_spec (by (try simp only [List.length_append]); omega)) ?_)
                      rintro _ _ _ _ ⟨m3, hm2, rfl, rfl, rfl⟩
                      have hml2 := congrArg List.length hm2
                      rw [iota_len] at hml2
                      try simp only [List.length_append] at hml2
                      refine XL.cons (XOp.assign (.int .i64 ((1 + (((ar) ++ (rs.flatMap flatPair)).length : Int)) + (((((a)))).length : Int))) rfl ?_)
                      refine XL.nil ?_
                      refine X.seq ?_
                      refine X.region ?_
                      refine XL.cons (XOp.move (v4) rfl ?_)
                      refine XL.cons (XOp.move (.int .i64 ((1 + (((ar) ++ (rs.flatMap flatPair)).length : Int)) + (((((a)))).length : Int))) rfl ?_)
                      refine XL.weaken (Sub.front (A := [_, _, _])) ?_
                      show XL _ _ _ _ _ _ _ (intsH 2 v4 ((b)) :: intsH 2 v3 m3 :: intsH 2 x7 m1 :: pairsD 2 135 x8 m2 :: intsH 2 v6 ((b)) :: intsH 2 v5 ((a)) :: intsH 2 x11 ((refW ar rs ((a)) ((b)) ((b)) n).1) :: stepsD 2 133 x12 ((refW ar rs ((a)) ((b)) ((b)) n).2.1) :: intsH 2 x9 ((refW ar rs ((a)) ((b)) ((a)) n).1) :: stepsD 2 133 x10 ((refW ar rs ((a)) ((b)) ((a)) n).2.1) :: cellsH b6 [x11, x12] 66 :: cellsH b5 [x9, x10] 66 :: cellsH b4 [x7, x8] 37 :: cellsH b3 [x5, x6] 66 :: cellsH b2 [x3, x4] 66 :: cellsH b1 [arv, rsv] 27 :: L)
                      refine XL.cons (XOp.call (args := [v4, .int .i64 ((1 + (((ar) ++ (rs.flatMap flatPair)).length : Int)) + (((((a)))).length : Int))]) Tryz.call19 rfl (markInt64S_spec (by (try simp only [List.length_append]); omega)) ?_)
                      rintro _ _ _ _ ⟨m4, hm3, rfl, rfl, rfl⟩
                      have hml3 := congrArg List.length hm3
                      rw [iota_len] at hml3
                      try simp only [List.length_append] at hml3
                      refine XL.cons (XOp.assign (.int .i64 (((1 + (((ar) ++ (rs.flatMap flatPair)).length : Int)) + (((((a)))).length : Int)) + (((((b)))).length : Int))) rfl ?_)
                      refine XL.nil ?_
                      refine X.seq ?_
                      refine X.seq ?_
                      refine X.region ?_
                      refine XL.cons (XOp.move (.int .i64 (((1 + (((ar) ++ (rs.flatMap flatPair)).length : Int)) + (((((a)))).length : Int)) + (((((b)))).length : Int))) rfl ?_)
                      refine XL.cons (XOp.lss (a := ((1 + (((ar) ++ (rs.flatMap flatPair)).length : Int)) + (((((a)))).length : Int)) + (((((b)))).length : Int)) (b := 0) rfl rfl ?_)
                      refine XL.cons (XOp.move (.bool (decide ((((1 + (((ar) ++ (rs.flatMap flatPair)).length : Int)) + (((((a)))).length : Int)) + (((((b)))).length : Int) : Int) < 0))) rfl ?_)
                      by_cases h10 : (((1 + (((ar) ++ (rs.flatMap flatPair)).length : Int)) + (((((a)))).length : Int)) + (((((b)))).length : Int) : Int) < 0
                      · exact absurd h10 (by omega)
                      · refine XL.yes (t := 104) rfl (congrArg Value.bool (decide_eq_false h10)) (XOp.loadN [x9, x10] Tryz.isAgg66 Tryz.sizeOf66 rfl rfl (Rd.ownN [_, _, _, _, _, _, _, _, _, _, _] rfl rfl) ?_)
                        refine XL.yes (t := 104) rfl (congrArg Value.bool (decide_eq_false h10)) (XOp.loadN [x3, x4] Tryz.isAgg66 Tryz.sizeOf66 rfl rfl (Rd.ownN [_, _, _, _, _, _, _, _, _, _, _, _, _, _] rfl rfl) ?_)
                        refine XL.yes (t := 104) rfl (congrArg Value.bool (decide_eq_false h10)) (XOp.lend [_, _, _, _, _, _, _, _] _ _ rfl (fun F26 le26 hz19 => ?_))
                        refine id (XOp.lend [_, _, _, _, _, _, _, _] _ _ rfl (fun F27 le27 hz20 => ?_))
                        have hf19 : IntsF _ x9 ((refW ar rs ((a)) ((b)) ((a)) n).1) := (intsH.fz (xs := (refW ar rs ((a)) ((b)) ((a)) n).1) hz19).mono le27
                        have hf20 : StepsF _ x10 ((refW ar rs ((a)) ((b)) ((a)) n).2.1) := stepsD.fz hz20
                        refine id (XOp.call (args := [.agg #[x9, x10], .agg #[x3, x4]]) Tryz.call40 rfl (eqWalk_spec hf19 hf20 ((hr4.mono (FLe.trans le26 le27))) ((hr5.mono (FLe.trans le26 le27))) (hfl := (by first | assumption | rfl | omega | (left; simp; done) | (right; simp; done))) (hal := (by first | assumption | rfl | omega | (left; simp; done) | (right; simp; done))) (hbd := (by first | assumption | exact fun i hi => by have := hnd91 i hi; omega | exact fun i hi => by have := hnd92 i hi; omega))) ?_)
                        rintro _ _ _ _ ⟨rfl, rfl, rfl⟩
                        show XL _ _ _ _ _ _ _ (intsH 2 x9 ((refW ar rs ((a)) ((b)) ((a)) n).1) :: stepsD 2 133 x10 ((refW ar rs ((a)) ((b)) ((a)) n).2.1) :: intsH 2 v4 m4 :: intsH 2 v3 m3 :: intsH 2 x7 m1 :: pairsD 2 135 x8 m2 :: intsH 2 v6 ((b)) :: intsH 2 v5 ((a)) :: intsH 2 x11 ((refW ar rs ((a)) ((b)) ((b)) n).1) :: stepsD 2 133 x12 ((refW ar rs ((a)) ((b)) ((b)) n).2.1) :: cellsH b6 [x11, x12] 66 :: cellsH b5 [x9, x10] 66 :: cellsH b4 [x7, x8] 37 :: cellsH b3 [x5, x6] 66 :: cellsH b2 [x3, x4] 66 :: cellsH b1 [arv, rsv] 27 :: L)
                        refine XL.yes (t := 104) rfl (congrArg Value.bool (decide_eq_false h10)) (XOp.notD (p := ((refW ar rs ((a)) ((b)) ((a)) n).1) = ((refW ar rs ((a)) ((b)) ((a)) n).1) ∧ ((refW ar rs ((a)) ((b)) ((a)) n).2.1) = ((refW ar rs ((a)) ((b)) ((a)) n).2.1)) rfl ?_)
                        refine XL.cons (XOp.pickF (.bool (decide (¬(((refW ar rs ((a)) ((b)) ((a)) n).1) = ((refW ar rs ((a)) ((b)) ((a)) n).1) ∧ ((refW ar rs ((a)) ((b)) ((a)) n).2.1) = ((refW ar rs ((a)) ((b)) ((a)) n).2.1))))) (congrArg Value.bool (decide_eq_false h10)) rfl ?_)
                        refine XL.cons (XOp.move (.bool (decide (¬(((refW ar rs ((a)) ((b)) ((a)) n).1) = ((refW ar rs ((a)) ((b)) ((a)) n).1) ∧ ((refW ar rs ((a)) ((b)) ((a)) n).2.1) = ((refW ar rs ((a)) ((b)) ((a)) n).2.1))))) rfl ?_)
                        refine XL.yes (t := 110) rfl (congrArg Value.bool (decide_eq_false h4)) (XOp.loadN [x11, x12] Tryz.isAgg66 Tryz.sizeOf66 rfl rfl (Rd.ownN [_, _, _, _, _, _, _, _, _, _] rfl rfl) ?_)
                        refine XL.yes (t := 110) rfl (congrArg Value.bool (decide_eq_false h4)) (XOp.loadN [x5, x6] Tryz.isAgg66 Tryz.sizeOf66 rfl rfl (Rd.ownN [_, _, _, _, _, _, _, _, _, _, _, _, _] rfl rfl) ?_)
                        refine XL.yes (t := 110) rfl (congrArg Value.bool (decide_eq_false h4)) (XOp.lend [_, _, _, _, _, _, _, _] _ _ rfl (fun F28 le28 hz21 => ?_))
                        refine id (XOp.lend [_, _, _, _, _, _, _, _] _ _ rfl (fun F29 le29 hz22 => ?_))
                        have hf21 : IntsF _ x11 ((refW ar rs ((a)) ((b)) ((b)) n).1) := (intsH.fz (xs := (refW ar rs ((a)) ((b)) ((b)) n).1) hz21).mono le29
                        have hf22 : StepsF _ x12 ((refW ar rs ((a)) ((b)) ((b)) n).2.1) := stepsD.fz hz22
                        refine id (XOp.call (args := [.agg #[x11, x12], .agg #[x5, x6]]) Tryz.call40 rfl (eqWalk_spec hf21 hf22 ((hr6.mono (FLe.trans le28 le29))) ((hr7.mono (FLe.trans le28 le29))) (hfl := (by first | assumption | rfl | omega | (left; simp; done) | (right; simp; done))) (hal := (by first | assumption | rfl | omega | (left; simp; done) | (right; simp; done))) (hbd := (by first | assumption | exact fun i hi => by have := hnd91 i hi; omega | exact fun i hi => by have := hnd92 i hi; omega))) ?_)
                        rintro _ _ _ _ ⟨rfl, rfl, rfl⟩
                        show XL _ _ _ _ _ _ _ (intsH 2 x11 ((refW ar rs ((a)) ((b)) ((b)) n).1) :: stepsD 2 133 x12 ((refW ar rs ((a)) ((b)) ((b)) n).2.1) :: intsH 2 x9 ((refW ar rs ((a)) ((b)) ((a)) n).1) :: stepsD 2 133 x10 ((refW ar rs ((a)) ((b)) ((a)) n).2.1) :: intsH 2 v4 m4 :: intsH 2 v3 m3 :: intsH 2 x7 m1 :: pairsD 2 135 x8 m2 :: intsH 2 v6 ((b)) :: intsH 2 v5 ((a)) :: cellsH b6 [x11, x12] 66 :: cellsH b5 [x9, x10] 66 :: cellsH b4 [x7, x8] 37 :: cellsH b3 [x5, x6] 66 :: cellsH b2 [x3, x4] 66 :: cellsH b1 [arv, rsv] 27 :: L)
                        refine XL.yes (t := 110) rfl (congrArg Value.bool (decide_eq_false h4)) (XOp.notD (p := ((refW ar rs ((a)) ((b)) ((b)) n).1) = ((refW ar rs ((a)) ((b)) ((b)) n).1) ∧ ((refW ar rs ((a)) ((b)) ((b)) n).2.1) = ((refW ar rs ((a)) ((b)) ((b)) n).2.1)) rfl ?_)
                        refine XL.cons (XOp.pickF (.bool (decide (¬(((refW ar rs ((a)) ((b)) ((b)) n).1) = ((refW ar rs ((a)) ((b)) ((b)) n).1) ∧ ((refW ar rs ((a)) ((b)) ((b)) n).2.1) = ((refW ar rs ((a)) ((b)) ((b)) n).2.1))))) (congrArg Value.bool (decide_eq_false h4)) rfl ?_)
                        refine XL.cons (XOp.move (.bool (decide (¬(((refW ar rs ((a)) ((b)) ((b)) n).1) = ((refW ar rs ((a)) ((b)) ((b)) n).1) ∧ ((refW ar rs ((a)) ((b)) ((b)) n).2.1) = ((refW ar rs ((a)) ((b)) ((b)) n).2.1))))) rfl ?_)
                        refine XL.yes (t := 116) rfl (congrArg Value.bool (decide_eq_false h5)) (XOp.move (.bool ((refW ar rs ((a)) ((b)) ((a)) n).2.2)) rfl ?_)
                        refine XL.yes (t := 116) rfl (congrArg Value.bool (decide_eq_false h5)) (XOp.move (.bool ((refW ar rs ((a)) ((b)) ((a)) n).2.2)) rfl ?_)
                        refine XL.yes (t := 116) rfl (congrArg Value.bool (decide_eq_false h5)) (XOp.neB (a := (refW ar rs ((a)) ((b)) ((a)) n).2.2) (b := (refW ar rs ((a)) ((b)) ((a)) n).2.2) Tryz.runUnderlying4 rfl rfl ?_)
                        refine XL.cons (XOp.pickF (.bool (decide (((refW ar rs ((a)) ((b)) ((a)) n).2.2) ≠ ((refW ar rs ((a)) ((b)) ((a)) n).2.2)))) (congrArg Value.bool (decide_eq_false h5)) rfl ?_)
                        refine XL.nil ?_
                        refine X.condF (congrArg Value.bool (decide_eq_false h6)) ?_
                        refine X.skip ?_
                        refine X.seq ?_
                        refine X.region ?_
                        refine XL.cons (XOp.assign (.int .i64 (1)) rfl ?_)
                        refine XL.nil ?_
                        refine X.seq ?_
                        refine X.region ?_
                        refine XL.cons (XOp.loadN [x9, x10] Tryz.isAgg66 Tryz.sizeOf66 rfl rfl (Rd.ownN [_, _, _, _, _, _, _, _, _, _, _] rfl rfl) ?_)
                        refine XL.cons (XOp.move (.int .i64 (1)) rfl ?_)
                        refine XL.weaken (Sub.front (A := [_, _, _])) ?_
                        show XL _ _ _ _ _ _ _ (stepsD 2 133 x10 ((refW ar rs ((a)) ((b)) ((a)) n).2.1) :: intsH 2 x11 ((refW ar rs ((a)) ((b)) ((b)) n).1) :: stepsD 2 133 x12 ((refW ar rs ((a)) ((b)) ((b)) n).2.1) :: intsH 2 x9 ((refW ar rs ((a)) ((b)) ((a)) n).1) :: intsH 2 v4 m4 :: intsH 2 v3 m3 :: intsH 2 x7 m1 :: pairsD 2 135 x8 m2 :: intsH 2 v6 ((b)) :: intsH 2 v5 ((a)) :: cellsH b6 [x11, x12] 66 :: cellsH b5 [x9, x10] 66 :: cellsH b4 [x7, x8] 37 :: cellsH b3 [x5, x6] 66 :: cellsH b2 [x3, x4] 66 :: cellsH b1 [arv, rsv] 27 :: L)
                        refine XL.weaken (Sub.front (A := [_, _, _])) ?_
                        show XL _ _ _ _ _ _ _ (intsH 2 x9 ((refW ar rs ((a)) ((b)) ((a)) n).1) :: stepsD 2 133 x10 ((refW ar rs ((a)) ((b)) ((a)) n).2.1) :: intsH 2 x11 ((refW ar rs ((a)) ((b)) ((b)) n).1) :: stepsD 2 133 x12 ((refW ar rs ((a)) ((b)) ((b)) n).2.1) :: intsH 2 v4 m4 :: intsH 2 v3 m3 :: intsH 2 x7 m1 :: pairsD 2 135 x8 m2 :: intsH 2 v6 ((b)) :: intsH 2 v5 ((a)) :: cellsH b6 [x11, x12] 66 :: cellsH b5 [x9, x10] 66 :: cellsH b4 [x7, x8] 37 :: cellsH b3 [x5, x6] 66 :: cellsH b2 [x3, x4] 66 :: cellsH b1 [arv, rsv] 27 :: L)
                        refine XL.cons (XOp.call (args := [.agg #[x9, x10], .int .i64 (1)]) Tryz.call41 rfl (markWalk_spec (by (try simp only [List.length_append]); omega) (by omega)) ?_)
                        rintro _ _ _ _ ⟨m5, m6, hm4, hk2, rfl, rfl, rfl⟩
                        have hml4 := congrArg List.length hm4
                        rw [iota_len] at hml4
                        try simp only [List.length_append] at hml4
                        refine XL.cons (XOp.assign (.int .i64 (1 + (((((refW ar rs ((a)) ((b)) ((a)) n).1)) ++ (((refW ar rs ((a)) ((b)) ((a)) n).2.1).flatMap flatStep)).length : Int))) rfl ?_)
                        refine XL.nil ?_
                        refine X.seq ?_
                        refine X.region ?_
                        refine XL.cons (XOp.loadN [x11, x12] Tryz.isAgg66 Tryz.sizeOf66 rfl rfl (Rd.ownN [_, _, _, _, _, _, _, _, _, _] rfl rfl) ?_)
                        refine XL.cons (XOp.move (.int .i64 (1 + (((((refW ar rs ((a)) ((b)) ((a)) n).1)) ++ (((refW ar rs ((a)) ((b)) ((a)) n).2.1).flatMap flatStep)).length : Int))) rfl ?_)
                        refine XL.weaken (Sub.front (A := [_, _, _])) ?_
                        show XL _ _ _ _ _ _ _ (stepsD 2 133 x12 ((refW ar rs ((a)) ((b)) ((b)) n).2.1) :: intsH 2 x9 m5 :: stepsD 2 133 x10 m6 :: intsH 2 x11 ((refW ar rs ((a)) ((b)) ((b)) n).1) :: intsH 2 v4 m4 :: intsH 2 v3 m3 :: intsH 2 x7 m1 :: pairsD 2 135 x8 m2 :: intsH 2 v6 ((b)) :: intsH 2 v5 ((a)) :: cellsH b6 [x11, x12] 66 :: cellsH b5 [x9, x10] 66 :: cellsH b4 [x7, x8] 37 :: cellsH b3 [x5, x6] 66 :: cellsH b2 [x3, x4] 66 :: cellsH b1 [arv, rsv] 27 :: L)
                        refine XL.weaken (Sub.front (A := [_, _, _])) ?_
                        show XL _ _ _ _ _ _ _ (intsH 2 x11 ((refW ar rs ((a)) ((b)) ((b)) n).1) :: stepsD 2 133 x12 ((refW ar rs ((a)) ((b)) ((b)) n).2.1) :: intsH 2 x9 m5 :: stepsD 2 133 x10 m6 :: intsH 2 v4 m4 :: intsH 2 v3 m3 :: intsH 2 x7 m1 :: pairsD 2 135 x8 m2 :: intsH 2 v6 ((b)) :: intsH 2 v5 ((a)) :: cellsH b6 [x11, x12] 66 :: cellsH b5 [x9, x10] 66 :: cellsH b4 [x7, x8] 37 :: cellsH b3 [x5, x6] 66 :: cellsH b2 [x3, x4] 66 :: cellsH b1 [arv, rsv] 27 :: L)
                        refine XL.cons (XOp.call (args := [.agg #[x11, x12], .int .i64 (1 + (((((refW ar rs ((a)) ((b)) ((a)) n).1)) ++ (((refW ar rs ((a)) ((b)) ((a)) n).2.1).flatMap flatStep)).length : Int))]) Tryz.call41 rfl (markWalk_spec (by (try simp only [List.length_append]); omega) (by omega)) ?_)
                        rintro _ _ _ _ ⟨m7, m8, hm5, hk3, rfl, rfl, rfl⟩
                        have hml5 := congrArg List.length hm5
                        rw [iota_len] at hml5
                        try simp only [List.length_append] at hml5
                        refine XL.cons (XOp.assign (.int .i64 ((1 + (((((refW ar rs ((a)) ((b)) ((a)) n).1)) ++ (((refW ar rs ((a)) ((b)) ((a)) n).2.1).flatMap flatStep)).length : Int)) + (((((refW ar rs ((a)) ((b)) ((b)) n).1)) ++ (((refW ar rs ((a)) ((b)) ((b)) n).2.1).flatMap flatStep)).length : Int))) rfl ?_)
                        refine XL.nil ?_
                        refine X.seq ?_
                        refine X.region ?_
                        refine XL.cons (XOp.assign (.int .i64 (1)) rfl ?_)
                        refine XL.nil ?_
                        refine X.seq ?_
                        refine X.region ?_
                        refine XL.cons (XOp.loadN [x9, x10] Tryz.isAgg66 Tryz.sizeOf66 rfl rfl (Rd.ownN [_, _, _, _, _, _, _, _, _, _, _] rfl rfl) ?_)
                        refine XL.cons (XOp.move (.int .i64 (1)) rfl ?_)
                        refine XL.cons (XOp.lend [_, _] _ _ rfl (fun F30 le30 hz23 => ?_))
                        refine id (XOp.lend [_, _] _ _ rfl (fun F31 le31 hz24 => ?_))
                        have hf23 : IntsF _ x9 m5 := (intsH.fz (xs := m5) hz23).mono le31
                        have hf24 : StepsF _ x10 m6 := stepsD.fz hz24
                        refine id (XOp.call (args := [.agg #[x9, x10], .int .i64 (1)]) Tryz.call42 rfl (heldWalk_spec (z := 1) hf23 hf24 (hzb := (by first | assumption | rfl | omega | (left; simp; done) | (right; simp; done))) (hxl := (by first | assumption | rfl | omega | (left; simp; done) | (right; simp; done)))) ?_)
                        rintro _ _ _ _ ⟨rfl, rfl, rfl⟩
                        show XL _ _ _ _ _ _ _ (intsH 2 x9 m5 :: stepsD 2 133 x10 m6 :: intsH 2 x11 m7 :: stepsD 2 133 x12 m8 :: intsH 2 v4 m4 :: intsH 2 v3 m3 :: intsH 2 x7 m1 :: pairsD 2 135 x8 m2 :: intsH 2 v6 ((b)) :: intsH 2 v5 ((a)) :: cellsH b6 [x11, x12] 66 :: cellsH b5 [x9, x10] 66 :: cellsH b4 [x7, x8] 37 :: cellsH b3 [x5, x6] 66 :: cellsH b2 [x3, x4] 66 :: cellsH b1 [arv, rsv] 27 :: L)
                        refine XL.cons (XOp.assign (.int .i64 (heldF (m5 ++ m6.flatMap flatStep) 1)) rfl ?_)
                        refine XL.nil ?_
                        refine X.seq ?_
                        refine X.seq ?_
                        refine X.region ?_
                        refine XL.cons (XOp.move (.int .i64 (heldF (m5 ++ m6.flatMap flatStep) 1)) rfl ?_)
                        refine XL.cons (XOp.lss (a := heldF (m5 ++ m6.flatMap flatStep) 1) (b := 0) rfl rfl ?_)
                        refine XL.nil ?_
                        refine X.condD (p := (heldF (m5 ++ m6.flatMap flatStep) 1 : Int) < 0) rfl (fun h11 => ?_) (fun h11 => ?_)
                        · rw [hm4, heldF_iota] at h11
                          exact absurd h11 (by omega)
                        · have hh2 := (fun (l : List Int) (k k2 : Int) (n : Nat) (h : l = iota k n) (hk : k2 = k) => show heldF l k2 = k + n from (by subst hk; rw [h, heldF_iota])) _ _ (1) _ hm4 (by first | rfl | omega)
                          have hh2l := hh2
                          try simp only [List.length_append] at hh2l
                          refine X.skip ?_
                          refine X.seq ?_
                          refine X.region ?_
                          refine XL.cons (XOp.loadN [x11, x12] Tryz.isAgg66 Tryz.sizeOf66 rfl rfl (Rd.ownN [_, _, _, _, _, _, _, _, _, _] rfl rfl) ?_)
                          refine XL.cons (XOp.move (.int .i64 (heldF (m5 ++ m6.flatMap flatStep) 1)) rfl ?_)
                          refine XL.cons (XOp.lend [_, _] _ _ rfl (fun F32 le32 hz25 => ?_))
                          refine id (XOp.lend [_, _] _ _ rfl (fun F33 le33 hz26 => ?_))
                          have hf25 : IntsF _ x11 m7 := (intsH.fz (xs := m7) hz25).mono le33
                          have hf26 : StepsF _ x12 m8 := stepsD.fz hz26
                          refine id (XOp.call (args := [.agg #[x11, x12], .int .i64 (heldF (m5 ++ m6.flatMap flatStep) 1)]) Tryz.call42 rfl (heldWalk_spec (z := heldF (m5 ++ m6.flatMap flatStep) 1) hf25 hf26 (hzb := (by first | assumption | rfl | omega | (left; simp; done) | (right; simp; done))) (hxl := (by first | assumption | rfl | omega | (left; simp; done) | (right; simp; done)))) ?_)
                          rintro _ _ _ _ ⟨rfl, rfl, rfl⟩
                          show XL _ _ _ _ _ _ _ (intsH 2 x11 m7 :: stepsD 2 133 x12 m8 :: intsH 2 x9 m5 :: stepsD 2 133 x10 m6 :: intsH 2 v4 m4 :: intsH 2 v3 m3 :: intsH 2 x7 m1 :: pairsD 2 135 x8 m2 :: intsH 2 v6 ((b)) :: intsH 2 v5 ((a)) :: cellsH b6 [x11, x12] 66 :: cellsH b5 [x9, x10] 66 :: cellsH b4 [x7, x8] 37 :: cellsH b3 [x5, x6] 66 :: cellsH b2 [x3, x4] 66 :: cellsH b1 [arv, rsv] 27 :: L)
                          refine XL.cons (XOp.assign (.int .i64 (heldF (m7 ++ m8.flatMap flatStep) (heldF (m5 ++ m6.flatMap flatStep) 1))) rfl ?_)
                          refine XL.nil ?_
                          refine X.seq ?_
                          refine X.seq ?_
                          refine X.region ?_
                          refine XL.cons (XOp.move (.int .i64 (heldF (m7 ++ m8.flatMap flatStep) (heldF (m5 ++ m6.flatMap flatStep) 1))) rfl ?_)
                          refine XL.cons (XOp.lss (a := heldF (m7 ++ m8.flatMap flatStep) (heldF (m5 ++ m6.flatMap flatStep) 1)) (b := 0) rfl rfl ?_)
                          refine XL.nil ?_
                          refine X.condD (p := (heldF (m7 ++ m8.flatMap flatStep) (heldF (m5 ++ m6.flatMap flatStep) 1) : Int) < 0) rfl (fun h12 => ?_) (fun h12 => ?_)
                          · have hh3 := (fun (l : List Int) (k k2 : Int) (n : Nat) (h : l = iota k n) (hk : k2 = k) => show heldF l k2 = k + n from (by subst hk; rw [h, heldF_iota])) _ _ (heldF (m5 ++ m6.flatMap flatStep) 1) _ hm5 (by first | rfl | omega)
                            exact absurd h12 (by omega)
                          · have hh4 := (fun (l : List Int) (k k2 : Int) (n : Nat) (h : l = iota k n) (hk : k2 = k) => show heldF l k2 = k + n from (by subst hk; rw [h, heldF_iota])) _ _ (heldF (m5 ++ m6.flatMap flatStep) 1) _ hm5 (by first | rfl | omega)
                            have hh4l := hh4
                            try simp only [List.length_append] at hh4l
                            refine X.skip ?_
                            refine X.seq ?_
                            refine X.seq ?_
                            refine X.region ?_
                            refine XL.cons (XOp.move (.int .i64 (heldF (m7 ++ m8.flatMap flatStep) (heldF (m5 ++ m6.flatMap flatStep) 1))) rfl ?_)
                            refine XL.cons (XOp.move (.int .i64 ((1 + (((((refW ar rs ((a)) ((b)) ((a)) n).1)) ++ (((refW ar rs ((a)) ((b)) ((a)) n).2.1).flatMap flatStep)).length : Int)) + (((((refW ar rs ((a)) ((b)) ((b)) n).1)) ++ (((refW ar rs ((a)) ((b)) ((b)) n).2.1).flatMap flatStep)).length : Int))) rfl ?_)
                            refine XL.cons (XOp.neq (a := heldF (m7 ++ m8.flatMap flatStep) (heldF (m5 ++ m6.flatMap flatStep) 1)) (b := (1 + (((((refW ar rs ((a)) ((b)) ((a)) n).1)) ++ (((refW ar rs ((a)) ((b)) ((a)) n).2.1).flatMap flatStep)).length : Int)) + (((((refW ar rs ((a)) ((b)) ((b)) n).1)) ++ (((refW ar rs ((a)) ((b)) ((b)) n).2.1).flatMap flatStep)).length : Int)) rfl rfl ?_)
                            refine XL.nil ?_
                            refine X.condD (p := (heldF (m7 ++ m8.flatMap flatStep) (heldF (m5 ++ m6.flatMap flatStep) 1) : Int) ≠ (1 + (((((refW ar rs ((a)) ((b)) ((a)) n).1)) ++ (((refW ar rs ((a)) ((b)) ((a)) n).2.1).flatMap flatStep)).length : Int)) + (((((refW ar rs ((a)) ((b)) ((b)) n).1)) ++ (((refW ar rs ((a)) ((b)) ((b)) n).2.1).flatMap flatStep)).length : Int)) rfl (fun h13 => ?_) (fun h13 => ?_)
                            · exact absurd (by omega) h13
                            · refine X.skip ?_
                              refine X.seq ?_
                              refine X.region ?_
                              refine XL.cons (XOp.loadN [arv, rsv] Tryz.isAgg27 Tryz.sizeOf27 rfl rfl (Rd.ownN [_, _, _, _, _, _, _, _, _, _, _, _, _, _, _] rfl rfl) ?_)
                              refine XL.cons (XOp.thawL ?_)
                              refine id (XOp.call (args := [.agg #[arv, rsv]]) Tryz.call12 rfl (toSystem_spec har hrs (hla := (by first | assumption | rfl | omega | (left; simp; done) | (right; simp; done))) (hrl := (by first | assumption | rfl | omega | (left; simp; done) | (right; simp; done))) (hrb := (by first | assumption | rfl | omega | (left; simp; done) | (right; simp; done)))) ?_)
                              rintro _ F34 _ le34 ⟨x17, x18, rfl, hr22, hr23, hr24, rfl⟩
                              refine ⟨[intsH 2 x17 ar, pairsD 2 135 x18 rs], hr24, ?_⟩
                              show XL _ _ _ _ _ _ _ (intsH 2 x17 ar :: pairsD 2 135 x18 rs :: intsH 2 x11 m7 :: stepsD 2 133 x12 m8 :: intsH 2 x9 m5 :: stepsD 2 133 x10 m6 :: intsH 2 v4 m4 :: intsH 2 v3 m3 :: intsH 2 x7 m1 :: pairsD 2 135 x8 m2 :: intsH 2 v6 ((b)) :: intsH 2 v5 ((a)) :: cellsH b6 [x11, x12] 66 :: cellsH b5 [x9, x10] 66 :: cellsH b4 [x7, x8] 37 :: cellsH b3 [x5, x6] 66 :: cellsH b2 [x3, x4] 66 :: cellsH b1 [arv, rsv] 27 :: L)
                              refine XL.cons (XOp.move (av) rfl ?_)
                              refine XL.cons (XOp.call (args := [av]) Tryz.call13 rfl (toInt64S_spec ha (hlx := (by first | assumption | rfl | omega | (left; simp; done) | (right; simp; done)))) ?_)
                              rintro v7 _ _ _ ⟨rfl, hs7, rfl⟩
                              refine XL.cons (XOp.move (bv) rfl ?_)
                              refine XL.cons (XOp.call (args := [bv]) Tryz.call13 rfl (toInt64S_spec hb (hlx := (by first | assumption | rfl | omega | (left; simp; done) | (right; simp; done)))) ?_)
                              rintro v8 _ _ _ ⟨rfl, hs8, rfl⟩
                              refine XL.cons (XOp.move (.int .i64 (n)) rfl ?_)
                              refine XL.cons (XOp.lend [_, _] _ _ rfl (fun F35 le35 hz27 => ?_))
                              refine id (XOp.lend [_, _] _ _ rfl (fun F36 le36 hz28 => ?_))
                              refine id (XOp.lend [_] _ _ rfl (fun F37 le37 hz29 => ?_))
                              refine id (XOp.lend [] _ _ rfl (fun F38 le38 hz30 => ?_))
                              have hf27 : IntsF _ x17 ar := (intsH.fz (xs := ar) hz27).mono (FLe.trans (FLe.trans le36 le37) le38)
                              have hf28 : PairsF _ x18 rs := (pairsD.fz hz28).mono (FLe.trans le37 le38)
                              have hf29 : IntsF _ v7 ((a)) := (intsH.fz (xs := (a)) hz29).mono le38
                              have hf30 : IntsF _ v8 ((b)) := intsH.fz (xs := (b)) hz30
                              refine id (XOp.thawL ?_)
                              refine id (XOp.call (args := [.agg #[x17, x18], v7, v8, .int .i64 (n)]) Tryz.call39 rfl (RefutedBy_spec (n := n) hf27 hf28 hf29 hf30) ?_)
                              rintro _ F39 _ le39 ⟨x19, x20, x21, x22, rfl, hr25, hr26, hr27, hr28, hr29, rfl⟩
                              refine ⟨[intsH 2 x19 ((refW ar rs ((a)) ((b)) ((a)) n).1), stepsD 2 133 x20 ((refW ar rs ((a)) ((b)) ((a)) n).2.1), intsH 2 x21 ((refW ar rs ((a)) ((b)) ((b)) n).1), stepsD 2 133 x22 ((refW ar rs ((a)) ((b)) ((b)) n).2.1)], hr29, ?_⟩
                              show XL _ _ _ _ _ _ _ (intsH 2 x17 ar :: pairsD 2 135 x18 rs :: intsH 2 v7 ((a)) :: intsH 2 v8 ((b)) :: intsH 2 x19 ((refW ar rs ((a)) ((b)) ((a)) n).1) :: stepsD 2 133 x20 ((refW ar rs ((a)) ((b)) ((a)) n).2.1) :: intsH 2 x21 ((refW ar rs ((a)) ((b)) ((b)) n).1) :: stepsD 2 133 x22 ((refW ar rs ((a)) ((b)) ((b)) n).2.1) :: intsH 2 x11 m7 :: stepsD 2 133 x12 m8 :: intsH 2 x9 m5 :: stepsD 2 133 x10 m6 :: intsH 2 v4 m4 :: intsH 2 v3 m3 :: intsH 2 x7 m1 :: pairsD 2 135 x8 m2 :: intsH 2 v6 ((b)) :: intsH 2 v5 ((a)) :: cellsH b6 [x11, x12] 66 :: cellsH b5 [x9, x10] 66 :: cellsH b4 [x7, x8] 37 :: cellsH b3 [x5, x6] 66 :: cellsH b2 [x3, x4] 66 :: cellsH b1 [arv, rsv] 27 :: L)
                              refine XL.cons (XOp.move (.tuple #[.agg #[x19, x20], .agg #[x21, x22], .bool ((refW ar rs ((a)) ((b)) ((a)) n).2.2)]) rfl ?_)
                              refine XL.cons (XOp.extract (.agg #[x19, x20]) rfl rfl ?_)
                              refine XL.cons (XOp.extract (.agg #[x21, x22]) rfl rfl ?_)
                              refine XL.cons (XOp.extract (.bool ((refW ar rs ((a)) ((b)) ((a)) n).2.2)) rfl rfl ?_)
                              refine XL.cons (XOp.alloc [(.slice none 0 0), (.slice none 0 0)] Tryz.zeroValue66 rfl ?_)
                              intro b7
                              refine XL.cons (XOp.alloc [(.slice none 0 0), (.slice none 0 0)] Tryz.zeroValue66 rfl ?_)
                              intro b8
                              refine XL.cons (XOp.storeN (vs := [x19, x20]) [_] _ [x19, x20] Tryz.sizeOf66 rfl rfl rfl (ones_cons (one_sl (IntsF.isSl hr25)) (ones_cons (one_sl (StepsF.isSl hr26)) ones_nil)) rfl rfl rfl ?_)
                              refine XL.cons (XOp.storeN (vs := [x21, x22]) [] _ [x21, x22] Tryz.sizeOf66 rfl rfl rfl (ones_cons (one_sl (IntsF.isSl hr27)) (ones_cons (one_sl (StepsF.isSl hr28)) ones_nil)) rfl rfl rfl ?_)
                              refine XL.cons (XOp.assign (.bool ((refW ar rs ((a)) ((b)) ((a)) n).2.2)) rfl ?_)
                              refine XL.nil ?_
                              refine X.seq ?_
                              refine X.seq ?_
                              refine X.region ?_
                              refine XL.cons (XOp.loadN [x19, x20] Tryz.isAgg66 Tryz.sizeOf66 rfl rfl (Rd.ownN [_] rfl rfl) ?_)
                              refine XL.cons (XOp.loadN [x3, x4] Tryz.isAgg66 Tryz.sizeOf66 rfl rfl (Rd.ownN [_, _, _, _, _, _, _, _, _, _, _, _, _, _, _, _, _, _, _, _, _, _, _, _] rfl rfl) ?_)
                              refine XL.cons (XOp.lend [_, _, _, _, _, _] _ _ rfl (fun F40 le40 hz31 => ?_))
                              refine id (XOp.lend [_, _, _, _, _, _] _ _ rfl (fun F41 le41 hz32 => ?_))
                              have hf31 : IntsF _ x19 ((refW ar rs ((a)) ((b)) ((a)) n).1) := (intsH.fz (xs := (refW ar rs ((a)) ((b)) ((a)) n).1) hz31).mono le41
                              have hf32 : StepsF _ x20 ((refW ar rs ((a)) ((b)) ((a)) n).2.1) := stepsD.fz hz32
                              refine id (XOp.call (args := [.agg #[x19, x20], .agg #[x3, x4]]) Tryz.call40 rfl (eqWalk_spec hf31 hf32 ((hr4.mono (FLe.trans le40 le41))) ((hr5.mono (FLe.trans le40 le41))) (hfl := (by first | assumption | rfl | omega | (left; simp; done) | (right; simp; done))) (hal := (by first | assumption | rfl | omega | (left; simp; done) | (right; simp; done))) (hbd := (by first | assumption | exact fun i hi => by have := hnd91 i hi; omega | exact fun i hi => by have := hnd92 i hi; omega))) ?_)
                              rintro _ _ _ _ ⟨rfl, rfl, rfl⟩
                              show XL _ _ _ _ _ _ _ (intsH 2 x19 ((refW ar rs ((a)) ((b)) ((a)) n).1) :: stepsD 2 133 x20 ((refW ar rs ((a)) ((b)) ((a)) n).2.1) :: cellsH b8 [x21, x22] 66 :: cellsH b7 [x19, x20] 66 :: intsH 2 x17 ar :: pairsD 2 135 x18 rs :: intsH 2 v7 ((a)) :: intsH 2 v8 ((b)) :: intsH 2 x21 ((refW ar rs ((a)) ((b)) ((b)) n).1) :: stepsD 2 133 x22 ((refW ar rs ((a)) ((b)) ((b)) n).2.1) :: intsH 2 x11 m7 :: stepsD 2 133 x12 m8 :: intsH 2 x9 m5 :: stepsD 2 133 x10 m6 :: intsH 2 v4 m4 :: intsH 2 v3 m3 :: intsH 2 x7 m1 :: pairsD 2 135 x8 m2 :: intsH 2 v6 ((b)) :: intsH 2 v5 ((a)) :: cellsH b6 [x11, x12] 66 :: cellsH b5 [x9, x10] 66 :: cellsH b4 [x7, x8] 37 :: cellsH b3 [x5, x6] 66 :: cellsH b2 [x3, x4] 66 :: cellsH b1 [arv, rsv] 27 :: L)
                              refine XL.cons (XOp.notD (p := ((refW ar rs ((a)) ((b)) ((a)) n).1) = ((refW ar rs ((a)) ((b)) ((a)) n).1) ∧ ((refW ar rs ((a)) ((b)) ((a)) n).2.1) = ((refW ar rs ((a)) ((b)) ((a)) n).2.1)) rfl ?_)
                              refine XL.cons (XOp.move (.bool (decide (¬(((refW ar rs ((a)) ((b)) ((a)) n).1) = ((refW ar rs ((a)) ((b)) ((a)) n).1) ∧ ((refW ar rs ((a)) ((b)) ((a)) n).2.1) = ((refW ar rs ((a)) ((b)) ((a)) n).2.1))))) rfl ?_)
                              refine XL.yes (t := 156) rfl (congrArg Value.bool (decide_eq_false h4)) (XOp.loadN [x21, x22] Tryz.isAgg66 Tryz.sizeOf66 rfl rfl (Rd.ownN [_, _] rfl rfl) ?_)
                              refine XL.yes (t := 156) rfl (congrArg Value.bool (decide_eq_false h4)) (XOp.loadN [x5, x6] Tryz.isAgg66 Tryz.sizeOf66 rfl rfl (Rd.ownN [_, _, _, _, _, _, _, _, _, _, _, _, _, _, _, _, _, _, _, _, _, _, _] rfl rfl) ?_)
                              refine XL.yes (t := 156) rfl (congrArg Value.bool (decide_eq_false h4)) (XOp.lend [_, _, _, _, _, _, _, _] _ _ rfl (fun F42 le42 hz33 => ?_))
                              refine id (XOp.lend [_, _, _, _, _, _, _, _] _ _ rfl (fun F43 le43 hz34 => ?_))
                              have hf33 : IntsF _ x21 ((refW ar rs ((a)) ((b)) ((b)) n).1) := (intsH.fz (xs := (refW ar rs ((a)) ((b)) ((b)) n).1) hz33).mono le43
                              have hf34 : StepsF _ x22 ((refW ar rs ((a)) ((b)) ((b)) n).2.1) := stepsD.fz hz34
                              refine id (XOp.call (args := [.agg #[x21, x22], .agg #[x5, x6]]) Tryz.call40 rfl (eqWalk_spec hf33 hf34 ((hr6.mono (FLe.trans le42 le43))) ((hr7.mono (FLe.trans le42 le43))) (hfl := (by first | assumption | rfl | omega | (left; simp; done) | (right; simp; done))) (hal := (by first | assumption | rfl | omega | (left; simp; done) | (right; simp; done))) (hbd := (by first | assumption | exact fun i hi => by have := hnd91 i hi; omega | exact fun i hi => by have := hnd92 i hi; omega))) ?_)
                              rintro _ _ _ _ ⟨rfl, rfl, rfl⟩
                              show XL _ _ _ _ _ _ _ (intsH 2 x21 ((refW ar rs ((a)) ((b)) ((b)) n).1) :: stepsD 2 133 x22 ((refW ar rs ((a)) ((b)) ((b)) n).2.1) :: intsH 2 x19 ((refW ar rs ((a)) ((b)) ((a)) n).1) :: stepsD 2 133 x20 ((refW ar rs ((a)) ((b)) ((a)) n).2.1) :: cellsH b8 [x21, x22] 66 :: cellsH b7 [x19, x20] 66 :: intsH 2 x17 ar :: pairsD 2 135 x18 rs :: intsH 2 v7 ((a)) :: intsH 2 v8 ((b)) :: intsH 2 x11 m7 :: stepsD 2 133 x12 m8 :: intsH 2 x9 m5 :: stepsD 2 133 x10 m6 :: intsH 2 v4 m4 :: intsH 2 v3 m3 :: intsH 2 x7 m1 :: pairsD 2 135 x8 m2 :: intsH 2 v6 ((b)) :: intsH 2 v5 ((a)) :: cellsH b6 [x11, x12] 66 :: cellsH b5 [x9, x10] 66 :: cellsH b4 [x7, x8] 37 :: cellsH b3 [x5, x6] 66 :: cellsH b2 [x3, x4] 66 :: cellsH b1 [arv, rsv] 27 :: L)
                              refine XL.yes (t := 156) rfl (congrArg Value.bool (decide_eq_false h4)) (XOp.notD (p := ((refW ar rs ((a)) ((b)) ((b)) n).1) = ((refW ar rs ((a)) ((b)) ((b)) n).1) ∧ ((refW ar rs ((a)) ((b)) ((b)) n).2.1) = ((refW ar rs ((a)) ((b)) ((b)) n).2.1)) rfl ?_)
                              refine XL.cons (XOp.pickF (.bool (decide (¬(((refW ar rs ((a)) ((b)) ((b)) n).1) = ((refW ar rs ((a)) ((b)) ((b)) n).1) ∧ ((refW ar rs ((a)) ((b)) ((b)) n).2.1) = ((refW ar rs ((a)) ((b)) ((b)) n).2.1))))) (congrArg Value.bool (decide_eq_false h4)) rfl ?_)
                              refine XL.cons (XOp.move (.bool (decide (¬(((refW ar rs ((a)) ((b)) ((b)) n).1) = ((refW ar rs ((a)) ((b)) ((b)) n).1) ∧ ((refW ar rs ((a)) ((b)) ((b)) n).2.1) = ((refW ar rs ((a)) ((b)) ((b)) n).2.1))))) rfl ?_)
                              refine XL.yes (t := 162) rfl (congrArg Value.bool (decide_eq_false h5)) (XOp.move (.bool ((refW ar rs ((a)) ((b)) ((a)) n).2.2)) rfl ?_)
                              refine XL.yes (t := 162) rfl (congrArg Value.bool (decide_eq_false h5)) (XOp.move (.bool ((refW ar rs ((a)) ((b)) ((a)) n).2.2)) rfl ?_)
                              refine XL.yes (t := 162) rfl (congrArg Value.bool (decide_eq_false h5)) (XOp.neB (a := (refW ar rs ((a)) ((b)) ((a)) n).2.2) (b := (refW ar rs ((a)) ((b)) ((a)) n).2.2) Tryz.runUnderlying4 rfl rfl ?_)
                              refine XL.cons (XOp.pickF (.bool (decide (((refW ar rs ((a)) ((b)) ((a)) n).2.2) ≠ ((refW ar rs ((a)) ((b)) ((a)) n).2.2)))) (congrArg Value.bool (decide_eq_false h5)) rfl ?_)
                              refine XL.nil ?_
                              refine X.condF (congrArg Value.bool (decide_eq_false h6)) ?_
                              refine X.skip ?_
                              refine X.seq ?_
                              refine X.region ?_
                              refine XL.cons (XOp.assign (.int .i64 (1)) rfl ?_)
                              refine XL.nil ?_
                              refine X.seq ?_
                              refine X.region ?_
                              refine XL.cons (XOp.loadN [x9, x10] Tryz.isAgg66 Tryz.sizeOf66 rfl rfl (Rd.ownN [_, _, _, _, _, _, _, _, _, _, _, _, _, _, _, _, _, _, _, _, _] rfl rfl) ?_)
                              refine XL.cons (XOp.move (.int .i64 (1)) rfl ?_)
                              refine XL.cons (XOp.lend [_, _, _, _, _, _, _, _, _, _, _, _] _ _ rfl (fun F44 le44 hz35 => ?_))
                              refine id (XOp.lend [_, _, _, _, _, _, _, _, _, _, _, _] _ _ rfl (fun F45 le45 hz36 => ?_))
                              have hf35 : IntsF _ x9 m5 := (intsH.fz (xs := m5) hz35).mono le45
                              have hf36 : StepsF _ x10 m6 := stepsD.fz hz36
                              refine id (XOp.call (args := [.agg #[x9, x10], .int .i64 (1)]) Tryz.call42 rfl (heldWalk_spec (z := 1) hf35 hf36 (hzb := (by first | assumption | rfl | omega | (left; simp; done) | (right; simp; done))) (hxl := (by first | assumption | rfl | omega | (left; simp; done) | (right; simp; done)))) ?_)
                              rintro _ _ _ _ ⟨rfl, rfl, rfl⟩
                              show XL _ _ _ _ _ _ _ (intsH 2 x9 m5 :: stepsD 2 133 x10 m6 :: intsH 2 x21 ((refW ar rs ((a)) ((b)) ((b)) n).1) :: stepsD 2 133 x22 ((refW ar rs ((a)) ((b)) ((b)) n).2.1) :: intsH 2 x19 ((refW ar rs ((a)) ((b)) ((a)) n).1) :: stepsD 2 133 x20 ((refW ar rs ((a)) ((b)) ((a)) n).2.1) :: cellsH b8 [x21, x22] 66 :: cellsH b7 [x19, x20] 66 :: intsH 2 x17 ar :: pairsD 2 135 x18 rs :: intsH 2 v7 ((a)) :: intsH 2 v8 ((b)) :: intsH 2 x11 m7 :: stepsD 2 133 x12 m8 :: intsH 2 v4 m4 :: intsH 2 v3 m3 :: intsH 2 x7 m1 :: pairsD 2 135 x8 m2 :: intsH 2 v6 ((b)) :: intsH 2 v5 ((a)) :: cellsH b6 [x11, x12] 66 :: cellsH b5 [x9, x10] 66 :: cellsH b4 [x7, x8] 37 :: cellsH b3 [x5, x6] 66 :: cellsH b2 [x3, x4] 66 :: cellsH b1 [arv, rsv] 27 :: L)
                              refine XL.cons (XOp.assign (.int .i64 (heldF (m5 ++ m6.flatMap flatStep) 1)) rfl ?_)
                              refine XL.nil ?_
                              refine X.seq ?_
                              refine X.seq ?_
                              refine X.region ?_
                              refine XL.cons (XOp.move (.int .i64 (heldF (m5 ++ m6.flatMap flatStep) 1)) rfl ?_)
                              refine XL.cons (XOp.lss (a := heldF (m5 ++ m6.flatMap flatStep) 1) (b := 0) rfl rfl ?_)
                              refine XL.nil ?_
                              refine X.condF (congrArg Value.bool (decide_eq_false h11)) ?_
                              refine X.skip ?_
                              refine X.seq ?_
                              refine X.region ?_
                              refine XL.cons (XOp.loadN [x11, x12] Tryz.isAgg66 Tryz.sizeOf66 rfl rfl (Rd.ownN [_, _, _, _, _, _, _, _, _, _, _, _, _, _, _, _, _, _, _, _] rfl rfl) ?_)
                              refine XL.cons (XOp.move (.int .i64 (heldF (m5 ++ m6.flatMap flatStep) 1)) rfl ?_)
                              refine XL.cons (XOp.lend [_, _, _, _, _, _, _, _, _, _, _, _] _ _ rfl (fun F46 le46 hz37 => ?_))
                              refine id (XOp.lend [_, _, _, _, _, _, _, _, _, _, _, _] _ _ rfl (fun F47 le47 hz38 => ?_))
                              have hf37 : IntsF _ x11 m7 := (intsH.fz (xs := m7) hz37).mono le47
                              have hf38 : StepsF _ x12 m8 := stepsD.fz hz38
                              refine id (XOp.call (args := [.agg #[x11, x12], .int .i64 (heldF (m5 ++ m6.flatMap flatStep) 1)]) Tryz.call42 rfl (heldWalk_spec (z := heldF (m5 ++ m6.flatMap flatStep) 1) hf37 hf38 (hzb := (by first | assumption | rfl | omega | (left; simp; done) | (right; simp; done))) (hxl := (by first | assumption | rfl | omega | (left; simp; done) | (right; simp; done)))) ?_)
                              rintro _ _ _ _ ⟨rfl, rfl, rfl⟩
                              show XL _ _ _ _ _ _ _ (intsH 2 x11 m7 :: stepsD 2 133 x12 m8 :: intsH 2 x9 m5 :: stepsD 2 133 x10 m6 :: intsH 2 x21 ((refW ar rs ((a)) ((b)) ((b)) n).1) :: stepsD 2 133 x22 ((refW ar rs ((a)) ((b)) ((b)) n).2.1) :: intsH 2 x19 ((refW ar rs ((a)) ((b)) ((a)) n).1) :: stepsD 2 133 x20 ((refW ar rs ((a)) ((b)) ((a)) n).2.1) :: cellsH b8 [x21, x22] 66 :: cellsH b7 [x19, x20] 66 :: intsH 2 x17 ar :: pairsD 2 135 x18 rs :: intsH 2 v7 ((a)) :: intsH 2 v8 ((b)) :: intsH 2 v4 m4 :: intsH 2 v3 m3 :: intsH 2 x7 m1 :: pairsD 2 135 x8 m2 :: intsH 2 v6 ((b)) :: intsH 2 v5 ((a)) :: cellsH b6 [x11, x12] 66 :: cellsH b5 [x9, x10] 66 :: cellsH b4 [x7, x8] 37 :: cellsH b3 [x5, x6] 66 :: cellsH b2 [x3, x4] 66 :: cellsH b1 [arv, rsv] 27 :: L)
                              refine XL.cons (XOp.assign (.int .i64 (heldF (m7 ++ m8.flatMap flatStep) (heldF (m5 ++ m6.flatMap flatStep) 1))) rfl ?_)
                              refine XL.nil ?_
                              refine X.seq ?_
                              refine X.seq ?_
                              refine X.region ?_
                              refine XL.cons (XOp.move (.int .i64 (heldF (m7 ++ m8.flatMap flatStep) (heldF (m5 ++ m6.flatMap flatStep) 1))) rfl ?_)
                              refine XL.cons (XOp.lss (a := heldF (m7 ++ m8.flatMap flatStep) (heldF (m5 ++ m6.flatMap flatStep) 1)) (b := 0) rfl rfl ?_)
                              refine XL.nil ?_
                              refine X.condF (congrArg Value.bool (decide_eq_false h12)) ?_
                              refine X.skip ?_
                              refine X.seq ?_
                              refine X.seq ?_
                              refine X.region ?_
                              refine XL.cons (XOp.move (.int .i64 (heldF (m7 ++ m8.flatMap flatStep) (heldF (m5 ++ m6.flatMap flatStep) 1))) rfl ?_)
                              refine XL.cons (XOp.move (.int .i64 ((1 + (((((refW ar rs ((a)) ((b)) ((a)) n).1)) ++ (((refW ar rs ((a)) ((b)) ((a)) n).2.1).flatMap flatStep)).length : Int)) + (((((refW ar rs ((a)) ((b)) ((b)) n).1)) ++ (((refW ar rs ((a)) ((b)) ((b)) n).2.1).flatMap flatStep)).length : Int))) rfl ?_)
                              refine XL.cons (XOp.neq (a := heldF (m7 ++ m8.flatMap flatStep) (heldF (m5 ++ m6.flatMap flatStep) 1)) (b := (1 + (((((refW ar rs ((a)) ((b)) ((a)) n).1)) ++ (((refW ar rs ((a)) ((b)) ((a)) n).2.1).flatMap flatStep)).length : Int)) + (((((refW ar rs ((a)) ((b)) ((b)) n).1)) ++ (((refW ar rs ((a)) ((b)) ((b)) n).2.1).flatMap flatStep)).length : Int)) rfl rfl ?_)
                              refine XL.nil ?_
                              refine X.condF (congrArg Value.bool (decide_eq_false h13)) ?_
                              refine X.skip ?_
                              refine X.seq ?_
                              refine X.region ?_
                              refine XL.cons (XOp.assign (.bool (true)) rfl ?_)
                              refine XL.nil ?_
                              refine X.ret (retEnd (L' := L) [.bool (true)] (.bool (true)) (.tmp rfl .nil) rfl (FLe.refl _) (FLe.trans (FLe.trans (FLe.trans (FLe.trans (FLe.trans le2 le3) le4) le5) le6) le19) (Sub.drop (Sub.drop (Sub.drop (Sub.drop (Sub.drop (Sub.drop (Sub.drop (Sub.drop (Sub.drop (Sub.drop (Sub.drop (Sub.drop (Sub.drop (Sub.drop (Sub.drop (Sub.drop (Sub.drop (Sub.drop (Sub.drop (Sub.drop (Sub.drop (Sub.drop (Sub.drop (Sub.drop (Sub.drop (Sub.drop (Sub.refl _))))))))))))))))))))))))))) ?_)
                              exact ⟨rfl, rfl, rfl⟩
end Go.Proofs.YtbooflphoaaoeaaGreat
