/-
  Walks, one after the other (part 5).
-/
import Derived.Test.YtiaanelimbmniaaQtL1
import Derived.Test.YtiaanelimbmniaaQtB2
import Derived.Test.YtiaanelimbmniaaQtB3
set_option linter.unusedSimpArgs false
set_option linter.unusedVariables false
namespace Go.Proofs.Ytiaanelimbmniaa
open Go X M

/- spec.l19Steps -/
theorem l19Steps_spec {F : FH} {L : List HP} {n : Int} :
    Does Try.prog 72 [.int .i64 (n)] F (L) (fun v F' L' => (.bool (decide (1 ≤ n ∧ n ≤ 20)) : Value) = v ∧ F = F' ∧ L = L') := by
 refine Does.of_X Try.func72 rfl rfl rfl ?_
 refine X.seq ?_
 refine X.region ?_
 refine XL.cons (XOp.assign (.bool (false)) rfl ?_)
 refine XL.nil ?_
 refine X.seq ?_
 refine X.region ?_
 refine XL.cons (XOp.move (.int .i64 (n)) rfl ?_)
 refine XL.cons (XOp.call (args := [.int .i64 (n), .int .i64 (1), .int .i64 (20)]) Try.call81 rfl (l1In_spec (n := n) (a := 1) (b := 20)) ?_)
 rintro _ _ _ _ ⟨rfl, rfl, rfl⟩
 refine XL.cons (XOp.assign (.bool (decide (1 ≤ n ∧ n ≤ 20))) rfl ?_)
 refine XL.nil ?_
 refine X.ret (retEnd (L' := L) [.bool (decide (1 ≤ n ∧ n ≤ 20))] (.bool (decide (1 ≤ n ∧ n ≤ 20))) (.tmp rfl .nil) rfl (FLe.refl _) (FLe.refl _) (Sub.refl _) ?_)
 exact ⟨rfl, rfl, rfl⟩

/- spec.Matched -/
theorem sMatched_spec {F : FH} {L : List HP} {arv : Value} {ar : List Int} (har : IntsF F arv ar) {pv : Value} {p : List Int} (hp : IntsF F pv p) {tv : Value} {t : List Int} (ht : IntsF F tv t) (ho : termOk ar t = true) (hpo : termOk ar p = true) (hla : ar.length ≤ 4000000) :
    Does Try.prog 145 [.agg #[arv], pv, tv] F (L) (fun v F' L' => ∃ (a : Value), (.tuple #[.agg #[a], .bool ((matchB ar p t).isSome)] : Value) = v ∧ (RowsF F' a (matchP ar p t)) ∧ L = L') := by
 refine Does.of_X Try.func145 rfl rfl rfl ?_
 have hpl := termOk_len hpo
 have htl := termOk_len ho
 refine X.seq ?_
 refine X.region ?_
 refine XL.cons (XOp.box [arv] rfl rfl ?_)
 intro b1
 refine XL.cons (XOp.alloc [(.slice none 0 0)] Try.zeroValue96 rfl ?_)
 intro b2
 refine XL.cons (XOp.assign (.bool (false)) rfl ?_)
 refine XL.nil ?_
 refine X.seq ?_
 refine X.seq ?_
 refine X.region ?_
 refine XL.cons (XOp.loadN [arv] Try.isAgg30 Try.sizeOf30 rfl rfl (Rd.ownN [_] rfl rfl) ?_)
 refine XL.cons (XOp.move (pv) rfl ?_)
 refine XL.cons (XOp.call (args := [.agg #[arv], pv]) Try.call87 rfl (sTermOk_spec har hp (hla := (by first | assumption | rfl | omega | (left; simp; done) | (right; simp; done))) (hlt := (by first | assumption | rfl | omega | (left; simp; done) | (right; simp; done)))) ?_)
 rintro _ _ _ _ ⟨rfl, rfl, rfl⟩
 refine XL.cons (XOp.notB (b := termOk ar p) rfl ?_)
 refine XL.cons (XOp.move (.bool (!(termOk ar p))) rfl ?_)
 by_cases h1 : (!(termOk ar p)) = true
 ·exact absurd h1 (by simp [ho, hpo])
 ·rw [Bool.not_eq_true] at h1
  refine XL.yes (t := 12) rfl (congrArg Value.bool h1) (XOp.loadN [arv] Try.isAgg30 Try.sizeOf30 rfl rfl (Rd.ownN [_] rfl rfl) ?_)
  refine XL.yes (t := 12) rfl (congrArg Value.bool h1) (XOp.move (tv) rfl ?_)
  refine XL.yes (t := 12) rfl (congrArg Value.bool h1) (XOp.call (args := [.agg #[arv], tv]) Try.call87 rfl (sTermOk_spec har ht (hla := (by first | assumption | rfl | omega | (left; simp; done) | (right; simp; done))) (hlt := (by first | assumption | rfl | omega | (left; simp; done) | (right; simp; done)))) ?_)
  rintro _ _ _ _ ⟨rfl, rfl, rfl⟩
  refine XL.yes (t := 12) rfl (congrArg Value.bool h1) (XOp.notB (b := termOk ar t) rfl ?_)
  refine XL.cons (XOp.pickF (.bool (!(termOk ar t))) (congrArg Value.bool h1) rfl ?_)
  refine XL.nil ?_
  refine X.cond (t := !(termOk ar t)) rfl (fun h2 => ?_) (fun h2 => ?_)
  ·exact absurd h2 (by simp [ho, hpo])
  ·refine X.skip ?_
   refine X.seq ?_
   refine X.region ?_
   refine XL.cons (XOp.loadN [arv] Try.isAgg30 Try.sizeOf30 rfl rfl (Rd.ownN [_] rfl rfl) ?_)
   refine XL.cons (XOp.move (pv) rfl ?_)
   refine XL.cons (XOp.move (tv) rfl ?_)
   refine XL.cons (XOp.call (args := [.agg #[arv], pv, tv]) Try.call105 rfl (l4Match_spec har hp ht (ho := (by first | assumption | rfl | omega | (left; simp; done) | (right; simp; done))) (hpo := (by first | assumption | rfl | omega | (left; simp; done) | (right; simp; done)))) ?_)
   rintro _ F1 _ le1 ⟨x1, rfl, hr1, rfl⟩
   replace har := har.mono le1
   replace hp := hp.mono le1
   replace ht := ht.mono le1
   refine XL.cons (XOp.extract (.agg #[x1]) rfl rfl ?_)
   refine XL.cons (XOp.extract (.bool ((matchB ar p t).isSome)) rfl rfl ?_)
   refine XL.cons (XOp.storeN (vs := [x1]) [] _ [x1] Try.sizeOf96 rfl rfl rfl (ones_cons (one_sl (RowsF.isSl hr1)) ones_nil) rfl rfl rfl ?_)
   refine XL.cons (XOp.assign (.bool ((matchB ar p t).isSome)) rfl ?_)
   refine XL.nil ?_
   refine X.ret (retEnd (L' := L) [.agg #[x1], .bool ((matchB ar p t).isSome)] (.tuple #[.agg #[x1], .bool ((matchB ar p t).isSome)]) (.cell rfl (loadNV [x1] Try.isAgg96 Try.sizeOf96 rfl (Rd.ownN [] rfl rfl)) (.tmp rfl .nil)) rfl le1 (FLe.refl _) (Sub.drop (Sub.drop (Sub.refl _))) ?_)
   exact ⟨_, rfl, hr1, rfl⟩

/- spec.StepsFrom -/
set_option maxRecDepth 20000 in
theorem sStepsFrom_spec {F : FH} {L : List HP} {arv : Value} {ar : List Int} (har : IntsF F arv ar) {rsv : Value} {rs : List (List Int × List Int)} (hrs : PairsF F rsv rs) {tv : Value} {t : List Int} (ht : IntsF F tv t) (hsys : sysOk ar rs = true) (ho : termOk ar t = true) (hla : ar.length ≤ 4000000) (hlr : rs.length ≤ 4000000) (hrb : ∀ i, i < rs.length → (rs.getD i ([], [])).1.length ≤ 4000000 ∧ (rs.getD i ([], [])).2.length ≤ 4000000) (hlt : t.length ≤ 4000000) :
    Does Try.prog 126 [.agg #[arv, rsv], tv] F (L) (fun v F' L' => ∃ (a : Value), (a : Value) = v ∧ (StepsF F' a (stepsL ar rs t)) ∧ L = L') := by
 refine Does.of_X Try.func126 rfl rfl rfl ?_
 refine X.seq ?_
 refine X.region ?_
 refine XL.cons (XOp.box [arv, rsv] rfl rfl ?_)
 intro b1
 refine XL.cons (XOp.assign ((.slice none 0 0)) rfl ?_)
 refine XL.nil ?_
 refine X.seq ?_
 refine X.seq ?_
 refine X.region ?_
 refine XL.cons (XOp.loadN [arv, rsv] Try.isAgg33 Try.sizeOf33 rfl rfl (Rd.ownN [] rfl rfl) ?_)
 refine XL.cons (XOp.move (tv) rfl ?_)
 refine XL.cons (XOp.call (args := [.agg #[arv, rsv], tv]) Try.call53 rfl (l7Right_spec har hrs ht (hla := (by first | assumption | rfl | omega | (left; simp; done) | (right; simp; done))) (hlr := (by first | assumption | rfl | omega | (left; simp; done) | (right; simp; done))) (hrb := (by first | assumption | rfl | omega | (left; simp; done) | (right; simp; done))) (hlt := (by first | assumption | rfl | omega | (left; simp; done) | (right; simp; done)))) ?_)
 rintro _ _ _ _ ⟨rfl, rfl, rfl⟩
 refine XL.cons (XOp.notB (b := rightB ar rs t) rfl ?_)
 refine XL.nil ?_
 refine X.cond (t := !(rightB ar rs t)) rfl (fun h1 => ?_) (fun h1 => ?_)
 ·exact absurd h1 (by simp [rightB, hsys, ho])
 ·refine X.skip ?_
  refine X.seq ?_
  refine X.region ?_
  refine XL.cons (XOp.loadN [arv, rsv] Try.isAgg33 Try.sizeOf33 rfl rfl (Rd.ownN [] rfl rfl) ?_)
  refine XL.cons (XOp.move (tv) rfl ?_)
  refine XL.cons (XOp.call (args := [.agg #[arv, rsv], tv]) Try.call82 rfl (l7Steps_spec har hrs ht (hsys := (by first | assumption | rfl | omega | (left; simp; done) | (right; simp; done))) (ho := (by first | assumption | rfl | omega | (left; simp; done) | (right; simp; done)))) ?_)
  rintro _ F1 _ le1 ⟨x1, rfl, hr1, rfl⟩
  replace har := har.mono le1
  replace hrs := hrs.mono le1
  replace ht := ht.mono le1
  refine XL.cons (XOp.assign (x1) rfl ?_)
  refine XL.nil ?_
  refine X.ret (retEnd (L' := L) [x1] (x1) (.tmp rfl .nil) rfl le1 (FLe.refl _) (Sub.drop (Sub.refl _)) ?_)
  exact ⟨_, rfl, hr1, rfl⟩

/- spec.l19Found -/
theorem l19Found_spec {F : FH} {L : List HP} {arv : Value} {ar : List Int} (har : IntsF F arv ar) {rsv : Value} {rs : List (List Int × List Int)} (hrs : PairsF F rsv rs) {tv : Value} {t : List Int} (ht : IntsF F tv t) {uv : Value} {u : List Int} (hu : IntsF F uv u) (ho : termOk ar t = true) (huo : termOk ar u = true) (hla : ar.length ≤ 4000000) :
    Does Try.prog 127 [.agg #[arv, rsv], tv, uv] F (L) (fun v F' L' => ∃ (a : Value), (.tuple #[.int .i64 (instI ar t u), .agg #[a]] : Value) = v ∧ (RowsF F' a (placeS ar t u)) ∧ L = L') := by
 refine Does.of_X Try.func127 rfl rfl rfl ?_
 have hul := termOk_len huo
 have htl := termOk_len ho
 refine X.seq ?_
 refine X.region ?_
 refine XL.cons (XOp.box [arv, rsv] rfl rfl ?_)
 intro b1
 refine XL.cons (XOp.assign (.int .i64 (0)) rfl ?_)
 refine XL.cons (XOp.alloc [(.slice none 0 0)] Try.zeroValue96 rfl ?_)
 intro b2
 refine XL.nil ?_
 refine X.seq ?_
 refine X.seq ?_
 refine X.region ?_
 refine XL.cons (XOp.assign (.int .i64 (0)) rfl ?_)
 refine XL.nil ?_
 refine X.block ?_
 refine X.loop (α := Nat × FH) (fun xQ => [(1, tv), (2, uv), (3, ptr b1 0), (7, ptr b2 0), (8, .int .i64 (((xQ.1 : Nat) : Int)))]) (fun xQ => cellsH b2 [(.slice none 0 0)] 96 :: cellsH b1 [arv, rsv] 33 :: L) (fun xQ F' => xQ.2 = F' ∧ F ≤ xQ.2 ∧ (xQ.1 ≤ u.length) ∧ (∀ i, i < xQ.1 → (matchB ar t (sub ar u i)).isSome = false)) (fun xQ => u.length - xQ.1) (0, F) ⟨rfl, rfl, rfl, rfl, rfl, trivial⟩ (Sub.cons (Sub.cons (Sub.refl _))) ⟨rfl, FLe.refl _, (by (try dsimp only) <;> omega), (fun i hi => absurd hi (by omega))⟩ ?_
 rintro ⟨k, G1⟩ rE _ _ ⟨rfl, leG, hk, hall⟩
 show X _ _ _ _ (envs [(1, tv), (2, uv), (3, ptr b1 0), (7, ptr b2 0), (8, .int .i64 (((k : Nat) : Int)))] rE) _ (cellsH b2 [(.slice none 0 0)] 96 :: cellsH b1 [arv, rsv] 33 :: L)
 replace leG : F ≤ G1 := leG
 dsimp only at hk hall
 have hsk := fun (h : k < u.length) => (show (if posOk ar u ((k : Nat) : Int) = true then sub ar u (((k : Nat) : Int)).toNat else []) = sub ar u k from if_pos (posOk_iff.2 ⟨huo, by omega⟩))
 have hso := fun (h : k < u.length) => sub_ok huo h
 have leG1 := leG
 replace har := har.mono leG1
 replace hrs := hrs.mono leG1
 replace ht := ht.mono leG1
 replace hu := hu.mono leG1
 refine X.seq ?_
 refine X.seq ?_
 refine X.region ?_
 refine XL.cons (XOp.move (.int .i64 (((k : Nat) : Int))) rfl ?_)
 refine XL.cons (XOp.move (uv) rfl ?_)
 refine XL.cons (XOp.lenS (v := uv) (n := (u).length) Try.runUnderlying22 rfl hu.slv ?_)
 refine XL.cons (XOp.lss (a := ((k : Nat) : Int)) (b := (((u).length : Nat) : Int)) rfl rfl ?_)
 refine XL.nil ?_
 refine X.condD (p := (((k : Nat) : Int) : Int) < (((u).length : Nat) : Int)) rfl (fun h1 => ?_) (fun h1 => ?_)
 ·refine X.skip ?_
  refine X.seq ?_
  refine X.block ?_
  refine X.seq ?_
  refine X.drawG [cellsH b2 [(.slice none 0 0)] 96, cellsH b1 [arv, rsv] 33] L 14 [[], [], [], [], [], [], [], [], [], [8], [8], [], [], [8, 12]] [[], [0], [], [], [3], [], [], [4, 5, 6], [1, 2, 7], [8], [8, 9], [8, 9], [], [8, 10, 12]] [[], [], [], [], [], [], [], [], [], [], [], [], [], [12]] (phiG [fun FF us v => v = ptr b1 0, fun FF us v => v = (.agg #[arv] : Value), fun FF us v => v = tv, fun FF us v => v = ptr b1 0, fun FF us v => v = (.agg #[arv] : Value), fun FF us v => v = uv, fun FF us v => v = (.int .i64 (((k : Nat) : Int)) : Value), fun FF us v => ((v) : Value) = v ∧ (IntsF FF (v) (if posOk ar u (((k : Nat) : Int)) = true then sub ar u (((k : Nat) : Int)).toNat else [])), fun FF us v => (.tuple #[.agg #[((aggAt (tupAt v 0) 0))], .bool ((matchB ar t (if posOk ar u (((k : Nat) : Int)) = true then sub ar u (((k : Nat) : Int)).toNat else [])).isSome)] : Value) = v ∧ (RowsF FF ((aggAt (tupAt v 0) 0)) (matchP ar t (if posOk ar u (((k : Nat) : Int)) = true then sub ar u (((k : Nat) : Int)).toNat else []))), fun FF us v => v = (.tuple #[.agg #[((aggAt (tupAt (us.getD 0 undef) 0) 0))], .bool ((matchB ar t (if posOk ar u (((k : Nat) : Int)) = true then sub ar u (((k : Nat) : Int)).toNat else [])).isSome)] : Value), fun FF us v => v = (.agg #[((aggAt (tupAt (us.getD 0 undef) 0) 0))] : Value), fun FF us v => v = (.bool ((matchB ar t (if posOk ar u (((k : Nat) : Int)) = true then sub ar u (((k : Nat) : Int)).toNat else [])).isSome) : Value), fun FF us v => v = ptr (blk v) 0, fun FF us v => True]) (ownL [fun us v => [], fun us v => [], fun us v => [], fun us v => [], fun us v => [], fun us v => [], fun us v => [], fun us v => [], fun us v => [], fun us v => [], fun us v => [], fun us v => [], fun us v => [cellsH (blk v) [(.slice none 0 0)] 96], fun us v => [cellsH (blk (us.getD 1 undef)) [((aggAt (tupAt (us.getD 0 undef) 0) 0))] 96]]) mixed rfl rfl (by kernel_rfl) (by kernel_rfl) (MonoG.get (MonoG.cons (fun le h => h) (MonoG.cons (fun le h => h) (MonoG.cons (fun le h => h) (MonoG.cons (fun le h => h) (MonoG.cons (fun le h => h) (MonoG.cons (fun le h => h) (MonoG.cons (fun le h => h) (MonoG.cons (fun le h => ⟨h.1, h.2.mono le⟩) (MonoG.cons (fun le h => ⟨h.1, h.2.mono le⟩) (MonoG.cons (fun le h => h) (MonoG.cons (fun le h => h) (MonoG.cons (fun le h => h) (MonoG.cons (fun le h => h) (MonoG.cons (fun le h => h) MonoG.nil))))))))))))))) ?_ ?_
  ·refine stepsG.cons (fun vals Fs R leFs hpZ => ?_) ?_
   ·refine XG.op (XOp.fieldP (b := b1) (0) Try.runUnderlying33 rfl Try.sizeOf30 (by decide) rfl rfl ?_)
    exact ⟨rfl, rfl⟩
   refine stepsG.cons (fun vals Fs R leFs hpZ => ?_) ?_
   ·have e0 : vals 0 = ptr b1 0 := hpZ 0 (by decide)
    replace har := har.mono leFs
    replace hrs := hrs.mono leFs
    replace ht := ht.mono leFs
    replace hu := hu.mono leFs
    rw [(envs_of_sat (l := [(0, ptr b1 0)]) ⟨e0, trivial⟩).symm]
    refine XG.op (XOp.loadN [arv] Try.isAgg30 Try.sizeOf30 rfl rfl (Rd.ownN [_] rfl rfl) ?_)
    exact ⟨rfl, rfl⟩
   refine stepsG.cons (fun vals Fs R leFs hpZ => ?_) ?_
   ·refine XG.op (XOp.move (tv) rfl ?_)
    exact ⟨rfl, rfl⟩
   refine stepsG.cons (fun vals Fs R leFs hpZ => ?_) ?_
   ·refine XG.op (XOp.fieldP (b := b1) (0) Try.runUnderlying33 rfl Try.sizeOf30 (by decide) rfl rfl ?_)
    exact ⟨rfl, rfl⟩
   refine stepsG.cons (fun vals Fs R leFs hpZ => ?_) ?_
   ·have e3 : vals 3 = ptr b1 0 := hpZ 3 (by decide)
    replace har := har.mono leFs
    replace hrs := hrs.mono leFs
    replace ht := ht.mono leFs
    replace hu := hu.mono leFs
    rw [(envs_of_sat (l := [(3, ptr b1 0)]) ⟨e3, trivial⟩).symm]
    refine XG.op (XOp.loadN [arv] Try.isAgg30 Try.sizeOf30 rfl rfl (Rd.ownN [_] rfl rfl) ?_)
    exact ⟨rfl, rfl⟩
   refine stepsG.cons (fun vals Fs R leFs hpZ => ?_) ?_
   ·refine XG.op (XOp.move (uv) rfl ?_)
    exact ⟨rfl, rfl⟩
   refine stepsG.cons (fun vals Fs R leFs hpZ => ?_) ?_
   ·refine XG.op (XOp.move (.int .i64 (((k : Nat) : Int))) rfl ?_)
    exact ⟨rfl, rfl⟩
   refine stepsG.cons (fun vals Fs R leFs hpZ => ?_) ?_
   ·have e4 : vals 4 = (.agg #[arv] : Value) := hpZ 4 (by decide)
    have e5 : vals 5 = uv := hpZ 5 (by decide)
    have e6 : vals 6 = (.int .i64 (((k : Nat) : Int)) : Value) := hpZ 6 (by decide)
    replace har := har.mono leFs
    replace hrs := hrs.mono leFs
    replace ht := ht.mono leFs
    replace hu := hu.mono leFs
    rw [(envs_of_sat (l := [(4, (.agg #[arv] : Value)), (5, uv), (6, (.int .i64 (((k : Nat) : Int)) : Value))]) ⟨e4, e5, e6, trivial⟩).symm]
    refine XG.op (XOp.call (args := [.agg #[arv], uv, .int .i64 (((k : Nat) : Int))]) Try.call146 rfl (sSubAt_spec (p := ((k : Nat) : Int)) har hu (hla := (by first | assumption | rfl | omega | (left; simp; done) | (right; simp; done))) (hlt := (by first | assumption | rfl | omega | (left; simp; done) | (right; simp; done)))) ?_)
    rintro _ F3 _ le3 ⟨x3, rfl, hr3, rfl⟩
    replace har := har.mono le3
    replace hrs := hrs.mono le3
    replace ht := ht.mono le3
    replace hu := hu.mono le3
    exact ⟨⟨rfl, hr3⟩, rfl⟩
   refine stepsG.cons (fun vals Fs R leFs hpZ => ?_) ?_
   ·have e1 : vals 1 = (.agg #[arv] : Value) := hpZ 1 (by decide)
    have e2 : vals 2 = tv := hpZ 2 (by decide)
    obtain ⟨e7, f7_1hr⟩ := hpZ 7 (by decide)
    replace har := har.mono leFs
    replace hrs := hrs.mono leFs
    replace ht := ht.mono leFs
    replace hu := hu.mono leFs
    rw [(envs_of_sat (l := [(1, (.agg #[arv] : Value)), (2, tv), (7, ((vals 7)))]) ⟨e1, e2, (e7).symm, trivial⟩).symm]
    refine XG.op (XOp.call (args := [.agg #[arv], tv, ((vals 7))]) Try.call145 rfl (sMatched_spec har ht f7_1hr (ho := (by rw [hsk (by omega)]; exact hso (by omega))) (hpo := (ho)) (hla := (by first | assumption | rfl | omega | (left; simp; done) | (right; simp; done)))) ?_)
    rintro _ F4 _ le4 ⟨x4, rfl, hr4, rfl⟩
    replace har := har.mono le4
    replace hrs := hrs.mono le4
    replace ht := ht.mono le4
    replace hu := hu.mono le4
    replace f7_1hr := f7_1hr.mono le4
    exact ⟨⟨rfl, hr4⟩, rfl⟩
   refine stepsG.cons (fun vals Fs R leFs hpZ => ?_) ?_
   ·obtain ⟨e8, f8_1hr⟩ := hpZ 8 (by decide)
    rw [(envs_of_sat (l := [(8, (.tuple #[.agg #[((aggAt (tupAt (vals 8) 0) 0))], .bool ((matchB ar t (if posOk ar u (((k : Nat) : Int)) = true then sub ar u (((k : Nat) : Int)).toNat else [])).isSome)] : Value))]) ⟨(e8).symm, trivial⟩).symm]
    refine XG.op (XOp.move (.tuple #[.agg #[((aggAt (tupAt (vals 8) 0) 0))], .bool ((matchB ar t (if posOk ar u (((k : Nat) : Int)) = true then sub ar u (((k : Nat) : Int)).toNat else [])).isSome)]) rfl ?_)
    exact ⟨rfl, rfl⟩
   refine stepsG.cons (fun vals Fs R leFs hpZ => ?_) ?_
   ·obtain ⟨e8, f8_1hr⟩ := hpZ 8 (by decide)
    have e9 : vals 9 = (.tuple #[.agg #[((aggAt (tupAt (vals 8) 0) 0))], .bool ((matchB ar t (if posOk ar u (((k : Nat) : Int)) = true then sub ar u (((k : Nat) : Int)).toNat else [])).isSome)] : Value) := hpZ 9 (by decide)
    rw [(envs_of_sat (l := [(8, (.tuple #[.agg #[((aggAt (tupAt (vals 8) 0) 0))], .bool ((matchB ar t (if posOk ar u (((k : Nat) : Int)) = true then sub ar u (((k : Nat) : Int)).toNat else [])).isSome)] : Value)), (9, (.tuple #[.agg #[((aggAt (tupAt (vals 8) 0) 0))], .bool ((matchB ar t (if posOk ar u (((k : Nat) : Int)) = true then sub ar u (((k : Nat) : Int)).toNat else [])).isSome)] : Value))]) ⟨(e8).symm, e9, trivial⟩).symm]
    refine XG.op (XOp.extract (.agg #[((aggAt (tupAt (vals 8) 0) 0))]) rfl rfl ?_)
    exact ⟨rfl, rfl⟩
   refine stepsG.cons (fun vals Fs R leFs hpZ => ?_) ?_
   ·obtain ⟨e8, f8_1hr⟩ := hpZ 8 (by decide)
    have e9 : vals 9 = (.tuple #[.agg #[((aggAt (tupAt (vals 8) 0) 0))], .bool ((matchB ar t (if posOk ar u (((k : Nat) : Int)) = true then sub ar u (((k : Nat) : Int)).toNat else [])).isSome)] : Value) := hpZ 9 (by decide)
    rw [(envs_of_sat (l := [(8, (.tuple #[.agg #[((aggAt (tupAt (vals 8) 0) 0))], .bool ((matchB ar t (if posOk ar u (((k : Nat) : Int)) = true then sub ar u (((k : Nat) : Int)).toNat else [])).isSome)] : Value)), (9, (.tuple #[.agg #[((aggAt (tupAt (vals 8) 0) 0))], .bool ((matchB ar t (if posOk ar u (((k : Nat) : Int)) = true then sub ar u (((k : Nat) : Int)).toNat else [])).isSome)] : Value))]) ⟨(e8).symm, e9, trivial⟩).symm]
    refine XG.op (XOp.extract (.bool ((matchB ar t (if posOk ar u (((k : Nat) : Int)) = true then sub ar u (((k : Nat) : Int)).toNat else [])).isSome)) rfl rfl ?_)
    exact ⟨rfl, rfl⟩
   refine stepsG.cons (fun vals Fs R leFs hpZ => ?_) ?_
   ·replace har := har.mono leFs
    replace hrs := hrs.mono leFs
    replace ht := ht.mono leFs
    replace hu := hu.mono leFs
    refine XG.op (XOp.alloc [(.slice none 0 0)] Try.zeroValue96 rfl ?_)
    intro b4
    exact ⟨rfl, rfl⟩
   refine stepsG.cons (fun vals Fs R leFs hpZ => ?_) ?_
   ·obtain ⟨e8, f8_1hr⟩ := hpZ 8 (by decide)
    have e10 : vals 10 = (.agg #[((aggAt (tupAt (vals 8) 0) 0))] : Value) := hpZ 10 (by decide)
    have e12 : vals 12 = ptr (blk (vals 12)) 0 := hpZ 12 (by decide)
    replace har := har.mono leFs
    replace hrs := hrs.mono leFs
    replace ht := ht.mono leFs
    replace hu := hu.mono leFs
    rw [(envs_of_sat (l := [(8, (.tuple #[.agg #[((aggAt (tupAt (vals 8) 0) 0))], .bool ((matchB ar t (if posOk ar u (((k : Nat) : Int)) = true then sub ar u (((k : Nat) : Int)).toNat else [])).isSome)] : Value)), (10, (.agg #[((aggAt (tupAt (vals 8) 0) 0))] : Value)), (12, ptr (blk (vals 12)) 0)]) ⟨(e8).symm, e10, e12, trivial⟩).symm]
    show XG _ _ _ _ _ (cellsH (blk (vals 12)) [(.slice none 0 0)] 96 :: ([cellsH b2 [(.slice none 0 0)] 96, cellsH b1 [arv, rsv] 33] ++ R)) _
    refine XG.op (XOp.storeN (vs := [((aggAt (tupAt (vals 8) 0) 0))]) [] _ [((aggAt (tupAt (vals 8) 0) 0))] Try.sizeOf96 rfl rfl rfl (ones_cons (one_sl (RowsF.isSl f8_1hr)) ones_nil) rfl rfl rfl ?_)
    exact ⟨trivial, rfl⟩
   exact stepsG.nil
  ·intro vals F5 le5 hphi
   have e0 : vals 0 = ptr b1 0 := hphi 0 (by decide)
   have e1 : vals 1 = (.agg #[arv] : Value) := hphi 1 (by decide)
   have e2 : vals 2 = tv := hphi 2 (by decide)
   have e3 : vals 3 = ptr b1 0 := hphi 3 (by decide)
   have e4 : vals 4 = (.agg #[arv] : Value) := hphi 4 (by decide)
   have e5 : vals 5 = uv := hphi 5 (by decide)
   have e6 : vals 6 = (.int .i64 (((k : Nat) : Int)) : Value) := hphi 6 (by decide)
   obtain ⟨e7, f7_1hr⟩ := hphi 7 (by decide)
   obtain ⟨e8, f8_1hr⟩ := hphi 8 (by decide)
   have e9 : vals 9 = (.tuple #[.agg #[((aggAt (tupAt (vals 8) 0) 0))], .bool ((matchB ar t (if posOk ar u (((k : Nat) : Int)) = true then sub ar u (((k : Nat) : Int)).toNat else [])).isSome)] : Value) := hphi 9 (by decide)
   have e10 : vals 10 = (.agg #[((aggAt (tupAt (vals 8) 0) 0))] : Value) := hphi 10 (by decide)
   have e11 : vals 11 = (.bool ((matchB ar t (if posOk ar u (((k : Nat) : Int)) = true then sub ar u (((k : Nat) : Int)).toNat else [])).isSome) : Value) := hphi 11 (by decide)
   have e12 : vals 12 = ptr (blk (vals 12)) 0 := hphi 12 (by decide)
   generalize hu1 : ((vals 7)) = u1 at e0 e1 e2 e3 e4 e5 e6 e7 f7_1hr e8 f8_1hr e9 e10 e11 e12
   generalize hu2 : ((aggAt (tupAt (vals 8) 0) 0)) = u2 at e0 e1 e2 e3 e4 e5 e6 e7 f7_1hr e8 f8_1hr e9 e10 e11 e12
   generalize hu3 : blk (vals 12) = b5 at e0 e1 e2 e3 e4 e5 e6 e7 f7_1hr e8 f8_1hr e9 e10 e11 e12
   rw [(envs_of_sat (l := [(0, ptr b1 0), (1, (.agg #[arv] : Value)), (2, tv), (3, ptr b1 0), (4, (.agg #[arv] : Value)), (5, uv), (6, (.int .i64 (((k : Nat) : Int)) : Value)), (7, u1), (8, (.tuple #[.agg #[u2], .bool ((matchB ar t (if posOk ar u (((k : Nat) : Int)) = true then sub ar u (((k : Nat) : Int)).toNat else [])).isSome)] : Value)), (9, (.tuple #[.agg #[u2], .bool ((matchB ar t (if posOk ar u (((k : Nat) : Int)) = true then sub ar u (((k : Nat) : Int)).toNat else [])).isSome)] : Value)), (10, (.agg #[u2] : Value)), (11, (.bool ((matchB ar t (if posOk ar u (((k : Nat) : Int)) = true then sub ar u (((k : Nat) : Int)).toNat else [])).isSome) : Value)), (12, ptr b5 0)]) ⟨e0, e1, e2, e3, e4, e5, e6, hu1, (e8).symm, e9, e10, e11, e12, trivial⟩).symm]
   replace har := har.mono le5
   replace hrs := hrs.mono le5
   replace ht := ht.mono le5
   replace hu := hu.mono le5
   show XL _ _ _ _ _ _ _ (cellsH b5 [u2] 96 :: cellsH b2 [(.slice none 0 0)] 96 :: cellsH b1 [arv, rsv] 33 :: L)
   refine XL.cons (XOp.assign (.bool ((matchB ar t (if posOk ar u (((k : Nat) : Int)) = true then sub ar u (((k : Nat) : Int)).toNat else [])).isSome)) rfl ?_)
   refine XL.nil ?_
   refine X.seq ?_
   refine X.region ?_
   refine XL.cons (XOp.move (.bool ((matchB ar t (if posOk ar u (((k : Nat) : Int)) = true then sub ar u (((k : Nat) : Int)).toNat else [])).isSome)) rfl ?_)
   refine XL.nil ?_
   refine X.cond (t := (matchB ar t (if posOk ar u (((k : Nat) : Int)) = true then sub ar u (((k : Nat) : Int)).toNat else [])).isSome) rfl (fun h2 => ?_) (fun h2 => ?_)
   ·have hmk : (matchB ar t (sub ar u k)).isSome = true := by rw [← hsk (by omega)]; exact h2
    refine X.seq ?_
    refine X.draw [cellsH b5 [u2] 96, cellsH b2 [(.slice none 0 0)] 96, cellsH b1 [arv, rsv] 33] L 3 [[], [], []] [[], [], [0]] (phiL [fun us v => v = (.int .i64 (((k : Nat) : Int)) : Value), fun us v => v = (.agg #[u2] : Value), fun us v => v = (.int .i64 (((k : Nat) : Int)) : Value)]) (ownL [fun us v => [], fun us v => [], fun us v => []]) mixed rfl rfl (by kernel_rfl) ?_ ?_
    ·refine stepsP.cons (fun vals R hpZ => ?_) ?_
     ·refine XG.op (XOp.move (.int .i64 (((k : Nat) : Int))) rfl ?_)
      exact ⟨rfl, rfl, rfl⟩
     refine stepsP.cons (fun vals R hpZ => ?_) ?_
     ·refine XG.op (XOp.loadN [u2] Try.isAgg96 Try.sizeOf96 rfl rfl (Rd.ownN [] rfl rfl) ?_)
      exact ⟨rfl, rfl, rfl⟩
     refine stepsP.cons (fun vals R hpZ => ?_) ?_
     ·rw [(envs_of_sat (l := [(0, (.int .i64 (((k : Nat) : Int)) : Value))]) ⟨hpZ 0 (by decide), trivial⟩).symm]
      refine XG.op (XOp.assign (.int .i64 (((k : Nat) : Int))) rfl ?_)
      exact ⟨rfl, rfl, rfl⟩
     exact stepsP.nil
    ·intro vals hphi
     have e0 : vals 0 = (.int .i64 (((k : Nat) : Int)) : Value) := hphi 0 (by decide)
     have e1 : vals 1 = (.agg #[u2] : Value) := hphi 1 (by decide)
     have e2 : vals 2 = (.int .i64 (((k : Nat) : Int)) : Value) := hphi 2 (by decide)
     rw [(envs_of_sat (l := [(0, (.int .i64 (((k : Nat) : Int)) : Value)), (1, (.agg #[u2] : Value)), (2, (.int .i64 (((k : Nat) : Int)) : Value))]) ⟨e0, e1, e2, trivial⟩).symm]
     show XL _ _ _ _ _ _ _ (cellsH b5 [u2] 96 :: cellsH b2 [(.slice none 0 0)] 96 :: cellsH b1 [arv, rsv] 33 :: L)
     refine XL.cons (XOp.storeN (vs := [u2]) [_] _ [u2] Try.sizeOf96 rfl rfl rfl (ones_cons (one_sl (RowsF.isSl f8_1hr)) ones_nil) rfl rfl rfl ?_)
     refine XL.nil ?_
     refine X.ret (blockQ_ret (thenQ_ret (thenQ_ret (blockQ_ret (thenQ_ret (retEnd (L' := L) [.int .i64 (((k : Nat) : Int)), .agg #[u2]] (.tuple #[.int .i64 (((k : Nat) : Int)), .agg #[u2]]) (.tmp rfl (.cell rfl (loadNV [u2] Try.isAgg96 Try.sizeOf96 rfl (Rd.ownN [_] rfl rfl)) .nil)) rfl (FLe.trans leG1 le5) (FLe.refl _) (Sub.drop (Sub.drop (Sub.drop (Sub.refl _)))) ?_))))))
     have e := instI_at (by omega) hmk hall
     have e2 := placeS_at e
     exact ⟨_, by rw [e], by rw [e2, ← hsk (by omega)]; exact f8_1hr, rfl⟩
   ·have hmk : (matchB ar t (sub ar u k)).isSome = false := by rw [← hsk (by omega)]; exact h2
    refine X.skip ?_
    refine X.region ?_
    refine XL.cons (XOp.move (.int .i64 (((k : Nat) : Int))) rfl ?_)
    refine XL.cons (XOp.addR (a := ((k : Nat) : Int)) (b := 1) (((k + 1 : Nat) : Int)) rfl rfl (by omega) (by omega) ?_)
    refine XL.cons (XOp.assign (.int .i64 (((k + 1 : Nat) : Int))) rfl ?_)
    refine XL.nil ?_
    exact ⟨(k + 1, F5), _, (FLe.trans leG1 le5), (FLe.refl _), ⟨rfl, rfl, rfl, rfl, rfl, trivial⟩, (Sub.drop (Sub.cons (Sub.cons (Sub.refl _)))), ⟨rfl, (FLe.trans leG1 le5), (by (try dsimp only) <;> omega), (fun i hi => (Nat.lt_or_ge i k).elim (fun h => hall i h) (fun h => by obtain rfl : i = k := (by omega); exact hmk))⟩, (by omega)⟩
 ·refine X.exit (thenQ_exit (thenQ_exit (blockQ_exit ?_)))
  refine X.seq ?_
  refine X.region ?_
  refine XL.cons (XOp.build [(.slice none 0 0)] [(.slice none 0 0)] [(0, 1)] [] Try.runUnderlying96 Try.zeroValue96 rfl (.cons rfl Try.sizeOf49 PlacesAre.nil) rfl CellsAre.nil ?_)
  refine XL.cons (XOp.assign (.int .i64 (-1)) rfl ?_)
  refine XL.cons (XOp.storeN (vs := [(.slice none 0 0)]) [] _ [(.slice none 0 0)] Try.sizeOf96 rfl rfl rfl (ones_cons rfl ones_nil) rfl rfl rfl ?_)
  refine XL.nil ?_
  refine X.ret (retEnd (L' := L) [.int .i64 (-1), .agg #[(.slice none 0 0)]] (.tuple #[.int .i64 (-1), .agg #[(.slice none 0 0)]]) (.tmp rfl (.cell rfl (loadNV [(.slice none 0 0)] Try.isAgg96 Try.sizeOf96 rfl (Rd.ownN [] rfl rfl)) .nil)) rfl leG1 (FLe.refl _) (Sub.drop (Sub.drop (Sub.refl _))) ?_)
  have e := instI_none (fun i hi => hall i (by omega))
  have e2 := placeS_none e
  exact ⟨_, by rw [e], by rw [e2]; exact SlOf.nilV, rfl⟩

/- spec.LoopFrom -/
set_option maxHeartbeats 1000000 in
set_option maxRecDepth 20000 in
theorem sLoopFrom_spec {F : FH} {L : List HP} {arv : Value} {ar : List Int} (har : IntsF F arv ar) {rsv : Value} {rs : List (List Int × List Int)} (hrs : PairsF F rsv rs) {tv : Value} {t : List Int} (ht : IntsF F tv t) {n : Int} (hla : ar.length ≤ 4000000) (hlr : rs.length ≤ 4000000) (hrb : ∀ i, i < rs.length → (rs.getD i ([], [])).1.length ≤ 4000000 ∧ (rs.getD i ([], [])).2.length ≤ 4000000) (hlt : t.length ≤ 4000000) :
    Does Try.prog 103 [.agg #[arv, rsv], tv, .int .i64 (n)] F (L) (fun v F' L' => ∃ (a : Value), ∃ (b : Value), ∃ (c : Value), (.tuple #[.agg #[a, b, .int .i64 ((loopF ar rs t n).2.2.1), c], .bool ((loopF ar rs t n).2.2.2.2)] : Value) = v ∧ (IntsF F' a (loopF ar rs t n).1) ∧ (StepsF F' b (loopF ar rs t n).2.1) ∧ (RowsF F' c (loopF ar rs t n).2.2.2.1) ∧ L = L') := by
 refine Does.of_X Try.func103 rfl rfl rfl ?_
 refine X.seq ?_
 refine X.region ?_
 refine XL.cons (XOp.box [arv, rsv] rfl rfl ?_)
 intro b1
 refine XL.cons (XOp.alloc [(.slice none 0 0), (.slice none 0 0), .int .i64 (0), (.slice none 0 0)] Try.zeroValue98 rfl ?_)
 intro b2
 refine XL.cons (XOp.assign (.bool (false)) rfl ?_)
 refine XL.nil ?_
 refine X.seq ?_
 refine X.seq ?_
 refine X.region ?_
 refine XL.cons (XOp.loadN [arv, rsv] Try.isAgg33 Try.sizeOf33 rfl rfl (Rd.ownN [_] rfl rfl) ?_)
 refine XL.cons (XOp.call (args := [.agg #[arv, rsv]]) Try.call86 rfl (sSystemOk_spec har hrs (hla := (by first | assumption | rfl | omega | (left; simp; done) | (right; simp; done))) (hlr := (by first | assumption | rfl | omega | (left; simp; done) | (right; simp; done))) (hrb := (by first | assumption | rfl | omega | (left; simp; done) | (right; simp; done)))) ?_)
 rintro _ _ _ _ ⟨rfl, rfl, rfl⟩
 refine XL.cons (XOp.notB (b := sysOk ar rs) rfl ?_)
 refine XL.cons (XOp.move (.bool (!(sysOk ar rs))) rfl ?_)
 by_cases h1 : (!(sysOk ar rs)) = true
 ·refine XL.no (t := 20) rfl (congrArg Value.bool h1) ?_
  refine XL.no (t := 20) rfl (congrArg Value.bool h1) ?_
  refine XL.no (t := 20) rfl (congrArg Value.bool h1) ?_
  refine XL.no (t := 20) rfl (congrArg Value.bool h1) ?_
  refine XL.no (t := 20) rfl (congrArg Value.bool h1) ?_
  refine XL.cons (XOp.pickT (.bool (true)) (congrArg Value.bool h1) rfl ?_)
  refine XL.cons (XOp.move (.bool (true)) rfl ?_)
  refine XL.no (t := 27) rfl rfl ?_
  refine XL.no (t := 27) rfl rfl ?_
  refine XL.no (t := 27) rfl rfl ?_
  refine XL.cons (XOp.pickT (.bool (true)) rfl rfl ?_)
  refine XL.nil ?_
  refine X.condT rfl ?_
  refine X.seq ?_
  refine X.region ?_
  refine XL.cons (XOp.build [(.slice none 0 0), (.slice none 0 0), .int .i64 (0), (.slice none 0 0)] [(.slice none 0 0), (.slice none 0 0), .int .i64 (0), (.slice none 0 0)] [(0, 2), (2, 1), (3, 1)] [] Try.runUnderlying98 Try.zeroValue98 rfl (.cons rfl Try.sizeOf41 (.cons rfl Try.sizeOf2 (.cons rfl Try.sizeOf96 PlacesAre.nil))) rfl CellsAre.nil ?_)
  refine XL.cons (XOp.storeN (vs := [(.slice none 0 0), (.slice none 0 0), .int .i64 (0), (.slice none 0 0)]) [] _ [(.slice none 0 0), (.slice none 0 0), .int .i64 (0), (.slice none 0 0)] Try.sizeOf98 rfl rfl rfl (ones_cons rfl (ones_cons rfl (ones_cons rfl (ones_cons rfl ones_nil)))) rfl rfl rfl ?_)
  refine XL.cons (XOp.assign (.bool (false)) rfl ?_)
  refine XL.nil ?_
  refine X.ret (thenQ_ret (retEnd (L' := L) [.agg #[(.slice none 0 0), (.slice none 0 0), .int .i64 (0), (.slice none 0 0)], .bool (false)] (.tuple #[.agg #[(.slice none 0 0), (.slice none 0 0), .int .i64 (0), (.slice none 0 0)], .bool (false)]) (.cell rfl (loadNV [(.slice none 0 0), (.slice none 0 0), .int .i64 (0), (.slice none 0 0)] Try.isAgg98 Try.sizeOf98 rfl (Rd.ownN [] rfl rfl)) (.tmp rfl .nil)) rfl (FLe.refl _) (FLe.refl _) (Sub.drop (Sub.drop (Sub.refl _))) ?_))
  have e : loopF ar rs t n = noLoop := loopF_no (by simp_all)
  exact ⟨_, _, _, by rw [e], by rw [e]; exact IntsF.nilV, by rw [e]; exact SlOf.nilV, by rw [e]; exact SlOf.nilV, rfl⟩
 ·rw [Bool.not_eq_true] at h1
  have hsys : sysOk ar rs = true := by simpa using h1
  have hrs12 := (sysOk_iff.1 hsys).2.1
  refine XL.yes (t := 20) rfl (congrArg Value.bool h1) (XOp.fieldP (b := b1) (0) Try.runUnderlying33 rfl Try.sizeOf30 (by decide) rfl rfl ?_)
  refine XL.yes (t := 20) rfl (congrArg Value.bool h1) (XOp.loadN [arv] Try.isAgg30 Try.sizeOf30 rfl rfl (Rd.ownN [_] rfl rfl) ?_)
  refine XL.yes (t := 20) rfl (congrArg Value.bool h1) (XOp.move (tv) rfl ?_)
  refine XL.yes (t := 20) rfl (congrArg Value.bool h1) (XOp.call (args := [.agg #[arv], tv]) Try.call87 rfl (sTermOk_spec har ht (hla := (by first | assumption | rfl | omega | (left; simp; done) | (right; simp; done))) (hlt := (by first | assumption | rfl | omega | (left; simp; done) | (right; simp; done)))) ?_)
  rintro _ _ _ _ ⟨rfl, rfl, rfl⟩
  refine XL.yes (t := 20) rfl (congrArg Value.bool h1) (XOp.notB (b := termOk ar t) rfl ?_)
  refine XL.cons (XOp.pickF (.bool (!(termOk ar t))) (congrArg Value.bool h1) rfl ?_)
  refine XL.cons (XOp.move (.bool (!(termOk ar t))) rfl ?_)
  by_cases h2 : (!(termOk ar t)) = true
  ·refine XL.no (t := 27) rfl (congrArg Value.bool h2) ?_
   refine XL.no (t := 27) rfl (congrArg Value.bool h2) ?_
   refine XL.no (t := 27) rfl (congrArg Value.bool h2) ?_
   refine XL.cons (XOp.pickT (.bool (true)) (congrArg Value.bool h2) rfl ?_)
   refine XL.nil ?_
   refine X.condT rfl ?_
   refine X.seq ?_
   refine X.region ?_
   refine XL.cons (XOp.build [(.slice none 0 0), (.slice none 0 0), .int .i64 (0), (.slice none 0 0)] [(.slice none 0 0), (.slice none 0 0), .int .i64 (0), (.slice none 0 0)] [(0, 2), (2, 1), (3, 1)] [] Try.runUnderlying98 Try.zeroValue98 rfl (.cons rfl Try.sizeOf41 (.cons rfl Try.sizeOf2 (.cons rfl Try.sizeOf96 PlacesAre.nil))) rfl CellsAre.nil ?_)
   refine XL.cons (XOp.storeN (vs := [(.slice none 0 0), (.slice none 0 0), .int .i64 (0), (.slice none 0 0)]) [] _ [(.slice none 0 0), (.slice none 0 0), .int .i64 (0), (.slice none 0 0)] Try.sizeOf98 rfl rfl rfl (ones_cons rfl (ones_cons rfl (ones_cons rfl (ones_cons rfl ones_nil)))) rfl rfl rfl ?_)
   refine XL.cons (XOp.assign (.bool (false)) rfl ?_)
   refine XL.nil ?_
   refine X.ret (thenQ_ret (retEnd (L' := L) [.agg #[(.slice none 0 0), (.slice none 0 0), .int .i64 (0), (.slice none 0 0)], .bool (false)] (.tuple #[.agg #[(.slice none 0 0), (.slice none 0 0), .int .i64 (0), (.slice none 0 0)], .bool (false)]) (.cell rfl (loadNV [(.slice none 0 0), (.slice none 0 0), .int .i64 (0), (.slice none 0 0)] Try.isAgg98 Try.sizeOf98 rfl (Rd.ownN [] rfl rfl)) (.tmp rfl .nil)) rfl (FLe.refl _) (FLe.refl _) (Sub.drop (Sub.drop (Sub.refl _))) ?_))
   have e : loopF ar rs t n = noLoop := loopF_no (by simp_all)
   exact ⟨_, _, _, by rw [e], by rw [e]; exact IntsF.nilV, by rw [e]; exact SlOf.nilV, by rw [e]; exact SlOf.nilV, rfl⟩
  ·rw [Bool.not_eq_true] at h2
   have ho : termOk ar t = true := by simpa using h2
   refine XL.yes (t := 27) rfl (congrArg Value.bool h2) (XOp.move (.int .i64 (n)) rfl ?_)
   refine XL.yes (t := 27) rfl (congrArg Value.bool h2) (XOp.call (args := [.int .i64 (n)]) Try.call72 rfl (l19Steps_spec (n := n)) ?_)
   rintro _ _ _ _ ⟨rfl, rfl, rfl⟩
   refine XL.yes (t := 27) rfl (congrArg Value.bool h2) (XOp.notD (p := 1 ≤ n ∧ n ≤ 20) rfl ?_)
   refine XL.cons (XOp.pickF (.bool (decide (¬(1 ≤ n ∧ n ≤ 20)))) (congrArg Value.bool h2) rfl ?_)
   refine XL.nil ?_
   refine X.condD (p := ¬(1 ≤ n ∧ n ≤ 20)) rfl (fun h3 => ?_) (fun h3 => ?_)
   ·refine X.seq ?_
    refine X.region ?_
    refine XL.cons (XOp.build [(.slice none 0 0), (.slice none 0 0), .int .i64 (0), (.slice none 0 0)] [(.slice none 0 0), (.slice none 0 0), .int .i64 (0), (.slice none 0 0)] [(0, 2), (2, 1), (3, 1)] [] Try.runUnderlying98 Try.zeroValue98 rfl (.cons rfl Try.sizeOf41 (.cons rfl Try.sizeOf2 (.cons rfl Try.sizeOf96 PlacesAre.nil))) rfl CellsAre.nil ?_)
    refine XL.cons (XOp.storeN (vs := [(.slice none 0 0), (.slice none 0 0), .int .i64 (0), (.slice none 0 0)]) [] _ [(.slice none 0 0), (.slice none 0 0), .int .i64 (0), (.slice none 0 0)] Try.sizeOf98 rfl rfl rfl (ones_cons rfl (ones_cons rfl (ones_cons rfl (ones_cons rfl ones_nil)))) rfl rfl rfl ?_)
    refine XL.cons (XOp.assign (.bool (false)) rfl ?_)
    refine XL.nil ?_
    refine X.ret (thenQ_ret (retEnd (L' := L) [.agg #[(.slice none 0 0), (.slice none 0 0), .int .i64 (0), (.slice none 0 0)], .bool (false)] (.tuple #[.agg #[(.slice none 0 0), (.slice none 0 0), .int .i64 (0), (.slice none 0 0)], .bool (false)]) (.cell rfl (loadNV [(.slice none 0 0), (.slice none 0 0), .int .i64 (0), (.slice none 0 0)] Try.isAgg98 Try.sizeOf98 rfl (Rd.ownN [] rfl rfl)) (.tmp rfl .nil)) rfl (FLe.refl _) (FLe.refl _) (Sub.drop (Sub.drop (Sub.refl _))) ?_))
    have e : loopF ar rs t n = noLoop := loopF_no (by simp_all)
    exact ⟨_, _, _, by rw [e], by rw [e]; exact IntsF.nilV, by rw [e]; exact SlOf.nilV, by rw [e]; exact SlOf.nilV, rfl⟩
   ·have hn20 : 1 ≤ n ∧ n ≤ 20 := by first | exact Classical.not_not.1 h3 | simpa using h3
    have hgd := reachL_good (ar := ar) (rs := rs) (t := t) (n := n - 1) (by omega)
    have hrk := reachL_ok (n := n - 1) hsys ho
    have hrl := hrk.1
    have hrs12 := (sysOk_iff.1 hsys).2.1
    have hrf : reachF ar rs t (n - 1) = reachL ar rs t (n - 1) := reachF_yes (reachOk_iff.2 ⟨⟨hsys, ho⟩, by omega⟩)
    have hxl : (terms (reachF ar rs t (n - 1)).1).length = (reachL ar rs t (n - 1)).1.length := by rw [hrf, terms_len]
    have hxg : ∀ i, (terms (reachF ar rs t (n - 1)).1).getD i [] = (EL (reachL ar rs t (n - 1)).1 i).1 := fun i => by rw [hrf, terms_get]
    have htl9 := termOk_len ho
    refine X.skip ?_
    refine X.seq ?_
    refine X.region ?_
    refine XL.cons (XOp.loadN [arv, rsv] Try.isAgg33 Try.sizeOf33 rfl rfl (Rd.ownN [_] rfl rfl) ?_)
    refine XL.cons (XOp.move (tv) rfl ?_)
    refine XL.cons (XOp.move (.int .i64 (n)) rfl ?_)
    refine XL.cons (XOp.subR (a := n) (b := 1) (n - 1) rfl rfl (by omega) (by omega) ?_)
    refine XL.cons (XOp.call (args := [.agg #[arv, rsv], tv, .int .i64 (n - 1)]) Try.call39 rfl (sReachOf_spec (n := n - 1) har hrs ht (hla := (by first | assumption | rfl | omega | (left; simp; done) | (right; simp; done))) (hlr := (by first | assumption | rfl | omega | (left; simp; done) | (right; simp; done))) (hrb := (by first | assumption | rfl | omega | (left; simp; done) | (right; simp; done))) (hlt := (by first | assumption | rfl | omega | (left; simp; done) | (right; simp; done)))) ?_)
    rintro _ F1 _ le1 ⟨x1, rfl, hr1, rfl⟩
    replace har := har.mono le1
    replace hrs := hrs.mono le1
    replace ht := ht.mono le1
    refine XL.cons (XOp.move (.tuple #[x1, .bool ((reachF ar rs t (n - 1)).2)]) rfl ?_)
    refine XL.cons (XOp.extract (x1) rfl rfl ?_)
    refine XL.cons (XOp.extract (.bool ((reachF ar rs t (n - 1)).2)) rfl rfl ?_)
    refine XL.cons (XOp.assign (x1) rfl ?_)
    refine XL.cons (XOp.assign (.bool ((reachF ar rs t (n - 1)).2)) rfl ?_)
    refine XL.nil ?_
    refine X.seq ?_
    refine X.seq ?_
    refine X.region ?_
    refine XL.cons (XOp.assign (.int .i64 (0)) rfl ?_)
    refine XL.nil ?_
    refine X.block ?_
    refine X.loop (α := Nat × FH) (fun xQ => [(1, tv), (2, .int .i64 (n)), (3, ptr b1 0), (6, ptr b2 0), (8, x1), (10, .int .i64 (((xQ.1 : Nat) : Int)))]) (fun xQ => cellsH b2 [(.slice none 0 0), (.slice none 0 0), .int .i64 (0), (.slice none 0 0)] 98 :: cellsH b1 [arv, rsv] 33 :: L) (fun xQ F' => xQ.2 = F' ∧ F1 ≤ xQ.2 ∧ (xQ.1 ≤ (terms (reachF ar rs t (n - 1)).1).length) ∧ (∀ i, i < xQ.1 → nextI ar t (stepsL ar rs (EL (reachL ar rs t (n - 1)).1 i).1) < 0)) (fun xQ => (terms (reachF ar rs t (n - 1)).1).length - xQ.1) (0, F1) ⟨rfl, rfl, rfl, rfl, rfl, rfl, trivial⟩ (Sub.cons (Sub.cons (Sub.refl _))) ⟨rfl, FLe.refl _, (by (try dsimp only) <;> omega), (fun i hi => absurd hi (by omega))⟩ ?_
    rintro ⟨k, G1⟩ rE _ _ ⟨rfl, leG, hk, hno⟩
    show X _ _ _ _ (envs [(1, tv), (2, .int .i64 (n)), (3, ptr b1 0), (6, ptr b2 0), (8, x1), (10, .int .i64 (((k : Nat) : Int)))] rE) _ (cellsH b2 [(.slice none 0 0), (.slice none 0 0), .int .i64 (0), (.slice none 0 0)] 98 :: cellsH b1 [arv, rsv] 33 :: L)
    replace leG : F1 ≤ G1 := leG
    dsimp only at hk hno
    have hgk := hxg k
    have hka := fun (h : k < (reachL ar rs t (n - 1)).1.length) => (show termOk ar (EL (reachL ar rs t (n - 1)).1 k).1 = true from hrk.2 k h)
    have hkt := fun (h : k < (terms (reachF ar rs t (n - 1)).1).length) => (show termOk ar ((terms (reachF ar rs t (n - 1)).1).getD k []) = true from by rw [hgk]; exact hka (by omega))
    have hkl := fun (h : k < (terms (reachF ar rs t (n - 1)).1).length) => termOk_len (hkt h)
    have leG1 := leG
    replace har := har.mono leG1
    replace hrs := hrs.mono leG1
    replace ht := ht.mono leG1
    replace hr1 := hr1.mono leG1
    refine X.seq ?_
    refine X.seq ?_
    refine X.region ?_
    refine XL.cons (XOp.move (.int .i64 (((k : Nat) : Int))) rfl ?_)
    refine XL.cons (XOp.move (x1) rfl ?_)
    refine XL.cons (XOp.lenS (v := x1) (n := (terms (reachF ar rs t (n - 1)).1).length) Try.runUnderlying49 rfl hr1.slv ?_)
    refine XL.cons (XOp.lss (a := ((k : Nat) : Int)) (b := (((terms (reachF ar rs t (n - 1)).1).length : Nat) : Int)) rfl rfl ?_)
    refine XL.nil ?_
    refine X.condD (p := (((k : Nat) : Int) : Int) < (((terms (reachF ar rs t (n - 1)).1).length : Nat) : Int)) rfl (fun h4 => ?_) (fun h4 => ?_)
    ·refine X.skip ?_
     refine X.seq ?_
     refine X.block ?_
     refine X.seq ?_
     obtain ⟨a1, ha1, hr2⟩ := hr1.rd (i := k) (by omega)
     refine X.draw [cellsH b2 [(.slice none 0 0), (.slice none 0 0), .int .i64 (0), (.slice none 0 0)] 98, cellsH b1 [arv, rsv] 33] L 5 [[], [], [], [], []] [[], [], [], [1, 2], [3]] (phiL [fun us v => v = (.agg #[arv, rsv] : Value), fun us v => v = x1, fun us v => v = (.int .i64 (((k : Nat) : Int)) : Value), fun us v => v = (.pointer (some (elemA x1 (k))) : Value), fun us v => v = a1]) (ownL [fun us v => [], fun us v => [], fun us v => [], fun us v => [], fun us v => []]) mixed rfl rfl (by kernel_rfl) ?_ ?_
     ·refine stepsP.cons (fun vals R hpZ => ?_) ?_
      ·refine XG.op (XOp.loadN [arv, rsv] Try.isAgg33 Try.sizeOf33 rfl rfl (Rd.ownN [_] rfl rfl) ?_)
       exact ⟨rfl, rfl, rfl⟩
      refine stepsP.cons (fun vals R hpZ => ?_) ?_
      ·refine XG.op (XOp.move (x1) rfl ?_)
       exact ⟨rfl, rfl, rfl⟩
      refine stepsP.cons (fun vals R hpZ => ?_) ?_
      ·refine XG.op (XOp.move (.int .i64 (((k : Nat) : Int))) rfl ?_)
       exact ⟨rfl, rfl, rfl⟩
      refine stepsP.cons (fun vals R hpZ => ?_) ?_
      ·rw [(envs_of_sat (l := [(1, x1), (2, (.int .i64 (((k : Nat) : Int)) : Value))]) ⟨hpZ 1 (by decide), hpZ 2 (by decide), trivial⟩).symm]
       refine XG.op (XOp.indexS (v := x1) (i := ((k : Nat) : Int)) (n := (terms (reachF ar rs t (n - 1)).1).length) k Try.runUnderlying49 Try.sizeOf22 rfl rfl rfl hr1.slv (by omega) (Nat.mul_one _) ?_)
       exact ⟨rfl, rfl, rfl⟩
      refine stepsP.cons (fun vals R hpZ => ?_) ?_
      ·rw [(envs_of_sat (l := [(3, (.pointer (some (elemA x1 (k))) : Value))]) ⟨hpZ 3 (by decide), trivial⟩).symm]
       refine XG.op (XOp.load1 (v := a1) Try.isAgg22 rfl (hr2 _) ?_)
       exact ⟨rfl, rfl, rfl⟩
      exact stepsP.nil
     ·intro vals hphi
      have e0 : vals 0 = (.agg #[arv, rsv] : Value) := hphi 0 (by decide)
      have e1 : vals 1 = x1 := hphi 1 (by decide)
      have e2 : vals 2 = (.int .i64 (((k : Nat) : Int)) : Value) := hphi 2 (by decide)
      have e3 : vals 3 = (.pointer (some (elemA x1 (k))) : Value) := hphi 3 (by decide)
      have e4 : vals 4 = a1 := hphi 4 (by decide)
      rw [(envs_of_sat (l := [(0, (.agg #[arv, rsv] : Value)), (1, x1), (2, (.int .i64 (((k : Nat) : Int)) : Value)), (3, (.pointer (some (elemA x1 (k))) : Value)), (4, a1)]) ⟨e0, e1, e2, e3, e4, trivial⟩).symm]
      show XL _ _ _ _ _ _ _ (cellsH b2 [(.slice none 0 0), (.slice none 0 0), .int .i64 (0), (.slice none 0 0)] 98 :: cellsH b1 [arv, rsv] 33 :: L)
      refine XL.cons (XOp.call (args := [.agg #[arv, rsv], a1]) Try.call126 rfl (sStepsFrom_spec har hrs ha1 (hsys := (hsys)) (ho := (hkt (by omega))) (hla := (by first | assumption | rfl | omega | (left; simp; done) | (right; simp; done))) (hlr := (by first | assumption | rfl | omega | (left; simp; done) | (right; simp; done))) (hrb := (by first | assumption | rfl | omega | (left; simp; done) | (right; simp; done))) (hlt := (by have := hkl (by omega); omega))) ?_)
      rintro _ F2 _ le2 ⟨x2, rfl, hr3, rfl⟩
      replace har := har.mono le2
      replace hrs := hrs.mono le2
      replace ht := ht.mono le2
      replace hr1 := hr1.mono le2
      replace ha1 := ha1.mono le2
      replace hr2 := Rd.monoA hr2 le2
      refine XL.cons (XOp.assign (x2) rfl ?_)
      refine XL.nil ?_
      refine X.seq ?_
      refine X.region ?_
      refine XL.cons (XOp.assign (.int .i64 (0)) rfl ?_)
      refine XL.nil ?_
      refine X.block ?_
      refine X.loop (α := Nat × FH) (fun xQ => [(1, tv), (2, .int .i64 (n)), (3, ptr b1 0), (6, ptr b2 0), (8, x1), (10, .int .i64 (((k : Nat) : Int))), (11, x2), (12, .int .i64 (((xQ.1 : Nat) : Int)))]) (fun xQ => cellsH b2 [(.slice none 0 0), (.slice none 0 0), .int .i64 (0), (.slice none 0 0)] 98 :: cellsH b1 [arv, rsv] 33 :: L) (fun xQ F' => xQ.2 = F' ∧ F2 ≤ xQ.2 ∧ (xQ.1 ≤ (stepsL ar rs ((terms (reachF ar rs t (n - 1)).1).getD k [])).length) ∧ (∀ i, i < xQ.1 → instI ar t ((stepsL ar rs ((terms (reachF ar rs t (n - 1)).1).getD k [])).getD i (0, 0, [])).2.2 < 0)) (fun xQ => (stepsL ar rs ((terms (reachF ar rs t (n - 1)).1).getD k [])).length - xQ.1) (0, F2) ⟨rfl, rfl, rfl, rfl, rfl, rfl, rfl, rfl, trivial⟩ (Sub.cons (Sub.cons (Sub.refl _))) ⟨rfl, FLe.refl _, (by (try dsimp only) <;> omega), (fun i hi => absurd hi (by omega))⟩ ?_
      rintro ⟨q, G2⟩ rE _ _ ⟨rfl, leG, hq, hnq⟩
      show X _ _ _ _ (envs [(1, tv), (2, .int .i64 (n)), (3, ptr b1 0), (6, ptr b2 0), (8, x1), (10, .int .i64 (((k : Nat) : Int))), (11, x2), (12, .int .i64 (((q : Nat) : Int)))] rE) _ (cellsH b2 [(.slice none 0 0), (.slice none 0 0), .int .i64 (0), (.slice none 0 0)] 98 :: cellsH b1 [arv, rsv] 33 :: L)
      replace leG : F2 ≤ G2 := leG
      dsimp only at hq hnq
      have hnl : (stepsL ar rs ((terms (reachF ar rs t (n - 1)).1).getD k [])).length ≤ 1000 := by have h9 := stepsTo_len (ar := ar) (t := (terms (reachF ar rs t (n - 1)).1).getD k []) (rs := rs) hrs12 ((terms (reachF ar rs t (n - 1)).1).getD k []).length; have h8 := hkl (by omega); show (stepsTo ar rs ((terms (reachF ar rs t (n - 1)).1).getD k []) ((terms (reachF ar rs t (n - 1)).1).getD k []).length).length ≤ 1000; omega
      have hqo := fun (h : q < (stepsL ar rs ((terms (reachF ar rs t (n - 1)).1).getD k [])).length) => steps_ok hsys (hkt (by omega)) h
      have hql := fun (h : q < (stepsL ar rs ((terms (reachF ar rs t (n - 1)).1).getD k [])).length) => termOk_len (hqo h)
      have leG2 := leG
      replace har := har.mono leG2
      replace hrs := hrs.mono leG2
      replace ht := ht.mono leG2
      replace hr1 := hr1.mono leG2
      replace ha1 := ha1.mono leG2
      replace hr3 := hr3.mono leG2
      refine X.seq ?_
      refine X.seq ?_
      refine X.region ?_
      refine XL.cons (XOp.move (.int .i64 (((q : Nat) : Int))) rfl ?_)
      refine XL.cons (XOp.move (x2) rfl ?_)
      refine XL.cons (XOp.lenS (v := x2) (n := (stepsL ar rs (((terms (reachF ar rs t (n - 1)).1).getD k []))).length) Try.runUnderlying39 rfl hr3.slv ?_)
      refine XL.cons (XOp.lss (a := ((q : Nat) : Int)) (b := (((stepsL ar rs (((terms (reachF ar rs t (n - 1)).1).getD k []))).length : Nat) : Int)) rfl rfl ?_)
      refine XL.nil ?_
      refine X.condD (p := (((q : Nat) : Int) : Int) < (((stepsL ar rs (((terms (reachF ar rs t (n - 1)).1).getD k []))).length : Nat) : Int)) rfl (fun h5 => ?_) (fun h5 => ?_)
      ·refine X.skip ?_
       refine X.seq ?_
       refine X.block ?_
       refine X.seq ?_
       obtain ⟨a2, ha2, hr4, hr5, hr6⟩ := hr3.rd (i := q) (by omega)
       refine X.drawG [cellsH b2 [(.slice none 0 0), (.slice none 0 0), .int .i64 (0), (.slice none 0 0)] 98, cellsH b1 [arv, rsv] 33] L 13 [[], [], [], [], [], [], [], [], [7], [], [7], [], []] [[], [], [], [], [2, 3], [4], [5], [0, 1, 6], [7], [7, 8], [7, 8], [], [9]] [[], [], [], [], [], [], [], [], [], [], [], [], []] (phiG [fun FF us v => v = (.agg #[arv, rsv] : Value), fun FF us v => v = tv, fun FF us v => v = x2, fun FF us v => v = (.int .i64 (((q : Nat) : Int)) : Value), fun FF us v => v = (.pointer (some (elemA x2 (q * 3))) : Value), fun FF us v => v = (.pointer (some (elemA x2 (q * 3 + 2))) : Value), fun FF us v => v = a2, fun FF us v => (.tuple #[.int .i64 (instI ar t (((stepsL ar rs (((terms (reachF ar rs t (n - 1)).1).getD k []))).getD q (0, 0, [])).2.2)), .agg #[((aggAt (tupAt v 1) 0))]] : Value) = v ∧ (RowsF FF ((aggAt (tupAt v 1) 0)) (placeS ar t (((stepsL ar rs (((terms (reachF ar rs t (n - 1)).1).getD k []))).getD q (0, 0, [])).2.2))), fun FF us v => v = (.tuple #[.int .i64 (instI ar t (((stepsL ar rs (((terms (reachF ar rs t (n - 1)).1).getD k []))).getD q (0, 0, [])).2.2)), .agg #[((aggAt (tupAt (us.getD 0 undef) 1) 0))]] : Value), fun FF us v => v = (.int .i64 (instI ar t (((stepsL ar rs (((terms (reachF ar rs t (n - 1)).1).getD k []))).getD q (0, 0, [])).2.2)) : Value), fun FF us v => v = (.agg #[((aggAt (tupAt (us.getD 0 undef) 1) 0))] : Value), fun FF us v => v = ptr (blk v) 0, fun FF us v => v = (.int .i64 (instI ar t (((stepsL ar rs (((terms (reachF ar rs t (n - 1)).1).getD k []))).getD q (0, 0, [])).2.2)) : Value)]) (ownL [fun us v => [], fun us v => [], fun us v => [], fun us v => [], fun us v => [], fun us v => [], fun us v => [], fun us v => [], fun us v => [], fun us v => [], fun us v => [], fun us v => [cellsH (blk v) [(.slice none 0 0)] 96], fun us v => []]) mixed rfl rfl (by kernel_rfl) (by kernel_rfl) (MonoG.get (MonoG.cons (fun le h => h) (MonoG.cons (fun le h => h) (MonoG.cons (fun le h => h) (MonoG.cons (fun le h => h) (MonoG.cons (fun le h => h) (MonoG.cons (fun le h => h) (MonoG.cons (fun le h => h) (MonoG.cons (fun le h => ⟨h.1, h.2.mono le⟩) (MonoG.cons (fun le h => h) (MonoG.cons (fun le h => h) (MonoG.cons (fun le h => h) (MonoG.cons (fun le h => h) (MonoG.cons (fun le h => h) MonoG.nil)))))))))))))) ?_ ?_
       ·refine stepsG.cons (fun vals Fs R leFs hpZ => ?_) ?_
        ·replace har := har.mono leFs
         replace hrs := hrs.mono leFs
         replace ht := ht.mono leFs
         replace hr1 := hr1.mono leFs
         replace ha1 := ha1.mono leFs
         replace hr3 := hr3.mono leFs
         replace ha2 := ha2.mono leFs
         replace hr4 := Rd.monoA hr4 leFs
         replace hr5 := Rd.monoA hr5 leFs
         replace hr6 := Rd.monoA hr6 leFs
         refine XG.op (XOp.loadN [arv, rsv] Try.isAgg33 Try.sizeOf33 rfl rfl (Rd.ownN [_] rfl rfl) ?_)
         exact ⟨rfl, rfl⟩
        refine stepsG.cons (fun vals Fs R leFs hpZ => ?_) ?_
        ·refine XG.op (XOp.move (tv) rfl ?_)
         exact ⟨rfl, rfl⟩
        refine stepsG.cons (fun vals Fs R leFs hpZ => ?_) ?_
        ·refine XG.op (XOp.move (x2) rfl ?_)
         exact ⟨rfl, rfl⟩
        refine stepsG.cons (fun vals Fs R leFs hpZ => ?_) ?_
        ·refine XG.op (XOp.move (.int .i64 (((q : Nat) : Int))) rfl ?_)
         exact ⟨rfl, rfl⟩
        refine stepsG.cons (fun vals Fs R leFs hpZ => ?_) ?_
        ·have e2 : vals 2 = x2 := hpZ 2 (by decide)
         have e3 : vals 3 = (.int .i64 (((q : Nat) : Int)) : Value) := hpZ 3 (by decide)
         replace har := har.mono leFs
         replace hrs := hrs.mono leFs
         replace ht := ht.mono leFs
         replace hr1 := hr1.mono leFs
         replace ha1 := ha1.mono leFs
         replace hr3 := hr3.mono leFs
         replace ha2 := ha2.mono leFs
         replace hr4 := Rd.monoA hr4 leFs
         replace hr5 := Rd.monoA hr5 leFs
         replace hr6 := Rd.monoA hr6 leFs
         rw [(envs_of_sat (l := [(2, x2), (3, (.int .i64 (((q : Nat) : Int)) : Value))]) ⟨e2, e3, trivial⟩).symm]
         refine XG.op (XOp.indexS (v := x2) (i := ((q : Nat) : Int)) (n := (stepsL ar rs (((terms (reachF ar rs t (n - 1)).1).getD k []))).length) q Try.runUnderlying39 Try.sizeOf77 rfl rfl rfl hr3.slv (by omega) rfl ?_)
         exact ⟨rfl, rfl⟩
        refine stepsG.cons (fun vals Fs R leFs hpZ => ?_) ?_
        ·have e4 : vals 4 = (.pointer (some (elemA x2 (q * 3))) : Value) := hpZ 4 (by decide)
         rw [(envs_of_sat (l := [(4, (.pointer (some (elemA x2 (q * 3))) : Value))]) ⟨e4, trivial⟩).symm]
         refine XG.op (XOp.fieldE (v := x2) (q * 3 + 2) Try.runUnderlying77 rfl Try.sizeOf22 (by decide) rfl rfl ?_)
         exact ⟨rfl, rfl⟩
        refine stepsG.cons (fun vals Fs R leFs hpZ => ?_) ?_
        ·have e5 : vals 5 = (.pointer (some (elemA x2 (q * 3 + 2))) : Value) := hpZ 5 (by decide)
         replace har := har.mono leFs
         replace hrs := hrs.mono leFs
         replace ht := ht.mono leFs
         replace hr1 := hr1.mono leFs
         replace ha1 := ha1.mono leFs
         replace hr3 := hr3.mono leFs
         replace ha2 := ha2.mono leFs
         replace hr4 := Rd.monoA hr4 leFs
         replace hr5 := Rd.monoA hr5 leFs
         replace hr6 := Rd.monoA hr6 leFs
         rw [(envs_of_sat (l := [(5, (.pointer (some (elemA x2 (q * 3 + 2))) : Value))]) ⟨e5, trivial⟩).symm]
         refine XG.op (XOp.load1 (v := a2) Try.isAgg22 rfl (hr6 _) ?_)
         exact ⟨rfl, rfl⟩
        refine stepsG.cons (fun vals Fs R leFs hpZ => ?_) ?_
        ·have e0 : vals 0 = (.agg #[arv, rsv] : Value) := hpZ 0 (by decide)
         have e1 : vals 1 = tv := hpZ 1 (by decide)
         have e6 : vals 6 = a2 := hpZ 6 (by decide)
         replace har := har.mono leFs
         replace hrs := hrs.mono leFs
         replace ht := ht.mono leFs
         replace hr1 := hr1.mono leFs
         replace ha1 := ha1.mono leFs
         replace hr3 := hr3.mono leFs
         replace ha2 := ha2.mono leFs
         replace hr4 := Rd.monoA hr4 leFs
         replace hr5 := Rd.monoA hr5 leFs
         replace hr6 := Rd.monoA hr6 leFs
         rw [(envs_of_sat (l := [(0, (.agg #[arv, rsv] : Value)), (1, tv), (6, a2)]) ⟨e0, e1, e6, trivial⟩).symm]
         refine XG.op (XOp.call (args := [.agg #[arv, rsv], tv, a2]) Try.call127 rfl (l19Found_spec har hrs ht ha2 (ho := (ho)) (huo := (hqo (by omega))) (hla := (by first | assumption | rfl | omega | (left; simp; done) | (right; simp; done)))) ?_)
         rintro _ F4 _ le4 ⟨x4, rfl, hr8, rfl⟩
         replace har := har.mono le4
         replace hrs := hrs.mono le4
         replace ht := ht.mono le4
         replace hr1 := hr1.mono le4
         replace ha1 := ha1.mono le4
         replace hr3 := hr3.mono le4
         replace ha2 := ha2.mono le4
         replace hr4 := Rd.monoA hr4 le4
         replace hr5 := Rd.monoA hr5 le4
         replace hr6 := Rd.monoA hr6 le4
         exact ⟨⟨rfl, hr8⟩, rfl⟩
        refine stepsG.cons (fun vals Fs R leFs hpZ => ?_) ?_
        ·obtain ⟨e7, f7_2hr⟩ := hpZ 7 (by decide)
         rw [(envs_of_sat (l := [(7, (.tuple #[.int .i64 (instI ar t (((stepsL ar rs (((terms (reachF ar rs t (n - 1)).1).getD k []))).getD q (0, 0, [])).2.2)), .agg #[((aggAt (tupAt (vals 7) 1) 0))]] : Value))]) ⟨(e7).symm, trivial⟩).symm]
         refine XG.op (XOp.move (.tuple #[.int .i64 (instI ar t (((stepsL ar rs (((terms (reachF ar rs t (n - 1)).1).getD k []))).getD q (0, 0, [])).2.2)), .agg #[((aggAt (tupAt (vals 7) 1) 0))]]) rfl ?_)
         exact ⟨rfl, rfl⟩
        refine stepsG.cons (fun vals Fs R leFs hpZ => ?_) ?_
        ·obtain ⟨e7, f7_2hr⟩ := hpZ 7 (by decide)
         have e8 : vals 8 = (.tuple #[.int .i64 (instI ar t (((stepsL ar rs (((terms (reachF ar rs t (n - 1)).1).getD k []))).getD q (0, 0, [])).2.2)), .agg #[((aggAt (tupAt (vals 7) 1) 0))]] : Value) := hpZ 8 (by decide)
         rw [(envs_of_sat (l := [(7, (.tuple #[.int .i64 (instI ar t (((stepsL ar rs (((terms (reachF ar rs t (n - 1)).1).getD k []))).getD q (0, 0, [])).2.2)), .agg #[((aggAt (tupAt (vals 7) 1) 0))]] : Value)), (8, (.tuple #[.int .i64 (instI ar t (((stepsL ar rs (((terms (reachF ar rs t (n - 1)).1).getD k []))).getD q (0, 0, [])).2.2)), .agg #[((aggAt (tupAt (vals 7) 1) 0))]] : Value))]) ⟨(e7).symm, e8, trivial⟩).symm]
         refine XG.op (XOp.extract (.int .i64 (instI ar t (((stepsL ar rs (((terms (reachF ar rs t (n - 1)).1).getD k []))).getD q (0, 0, [])).2.2))) rfl rfl ?_)
         exact ⟨rfl, rfl⟩
        refine stepsG.cons (fun vals Fs R leFs hpZ => ?_) ?_
        ·obtain ⟨e7, f7_2hr⟩ := hpZ 7 (by decide)
         have e8 : vals 8 = (.tuple #[.int .i64 (instI ar t (((stepsL ar rs (((terms (reachF ar rs t (n - 1)).1).getD k []))).getD q (0, 0, [])).2.2)), .agg #[((aggAt (tupAt (vals 7) 1) 0))]] : Value) := hpZ 8 (by decide)
         rw [(envs_of_sat (l := [(7, (.tuple #[.int .i64 (instI ar t (((stepsL ar rs (((terms (reachF ar rs t (n - 1)).1).getD k []))).getD q (0, 0, [])).2.2)), .agg #[((aggAt (tupAt (vals 7) 1) 0))]] : Value)), (8, (.tuple #[.int .i64 (instI ar t (((stepsL ar rs (((terms (reachF ar rs t (n - 1)).1).getD k []))).getD q (0, 0, [])).2.2)), .agg #[((aggAt (tupAt (vals 7) 1) 0))]] : Value))]) ⟨(e7).symm, e8, trivial⟩).symm]
         refine XG.op (XOp.extract (.agg #[((aggAt (tupAt (vals 7) 1) 0))]) rfl rfl ?_)
         exact ⟨rfl, rfl⟩
        refine stepsG.cons (fun vals Fs R leFs hpZ => ?_) ?_
        ·replace har := har.mono leFs
         replace hrs := hrs.mono leFs
         replace ht := ht.mono leFs
         replace hr1 := hr1.mono leFs
         replace ha1 := ha1.mono leFs
         replace hr3 := hr3.mono leFs
         replace ha2 := ha2.mono leFs
         replace hr4 := Rd.monoA hr4 leFs
         replace hr5 := Rd.monoA hr5 leFs
         replace hr6 := Rd.monoA hr6 leFs
         refine XG.op (XOp.alloc [(.slice none 0 0)] Try.zeroValue96 rfl ?_)
         intro b4
         exact ⟨rfl, rfl⟩
        refine stepsG.cons (fun vals Fs R leFs hpZ => ?_) ?_
        ·have e9 : vals 9 = (.int .i64 (instI ar t (((stepsL ar rs (((terms (reachF ar rs t (n - 1)).1).getD k []))).getD q (0, 0, [])).2.2)) : Value) := hpZ 9 (by decide)
         rw [(envs_of_sat (l := [(9, (.int .i64 (instI ar t (((stepsL ar rs (((terms (reachF ar rs t (n - 1)).1).getD k []))).getD q (0, 0, [])).2.2)) : Value))]) ⟨e9, trivial⟩).symm]
         refine XG.op (XOp.assign (.int .i64 (instI ar t (((stepsL ar rs (((terms (reachF ar rs t (n - 1)).1).getD k []))).getD q (0, 0, [])).2.2))) rfl ?_)
         exact ⟨rfl, rfl⟩
        exact stepsG.nil
       ·intro vals F5 le5 hphi
        have e0 : vals 0 = (.agg #[arv, rsv] : Value) := hphi 0 (by decide)
        have e1 : vals 1 = tv := hphi 1 (by decide)
        have e2 : vals 2 = x2 := hphi 2 (by decide)
        have e3 : vals 3 = (.int .i64 (((q : Nat) : Int)) : Value) := hphi 3 (by decide)
        have e4 : vals 4 = (.pointer (some (elemA x2 (q * 3))) : Value) := hphi 4 (by decide)
        have e5 : vals 5 = (.pointer (some (elemA x2 (q * 3 + 2))) : Value) := hphi 5 (by decide)
        have e6 : vals 6 = a2 := hphi 6 (by decide)
        obtain ⟨e7, f7_2hr⟩ := hphi 7 (by decide)
        have e8 : vals 8 = (.tuple #[.int .i64 (instI ar t (((stepsL ar rs (((terms (reachF ar rs t (n - 1)).1).getD k []))).getD q (0, 0, [])).2.2)), .agg #[((aggAt (tupAt (vals 7) 1) 0))]] : Value) := hphi 8 (by decide)
        have e9 : vals 9 = (.int .i64 (instI ar t (((stepsL ar rs (((terms (reachF ar rs t (n - 1)).1).getD k []))).getD q (0, 0, [])).2.2)) : Value) := hphi 9 (by decide)
        have e10 : vals 10 = (.agg #[((aggAt (tupAt (vals 7) 1) 0))] : Value) := hphi 10 (by decide)
        have e11 : vals 11 = ptr (blk (vals 11)) 0 := hphi 11 (by decide)
        have e12 : vals 12 = (.int .i64 (instI ar t (((stepsL ar rs (((terms (reachF ar rs t (n - 1)).1).getD k []))).getD q (0, 0, [])).2.2)) : Value) := hphi 12 (by decide)
        generalize hu1 : ((aggAt (tupAt (vals 7) 1) 0)) = u1 at e0 e1 e2 e3 e4 e5 e6 e7 f7_2hr e8 e9 e10 e11 e12
        generalize hu2 : blk (vals 11) = b5 at e0 e1 e2 e3 e4 e5 e6 e7 f7_2hr e8 e9 e10 e11 e12
        rw [(envs_of_sat (l := [(0, (.agg #[arv, rsv] : Value)), (1, tv), (2, x2), (3, (.int .i64 (((q : Nat) : Int)) : Value)), (4, (.pointer (some (elemA x2 (q * 3))) : Value)), (5, (.pointer (some (elemA x2 (q * 3 + 2))) : Value)), (6, a2), (7, (.tuple #[.int .i64 (instI ar t (((stepsL ar rs (((terms (reachF ar rs t (n - 1)).1).getD k []))).getD q (0, 0, [])).2.2)), .agg #[u1]] : Value)), (8, (.tuple #[.int .i64 (instI ar t (((stepsL ar rs (((terms (reachF ar rs t (n - 1)).1).getD k []))).getD q (0, 0, [])).2.2)), .agg #[u1]] : Value)), (9, (.int .i64 (instI ar t (((stepsL ar rs (((terms (reachF ar rs t (n - 1)).1).getD k []))).getD q (0, 0, [])).2.2)) : Value)), (10, (.agg #[u1] : Value)), (11, ptr b5 0), (12, (.int .i64 (instI ar t (((stepsL ar rs (((terms (reachF ar rs t (n - 1)).1).getD k []))).getD q (0, 0, [])).2.2)) : Value))]) ⟨e0, e1, e2, e3, e4, e5, e6, (e7).symm, e8, e9, e10, e11, e12, trivial⟩).symm]
        replace har := har.mono le5
        replace hrs := hrs.mono le5
        replace ht := ht.mono le5
        replace hr1 := hr1.mono le5
        replace ha1 := ha1.mono le5
        replace hr3 := hr3.mono le5
        replace ha2 := ha2.mono le5
        replace hr4 := Rd.monoA hr4 le5
        replace hr5 := Rd.monoA hr5 le5
        replace hr6 := Rd.monoA hr6 le5
        show XL _ _ _ _ _ _ _ (cellsH b5 [(.slice none 0 0)] 96 :: cellsH b2 [(.slice none 0 0), (.slice none 0 0), .int .i64 (0), (.slice none 0 0)] 98 :: cellsH b1 [arv, rsv] 33 :: L)
        refine XL.cons (XOp.storeN (vs := [u1]) [] _ [u1] Try.sizeOf96 rfl rfl rfl (ones_cons (one_sl (RowsF.isSl f7_2hr)) ones_nil) rfl rfl rfl ?_)
        refine XL.nil ?_
        refine X.seq ?_
        refine X.seq ?_
        refine X.region ?_
        refine XL.cons (XOp.move (.int .i64 (instI ar t (((stepsL ar rs (((terms (reachF ar rs t (n - 1)).1).getD k []))).getD q (0, 0, [])).2.2))) rfl ?_)
        refine XL.cons (XOp.lss (a := instI ar t (((stepsL ar rs (((terms (reachF ar rs t (n - 1)).1).getD k []))).getD q (0, 0, [])).2.2)) (b := 0) rfl rfl ?_)
        refine XL.nil ?_
        refine X.condD (p := (instI ar t (((stepsL ar rs (((terms (reachF ar rs t (n - 1)).1).getD k []))).getD q (0, 0, [])).2.2) : Int) < 0) rfl (fun h6 => ?_) (fun h6 => ?_)
        ·refine X.exit (thenQ_exit (blockQ_exit ?_))
         refine X.region ?_
         refine XL.cons (XOp.move (.int .i64 (((q : Nat) : Int))) rfl ?_)
         refine XL.cons (XOp.addR (a := ((q : Nat) : Int)) (b := 1) (((q + 1 : Nat) : Int)) rfl rfl (by omega) (by omega) ?_)
         refine XL.cons (XOp.assign (.int .i64 (((q + 1 : Nat) : Int))) rfl ?_)
         refine XL.nil ?_
         exact ⟨(q + 1, F5), _, (FLe.trans leG2 le5), (FLe.refl _), ⟨rfl, rfl, rfl, rfl, rfl, rfl, rfl, rfl, trivial⟩, (Sub.drop (Sub.cons (Sub.cons (Sub.refl _)))), ⟨rfl, (FLe.trans leG2 le5), (by (try dsimp only) <;> omega), (fun i hi => (Nat.lt_or_ge i q).elim (fun h => hnq i h) (fun h => by obtain rfl : i = q := (by omega); omega))⟩, (by omega)⟩
        ·have hql9 := hql (by omega)
         have hk9 : k < (reachL ar rs t (n - 1)).1.length := by omega
         have hw9 : (walkToF ar rs t ((terms (reachF ar rs t (n - 1)).1).getD k []) (n - 1)) = (t, walkL (reachL ar rs t (n - 1)).1 k, true) := by rw [walkToF_yes (reachOk2_iff.2 ⟨⟨hsys, ho, by rw [hgk]; exact hka hk9⟩, by omega⟩), hgk, walkTo0_yes (by rw [foundI_dist hgd.2.1 hk9]; omega), foundI_dist hgd.2.1 hk9]; rfl
         have hwl9 := (walkL_len hgd.1 hgd.2.2.1 hk9).2
         have hwl8 : (walkToF ar rs t ((terms (reachF ar rs t (n - 1)).1).getD k []) (n - 1)).2.1.length = (walkL (reachL ar rs t (n - 1)).1 k).length := by rw [hw9]
         refine X.skip ?_
         refine X.seq ?_
         obtain ⟨a3, ha3, hr9⟩ := hr1.rd (i := k) (by omega)
         refine X.drawG [cellsH b5 [u1] 96, cellsH b2 [(.slice none 0 0), (.slice none 0 0), .int .i64 (0), (.slice none 0 0)] 98, cellsH b1 [arv, rsv] 33] L 14 [[], [], [], [], [], [], [], [], [], [8], [8], [], [], [8, 12]] [[], [], [], [], [2, 3], [4], [], [6], [0, 1, 5, 7], [8], [8, 9], [8, 9], [], [8, 10, 12]] [[], [], [], [], [], [], [], [], [], [], [], [], [], [12]] (phiG [fun FF us v => v = (.agg #[arv, rsv] : Value), fun FF us v => v = tv, fun FF us v => v = x1, fun FF us v => v = (.int .i64 (((k : Nat) : Int)) : Value), fun FF us v => v = (.pointer (some (elemA x1 (k))) : Value), fun FF us v => v = a3, fun FF us v => v = (.int .i64 (n) : Value), fun FF us v => v = (.int .i64 (n - 1) : Value), fun FF us v => (.tuple #[.agg #[((aggAt (tupAt v 0) 0)), ((aggAt (tupAt v 0) 1))], .bool ((walkToF ar rs t (((terms (reachF ar rs t (n - 1)).1).getD k [])) (n - 1)).2.2)] : Value) = v ∧ (IsSl ((aggAt (tupAt v 0) 0))) ∧ (IsSl ((aggAt (tupAt v 0) 1))), fun FF us v => v = (.tuple #[.agg #[((aggAt (tupAt (us.getD 0 undef) 0) 0)), ((aggAt (tupAt (us.getD 0 undef) 0) 1))], .bool ((walkToF ar rs t (((terms (reachF ar rs t (n - 1)).1).getD k [])) (n - 1)).2.2)] : Value), fun FF us v => v = (.agg #[((aggAt (tupAt (us.getD 0 undef) 0) 0)), ((aggAt (tupAt (us.getD 0 undef) 0) 1))] : Value), fun FF us v => v = (.bool ((walkToF ar rs t (((terms (reachF ar rs t (n - 1)).1).getD k [])) (n - 1)).2.2) : Value), fun FF us v => v = ptr (blk v) 0, fun FF us v => True]) (ownL [fun us v => [], fun us v => [], fun us v => [], fun us v => [], fun us v => [], fun us v => [], fun us v => [], fun us v => [], fun us v => [intsH 2 (((aggAt (tupAt v 0) 0))) ((walkToF ar rs t (((terms (reachF ar rs t (n - 1)).1).getD k [])) (n - 1)).1), stepsD 2 77 (((aggAt (tupAt v 0) 1))) ((walkToF ar rs t (((terms (reachF ar rs t (n - 1)).1).getD k [])) (n - 1)).2.1)], fun us v => [], fun us v => [], fun us v => [], fun us v => [cellsH (blk v) [(.slice none 0 0), (.slice none 0 0)] 41], fun us v => [cellsH (blk (us.getD 1 undef)) [((aggAt (tupAt (us.getD 0 undef) 0) 0)), ((aggAt (tupAt (us.getD 0 undef) 0) 1))] 41]]) mixed rfl rfl (by kernel_rfl) (by kernel_rfl) (MonoG.get (MonoG.cons (fun le h => h) (MonoG.cons (fun le h => h) (MonoG.cons (fun le h => h) (MonoG.cons (fun le h => h) (MonoG.cons (fun le h => h) (MonoG.cons (fun le h => h) (MonoG.cons (fun le h => h) (MonoG.cons (fun le h => h) (MonoG.cons (fun le h => ⟨h.1, h.2.1, h.2.2⟩) (MonoG.cons (fun le h => h) (MonoG.cons (fun le h => h) (MonoG.cons (fun le h => h) (MonoG.cons (fun le h => h) (MonoG.cons (fun le h => h) MonoG.nil))))))))))))))) ?_ ?_
         ·refine stepsG.cons (fun vals Fs R leFs hpZ => ?_) ?_
          ·replace har := har.mono leFs
           replace hrs := hrs.mono leFs
           replace ht := ht.mono leFs
           replace hr1 := hr1.mono leFs
           replace ha1 := ha1.mono leFs
           replace hr3 := hr3.mono leFs
           replace ha2 := ha2.mono leFs
           replace f7_2hr := f7_2hr.mono leFs
           replace ha3 := ha3.mono leFs
           replace hr4 := Rd.monoA hr4 leFs
           replace hr5 := Rd.monoA hr5 leFs
           replace hr6 := Rd.monoA hr6 leFs
           replace hr9 := Rd.monoA hr9 leFs
           refine XG.op (XOp.loadN [arv, rsv] Try.isAgg33 Try.sizeOf33 rfl rfl (Rd.ownN [_, _] rfl rfl) ?_)
           exact ⟨rfl, rfl⟩
          refine stepsG.cons (fun vals Fs R leFs hpZ => ?_) ?_
          ·refine XG.op (XOp.move (tv) rfl ?_)
           exact ⟨rfl, rfl⟩
          refine stepsG.cons (fun vals Fs R leFs hpZ => ?_) ?_
          ·refine XG.op (XOp.move (x1) rfl ?_)
           exact ⟨rfl, rfl⟩
          refine stepsG.cons (fun vals Fs R leFs hpZ => ?_) ?_
          ·refine XG.op (XOp.move (.int .i64 (((k : Nat) : Int))) rfl ?_)
           exact ⟨rfl, rfl⟩
          refine stepsG.cons (fun vals Fs R leFs hpZ => ?_) ?_
          ·have e2 : vals 2 = x1 := hpZ 2 (by decide)
           have e3 : vals 3 = (.int .i64 (((k : Nat) : Int)) : Value) := hpZ 3 (by decide)
           replace har := har.mono leFs
           replace hrs := hrs.mono leFs
           replace ht := ht.mono leFs
           replace hr1 := hr1.mono leFs
           replace ha1 := ha1.mono leFs
           replace hr3 := hr3.mono leFs
           replace ha2 := ha2.mono leFs
           replace f7_2hr := f7_2hr.mono leFs
           replace ha3 := ha3.mono leFs
           replace hr4 := Rd.monoA hr4 leFs
           replace hr5 := Rd.monoA hr5 leFs
           replace hr6 := Rd.monoA hr6 leFs
           replace hr9 := Rd.monoA hr9 leFs
           rw [(envs_of_sat (l := [(2, x1), (3, (.int .i64 (((k : Nat) : Int)) : Value))]) ⟨e2, e3, trivial⟩).symm]
           refine XG.op (XOp.indexS (v := x1) (i := ((k : Nat) : Int)) (n := (terms (reachF ar rs t (n - 1)).1).length) k Try.runUnderlying49 Try.sizeOf22 rfl rfl rfl hr1.slv (by omega) (Nat.mul_one _) ?_)
           exact ⟨rfl, rfl⟩
          refine stepsG.cons (fun vals Fs R leFs hpZ => ?_) ?_
          ·have e4 : vals 4 = (.pointer (some (elemA x1 (k))) : Value) := hpZ 4 (by decide)
           replace har := har.mono leFs
           replace hrs := hrs.mono leFs
           replace ht := ht.mono leFs
           replace hr1 := hr1.mono leFs
           replace ha1 := ha1.mono leFs
           replace hr3 := hr3.mono leFs
           replace ha2 := ha2.mono leFs
           replace f7_2hr := f7_2hr.mono leFs
           replace ha3 := ha3.mono leFs
           replace hr4 := Rd.monoA hr4 leFs
           replace hr5 := Rd.monoA hr5 leFs
           replace hr6 := Rd.monoA hr6 leFs
           replace hr9 := Rd.monoA hr9 leFs
           rw [(envs_of_sat (l := [(4, (.pointer (some (elemA x1 (k))) : Value))]) ⟨e4, trivial⟩).symm]
           refine XG.op (XOp.load1 (v := a3) Try.isAgg22 rfl (hr9 _) ?_)
           exact ⟨rfl, rfl⟩
          refine stepsG.cons (fun vals Fs R leFs hpZ => ?_) ?_
          ·refine XG.op (XOp.move (.int .i64 (n)) rfl ?_)
           exact ⟨rfl, rfl⟩
          refine stepsG.cons (fun vals Fs R leFs hpZ => ?_) ?_
          ·have e6 : vals 6 = (.int .i64 (n) : Value) := hpZ 6 (by decide)
           rw [(envs_of_sat (l := [(6, (.int .i64 (n) : Value))]) ⟨e6, trivial⟩).symm]
           refine XG.op (XOp.subR (a := n) (b := 1) (n - 1) rfl rfl (by omega) (by omega) ?_)
           exact ⟨rfl, rfl⟩
          refine stepsG.cons (fun vals Fs R leFs hpZ => ?_) ?_
          ·have e0 : vals 0 = (.agg #[arv, rsv] : Value) := hpZ 0 (by decide)
           have e1 : vals 1 = tv := hpZ 1 (by decide)
           have e5 : vals 5 = a3 := hpZ 5 (by decide)
           have e7 : vals 7 = (.int .i64 (n - 1) : Value) := hpZ 7 (by decide)
           replace har := har.mono leFs
           replace hrs := hrs.mono leFs
           replace ht := ht.mono leFs
           replace hr1 := hr1.mono leFs
           replace ha1 := ha1.mono leFs
           replace hr3 := hr3.mono leFs
           replace ha2 := ha2.mono leFs
           replace f7_2hr := f7_2hr.mono leFs
           replace ha3 := ha3.mono leFs
           replace hr4 := Rd.monoA hr4 leFs
           replace hr5 := Rd.monoA hr5 leFs
           replace hr6 := Rd.monoA hr6 leFs
           replace hr9 := Rd.monoA hr9 leFs
           rw [(envs_of_sat (l := [(0, (.agg #[arv, rsv] : Value)), (1, tv), (5, a3), (7, (.int .i64 (n - 1) : Value))]) ⟨e0, e1, e5, e7, trivial⟩).symm]
           refine XG.op (XOp.thawL ?_)
           refine id (XOp.call (args := [.agg #[arv, rsv], tv, a3, .int .i64 (n - 1)]) Try.call31 rfl (sWalkTo_spec (n := n - 1) har hrs ht ha3 (hla := (by first | assumption | rfl | omega | (left; simp; done) | (right; simp; done))) (hlr := (by first | assumption | rfl | omega | (left; simp; done) | (right; simp; done))) (hrb := (by first | assumption | rfl | omega | (left; simp; done) | (right; simp; done))) (hlt := (by first | assumption | rfl | omega | (left; simp; done) | (right; simp; done))) (hlu := (by have := hkl (by omega); omega))) ?_)
           rintro _ F7 _ le7 ⟨x7, x8, rfl, hr13, hr14, hr15, rfl⟩
           refine ⟨[intsH 2 x7 ((walkToF ar rs t (((terms (reachF ar rs t (n - 1)).1).getD k [])) (n - 1)).1), stepsD 2 77 x8 ((walkToF ar rs t (((terms (reachF ar rs t (n - 1)).1).getD k [])) (n - 1)).2.1)], hr15, ?_⟩
           exact ⟨⟨rfl, (IntsF.isSl hr13), (StepsF.isSl hr14)⟩, rfl⟩
          refine stepsG.cons (fun vals Fs R leFs hpZ => ?_) ?_
          ·obtain ⟨e8, f8_3sl0, f8_3sl1⟩ := hpZ 8 (by decide)
           rw [(envs_of_sat (l := [(8, (.tuple #[.agg #[((aggAt (tupAt (vals 8) 0) 0)), ((aggAt (tupAt (vals 8) 0) 1))], .bool ((walkToF ar rs t (((terms (reachF ar rs t (n - 1)).1).getD k [])) (n - 1)).2.2)] : Value))]) ⟨(e8).symm, trivial⟩).symm]
           refine XG.op (XOp.move (.tuple #[.agg #[((aggAt (tupAt (vals 8) 0) 0)), ((aggAt (tupAt (vals 8) 0) 1))], .bool ((walkToF ar rs t (((terms (reachF ar rs t (n - 1)).1).getD k [])) (n - 1)).2.2)]) rfl ?_)
           exact ⟨rfl, rfl⟩
          refine stepsG.cons (fun vals Fs R leFs hpZ => ?_) ?_
          ·obtain ⟨e8, f8_3sl0, f8_3sl1⟩ := hpZ 8 (by decide)
           have e9 : vals 9 = (.tuple #[.agg #[((aggAt (tupAt (vals 8) 0) 0)), ((aggAt (tupAt (vals 8) 0) 1))], .bool ((walkToF ar rs t (((terms (reachF ar rs t (n - 1)).1).getD k [])) (n - 1)).2.2)] : Value) := hpZ 9 (by decide)
           rw [(envs_of_sat (l := [(8, (.tuple #[.agg #[((aggAt (tupAt (vals 8) 0) 0)), ((aggAt (tupAt (vals 8) 0) 1))], .bool ((walkToF ar rs t (((terms (reachF ar rs t (n - 1)).1).getD k [])) (n - 1)).2.2)] : Value)), (9, (.tuple #[.agg #[((aggAt (tupAt (vals 8) 0) 0)), ((aggAt (tupAt (vals 8) 0) 1))], .bool ((walkToF ar rs t (((terms (reachF ar rs t (n - 1)).1).getD k [])) (n - 1)).2.2)] : Value))]) ⟨(e8).symm, e9, trivial⟩).symm]
           refine XG.op (XOp.extract (.agg #[((aggAt (tupAt (vals 8) 0) 0)), ((aggAt (tupAt (vals 8) 0) 1))]) rfl rfl ?_)
           exact ⟨rfl, rfl⟩
          refine stepsG.cons (fun vals Fs R leFs hpZ => ?_) ?_
          ·obtain ⟨e8, f8_3sl0, f8_3sl1⟩ := hpZ 8 (by decide)
           have e9 : vals 9 = (.tuple #[.agg #[((aggAt (tupAt (vals 8) 0) 0)), ((aggAt (tupAt (vals 8) 0) 1))], .bool ((walkToF ar rs t (((terms (reachF ar rs t (n - 1)).1).getD k [])) (n - 1)).2.2)] : Value) := hpZ 9 (by decide)
           rw [(envs_of_sat (l := [(8, (.tuple #[.agg #[((aggAt (tupAt (vals 8) 0) 0)), ((aggAt (tupAt (vals 8) 0) 1))], .bool ((walkToF ar rs t (((terms (reachF ar rs t (n - 1)).1).getD k [])) (n - 1)).2.2)] : Value)), (9, (.tuple #[.agg #[((aggAt (tupAt (vals 8) 0) 0)), ((aggAt (tupAt (vals 8) 0) 1))], .bool ((walkToF ar rs t (((terms (reachF ar rs t (n - 1)).1).getD k [])) (n - 1)).2.2)] : Value))]) ⟨(e8).symm, e9, trivial⟩).symm]
           refine XG.op (XOp.extract (.bool ((walkToF ar rs t (((terms (reachF ar rs t (n - 1)).1).getD k [])) (n - 1)).2.2)) rfl rfl ?_)
           exact ⟨rfl, rfl⟩
          refine stepsG.cons (fun vals Fs R leFs hpZ => ?_) ?_
          ·replace har := har.mono leFs
           replace hrs := hrs.mono leFs
           replace ht := ht.mono leFs
           replace hr1 := hr1.mono leFs
           replace ha1 := ha1.mono leFs
           replace hr3 := hr3.mono leFs
           replace ha2 := ha2.mono leFs
           replace f7_2hr := f7_2hr.mono leFs
           replace ha3 := ha3.mono leFs
           replace hr4 := Rd.monoA hr4 leFs
           replace hr5 := Rd.monoA hr5 leFs
           replace hr6 := Rd.monoA hr6 leFs
           replace hr9 := Rd.monoA hr9 leFs
           refine XG.op (XOp.alloc [(.slice none 0 0), (.slice none 0 0)] Try.zeroValue41 rfl ?_)
           intro b7
           exact ⟨rfl, rfl⟩
          refine stepsG.cons (fun vals Fs R leFs hpZ => ?_) ?_
          ·obtain ⟨e8, f8_3sl0, f8_3sl1⟩ := hpZ 8 (by decide)
           have e10 : vals 10 = (.agg #[((aggAt (tupAt (vals 8) 0) 0)), ((aggAt (tupAt (vals 8) 0) 1))] : Value) := hpZ 10 (by decide)
           have e12 : vals 12 = ptr (blk (vals 12)) 0 := hpZ 12 (by decide)
           replace har := har.mono leFs
           replace hrs := hrs.mono leFs
           replace ht := ht.mono leFs
           replace hr1 := hr1.mono leFs
           replace ha1 := ha1.mono leFs
           replace hr3 := hr3.mono leFs
           replace ha2 := ha2.mono leFs
           replace f7_2hr := f7_2hr.mono leFs
           replace ha3 := ha3.mono leFs
           replace hr4 := Rd.monoA hr4 leFs
           replace hr5 := Rd.monoA hr5 leFs
           replace hr6 := Rd.monoA hr6 leFs
           replace hr9 := Rd.monoA hr9 leFs
           rw [(envs_of_sat (l := [(8, (.tuple #[.agg #[((aggAt (tupAt (vals 8) 0) 0)), ((aggAt (tupAt (vals 8) 0) 1))], .bool ((walkToF ar rs t (((terms (reachF ar rs t (n - 1)).1).getD k [])) (n - 1)).2.2)] : Value)), (10, (.agg #[((aggAt (tupAt (vals 8) 0) 0)), ((aggAt (tupAt (vals 8) 0) 1))] : Value)), (12, ptr (blk (vals 12)) 0)]) ⟨(e8).symm, e10, e12, trivial⟩).symm]
           show XG _ _ _ _ _ (cellsH (blk (vals 12)) [(.slice none 0 0), (.slice none 0 0)] 41 :: ([cellsH b5 [u1] 96, cellsH b2 [(.slice none 0 0), (.slice none 0 0), .int .i64 (0), (.slice none 0 0)] 98, cellsH b1 [arv, rsv] 33] ++ R)) _
           refine XG.op (XOp.storeN (vs := [((aggAt (tupAt (vals 8) 0) 0)), ((aggAt (tupAt (vals 8) 0) 1))]) [] _ [((aggAt (tupAt (vals 8) 0) 0)), ((aggAt (tupAt (vals 8) 0) 1))] Try.sizeOf41 rfl rfl rfl (ones_cons (one_sl f8_3sl0) (ones_cons (one_sl f8_3sl1) ones_nil)) rfl rfl rfl ?_)
           exact ⟨trivial, rfl⟩
          exact stepsG.nil
         ·intro vals F8 le8 hphi
          have e0 : vals 0 = (.agg #[arv, rsv] : Value) := hphi 0 (by decide)
          have e1 : vals 1 = tv := hphi 1 (by decide)
          have e2 : vals 2 = x1 := hphi 2 (by decide)
          have e3 : vals 3 = (.int .i64 (((k : Nat) : Int)) : Value) := hphi 3 (by decide)
          have e4 : vals 4 = (.pointer (some (elemA x1 (k))) : Value) := hphi 4 (by decide)
          have e5 : vals 5 = a3 := hphi 5 (by decide)
          have e6 : vals 6 = (.int .i64 (n) : Value) := hphi 6 (by decide)
          have e7 : vals 7 = (.int .i64 (n - 1) : Value) := hphi 7 (by decide)
          obtain ⟨e8, f8_3sl0, f8_3sl1⟩ := hphi 8 (by decide)
          have e9 : vals 9 = (.tuple #[.agg #[((aggAt (tupAt (vals 8) 0) 0)), ((aggAt (tupAt (vals 8) 0) 1))], .bool ((walkToF ar rs t (((terms (reachF ar rs t (n - 1)).1).getD k [])) (n - 1)).2.2)] : Value) := hphi 9 (by decide)
          have e10 : vals 10 = (.agg #[((aggAt (tupAt (vals 8) 0) 0)), ((aggAt (tupAt (vals 8) 0) 1))] : Value) := hphi 10 (by decide)
          have e11 : vals 11 = (.bool ((walkToF ar rs t (((terms (reachF ar rs t (n - 1)).1).getD k [])) (n - 1)).2.2) : Value) := hphi 11 (by decide)
          have e12 : vals 12 = ptr (blk (vals 12)) 0 := hphi 12 (by decide)
          generalize hu3 : ((aggAt (tupAt (vals 8) 0) 0)) = u2 at e0 e1 e2 e3 e4 e5 e6 e7 e8 f8_3sl0 f8_3sl1 e9 e10 e11 e12
          generalize hu4 : ((aggAt (tupAt (vals 8) 0) 1)) = u3 at e0 e1 e2 e3 e4 e5 e6 e7 e8 f8_3sl0 f8_3sl1 e9 e10 e11 e12
          generalize hu5 : blk (vals 12) = b8 at e0 e1 e2 e3 e4 e5 e6 e7 e8 f8_3sl0 f8_3sl1 e9 e10 e11 e12
          rw [(envs_of_sat (l := [(0, (.agg #[arv, rsv] : Value)), (1, tv), (2, x1), (3, (.int .i64 (((k : Nat) : Int)) : Value)), (4, (.pointer (some (elemA x1 (k))) : Value)), (5, a3), (6, (.int .i64 (n) : Value)), (7, (.int .i64 (n - 1) : Value)), (8, (.tuple #[.agg #[u2, u3], .bool ((walkToF ar rs t (((terms (reachF ar rs t (n - 1)).1).getD k [])) (n - 1)).2.2)] : Value)), (9, (.tuple #[.agg #[u2, u3], .bool ((walkToF ar rs t (((terms (reachF ar rs t (n - 1)).1).getD k [])) (n - 1)).2.2)] : Value)), (10, (.agg #[u2, u3] : Value)), (11, (.bool ((walkToF ar rs t (((terms (reachF ar rs t (n - 1)).1).getD k [])) (n - 1)).2.2) : Value)), (12, ptr b8 0)]) ⟨e0, e1, e2, e3, e4, e5, e6, e7, (e8).symm, e9, e10, e11, e12, trivial⟩).symm]
          replace har := har.mono le8
          replace hrs := hrs.mono le8
          replace ht := ht.mono le8
          replace hr1 := hr1.mono le8
          replace ha1 := ha1.mono le8
          replace hr3 := hr3.mono le8
          replace ha2 := ha2.mono le8
          replace f7_2hr := f7_2hr.mono le8
          replace ha3 := ha3.mono le8
          replace hr4 := Rd.monoA hr4 le8
          replace hr5 := Rd.monoA hr5 le8
          replace hr6 := Rd.monoA hr6 le8
          replace hr9 := Rd.monoA hr9 le8
          show XL _ _ _ _ _ _ _ (intsH 2 u2 ((walkToF ar rs t (((terms (reachF ar rs t (n - 1)).1).getD k [])) (n - 1)).1) :: stepsD 2 77 u3 ((walkToF ar rs t (((terms (reachF ar rs t (n - 1)).1).getD k [])) (n - 1)).2.1) :: cellsH b8 [u2, u3] 41 :: cellsH b5 [u1] 96 :: cellsH b2 [(.slice none 0 0), (.slice none 0 0), .int .i64 (0), (.slice none 0 0)] 98 :: cellsH b1 [arv, rsv] 33 :: L)
          refine XL.cons (XOp.assign (.bool ((walkToF ar rs t (((terms (reachF ar rs t (n - 1)).1).getD k [])) (n - 1)).2.2)) rfl ?_)
          refine XL.nil ?_
          refine X.seq ?_
          refine X.seq ?_
          refine X.region ?_
          refine XL.openD [_] _ rfl (fun cs1 Ls1 F9 le9 hs1 hD1 hZ1 => ?_)
          replace har := har.mono le9
          replace hrs := hrs.mono le9
          replace ht := ht.mono le9
          replace hr1 := hr1.mono le9
          replace ha1 := ha1.mono le9
          replace hr3 := hr3.mono le9
          replace ha2 := ha2.mono le9
          replace f7_2hr := f7_2hr.mono le9
          replace ha3 := ha3.mono le9
          replace hr4 := Rd.monoA hr4 le9
          replace hr5 := Rd.monoA hr5 le9
          replace hr6 := Rd.monoA hr6 le9
          replace hr9 := Rd.monoA hr9 le9
          have hc1 := hD1.steps hZ1
          show XL _ _ _ _ _ _ _ (intsH 2 u2 ((walkToF ar rs t (((terms (reachF ar rs t (n - 1)).1).getD k [])) (n - 1)).1) :: slH 77 3 u3 (((walkToF ar rs t (((terms (reachF ar rs t (n - 1)).1).getD k [])) (n - 1)).2.1).length) cs1 :: cellsH b8 [u2, u3] 41 :: cellsH b5 [u1] 96 :: cellsH b2 [(.slice none 0 0), (.slice none 0 0), .int .i64 (0), (.slice none 0 0)] 98 :: cellsH b1 [arv, rsv] 33 :: L)
          skip
          refine XL.cons (XOp.move (.bool ((walkToF ar rs t (((terms (reachF ar rs t (n - 1)).1).getD k [])) (n - 1)).2.2)) rfl ?_)
          refine XL.cons (XOp.notB (b := (walkToF ar rs t (((terms (reachF ar rs t (n - 1)).1).getD k [])) (n - 1)).2.2) rfl ?_)
          refine XL.cons (XOp.move (.bool (!((walkToF ar rs t (((terms (reachF ar rs t (n - 1)).1).getD k [])) (n - 1)).2.2))) rfl ?_)
          by_cases h7 : (!((walkToF ar rs t (((terms (reachF ar rs t (n - 1)).1).getD k [])) (n - 1)).2.2)) = true
          ·exact absurd h7 (by rw [hw9]; simp)
          ·rw [Bool.not_eq_true] at h7
           refine XL.yes (t := 86) rfl (congrArg Value.bool h7) (XOp.fieldP (b := b8) (1) Try.runUnderlying41 rfl Try.sizeOf39 (by decide) rfl rfl ?_)
           refine XL.yes (t := 86) rfl (congrArg Value.bool h7) (XOp.load1 (v := u3) Try.isAgg39 rfl (Rd.own [_, _] rfl rfl) ?_)
           refine XL.yes (t := 86) rfl (congrArg Value.bool h7) (XOp.lenS (v := u3) (n := ((walkToF ar rs t (((terms (reachF ar rs t (n - 1)).1).getD k [])) (n - 1)).2.1).length) Try.runUnderlying39 rfl (SlV.own [_] rfl) ?_)
           refine XL.yes (t := 86) rfl (congrArg Value.bool h7) (XOp.geq (a := ((((walkToF ar rs t (((terms (reachF ar rs t (n - 1)).1).getD k [])) (n - 1)).2.1).length : Nat) : Int)) (b := 60) rfl rfl ?_)
           refine XL.cons (XOp.pickF (.bool (decide ((((((walkToF ar rs t (((terms (reachF ar rs t (n - 1)).1).getD k [])) (n - 1)).2.1).length : Nat) : Int) : Int) ≥ 60))) (congrArg Value.bool h7) rfl ?_)
           refine XL.nil ?_
           refine X.condD (p := (((((walkToF ar rs t (((terms (reachF ar rs t (n - 1)).1).getD k [])) (n - 1)).2.1).length : Nat) : Int) : Int) ≥ 60) rfl (fun h8 => ?_) (fun h8 => ?_)
           ·exact absurd h8 (by omega)
           ·refine X.skip ?_
            refine X.seq ?_
            refine X.draw [intsH 2 u2 ((walkToF ar rs t (((terms (reachF ar rs t (n - 1)).1).getD k [])) (n - 1)).1), slH 77 3 u3 (((walkToF ar rs t (((terms (reachF ar rs t (n - 1)).1).getD k [])) (n - 1)).2.1).length) cs1, cellsH b8 [u2, u3] 41, cellsH b5 [u1] 96, cellsH b2 [(.slice none 0 0), (.slice none 0 0), .int .i64 (0), (.slice none 0 0)] 98, cellsH b1 [arv, rsv] 33] L 7 [[], [], [], [], [], [], []] [[], [0], [], [], [2, 3], [4], [5]] (phiL [fun us v => v = ptr b8 1, fun us v => v = u3, fun us v => v = x2, fun us v => v = (.int .i64 (((q : Nat) : Int)) : Value), fun us v => v = (.pointer (some (elemA x2 (q * 3))) : Value), fun us v => v = (.agg #[.int .i64 (((stepsL ar rs (((terms (reachF ar rs t (n - 1)).1).getD k []))).getD q (0, 0, [])).1), .int .i64 (((stepsL ar rs (((terms (reachF ar rs t (n - 1)).1).getD k []))).getD q (0, 0, [])).2.1), a2] : Value), fun us v => ∃ b, v = .slice (some ⟨b, 0, none⟩) 1 1]) (ownL [fun us v => [], fun us v => [], fun us v => [], fun us v => [], fun us v => [], fun us v => [], fun us v => [slH 77 3 v 1 [.int .i64 (((stepsL ar rs (((terms (reachF ar rs t (n - 1)).1).getD k []))).getD q (0, 0, [])).1), .int .i64 (((stepsL ar rs (((terms (reachF ar rs t (n - 1)).1).getD k []))).getD q (0, 0, [])).2.1), a2]]]) mixed rfl rfl (by kernel_rfl) ?_ ?_
            ·refine stepsP.cons (fun vals R hpZ => ?_) ?_
             ·refine XG.op (XOp.fieldP (b := b8) (1) Try.runUnderlying41 rfl Try.sizeOf39 (by decide) rfl rfl ?_)
              exact ⟨rfl, rfl, rfl⟩
             refine stepsP.cons (fun vals R hpZ => ?_) ?_
             ·rw [(envs_of_sat (l := [(0, ptr b8 1)]) ⟨hpZ 0 (by decide), trivial⟩).symm]
              refine XG.op (XOp.load1 (v := u3) Try.isAgg39 rfl (Rd.own [_, _] rfl rfl) ?_)
              exact ⟨rfl, rfl, rfl⟩
             refine stepsP.cons (fun vals R hpZ => ?_) ?_
             ·refine XG.op (XOp.move (x2) rfl ?_)
              exact ⟨rfl, rfl, rfl⟩
             refine stepsP.cons (fun vals R hpZ => ?_) ?_
             ·refine XG.op (XOp.move (.int .i64 (((q : Nat) : Int))) rfl ?_)
              exact ⟨rfl, rfl, rfl⟩
             refine stepsP.cons (fun vals R hpZ => ?_) ?_
             ·rw [(envs_of_sat (l := [(2, x2), (3, (.int .i64 (((q : Nat) : Int)) : Value))]) ⟨hpZ 2 (by decide), hpZ 3 (by decide), trivial⟩).symm]
              refine XG.op (XOp.indexS (v := x2) (i := ((q : Nat) : Int)) (n := (stepsL ar rs (((terms (reachF ar rs t (n - 1)).1).getD k []))).length) q Try.runUnderlying39 Try.sizeOf77 rfl rfl rfl hr3.slv (by omega) rfl ?_)
              exact ⟨rfl, rfl, rfl⟩
             refine stepsP.cons (fun vals R hpZ => ?_) ?_
             ·rw [(envs_of_sat (l := [(4, (.pointer (some (elemA x2 (q * 3))) : Value))]) ⟨hpZ 4 (by decide), trivial⟩).symm]
              refine XG.op (XOp.loadN [.int .i64 (((stepsL ar rs (((terms (reachF ar rs t (n - 1)).1).getD k []))).getD q (0, 0, [])).1), .int .i64 (((stepsL ar rs (((terms (reachF ar rs t (n - 1)).1).getD k []))).getD q (0, 0, [])).2.1), a2] Try.isAgg77 Try.sizeOf77 rfl rfl (Rd.three (hr4 _) (hr5 _) (hr6 _)) ?_)
              exact ⟨rfl, rfl, rfl⟩
             refine stepsP.cons (fun vals R hpZ => ?_) ?_
             ·rw [(envs_of_sat (l := [(5, (.agg #[.int .i64 (((stepsL ar rs (((terms (reachF ar rs t (n - 1)).1).getD k []))).getD q (0, 0, [])).1), .int .i64 (((stepsL ar rs (((terms (reachF ar rs t (n - 1)).1).getD k []))).getD q (0, 0, [])).2.1), a2] : Value))]) ⟨hpZ 5 (by decide), trivial⟩).symm]
              refine XG.op (XOp.buildSlice (s := 3) [.int .i64 (((stepsL ar rs (((terms (reachF ar rs t (n - 1)).1).getD k []))).getD q (0, 0, [])).1), .int .i64 (((stepsL ar rs (((terms (reachF ar rs t (n - 1)).1).getD k []))).getD q (0, 0, [])).2.1), a2] [.int .i64 (0), .int .i64 (0), (.slice none 0 0)] [(0, [.int .i64 (((stepsL ar rs (((terms (reachF ar rs t (n - 1)).1).getD k []))).getD q (0, 0, [])).1), .int .i64 (((stepsL ar rs (((terms (reachF ar rs t (n - 1)).1).getD k []))).getD q (0, 0, [])).2.1), a2])] Try.runUnderlying39 Try.sizeOf77 Try.zeroValue77 rfl (by decide) rfl (.cons rfl CellsAre.nil) rfl ?_)
              intro v2 hv2
              exact ⟨rfl, hv2, rfl⟩
             exact stepsP.nil
            ·intro vals hphi
             have e0 : vals 0 = ptr b8 1 := hphi 0 (by decide)
             have e1 : vals 1 = u3 := hphi 1 (by decide)
             have e2 : vals 2 = x2 := hphi 2 (by decide)
             have e3 : vals 3 = (.int .i64 (((q : Nat) : Int)) : Value) := hphi 3 (by decide)
             have e4 : vals 4 = (.pointer (some (elemA x2 (q * 3))) : Value) := hphi 4 (by decide)
             have e5 : vals 5 = (.agg #[.int .i64 (((stepsL ar rs (((terms (reachF ar rs t (n - 1)).1).getD k []))).getD q (0, 0, [])).1), .int .i64 (((stepsL ar rs (((terms (reachF ar rs t (n - 1)).1).getD k []))).getD q (0, 0, [])).2.1), a2] : Value) := hphi 5 (by decide)
             have f6 : ∃ b, (vals 6) = .slice (some ⟨b, 0, none⟩) 1 1 := hphi 6 (by decide)
             generalize hu6 : vals 6 = u4 at f6
             rw [(envs_of_sat (l := [(0, ptr b8 1), (1, u3), (2, x2), (3, (.int .i64 (((q : Nat) : Int)) : Value)), (4, (.pointer (some (elemA x2 (q * 3))) : Value)), (5, (.agg #[.int .i64 (((stepsL ar rs (((terms (reachF ar rs t (n - 1)).1).getD k []))).getD q (0, 0, [])).1), .int .i64 (((stepsL ar rs (((terms (reachF ar rs t (n - 1)).1).getD k []))).getD q (0, 0, [])).2.1), a2] : Value)), (6, u4)]) ⟨e0, e1, e2, e3, e4, e5, hu6, trivial⟩).symm]
             show XL _ _ _ _ _ _ _ (slH 77 3 u4 1 [.int .i64 (((stepsL ar rs (((terms (reachF ar rs t (n - 1)).1).getD k []))).getD q (0, 0, [])).1), .int .i64 (((stepsL ar rs (((terms (reachF ar rs t (n - 1)).1).getD k []))).getD q (0, 0, [])).2.1), a2] :: intsH 2 u2 ((walkToF ar rs t (((terms (reachF ar rs t (n - 1)).1).getD k [])) (n - 1)).1) :: slH 77 3 u3 (((walkToF ar rs t (((terms (reachF ar rs t (n - 1)).1).getD k [])) (n - 1)).2.1).length) cs1 :: cellsH b8 [u2, u3] 41 :: cellsH b5 [u1] 96 :: cellsH b2 [(.slice none 0 0), (.slice none 0 0), .int .i64 (0), (.slice none 0 0)] 98 :: cellsH b1 [arv, rsv] 33 :: L)
             refine XL.cons (XOp.append (m := 1) (bytes := 40) (cs := cs1) [_, _] _ [.int .i64 (((stepsL ar rs (((terms (reachF ar rs t (n - 1)).1).getD k []))).getD q (0, 0, [])).1), .int .i64 (((stepsL ar rs (((terms (reachF ar rs t (n - 1)).1).getD k []))).getD q (0, 0, [])).2.1), a2] Try.runUnderlying39 Try.typeInfo77 rfl rfl rfl rfl rfl rfl rfl (SlV.own [] rfl) rfl (Rd.lit [] rfl) (ones_cons rfl (ones_cons rfl (ones_cons (one_sl (IntsF.isSl ha2)) ones_nil))) (by (try simp only [List.length_append, List.length_nil, List.length_cons, List.length_singleton]); omega) (by (try simp only [List.length_append, List.length_nil, List.length_cons, List.length_singleton]); omega) ?_)
             intro v3 hs2 hn1 hm1
             have hc2 := StepsC.snoc hc1 (i := ((stepsL ar rs (((terms (reachF ar rs t (n - 1)).1).getD k []))).getD q (0, 0, [])).1) (j := ((stepsL ar rs (((terms (reachF ar rs t (n - 1)).1).getD k []))).getD q (0, 0, [])).2.1) ha2
             refine XL.cons (XOp.fieldP (b := b8) (1) Try.runUnderlying41 rfl Try.sizeOf39 (by decide) rfl rfl ?_)
             refine XL.cons (XOp.store1 (v := v3) [_, _, _] _ [u2, v3] Try.sizeOf39 rfl rfl (one_sl hs2) rfl rfl rfl ?_)
             refine XL.nil ?_
             refine X.seq ?_
             refine X.region ?_
             refine XL.cons (XOp.loadN [u2, v3] Try.isAgg41 Try.sizeOf41 rfl rfl (Rd.ownN [_, _, _] rfl rfl) ?_)
             refine XL.cons (XOp.move (.int .i64 (instI ar t (((stepsL ar rs (((terms (reachF ar rs t (n - 1)).1).getD k []))).getD q (0, 0, [])).2.2))) rfl ?_)
             refine XL.cons (XOp.loadN [u1] Try.isAgg96 Try.sizeOf96 rfl rfl (Rd.ownN [_, _, _, _] rfl rfl) ?_)
             refine XL.cons (XOp.build [u2, v3, .int .i64 (instI ar t (((stepsL ar rs (((terms (reachF ar rs t (n - 1)).1).getD k []))).getD q (0, 0, [])).2.2)), u1] [(.slice none 0 0), (.slice none 0 0), .int .i64 (0), (.slice none 0 0)] [(0, 2), (2, 1), (3, 1)] [(0, [u2, v3]), (1, [.int .i64 (instI ar t (((stepsL ar rs (((terms (reachF ar rs t (n - 1)).1).getD k []))).getD q (0, 0, [])).2.2))]), (2, [u1])] Try.runUnderlying98 Try.zeroValue98 rfl (.cons rfl Try.sizeOf41 (.cons rfl Try.sizeOf2 (.cons rfl Try.sizeOf96 PlacesAre.nil))) rfl (.cons rfl (.cons rfl (.cons rfl CellsAre.nil))) ?_)
             refine XL.cons (XOp.storeN (vs := [u2, v3, .int .i64 (instI ar t (((stepsL ar rs (((terms (reachF ar rs t (n - 1)).1).getD k []))).getD q (0, 0, [])).2.2)), u1]) [_, _, _, _, _] _ [u2, v3, .int .i64 (instI ar t (((stepsL ar rs (((terms (reachF ar rs t (n - 1)).1).getD k []))).getD q (0, 0, [])).2.2)), u1] Try.sizeOf98 rfl rfl rfl (ones_cons (one_sl f8_3sl0) (ones_cons (one_sl hs2) (ones_cons rfl (ones_cons (one_sl (RowsF.isSl f7_2hr)) ones_nil)))) rfl rfl rfl ?_)
             refine XL.cons (XOp.assign (.bool (true)) rfl ?_)
             refine XL.nil ?_
             refine X.freezeF [_] _ _ rfl (fun F10 le10 hz1 => ?_)
             replace har := har.mono le10
             replace hrs := hrs.mono le10
             replace ht := ht.mono le10
             replace hr1 := hr1.mono le10
             replace ha1 := ha1.mono le10
             replace hr3 := hr3.mono le10
             replace ha2 := ha2.mono le10
             replace f7_2hr := f7_2hr.mono le10
             replace ha3 := ha3.mono le10
             replace hc1 := hc1.mono le10
             replace hc2 := hc2.mono le10
             replace hr4 := Rd.monoA hr4 le10
             replace hr5 := Rd.monoA hr5 le10
             replace hr6 := Rd.monoA hr6 le10
             replace hr9 := Rd.monoA hr9 le10
             have hf1 : IntsF F10 u2 ((walkToF ar rs t (((terms (reachF ar rs t (n - 1)).1).getD k [])) (n - 1)).1) := intsH.fz (xs := (walkToF ar rs t (((terms (reachF ar rs t (n - 1)).1).getD k [])) (n - 1)).1) hz1.fz
             refine X.freezeF [_] _ _ rfl (fun F11 le11 hz2 => ?_)
             replace har := har.mono le11
             replace hrs := hrs.mono le11
             replace ht := ht.mono le11
             replace hr1 := hr1.mono le11
             replace ha1 := ha1.mono le11
             replace hr3 := hr3.mono le11
             replace ha2 := ha2.mono le11
             replace f7_2hr := f7_2hr.mono le11
             replace ha3 := ha3.mono le11
             replace hc1 := hc1.mono le11
             replace hc2 := hc2.mono le11
             replace hf1 := hf1.mono le11
             replace hr4 := Rd.monoA hr4 le11
             replace hr5 := Rd.monoA hr5 le11
             replace hr6 := Rd.monoA hr6 le11
             replace hr9 := Rd.monoA hr9 le11
             have hf2 : StepsF F11 v3 (((walkToF ar rs t (((terms (reachF ar rs t (n - 1)).1).getD k [])) (n - 1)).2.1) ++ [(((stepsL ar rs (((terms (reachF ar rs t (n - 1)).1).getD k []))).getD q (0, 0, [])).1, ((stepsL ar rs (((terms (reachF ar rs t (n - 1)).1).getD k []))).getD q (0, 0, [])).2.1, ((stepsL ar rs (((terms (reachF ar rs t (n - 1)).1).getD k []))).getD q (0, 0, [])).2.2)]) := CO.fz hc2 (by first | rfl | simp | omega) hz2.fz
             refine X.ret (blockQ_ret (thenQ_ret (thenQ_ret (blockQ_ret (blockQ_ret (thenQ_ret (thenQ_ret (blockQ_ret (thenQ_ret (retEnd (L' := L) [.agg #[u2, v3, .int .i64 (instI ar t (((stepsL ar rs (((terms (reachF ar rs t (n - 1)).1).getD k []))).getD q (0, 0, [])).2.2)), u1], .bool (true)] (.tuple #[.agg #[u2, v3, .int .i64 (instI ar t (((stepsL ar rs (((terms (reachF ar rs t (n - 1)).1).getD k []))).getD q (0, 0, [])).2.2)), u1], .bool (true)]) (.cell rfl (loadNV [u2, v3, .int .i64 (instI ar t (((stepsL ar rs (((terms (reachF ar rs t (n - 1)).1).getD k []))).getD q (0, 0, [])).2.2)), u1] Try.isAgg98 Try.sizeOf98 rfl (Rd.ownN [_, _, _] rfl rfl)) (.tmp rfl .nil)) rfl (FLe.trans (FLe.trans (FLe.trans (FLe.trans (FLe.trans (FLe.trans (FLe.trans (FLe.trans le1 leG1) le2) leG2) le5) le8) le9) le10) le11) (FLe.refl _) (Sub.drop (Sub.drop (Sub.drop (Sub.drop (Sub.drop (Sub.refl _)))))) ?_))))))))))
             have hq9 : q < (stepsL ar rs ((terms (reachF ar rs t (n - 1)).1).getD k [])).length := by omega
             have hi9 : 0 ≤ instI ar t ((stepsL ar rs ((terms (reachF ar rs t (n - 1)).1).getD k [])).getD q (0, 0, [])).2.2 := by omega
             rw [hgk] at hq9 hi9 hnq
             have e : loopF ar rs t n = (t, walkL (reachL ar rs t (n - 1)).1 k ++ [(stepsL ar rs (EL (reachL ar rs t (n - 1)).1 k).1).getD q (0, 0, [])], instI ar t ((stepsL ar rs (EL (reachL ar rs t (n - 1)).1 k).1).getD q (0, 0, [])).2.2, placeS ar t ((stepsL ar rs (EL (reachL ar rs t (n - 1)).1 k).1).getD q (0, 0, [])).2.2, true) := by rw [loopF_yes ⟨⟨hsys, ho⟩, hn20⟩, loop0_at (k := k) (q := q) hk9 hno hq9 hi9 hnq, loopAt, placeS_yes hi9]
             have ha9 := hf1
             have hb9 := hf2
             have hc9 := f7_2hr
             rw [hw9] at ha9
             rw [hw9, hgk] at hb9
             rw [hgk] at hc9
             exact ⟨_, _, _, by rw [e, hgk], by rw [e]; exact ha9, by rw [e]; exact hb9, by rw [e]; exact hc9, rfl⟩
      ·refine X.exit (thenQ_exit (thenQ_exit (blockQ_exit ?_)))
       refine X.region ?_
       refine XL.cons (XOp.move (.int .i64 (((k : Nat) : Int))) rfl ?_)
       refine XL.cons (XOp.addR (a := ((k : Nat) : Int)) (b := 1) (((k + 1 : Nat) : Int)) rfl rfl (by omega) (by omega) ?_)
       refine XL.cons (XOp.assign (.int .i64 (((k + 1 : Nat) : Int))) rfl ?_)
       refine XL.nil ?_
       exact ⟨(k + 1, G2), _, (FLe.trans (FLe.trans leG1 le2) leG2), (FLe.refl _), ⟨rfl, rfl, rfl, rfl, rfl, rfl, trivial⟩, (Sub.cons (Sub.cons (Sub.refl _))), ⟨rfl, (FLe.trans (FLe.trans leG1 le2) leG2), (by (try dsimp only) <;> omega), (fun i hi => (Nat.lt_or_ge i k).elim (fun h => hno i h) (fun h => by obtain rfl : i = k := (by omega); rw [← hgk, nextI_none (ar := ar) (t := t) (fun j hj => hnq j (by omega))]; omega))⟩, (by omega)⟩
    ·refine X.exit (thenQ_exit (thenQ_exit (blockQ_exit ?_)))
     refine X.seq ?_
     refine X.region ?_
     refine XL.cons (XOp.build [(.slice none 0 0), (.slice none 0 0), .int .i64 (0), (.slice none 0 0)] [(.slice none 0 0), (.slice none 0 0), .int .i64 (0), (.slice none 0 0)] [(0, 2), (2, 1), (3, 1)] [] Try.runUnderlying98 Try.zeroValue98 rfl (.cons rfl Try.sizeOf41 (.cons rfl Try.sizeOf2 (.cons rfl Try.sizeOf96 PlacesAre.nil))) rfl CellsAre.nil ?_)
     refine XL.cons (XOp.storeN (vs := [(.slice none 0 0), (.slice none 0 0), .int .i64 (0), (.slice none 0 0)]) [] _ [(.slice none 0 0), (.slice none 0 0), .int .i64 (0), (.slice none 0 0)] Try.sizeOf98 rfl rfl rfl (ones_cons rfl (ones_cons rfl (ones_cons rfl (ones_cons rfl ones_nil)))) rfl rfl rfl ?_)
     refine XL.cons (XOp.assign (.bool (false)) rfl ?_)
     refine XL.nil ?_
     refine X.ret (retEnd (L' := L) [.agg #[(.slice none 0 0), (.slice none 0 0), .int .i64 (0), (.slice none 0 0)], .bool (false)] (.tuple #[.agg #[(.slice none 0 0), (.slice none 0 0), .int .i64 (0), (.slice none 0 0)], .bool (false)]) (.cell rfl (loadNV [(.slice none 0 0), (.slice none 0 0), .int .i64 (0), (.slice none 0 0)] Try.isAgg98 Try.sizeOf98 rfl (Rd.ownN [] rfl rfl)) (.tmp rfl .nil)) rfl (FLe.trans le1 leG1) (FLe.refl _) (Sub.drop (Sub.drop (Sub.refl _))) ?_)
     have e : loopF ar rs t n = noLoop := (loopF_yes ⟨⟨hsys, ho⟩, hn20⟩).trans (loop0_none (fun i hi => hno i (by omega)))
     exact ⟨_, _, _, by rw [e], by rw [e]; exact IntsF.nilV, by rw [e]; exact SlOf.nilV, by rw [e]; exact SlOf.nilV, rfl⟩

/- spec.FirstLoop -/
set_option maxRecDepth 20000 in
theorem sFirstLoop_spec {F : FH} {L : List HP} {arv : Value} {ar : List Int} (har : IntsF F arv ar) {rsv : Value} {rs : List (List Int × List Int)} (hrs : PairsF F rsv rs) {n : Int} (hla : ar.length ≤ 4000000) (hlr : rs.length ≤ 4000000) (hrb : ∀ i, i < rs.length → (rs.getD i ([], [])).1.length ≤ 4000000 ∧ (rs.getD i ([], [])).2.length ≤ 4000000) :
    Does Try.prog 73 [.agg #[arv, rsv], .int .i64 (n)] F (L) (fun v F' L' => ∃ (a : Value), ∃ (b : Value), ∃ (c : Value), (.tuple #[.agg #[a, b, .int .i64 ((firstF ar rs n).2.2.1), c], .bool ((firstF ar rs n).2.2.2.2)] : Value) = v ∧ (IntsF F' a (firstF ar rs n).1) ∧ (StepsF F' b (firstF ar rs n).2.1) ∧ (RowsF F' c (firstF ar rs n).2.2.2.1) ∧ L = L') := by
 refine Does.of_X Try.func73 rfl rfl rfl ?_
 refine X.seq ?_
 refine X.region ?_
 refine XL.cons (XOp.box [arv, rsv] rfl rfl ?_)
 intro b1
 refine XL.cons (XOp.alloc [(.slice none 0 0), (.slice none 0 0), .int .i64 (0), (.slice none 0 0)] Try.zeroValue98 rfl ?_)
 intro b2
 refine XL.cons (XOp.assign (.bool (false)) rfl ?_)
 refine XL.nil ?_
 refine X.seq ?_
 refine X.seq ?_
 refine X.region ?_
 refine XL.cons (XOp.loadN [arv, rsv] Try.isAgg33 Try.sizeOf33 rfl rfl (Rd.ownN [_] rfl rfl) ?_)
 refine XL.cons (XOp.call (args := [.agg #[arv, rsv]]) Try.call86 rfl (sSystemOk_spec har hrs (hla := (by first | assumption | rfl | omega | (left; simp; done) | (right; simp; done))) (hlr := (by first | assumption | rfl | omega | (left; simp; done) | (right; simp; done))) (hrb := (by first | assumption | rfl | omega | (left; simp; done) | (right; simp; done)))) ?_)
 rintro _ _ _ _ ⟨rfl, rfl, rfl⟩
 refine XL.cons (XOp.notB (b := sysOk ar rs) rfl ?_)
 refine XL.nil ?_
 refine X.cond (t := !(sysOk ar rs)) rfl (fun h1 => ?_) (fun h1 => ?_)
 ·refine X.seq ?_
  refine X.region ?_
  refine XL.cons (XOp.build [(.slice none 0 0), (.slice none 0 0), .int .i64 (0), (.slice none 0 0)] [(.slice none 0 0), (.slice none 0 0), .int .i64 (0), (.slice none 0 0)] [(0, 2), (2, 1), (3, 1)] [] Try.runUnderlying98 Try.zeroValue98 rfl (.cons rfl Try.sizeOf41 (.cons rfl Try.sizeOf2 (.cons rfl Try.sizeOf96 PlacesAre.nil))) rfl CellsAre.nil ?_)
  refine XL.cons (XOp.storeN (vs := [(.slice none 0 0), (.slice none 0 0), .int .i64 (0), (.slice none 0 0)]) [] _ [(.slice none 0 0), (.slice none 0 0), .int .i64 (0), (.slice none 0 0)] Try.sizeOf98 rfl rfl rfl (ones_cons rfl (ones_cons rfl (ones_cons rfl (ones_cons rfl ones_nil)))) rfl rfl rfl ?_)
  refine XL.cons (XOp.assign (.bool (false)) rfl ?_)
  refine XL.nil ?_
  refine X.ret (thenQ_ret (retEnd (L' := L) [.agg #[(.slice none 0 0), (.slice none 0 0), .int .i64 (0), (.slice none 0 0)], .bool (false)] (.tuple #[.agg #[(.slice none 0 0), (.slice none 0 0), .int .i64 (0), (.slice none 0 0)], .bool (false)]) (.cell rfl (loadNV [(.slice none 0 0), (.slice none 0 0), .int .i64 (0), (.slice none 0 0)] Try.isAgg98 Try.sizeOf98 rfl (Rd.ownN [] rfl rfl)) (.tmp rfl .nil)) rfl (FLe.refl _) (FLe.refl _) (Sub.drop (Sub.drop (Sub.refl _))) ?_))
  have e : firstF ar rs n = noLoop := firstF_no (by simp_all)
  exact ⟨_, _, _, by rw [e], by rw [e]; exact IntsF.nilV, by rw [e]; exact SlOf.nilV, by rw [e]; exact SlOf.nilV, rfl⟩
 ·have hsys : sysOk ar rs = true := by simpa using h1
  have hrs12 := (sysOk_iff.1 hsys).2.1
  refine X.skip ?_
  refine X.seq ?_
  refine X.seq ?_
  refine X.region ?_
  refine XL.cons (XOp.assign (.int .i64 (0)) rfl ?_)
  refine XL.nil ?_
  refine X.block ?_
  refine X.loop (α := Nat × FH) (fun xQ => [(1, .int .i64 (n)), (2, ptr b1 0), (4, ptr b2 0), (6, .int .i64 (((xQ.1 : Nat) : Int)))]) (fun xQ => cellsH b2 [(.slice none 0 0), (.slice none 0 0), .int .i64 (0), (.slice none 0 0)] 98 :: cellsH b1 [arv, rsv] 33 :: L) (fun xQ F' => xQ.2 = F' ∧ F ≤ xQ.2 ∧ (xQ.1 ≤ rs.length) ∧ (∀ i, i < xQ.1 → (loopF ar rs (rs.getD i ([], [])).1 n).2.2.2.2 = false)) (fun xQ => rs.length - xQ.1) (0, F) ⟨rfl, rfl, rfl, rfl, trivial⟩ (Sub.cons (Sub.cons (Sub.refl _))) ⟨rfl, FLe.refl _, (by (try dsimp only) <;> omega), (fun i hi => absurd hi (by omega))⟩ ?_
  rintro ⟨k, G1⟩ rE _ _ ⟨rfl, leG, hk, hall⟩
  show X _ _ _ _ (envs [(1, .int .i64 (n)), (2, ptr b1 0), (4, ptr b2 0), (6, .int .i64 (((k : Nat) : Int)))] rE) _ (cellsH b2 [(.slice none 0 0), (.slice none 0 0), .int .i64 (0), (.slice none 0 0)] 98 :: cellsH b1 [arv, rsv] 33 :: L)
  replace leG : F ≤ G1 := leG
  dsimp only at hk hall
  have hrbk := hrb k
  have leG1 := leG
  replace har := har.mono leG1
  replace hrs := hrs.mono leG1
  refine X.seq ?_
  refine X.seq ?_
  refine X.region ?_
  refine XL.cons (XOp.move (.int .i64 (((k : Nat) : Int))) rfl ?_)
  refine XL.cons (XOp.fieldP (b := b1) (1) Try.runUnderlying33 rfl Try.sizeOf31 (by decide) rfl rfl ?_)
  refine XL.cons (XOp.load1 (v := rsv) Try.isAgg31 rfl (Rd.own [_] rfl rfl) ?_)
  refine XL.cons (XOp.lenS (v := rsv) (n := (rs).length) Try.runUnderlying31 rfl hrs.slv ?_)
  refine XL.cons (XOp.lss (a := ((k : Nat) : Int)) (b := (((rs).length : Nat) : Int)) rfl rfl ?_)
  refine XL.nil ?_
  refine X.condD (p := (((k : Nat) : Int) : Int) < (((rs).length : Nat) : Int)) rfl (fun h2 => ?_) (fun h2 => ?_)
  ·refine X.skip ?_
   refine X.seq ?_
   refine X.block ?_
   refine X.seq ?_
   obtain ⟨a1, a2, ha1, ha2, hr1, hr2⟩ := hrs.rd (i := k) (by omega)
   refine X.drawG [cellsH b2 [(.slice none 0 0), (.slice none 0 0), .int .i64 (0), (.slice none 0 0)] 98, cellsH b1 [arv, rsv] 33] L 14 [[], [], [], [], [], [], [], [], [], [8], [8], [], [], [8, 12]] [[], [], [1], [], [2, 3], [4], [5], [], [0, 6, 7], [8], [8, 9], [8, 9], [], [8, 10, 12]] [[], [], [], [], [], [], [], [], [], [], [], [], [], [12]] (phiG [fun FF us v => v = (.agg #[arv, rsv] : Value), fun FF us v => v = ptr b1 1, fun FF us v => v = rsv, fun FF us v => v = (.int .i64 (((k : Nat) : Int)) : Value), fun FF us v => v = (.pointer (some (elemA rsv (k * 2))) : Value), fun FF us v => v = (.pointer (some (elemA rsv (k * 2))) : Value), fun FF us v => v = a1, fun FF us v => v = (.int .i64 (n) : Value), fun FF us v => (.tuple #[.agg #[((aggAt (tupAt v 0) 0)), ((aggAt (tupAt v 0) 1)), .int .i64 ((loopF ar rs ((rs.getD k ([], [])).1) n).2.2.1), ((aggAt (tupAt v 0) 3))], .bool ((loopF ar rs ((rs.getD k ([], [])).1) n).2.2.2.2)] : Value) = v ∧ (IntsF FF ((aggAt (tupAt v 0) 0)) (loopF ar rs ((rs.getD k ([], [])).1) n).1) ∧ (StepsF FF ((aggAt (tupAt v 0) 1)) (loopF ar rs ((rs.getD k ([], [])).1) n).2.1) ∧ (RowsF FF ((aggAt (tupAt v 0) 3)) (loopF ar rs ((rs.getD k ([], [])).1) n).2.2.2.1), fun FF us v => v = (.tuple #[.agg #[((aggAt (tupAt (us.getD 0 undef) 0) 0)), ((aggAt (tupAt (us.getD 0 undef) 0) 1)), .int .i64 ((loopF ar rs ((rs.getD k ([], [])).1) n).2.2.1), ((aggAt (tupAt (us.getD 0 undef) 0) 3))], .bool ((loopF ar rs ((rs.getD k ([], [])).1) n).2.2.2.2)] : Value), fun FF us v => v = (.agg #[((aggAt (tupAt (us.getD 0 undef) 0) 0)), ((aggAt (tupAt (us.getD 0 undef) 0) 1)), .int .i64 ((loopF ar rs ((rs.getD k ([], [])).1) n).2.2.1), ((aggAt (tupAt (us.getD 0 undef) 0) 3))] : Value), fun FF us v => v = (.bool ((loopF ar rs ((rs.getD k ([], [])).1) n).2.2.2.2) : Value), fun FF us v => v = ptr (blk v) 0, fun FF us v => True]) (ownL [fun us v => [], fun us v => [], fun us v => [], fun us v => [], fun us v => [], fun us v => [], fun us v => [], fun us v => [], fun us v => [], fun us v => [], fun us v => [], fun us v => [], fun us v => [cellsH (blk v) [(.slice none 0 0), (.slice none 0 0), .int .i64 (0), (.slice none 0 0)] 98], fun us v => [cellsH (blk (us.getD 1 undef)) [((aggAt (tupAt (us.getD 0 undef) 0) 0)), ((aggAt (tupAt (us.getD 0 undef) 0) 1)), .int .i64 ((loopF ar rs ((rs.getD k ([], [])).1) n).2.2.1), ((aggAt (tupAt (us.getD 0 undef) 0) 3))] 98]]) mixed rfl rfl (by kernel_rfl) (by kernel_rfl) (MonoG.get (MonoG.cons (fun le h => h) (MonoG.cons (fun le h => h) (MonoG.cons (fun le h => h) (MonoG.cons (fun le h => h) (MonoG.cons (fun le h => h) (MonoG.cons (fun le h => h) (MonoG.cons (fun le h => h) (MonoG.cons (fun le h => h) (MonoG.cons (fun le h => ⟨h.1, h.2.1.mono le, h.2.2.1.mono le, h.2.2.2.mono le⟩) (MonoG.cons (fun le h => h) (MonoG.cons (fun le h => h) (MonoG.cons (fun le h => h) (MonoG.cons (fun le h => h) (MonoG.cons (fun le h => h) MonoG.nil))))))))))))))) ?_ ?_
   ·refine stepsG.cons (fun vals Fs R leFs hpZ => ?_) ?_
    ·replace har := har.mono leFs
     replace hrs := hrs.mono leFs
     replace ha1 := ha1.mono leFs
     replace ha2 := ha2.mono leFs
     replace hr1 := Rd.monoA hr1 leFs
     replace hr2 := Rd.monoA hr2 leFs
     refine XG.op (XOp.loadN [arv, rsv] Try.isAgg33 Try.sizeOf33 rfl rfl (Rd.ownN [_] rfl rfl) ?_)
     exact ⟨rfl, rfl⟩
    refine stepsG.cons (fun vals Fs R leFs hpZ => ?_) ?_
    ·refine XG.op (XOp.fieldP (b := b1) (1) Try.runUnderlying33 rfl Try.sizeOf31 (by decide) rfl rfl ?_)
     exact ⟨rfl, rfl⟩
    refine stepsG.cons (fun vals Fs R leFs hpZ => ?_) ?_
    ·have e1 : vals 1 = ptr b1 1 := hpZ 1 (by decide)
     replace har := har.mono leFs
     replace hrs := hrs.mono leFs
     replace ha1 := ha1.mono leFs
     replace ha2 := ha2.mono leFs
     replace hr1 := Rd.monoA hr1 leFs
     replace hr2 := Rd.monoA hr2 leFs
     rw [(envs_of_sat (l := [(1, ptr b1 1)]) ⟨e1, trivial⟩).symm]
     refine XG.op (XOp.load1 (v := rsv) Try.isAgg31 rfl (Rd.own [_] rfl rfl) ?_)
     exact ⟨rfl, rfl⟩
    refine stepsG.cons (fun vals Fs R leFs hpZ => ?_) ?_
    ·refine XG.op (XOp.move (.int .i64 (((k : Nat) : Int))) rfl ?_)
     exact ⟨rfl, rfl⟩
    refine stepsG.cons (fun vals Fs R leFs hpZ => ?_) ?_
    ·have e2 : vals 2 = rsv := hpZ 2 (by decide)
     have e3 : vals 3 = (.int .i64 (((k : Nat) : Int)) : Value) := hpZ 3 (by decide)
     replace har := har.mono leFs
     replace hrs := hrs.mono leFs
     replace ha1 := ha1.mono leFs
     replace ha2 := ha2.mono leFs
     replace hr1 := Rd.monoA hr1 leFs
     replace hr2 := Rd.monoA hr2 leFs
     rw [(envs_of_sat (l := [(2, rsv), (3, (.int .i64 (((k : Nat) : Int)) : Value))]) ⟨e2, e3, trivial⟩).symm]
     refine XG.op (XOp.indexS (v := rsv) (i := ((k : Nat) : Int)) (n := (rs).length) k Try.runUnderlying31 Try.sizeOf105 rfl rfl rfl hrs.slv (by omega) rfl ?_)
     exact ⟨rfl, rfl⟩
    refine stepsG.cons (fun vals Fs R leFs hpZ => ?_) ?_
    ·have e4 : vals 4 = (.pointer (some (elemA rsv (k * 2))) : Value) := hpZ 4 (by decide)
     rw [(envs_of_sat (l := [(4, (.pointer (some (elemA rsv (k * 2))) : Value))]) ⟨e4, trivial⟩).symm]
     refine XG.op (XOp.fieldE (v := rsv) (k * 2) Try.runUnderlying105 rfl Try.sizeOf22 (by decide) rfl rfl ?_)
     exact ⟨rfl, rfl⟩
    refine stepsG.cons (fun vals Fs R leFs hpZ => ?_) ?_
    ·have e5 : vals 5 = (.pointer (some (elemA rsv (k * 2))) : Value) := hpZ 5 (by decide)
     replace har := har.mono leFs
     replace hrs := hrs.mono leFs
     replace ha1 := ha1.mono leFs
     replace ha2 := ha2.mono leFs
     replace hr1 := Rd.monoA hr1 leFs
     replace hr2 := Rd.monoA hr2 leFs
     rw [(envs_of_sat (l := [(5, (.pointer (some (elemA rsv (k * 2))) : Value))]) ⟨e5, trivial⟩).symm]
     refine XG.op (XOp.load1 (v := a1) Try.isAgg22 rfl (hr1 _) ?_)
     exact ⟨rfl, rfl⟩
    refine stepsG.cons (fun vals Fs R leFs hpZ => ?_) ?_
    ·refine XG.op (XOp.move (.int .i64 (n)) rfl ?_)
     exact ⟨rfl, rfl⟩
    refine stepsG.cons (fun vals Fs R leFs hpZ => ?_) ?_
    ·have e0 : vals 0 = (.agg #[arv, rsv] : Value) := hpZ 0 (by decide)
     have e6 : vals 6 = a1 := hpZ 6 (by decide)
     have e7 : vals 7 = (.int .i64 (n) : Value) := hpZ 7 (by decide)
     replace har := har.mono leFs
     replace hrs := hrs.mono leFs
     replace ha1 := ha1.mono leFs
     replace ha2 := ha2.mono leFs
     replace hr1 := Rd.monoA hr1 leFs
     replace hr2 := Rd.monoA hr2 leFs
     rw [(envs_of_sat (l := [(0, (.agg #[arv, rsv] : Value)), (6, a1), (7, (.int .i64 (n) : Value))]) ⟨e0, e6, e7, trivial⟩).symm]
     refine XG.op (XOp.call (args := [.agg #[arv, rsv], a1, .int .i64 (n)]) Try.call103 rfl (sLoopFrom_spec (n := n) har hrs ha1 (hla := (by first | assumption | rfl | omega | (left; simp; done) | (right; simp; done))) (hlr := (by first | assumption | rfl | omega | (left; simp; done) | (right; simp; done))) (hrb := (by first | assumption | rfl | omega | (left; simp; done) | (right; simp; done))) (hlt := ((hrbk (by omega)).1))) ?_)
     rintro _ F2 _ le2 ⟨x4, x5, x6, rfl, hr6, hr7, hr8, rfl⟩
     replace har := har.mono le2
     replace hrs := hrs.mono le2
     replace ha1 := ha1.mono le2
     replace ha2 := ha2.mono le2
     replace hr1 := Rd.monoA hr1 le2
     replace hr2 := Rd.monoA hr2 le2
     exact ⟨⟨rfl, hr6, hr7, hr8⟩, rfl⟩
    refine stepsG.cons (fun vals Fs R leFs hpZ => ?_) ?_
    ·obtain ⟨e8, f8_1hr1, f8_1hr2, f8_1hr3⟩ := hpZ 8 (by decide)
     rw [(envs_of_sat (l := [(8, (.tuple #[.agg #[((aggAt (tupAt (vals 8) 0) 0)), ((aggAt (tupAt (vals 8) 0) 1)), .int .i64 ((loopF ar rs ((rs.getD k ([], [])).1) n).2.2.1), ((aggAt (tupAt (vals 8) 0) 3))], .bool ((loopF ar rs ((rs.getD k ([], [])).1) n).2.2.2.2)] : Value))]) ⟨(e8).symm, trivial⟩).symm]
     refine XG.op (XOp.move (.tuple #[.agg #[((aggAt (tupAt (vals 8) 0) 0)), ((aggAt (tupAt (vals 8) 0) 1)), .int .i64 ((loopF ar rs ((rs.getD k ([], [])).1) n).2.2.1), ((aggAt (tupAt (vals 8) 0) 3))], .bool ((loopF ar rs ((rs.getD k ([], [])).1) n).2.2.2.2)]) rfl ?_)
     exact ⟨rfl, rfl⟩
    refine stepsG.cons (fun vals Fs R leFs hpZ => ?_) ?_
    ·obtain ⟨e8, f8_1hr1, f8_1hr2, f8_1hr3⟩ := hpZ 8 (by decide)
     have e9 : vals 9 = (.tuple #[.agg #[((aggAt (tupAt (vals 8) 0) 0)), ((aggAt (tupAt (vals 8) 0) 1)), .int .i64 ((loopF ar rs ((rs.getD k ([], [])).1) n).2.2.1), ((aggAt (tupAt (vals 8) 0) 3))], .bool ((loopF ar rs ((rs.getD k ([], [])).1) n).2.2.2.2)] : Value) := hpZ 9 (by decide)
     rw [(envs_of_sat (l := [(8, (.tuple #[.agg #[((aggAt (tupAt (vals 8) 0) 0)), ((aggAt (tupAt (vals 8) 0) 1)), .int .i64 ((loopF ar rs ((rs.getD k ([], [])).1) n).2.2.1), ((aggAt (tupAt (vals 8) 0) 3))], .bool ((loopF ar rs ((rs.getD k ([], [])).1) n).2.2.2.2)] : Value)), (9, (.tuple #[.agg #[((aggAt (tupAt (vals 8) 0) 0)), ((aggAt (tupAt (vals 8) 0) 1)), .int .i64 ((loopF ar rs ((rs.getD k ([], [])).1) n).2.2.1), ((aggAt (tupAt (vals 8) 0) 3))], .bool ((loopF ar rs ((rs.getD k ([], [])).1) n).2.2.2.2)] : Value))]) ⟨(e8).symm, e9, trivial⟩).symm]
     refine XG.op (XOp.extract (.agg #[((aggAt (tupAt (vals 8) 0) 0)), ((aggAt (tupAt (vals 8) 0) 1)), .int .i64 ((loopF ar rs ((rs.getD k ([], [])).1) n).2.2.1), ((aggAt (tupAt (vals 8) 0) 3))]) rfl rfl ?_)
     exact ⟨rfl, rfl⟩
    refine stepsG.cons (fun vals Fs R leFs hpZ => ?_) ?_
    ·obtain ⟨e8, f8_1hr1, f8_1hr2, f8_1hr3⟩ := hpZ 8 (by decide)
     have e9 : vals 9 = (.tuple #[.agg #[((aggAt (tupAt (vals 8) 0) 0)), ((aggAt (tupAt (vals 8) 0) 1)), .int .i64 ((loopF ar rs ((rs.getD k ([], [])).1) n).2.2.1), ((aggAt (tupAt (vals 8) 0) 3))], .bool ((loopF ar rs ((rs.getD k ([], [])).1) n).2.2.2.2)] : Value) := hpZ 9 (by decide)
     rw [(envs_of_sat (l := [(8, (.tuple #[.agg #[((aggAt (tupAt (vals 8) 0) 0)), ((aggAt (tupAt (vals 8) 0) 1)), .int .i64 ((loopF ar rs ((rs.getD k ([], [])).1) n).2.2.1), ((aggAt (tupAt (vals 8) 0) 3))], .bool ((loopF ar rs ((rs.getD k ([], [])).1) n).2.2.2.2)] : Value)), (9, (.tuple #[.agg #[((aggAt (tupAt (vals 8) 0) 0)), ((aggAt (tupAt (vals 8) 0) 1)), .int .i64 ((loopF ar rs ((rs.getD k ([], [])).1) n).2.2.1), ((aggAt (tupAt (vals 8) 0) 3))], .bool ((loopF ar rs ((rs.getD k ([], [])).1) n).2.2.2.2)] : Value))]) ⟨(e8).symm, e9, trivial⟩).symm]
     refine XG.op (XOp.extract (.bool ((loopF ar rs ((rs.getD k ([], [])).1) n).2.2.2.2)) rfl rfl ?_)
     exact ⟨rfl, rfl⟩
    refine stepsG.cons (fun vals Fs R leFs hpZ => ?_) ?_
    ·replace har := har.mono leFs
     replace hrs := hrs.mono leFs
     replace ha1 := ha1.mono leFs
     replace ha2 := ha2.mono leFs
     replace hr1 := Rd.monoA hr1 leFs
     replace hr2 := Rd.monoA hr2 leFs
     refine XG.op (XOp.alloc [(.slice none 0 0), (.slice none 0 0), .int .i64 (0), (.slice none 0 0)] Try.zeroValue98 rfl ?_)
     intro b4
     exact ⟨rfl, rfl⟩
    refine stepsG.cons (fun vals Fs R leFs hpZ => ?_) ?_
    ·obtain ⟨e8, f8_1hr1, f8_1hr2, f8_1hr3⟩ := hpZ 8 (by decide)
     have e10 : vals 10 = (.agg #[((aggAt (tupAt (vals 8) 0) 0)), ((aggAt (tupAt (vals 8) 0) 1)), .int .i64 ((loopF ar rs ((rs.getD k ([], [])).1) n).2.2.1), ((aggAt (tupAt (vals 8) 0) 3))] : Value) := hpZ 10 (by decide)
     have e12 : vals 12 = ptr (blk (vals 12)) 0 := hpZ 12 (by decide)
     replace har := har.mono leFs
     replace hrs := hrs.mono leFs
     replace ha1 := ha1.mono leFs
     replace ha2 := ha2.mono leFs
     replace hr1 := Rd.monoA hr1 leFs
     replace hr2 := Rd.monoA hr2 leFs
     rw [(envs_of_sat (l := [(8, (.tuple #[.agg #[((aggAt (tupAt (vals 8) 0) 0)), ((aggAt (tupAt (vals 8) 0) 1)), .int .i64 ((loopF ar rs ((rs.getD k ([], [])).1) n).2.2.1), ((aggAt (tupAt (vals 8) 0) 3))], .bool ((loopF ar rs ((rs.getD k ([], [])).1) n).2.2.2.2)] : Value)), (10, (.agg #[((aggAt (tupAt (vals 8) 0) 0)), ((aggAt (tupAt (vals 8) 0) 1)), .int .i64 ((loopF ar rs ((rs.getD k ([], [])).1) n).2.2.1), ((aggAt (tupAt (vals 8) 0) 3))] : Value)), (12, ptr (blk (vals 12)) 0)]) ⟨(e8).symm, e10, e12, trivial⟩).symm]
     show XG _ _ _ _ _ (cellsH (blk (vals 12)) [(.slice none 0 0), (.slice none 0 0), .int .i64 (0), (.slice none 0 0)] 98 :: ([cellsH b2 [(.slice none 0 0), (.slice none 0 0), .int .i64 (0), (.slice none 0 0)] 98, cellsH b1 [arv, rsv] 33] ++ R)) _
     refine XG.op (XOp.storeN (vs := [((aggAt (tupAt (vals 8) 0) 0)), ((aggAt (tupAt (vals 8) 0) 1)), .int .i64 ((loopF ar rs ((rs.getD k ([], [])).1) n).2.2.1), ((aggAt (tupAt (vals 8) 0) 3))]) [] _ [((aggAt (tupAt (vals 8) 0) 0)), ((aggAt (tupAt (vals 8) 0) 1)), .int .i64 ((loopF ar rs ((rs.getD k ([], [])).1) n).2.2.1), ((aggAt (tupAt (vals 8) 0) 3))] Try.sizeOf98 rfl rfl rfl (ones_cons (one_sl (IntsF.isSl f8_1hr1)) (ones_cons (one_sl (StepsF.isSl f8_1hr2)) (ones_cons rfl (ones_cons (one_sl (RowsF.isSl f8_1hr3)) ones_nil)))) rfl rfl rfl ?_)
     exact ⟨trivial, rfl⟩
    exact stepsG.nil
   ·intro vals F3 le3 hphi
    have e0 : vals 0 = (.agg #[arv, rsv] : Value) := hphi 0 (by decide)
    have e1 : vals 1 = ptr b1 1 := hphi 1 (by decide)
    have e2 : vals 2 = rsv := hphi 2 (by decide)
    have e3 : vals 3 = (.int .i64 (((k : Nat) : Int)) : Value) := hphi 3 (by decide)
    have e4 : vals 4 = (.pointer (some (elemA rsv (k * 2))) : Value) := hphi 4 (by decide)
    have e5 : vals 5 = (.pointer (some (elemA rsv (k * 2))) : Value) := hphi 5 (by decide)
    have e6 : vals 6 = a1 := hphi 6 (by decide)
    have e7 : vals 7 = (.int .i64 (n) : Value) := hphi 7 (by decide)
    obtain ⟨e8, f8_1hr1, f8_1hr2, f8_1hr3⟩ := hphi 8 (by decide)
    have e9 : vals 9 = (.tuple #[.agg #[((aggAt (tupAt (vals 8) 0) 0)), ((aggAt (tupAt (vals 8) 0) 1)), .int .i64 ((loopF ar rs ((rs.getD k ([], [])).1) n).2.2.1), ((aggAt (tupAt (vals 8) 0) 3))], .bool ((loopF ar rs ((rs.getD k ([], [])).1) n).2.2.2.2)] : Value) := hphi 9 (by decide)
    have e10 : vals 10 = (.agg #[((aggAt (tupAt (vals 8) 0) 0)), ((aggAt (tupAt (vals 8) 0) 1)), .int .i64 ((loopF ar rs ((rs.getD k ([], [])).1) n).2.2.1), ((aggAt (tupAt (vals 8) 0) 3))] : Value) := hphi 10 (by decide)
    have e11 : vals 11 = (.bool ((loopF ar rs ((rs.getD k ([], [])).1) n).2.2.2.2) : Value) := hphi 11 (by decide)
    have e12 : vals 12 = ptr (blk (vals 12)) 0 := hphi 12 (by decide)
    generalize hu1 : ((aggAt (tupAt (vals 8) 0) 0)) = u1 at e0 e1 e2 e3 e4 e5 e6 e7 e8 f8_1hr1 f8_1hr2 f8_1hr3 e9 e10 e11 e12
    generalize hu2 : ((aggAt (tupAt (vals 8) 0) 1)) = u2 at e0 e1 e2 e3 e4 e5 e6 e7 e8 f8_1hr1 f8_1hr2 f8_1hr3 e9 e10 e11 e12
    generalize hu3 : ((aggAt (tupAt (vals 8) 0) 3)) = u3 at e0 e1 e2 e3 e4 e5 e6 e7 e8 f8_1hr1 f8_1hr2 f8_1hr3 e9 e10 e11 e12
    generalize hu4 : blk (vals 12) = b5 at e0 e1 e2 e3 e4 e5 e6 e7 e8 f8_1hr1 f8_1hr2 f8_1hr3 e9 e10 e11 e12
    rw [(envs_of_sat (l := [(0, (.agg #[arv, rsv] : Value)), (1, ptr b1 1), (2, rsv), (3, (.int .i64 (((k : Nat) : Int)) : Value)), (4, (.pointer (some (elemA rsv (k * 2))) : Value)), (5, (.pointer (some (elemA rsv (k * 2))) : Value)), (6, a1), (7, (.int .i64 (n) : Value)), (8, (.tuple #[.agg #[u1, u2, .int .i64 ((loopF ar rs ((rs.getD k ([], [])).1) n).2.2.1), u3], .bool ((loopF ar rs ((rs.getD k ([], [])).1) n).2.2.2.2)] : Value)), (9, (.tuple #[.agg #[u1, u2, .int .i64 ((loopF ar rs ((rs.getD k ([], [])).1) n).2.2.1), u3], .bool ((loopF ar rs ((rs.getD k ([], [])).1) n).2.2.2.2)] : Value)), (10, (.agg #[u1, u2, .int .i64 ((loopF ar rs ((rs.getD k ([], [])).1) n).2.2.1), u3] : Value)), (11, (.bool ((loopF ar rs ((rs.getD k ([], [])).1) n).2.2.2.2) : Value)), (12, ptr b5 0)]) ⟨e0, e1, e2, e3, e4, e5, e6, e7, (e8).symm, e9, e10, e11, e12, trivial⟩).symm]
    replace har := har.mono le3
    replace hrs := hrs.mono le3
    replace ha1 := ha1.mono le3
    replace ha2 := ha2.mono le3
    replace hr1 := Rd.monoA hr1 le3
    replace hr2 := Rd.monoA hr2 le3
    show XL _ _ _ _ _ _ _ (cellsH b5 [u1, u2, .int .i64 ((loopF ar rs ((rs.getD k ([], [])).1) n).2.2.1), u3] 98 :: cellsH b2 [(.slice none 0 0), (.slice none 0 0), .int .i64 (0), (.slice none 0 0)] 98 :: cellsH b1 [arv, rsv] 33 :: L)
    refine XL.cons (XOp.assign (.bool ((loopF ar rs ((rs.getD k ([], [])).1) n).2.2.2.2)) rfl ?_)
    refine XL.nil ?_
    refine X.seq ?_
    refine X.region ?_
    refine XL.cons (XOp.move (.bool ((loopF ar rs ((rs.getD k ([], [])).1) n).2.2.2.2)) rfl ?_)
    refine XL.nil ?_
    refine X.cond (t := (loopF ar rs ((rs.getD k ([], [])).1) n).2.2.2.2) rfl (fun h3 => ?_) (fun h3 => ?_)
    ·have hb9 : (loopF ar rs (rs.getD k ([], [])).1 n).2.2.2.2 = true := h3
     refine X.seq ?_
     refine X.region ?_
     refine XL.cons (XOp.loadN [u1, u2, .int .i64 ((loopF ar rs ((rs.getD k ([], [])).1) n).2.2.1), u3] Try.isAgg98 Try.sizeOf98 rfl rfl (Rd.ownN [] rfl rfl) ?_)
     refine XL.cons (XOp.storeN (vs := [u1, u2, .int .i64 ((loopF ar rs ((rs.getD k ([], [])).1) n).2.2.1), u3]) [_] _ [u1, u2, .int .i64 ((loopF ar rs ((rs.getD k ([], [])).1) n).2.2.1), u3] Try.sizeOf98 rfl rfl rfl (ones_cons (one_sl (IntsF.isSl f8_1hr1)) (ones_cons (one_sl (StepsF.isSl f8_1hr2)) (ones_cons rfl (ones_cons (one_sl (RowsF.isSl f8_1hr3)) ones_nil)))) rfl rfl rfl ?_)
     refine XL.cons (XOp.assign (.bool (true)) rfl ?_)
     refine XL.nil ?_
     refine X.ret (blockQ_ret (thenQ_ret (thenQ_ret (blockQ_ret (thenQ_ret (retEnd (L' := L) [.agg #[u1, u2, .int .i64 ((loopF ar rs ((rs.getD k ([], [])).1) n).2.2.1), u3], .bool (true)] (.tuple #[.agg #[u1, u2, .int .i64 ((loopF ar rs ((rs.getD k ([], [])).1) n).2.2.1), u3], .bool (true)]) (.cell rfl (loadNV [u1, u2, .int .i64 ((loopF ar rs ((rs.getD k ([], [])).1) n).2.2.1), u3] Try.isAgg98 Try.sizeOf98 rfl (Rd.ownN [_] rfl rfl)) (.tmp rfl .nil)) rfl (FLe.trans leG1 le3) (FLe.refl _) (Sub.drop (Sub.drop (Sub.drop (Sub.refl _)))) ?_))))))
     have hn20 : 1 ≤ n ∧ n ≤ 20 := Classical.byContradiction fun hc => by rw [loopF_no (fun h => hc h.2)] at hb9; cases hb9
     have e := firstF_at ⟨hsys, hn20⟩ (k := k) (by omega) hb9 hall
     exact ⟨_, _, _, by rw [e, hb9], by rw [e]; exact f8_1hr1, by rw [e]; exact f8_1hr2, by rw [e]; exact f8_1hr3, rfl⟩
    ·have hb9 : (loopF ar rs (rs.getD k ([], [])).1 n).2.2.2.2 = false := h3
     refine X.skip ?_
     refine X.region ?_
     refine XL.cons (XOp.move (.int .i64 (((k : Nat) : Int))) rfl ?_)
     refine XL.cons (XOp.addR (a := ((k : Nat) : Int)) (b := 1) (((k + 1 : Nat) : Int)) rfl rfl (by omega) (by omega) ?_)
     refine XL.cons (XOp.assign (.int .i64 (((k + 1 : Nat) : Int))) rfl ?_)
     refine XL.nil ?_
     exact ⟨(k + 1, F3), _, (FLe.trans leG1 le3), (FLe.refl _), ⟨rfl, rfl, rfl, rfl, trivial⟩, (Sub.drop (Sub.cons (Sub.cons (Sub.refl _)))), ⟨rfl, (FLe.trans leG1 le3), (by (try dsimp only) <;> omega), (fun i hi => (Nat.lt_or_ge i k).elim (fun h => hall i h) (fun h => by obtain rfl : i = k := (by omega); exact hb9))⟩, (by omega)⟩
  ·refine X.exit (thenQ_exit (thenQ_exit (blockQ_exit ?_)))
   refine X.seq ?_
   refine X.region ?_
   refine XL.cons (XOp.build [(.slice none 0 0), (.slice none 0 0), .int .i64 (0), (.slice none 0 0)] [(.slice none 0 0), (.slice none 0 0), .int .i64 (0), (.slice none 0 0)] [(0, 2), (2, 1), (3, 1)] [] Try.runUnderlying98 Try.zeroValue98 rfl (.cons rfl Try.sizeOf41 (.cons rfl Try.sizeOf2 (.cons rfl Try.sizeOf96 PlacesAre.nil))) rfl CellsAre.nil ?_)
   refine XL.cons (XOp.storeN (vs := [(.slice none 0 0), (.slice none 0 0), .int .i64 (0), (.slice none 0 0)]) [] _ [(.slice none 0 0), (.slice none 0 0), .int .i64 (0), (.slice none 0 0)] Try.sizeOf98 rfl rfl rfl (ones_cons rfl (ones_cons rfl (ones_cons rfl (ones_cons rfl ones_nil)))) rfl rfl rfl ?_)
   refine XL.cons (XOp.assign (.bool (false)) rfl ?_)
   refine XL.nil ?_
   refine X.ret (retEnd (L' := L) [.agg #[(.slice none 0 0), (.slice none 0 0), .int .i64 (0), (.slice none 0 0)], .bool (false)] (.tuple #[.agg #[(.slice none 0 0), (.slice none 0 0), .int .i64 (0), (.slice none 0 0)], .bool (false)]) (.cell rfl (loadNV [(.slice none 0 0), (.slice none 0 0), .int .i64 (0), (.slice none 0 0)] Try.isAgg98 Try.sizeOf98 rfl (Rd.ownN [] rfl rfl)) (.tmp rfl .nil)) rfl leG1 (FLe.refl _) (Sub.drop (Sub.drop (Sub.refl _))) ?_)
   have e : firstF ar rs n = noLoop := firstF_none (fun i hi => hall i (by omega))
   exact ⟨_, _, _, by rw [e], by rw [e]; exact IntsF.nilV, by rw [e]; exact SlOf.nilV, by rw [e]; exact SlOf.nilV, rfl⟩

/- spec.LoopWithin -/
set_option maxRecDepth 20000 in
theorem sLoopWithin_spec {F : FH} {L : List HP} {arv : Value} {ar : List Int} (har : IntsF F arv ar) {rsv : Value} {rs : List (List Int × List Int)} (hrs : PairsF F rsv rs) {n : Int} (hla : ar.length ≤ 4000000) (hlr : rs.length ≤ 4000000) (hrb : ∀ i, i < rs.length → (rs.getD i ([], [])).1.length ≤ 4000000 ∧ (rs.getD i ([], [])).2.length ≤ 4000000) :
    Does Try.prog 35 [.agg #[arv, rsv], .int .i64 (n)] F (L) (fun v F' L' => (.int .i64 (withinF ar rs n) : Value) = v ∧ L = L') := by
 refine Does.of_X Try.func35 rfl rfl rfl ?_
 refine X.seq ?_
 refine X.region ?_
 refine XL.cons (XOp.box [arv, rsv] rfl rfl ?_)
 intro b1
 refine XL.cons (XOp.assign (.int .i64 (0)) rfl ?_)
 refine XL.nil ?_
 refine X.seq ?_
 refine X.seq ?_
 refine X.region ?_
 refine XL.cons (XOp.move (.int .i64 (n)) rfl ?_)
 refine XL.cons (XOp.call (args := [.int .i64 (n)]) Try.call72 rfl (l19Steps_spec (n := n)) ?_)
 rintro _ _ _ _ ⟨rfl, rfl, rfl⟩
 refine XL.cons (XOp.notD (p := 1 ≤ n ∧ n ≤ 20) rfl ?_)
 refine XL.nil ?_
 refine X.condD (p := ¬(1 ≤ n ∧ n ≤ 20)) rfl (fun h1 => ?_) (fun h1 => ?_)
 ·refine X.seq ?_
  refine X.region ?_
  refine XL.cons (XOp.assign (.int .i64 (0)) rfl ?_)
  refine XL.nil ?_
  refine X.ret (thenQ_ret (retEnd (L' := L) [.int .i64 (0)] (.int .i64 (0)) (.tmp rfl .nil) rfl (FLe.refl _) (FLe.refl _) (Sub.drop (Sub.refl _)) ?_))
  exact ⟨congrArg (Value.int .i64) (withinF_no (by simp_all)), rfl⟩
 ·have hn20 : 1 ≤ n ∧ n ≤ 20 := by first | exact Classical.not_not.1 h1 | simpa using h1
  refine X.skip ?_
  refine X.seq ?_
  refine X.seq ?_
  refine X.region ?_
  refine XL.cons (XOp.assign (.int .i64 (1)) rfl ?_)
  refine XL.nil ?_
  refine X.block ?_
  refine X.loop (α := Nat × FH) (fun xQ => [(1, .int .i64 (n)), (2, ptr b1 0), (5, .int .i64 (((xQ.1 : Nat) : Int) + 1))]) (fun xQ => cellsH b1 [arv, rsv] 33 :: L) (fun xQ F' => xQ.2 = F' ∧ F ≤ xQ.2 ∧ (xQ.1 ≤ n.toNat) ∧ (∀ i : Nat, i < xQ.1 → (firstF ar rs ((i : Int) + 1)).2.2.2.2 = false)) (fun xQ => n.toNat - xQ.1) (0, F) ⟨rfl, rfl, (congrArg (Value.int .i64) (by (try dsimp only); omega)), trivial⟩ (Sub.cons (Sub.refl _)) ⟨rfl, FLe.refl _, (by (try dsimp only) <;> omega), (fun i hi => absurd hi (by omega))⟩ ?_
  rintro ⟨k, G1⟩ rE _ _ ⟨rfl, leG, hk, hall⟩
  show X _ _ _ _ (envs [(1, .int .i64 (n)), (2, ptr b1 0), (5, .int .i64 (((k : Nat) : Int) + 1))] rE) _ (cellsH b1 [arv, rsv] 33 :: L)
  replace leG : F ≤ G1 := leG
  dsimp only at hk hall
  have leG1 := leG
  replace har := har.mono leG1
  replace hrs := hrs.mono leG1
  refine X.seq ?_
  refine X.seq ?_
  refine X.region ?_
  refine XL.cons (XOp.move (.int .i64 (((k : Nat) : Int) + 1)) rfl ?_)
  refine XL.cons (XOp.move (.int .i64 (n)) rfl ?_)
  refine XL.cons (XOp.leq (a := ((k : Nat) : Int) + 1) (b := n) rfl rfl ?_)
  refine XL.nil ?_
  refine X.condD (p := (((k : Nat) : Int) + 1 : Int) ≤ n) rfl (fun h2 => ?_) (fun h2 => ?_)
  ·refine X.skip ?_
   refine X.seq ?_
   refine X.block ?_
   refine X.seq ?_
   refine X.region ?_
   refine XL.cons (XOp.loadN [arv, rsv] Try.isAgg33 Try.sizeOf33 rfl rfl (Rd.ownN [] rfl rfl) ?_)
   refine XL.cons (XOp.move (.int .i64 (((k : Nat) : Int) + 1)) rfl ?_)
   refine XL.cons (XOp.call (args := [.agg #[arv, rsv], .int .i64 (((k : Nat) : Int) + 1)]) Try.call73 rfl (sFirstLoop_spec (n := ((k : Nat) : Int) + 1) har hrs (hla := (by first | assumption | rfl | omega | (left; simp; done) | (right; simp; done))) (hlr := (by first | assumption | rfl | omega | (left; simp; done) | (right; simp; done))) (hrb := (by first | assumption | rfl | omega | (left; simp; done) | (right; simp; done)))) ?_)
   rintro _ F1 _ le1 ⟨x1, x2, x3, rfl, hr1, hr2, hr3, rfl⟩
   replace har := har.mono le1
   replace hrs := hrs.mono le1
   refine XL.cons (XOp.move (.tuple #[.agg #[x1, x2, .int .i64 ((firstF ar rs (((k : Nat) : Int) + 1)).2.2.1), x3], .bool ((firstF ar rs (((k : Nat) : Int) + 1)).2.2.2.2)]) rfl ?_)
   refine XL.cons (XOp.extract (.agg #[x1, x2, .int .i64 ((firstF ar rs (((k : Nat) : Int) + 1)).2.2.1), x3]) rfl rfl ?_)
   refine XL.cons (XOp.extract (.bool ((firstF ar rs (((k : Nat) : Int) + 1)).2.2.2.2)) rfl rfl ?_)
   refine XL.cons (XOp.alloc [(.slice none 0 0), (.slice none 0 0), .int .i64 (0), (.slice none 0 0)] Try.zeroValue98 rfl ?_)
   intro b2
   refine XL.cons (XOp.storeN (vs := [x1, x2, .int .i64 ((firstF ar rs (((k : Nat) : Int) + 1)).2.2.1), x3]) [] _ [x1, x2, .int .i64 ((firstF ar rs (((k : Nat) : Int) + 1)).2.2.1), x3] Try.sizeOf98 rfl rfl rfl (ones_cons (one_sl (IntsF.isSl hr1)) (ones_cons (one_sl (StepsF.isSl hr2)) (ones_cons rfl (ones_cons (one_sl (RowsF.isSl hr3)) ones_nil)))) rfl rfl rfl ?_)
   refine XL.cons (XOp.assign (.bool ((firstF ar rs (((k : Nat) : Int) + 1)).2.2.2.2)) rfl ?_)
   refine XL.nil ?_
   refine X.seq ?_
   refine X.region ?_
   refine XL.cons (XOp.move (.bool ((firstF ar rs (((k : Nat) : Int) + 1)).2.2.2.2)) rfl ?_)
   refine XL.nil ?_
   refine X.cond (t := (firstF ar rs (((k : Nat) : Int) + 1)).2.2.2.2) rfl (fun h3 => ?_) (fun h3 => ?_)
   ·have hb9 : (firstF ar rs (((k : Nat) : Int) + 1)).2.2.2.2 = true := h3
    refine X.seq ?_
    refine X.region ?_
    refine XL.cons (XOp.move (.int .i64 (((k : Nat) : Int) + 1)) rfl ?_)
    refine XL.cons (XOp.assign (.int .i64 (((k : Nat) : Int) + 1)) rfl ?_)
    refine XL.nil ?_
    refine X.ret (blockQ_ret (thenQ_ret (thenQ_ret (blockQ_ret (thenQ_ret (retEnd (L' := L) [.int .i64 (((k : Nat) : Int) + 1)] (.int .i64 (((k : Nat) : Int) + 1)) (.tmp rfl .nil) rfl (FLe.trans leG1 le1) (FLe.refl _) (Sub.drop (Sub.drop (Sub.refl _))) ?_))))))
    exact ⟨congrArg (Value.int .i64) (withinF_at hn20 (k := k) (by omega) hb9 hall), rfl⟩
   ·have hb9 : (firstF ar rs (((k : Nat) : Int) + 1)).2.2.2.2 = false := h3
    refine X.skip ?_
    refine X.region ?_
    refine XL.cons (XOp.move (.int .i64 (((k : Nat) : Int) + 1)) rfl ?_)
    refine XL.cons (XOp.addR (a := ((k : Nat) : Int) + 1) (b := 1) ((((k : Nat) : Int) + 1) + 1) rfl rfl (by omega) (by omega) ?_)
    refine XL.cons (XOp.assign (.int .i64 ((((k : Nat) : Int) + 1) + 1)) rfl ?_)
    refine XL.nil ?_
    exact ⟨(k + 1, F1), _, (FLe.trans leG1 le1), (FLe.refl _), ⟨rfl, rfl, (congrArg (Value.int .i64) (by (try dsimp only); omega)), trivial⟩, (Sub.drop (Sub.cons (Sub.refl _))), ⟨rfl, (FLe.trans leG1 le1), (by (try dsimp only) <;> omega), (fun i hi => (Nat.lt_or_ge i k).elim (fun h => hall i h) (fun h => by obtain rfl : i = k := (by omega); exact hb9))⟩, (by omega)⟩
  ·refine X.exit (thenQ_exit (thenQ_exit (blockQ_exit ?_)))
   refine X.seq ?_
   refine X.region ?_
   refine XL.cons (XOp.assign (.int .i64 (0)) rfl ?_)
   refine XL.nil ?_
   refine X.ret (retEnd (L' := L) [.int .i64 (0)] (.int .i64 (0)) (.tmp rfl .nil) rfl leG1 (FLe.refl _) (Sub.drop (Sub.refl _)) ?_)
   exact ⟨congrArg (Value.int .i64) (withinF_none (fun i hi => hall i (by omega))), rfl⟩
end Go.Proofs.Ytiaanelimbmniaa
set_option linter.unusedSimpArgs false
set_option linter.unusedVariables false
namespace Go.Proofs.Ytiaanelimbmniaa
open Go X M

/- laws.FnExactLoopWithin -/
set_option maxRecDepth 20000 in
theorem FnExactLoopWithin_does {F : FH} {L : List HP} {arv : Value} {ar : List Int} (har : IntsF F arv ar) {rsv : Value} {rs : List (List Int × List Int)} (hrs : PairsF F rsv rs) {n : Int} (hlar : ar.length ≤ 9223372036854775807) (hlrs : rs.length ≤ 9223372036854775807) (hbrs : ∀ i, i < rs.length → (rs.getD i ([], [])).1.length ≤ 9223372036854775807 ∧ (rs.getD i ([], [])).2.length ≤ 9223372036854775807) :
    Does Try.prog 9 [.agg #[arv, rsv], .int .i64 (n)] F (L) (fun v F' L' => (.bool (true) : Value) = v ∧ F = F' ∧ L = L') := by
 refine Does.of_X Try.func9 rfl rfl rfl ?_
 refine X.seq ?_
 refine X.region ?_
 refine XL.cons (XOp.box [arv, rsv] rfl rfl ?_)
 intro b1
 refine XL.cons (XOp.assign (.bool (false)) rfl ?_)
 refine XL.nil ?_
 refine X.seq ?_
 refine X.region ?_
 refine XL.cons (XOp.assign (.int .i64 (1048576)) rfl ?_)
 refine XL.nil ?_
 refine X.seq ?_
 refine X.region ?_
 refine XL.cons (XOp.loadN [arv, rsv] Try.isAgg27 Try.sizeOf27 rfl rfl (Rd.ownN [] rfl rfl) ?_)
 refine XL.cons (XOp.move (.int .i64 (1048576)) rfl ?_)
 refine XL.cons (XOp.call (args := [.agg #[arv, rsv], .int .i64 (1048576)]) Try.call10 rfl (szSystem_spec (z := 1048576) har hrs (hz := (by first | assumption | rfl | omega | (left; simp; done) | (right; simp; done))) (hal := (by first | assumption | rfl | omega | (left; simp; done) | (right; simp; done))) (hrl := (by first | assumption | rfl | omega | (left; simp; done) | (right; simp; done))) (hrb := (by first | assumption | rfl | omega | (left; simp; done) | (right; simp; done)))) ?_)
 rintro _ _ _ _ ⟨rfl, rfl, rfl⟩
 refine XL.cons (XOp.assign (.int .i64 (dec 1048576 (ar.length + szR rs))) rfl ?_)
 refine XL.nil ?_
 refine X.seq ?_
 refine X.seq ?_
 refine X.region ?_
 refine XL.cons (XOp.move (.int .i64 (dec 1048576 (ar.length + szR rs))) rfl ?_)
 refine XL.cons (XOp.lss (a := dec 1048576 (ar.length + szR rs)) (b := 0) rfl rfl ?_)
 refine XL.nil ?_
 refine X.condD (p := (dec 1048576 (ar.length + szR rs) : Int) < 0) rfl (fun h1 => ?_) (fun h1 => ?_)
 ·refine X.seq ?_
  refine X.region ?_
  refine XL.cons (XOp.assign (.bool (true)) rfl ?_)
  refine XL.nil ?_
  refine X.ret (thenQ_ret (retEnd (L' := L) [.bool (true)] (.bool (true)) (.tmp rfl .nil) rfl (FLe.refl _) (FLe.refl _) (Sub.drop (Sub.refl _)) ?_))
  exact ⟨rfl, rfl, rfl⟩
 ·have hd1 := dec_le2 h1 (by omega)
  have hzrs := szR_le (rs := rs)
  have hirs := hzrs.2
  have hcrs : ∀ i, i < rs.length → (rs.getD i ([], [])).1.length ≤ 4000000 ∧ (rs.getD i ([], [])).2.length ≤ 4000000 := fun i hi => by have := hirs i hi; omega
  have hfrs := flatPair_len rs
  refine X.skip ?_
  refine X.seq ?_
  refine X.region ?_
  refine XL.cons (XOp.loadN [arv, rsv] Try.isAgg27 Try.sizeOf27 rfl rfl (Rd.ownN [] rfl rfl) ?_)
  refine XL.cons (XOp.thawL ?_)
  refine id (XOp.call (args := [.agg #[arv, rsv]]) Try.call12 rfl (toSystem_spec har hrs (hla := (by first | assumption | rfl | omega | (left; simp; done) | (right; simp; done))) (hrl := (by first | assumption | rfl | omega | (left; simp; done) | (right; simp; done))) (hrb := (by first | assumption | rfl | omega | (left; simp; done) | (right; simp; done)))) ?_)
  rintro _ F1 _ le1 ⟨x1, x2, rfl, hr1, hr2, hr3, rfl⟩
  refine ⟨[intsH 2 x1 ar, pairsD 2 105 x2 rs], hr3, ?_⟩
  show XL _ _ _ _ _ _ _ (intsH 2 x1 ar :: pairsD 2 105 x2 rs :: cellsH b1 [arv, rsv] 27 :: L)
  refine XL.cons (XOp.move (.int .i64 (n)) rfl ?_)
  refine XL.freezeF [] _ _ rfl (fun F2 le2 hz1 => ?_)
  replace har := har.mono le2
  replace hrs := hrs.mono le2
  have hf1 : IntsF F2 x1 ar := intsH.fz (xs := ar) hz1.fz
  refine XL.freezeF [] _ _ rfl (fun F3 le3 hz2 => ?_)
  replace har := har.mono le3
  replace hrs := hrs.mono le3
  replace hf1 := hf1.mono le3
  have hf2 : PairsF F3 x2 rs := pairsD.fz hz2.fz
  refine XL.cons (XOp.call (args := [.agg #[x1, x2], .int .i64 (n)]) Try.call35 rfl (sLoopWithin_spec (n := n) hf1 hf2 (hla := (by first | assumption | rfl | omega | (left; simp; done) | (right; simp; done))) (hlr := (by first | assumption | rfl | omega | (left; simp; done) | (right; simp; done))) (hrb := (by first | assumption | rfl | omega | (left; simp; done) | (right; simp; done)))) ?_)
  rintro _ F4 _ le4 ⟨rfl, rfl⟩
  replace har := har.mono le4
  replace hrs := hrs.mono le4
  replace hf1 := hf1.mono le4
  replace hf2 := hf2.mono le4
  refine XL.cons (XOp.assign (.int .i64 (withinF ar rs n)) rfl ?_)
  refine XL.nil ?_
  refine X.seq ?_
  refine X.region ?_
  refine XL.cons (XOp.loadN [arv, rsv] Try.isAgg27 Try.sizeOf27 rfl rfl (Rd.ownN [] rfl rfl) ?_)
  refine XL.cons (XOp.thawL ?_)
  refine id (XOp.call (args := [.agg #[arv, rsv]]) Try.call12 rfl (toSystem_spec har hrs (hla := (by first | assumption | rfl | omega | (left; simp; done) | (right; simp; done))) (hrl := (by first | assumption | rfl | omega | (left; simp; done) | (right; simp; done))) (hrb := (by first | assumption | rfl | omega | (left; simp; done) | (right; simp; done)))) ?_)
  rintro _ F5 _ le5 ⟨x3, x4, rfl, hr4, hr5, hr6, rfl⟩
  refine ⟨[intsH 2 x3 ar, pairsD 2 105 x4 rs], hr6, ?_⟩
  show XL _ _ _ _ _ _ _ (intsH 2 x3 ar :: pairsD 2 105 x4 rs :: cellsH b1 [arv, rsv] 27 :: L)
  refine XL.cons (XOp.alloc [(.slice none 0 0), (.slice none 0 0)] Try.zeroValue33 rfl ?_)
  intro b2
  refine XL.cons (XOp.storeN (vs := [x3, x4]) [] _ [x3, x4] Try.sizeOf33 rfl rfl rfl (ones_cons (one_sl (IntsF.isSl hr4)) (ones_cons (one_sl (PairsF.isSl hr5)) ones_nil)) rfl rfl rfl ?_)
  refine XL.nil ?_
  refine X.seq ?_
  refine X.region ?_
  refine XL.cons (XOp.loadN [x3, x4] Try.isAgg33 Try.sizeOf33 rfl rfl (Rd.ownN [] rfl rfl) ?_)
  refine XL.cons (XOp.move (.int .i64 (n)) rfl ?_)
  refine XL.freezeF [_] _ _ rfl (fun F6 le6 hz3 => ?_)
  replace har := har.mono le6
  replace hrs := hrs.mono le6
  replace hf1 := hf1.mono le6
  replace hf2 := hf2.mono le6
  have hf3 : IntsF F6 x3 ar := intsH.fz (xs := ar) hz3.fz
  refine XL.freezeF [_] _ _ rfl (fun F7 le7 hz4 => ?_)
  replace har := har.mono le7
  replace hrs := hrs.mono le7
  replace hf1 := hf1.mono le7
  replace hf2 := hf2.mono le7
  replace hf3 := hf3.mono le7
  have hf4 : PairsF F7 x4 rs := pairsD.fz hz4.fz
  refine XL.cons (XOp.call (args := [.agg #[x3, x4], .int .i64 (n)]) Try.call36 rfl (LoopWithin_spec (n := n) hf3 hf4) ?_)
  rintro _ F8 _ le8 ⟨rfl, rfl⟩
  replace har := har.mono le8
  replace hrs := hrs.mono le8
  replace hf1 := hf1.mono le8
  replace hf2 := hf2.mono le8
  replace hf3 := hf3.mono le8
  replace hf4 := hf4.mono le8
  refine XL.cons (XOp.assign (.int .i64 (withinF ar rs n)) rfl ?_)
  refine XL.nil ?_
  refine X.seq ?_
  refine X.seq ?_
  refine X.region ?_
  refine XL.cons (XOp.move (.int .i64 (withinF ar rs n)) rfl ?_)
  refine XL.cons (XOp.move (.int .i64 (withinF ar rs n)) rfl ?_)
  refine XL.cons (XOp.neq (a := withinF ar rs n) (b := withinF ar rs n) rfl rfl ?_)
  refine XL.nil ?_
  refine X.condD (p := (withinF ar rs n : Int) ≠ withinF ar rs n) rfl (fun h2 => ?_) (fun h2 => ?_)
  ·exact absurd rfl h2
  ·refine X.skip ?_
   refine X.seq ?_
   refine X.seq ?_
   refine X.drawG [cellsH b2 [x3, x4] 33, cellsH b1 [arv, rsv] 27] L 3 [[], [], []] [[], [], [1]] [[], [], []] (phiG [fun FF us v => v = (.agg #[x3, x4] : Value), fun FF us v => v = (.agg #[arv, rsv] : Value), fun FF us v => (.agg #[((aggAt v 0)), ((aggAt v 1))] : Value) = v ∧ (IntsF FF ((aggAt v 0)) ar) ∧ (PairsF FF ((aggAt v 1)) rs)]) (ownL [fun us v => [], fun us v => [], fun us v => []]) mixed rfl rfl (by kernel_rfl) (by kernel_rfl) (MonoG.get (MonoG.cons (fun le h => h) (MonoG.cons (fun le h => h) (MonoG.cons (fun le h => ⟨h.1, h.2.1.mono le, h.2.2.mono le⟩) MonoG.nil)))) ?_ ?_
   ·refine stepsG.cons (fun vals Fs R leFs hpZ => ?_) ?_
    ·replace har := har.mono leFs
     replace hrs := hrs.mono leFs
     replace hf1 := hf1.mono leFs
     replace hf2 := hf2.mono leFs
     replace hf3 := hf3.mono leFs
     replace hf4 := hf4.mono leFs
     refine XG.op (XOp.loadN [x3, x4] Try.isAgg33 Try.sizeOf33 rfl rfl (Rd.ownN [] rfl rfl) ?_)
     exact ⟨rfl, rfl⟩
    refine stepsG.cons (fun vals Fs R leFs hpZ => ?_) ?_
    ·replace har := har.mono leFs
     replace hrs := hrs.mono leFs
     replace hf1 := hf1.mono leFs
     replace hf2 := hf2.mono leFs
     replace hf3 := hf3.mono leFs
     replace hf4 := hf4.mono leFs
     refine XG.op (XOp.loadN [arv, rsv] Try.isAgg27 Try.sizeOf27 rfl rfl (Rd.ownN [_] rfl rfl) ?_)
     exact ⟨rfl, rfl⟩
    refine stepsG.cons (fun vals Fs R leFs hpZ => ?_) ?_
    ·have e1 : vals 1 = (.agg #[arv, rsv] : Value) := hpZ 1 (by decide)
     replace har := har.mono leFs
     replace hrs := hrs.mono leFs
     replace hf1 := hf1.mono leFs
     replace hf2 := hf2.mono leFs
     replace hf3 := hf3.mono leFs
     replace hf4 := hf4.mono leFs
     rw [(envs_of_sat (l := [(1, (.agg #[arv, rsv] : Value))]) ⟨e1, trivial⟩).symm]
     refine XG.op (XOp.call (args := [.agg #[arv, rsv]]) Try.call12 rfl (toSystem_spec har hrs (hla := (by first | assumption | rfl | omega | (left; simp; done) | (right; simp; done))) (hrl := (by first | assumption | rfl | omega | (left; simp; done) | (right; simp; done))) (hrb := (by first | assumption | rfl | omega | (left; simp; done) | (right; simp; done)))) ?_)
     rintro _ F10 _ le10 ⟨x7, x8, rfl, hr10, hr11, hr12, rfl⟩
     replace har := har.mono le10
     replace hrs := hrs.mono le10
     replace hf1 := hf1.mono le10
     replace hf2 := hf2.mono le10
     replace hf3 := hf3.mono le10
     replace hf4 := hf4.mono le10
     exact ⟨⟨rfl, hr10, hr11⟩, rfl⟩
    exact stepsG.nil
   ·intro vals F11 le11 hphi
    have e0 : vals 0 = (.agg #[x3, x4] : Value) := hphi 0 (by decide)
    have e1 : vals 1 = (.agg #[arv, rsv] : Value) := hphi 1 (by decide)
    obtain ⟨e2, f2_1hr1, f2_1hr2⟩ := hphi 2 (by decide)
    generalize hu1 : ((aggAt (vals 2) 0)) = u1 at e0 e1 e2 f2_1hr1 f2_1hr2
    generalize hu2 : ((aggAt (vals 2) 1)) = u2 at e0 e1 e2 f2_1hr1 f2_1hr2
    rw [(envs_of_sat (l := [(0, (.agg #[x3, x4] : Value)), (1, (.agg #[arv, rsv] : Value)), (2, (.agg #[u1, u2] : Value))]) ⟨e0, e1, (e2).symm, trivial⟩).symm]
    replace har := har.mono le11
    replace hrs := hrs.mono le11
    replace hf1 := hf1.mono le11
    replace hf2 := hf2.mono le11
    replace hf3 := hf3.mono le11
    replace hf4 := hf4.mono le11
    show XL _ _ _ _ _ _ _ (cellsH b2 [x3, x4] 33 :: cellsH b1 [arv, rsv] 27 :: L)
    refine XL.cons (XOp.call (args := [.agg #[x3, x4], .agg #[u1, u2]]) Try.call15 rfl (eqSystem_spec hf3 hf4 f2_1hr1 f2_1hr2 (hcl := (by first | assumption | rfl | omega | (left; simp; done) | (right; simp; done))) (hal := (by first | assumption | rfl | omega | (left; simp; done) | (right; simp; done))) (hbd := (by first | assumption | rfl | omega | (left; simp; done) | (right; simp; done)))) ?_)
    rintro _ _ _ _ ⟨rfl, rfl, rfl⟩
    refine XL.cons (XOp.notD (p := ar = ar ∧ rs = rs) rfl ?_)
    refine XL.nil ?_
    refine X.condD (p := ¬(ar = ar ∧ rs = rs)) rfl (fun h3 => ?_) (fun h3 => ?_)
    ·exact absurd (by first | rfl | exact ⟨rfl, rfl⟩ | exact ⟨⟨rfl, rfl⟩, rfl, rfl⟩ | simp) h3
    ·refine X.skip ?_
     refine X.seq ?_
     refine X.region ?_
     refine XL.cons (XOp.assign (.bool (true)) rfl ?_)
     refine XL.nil ?_
     refine X.ret (retEnd (L' := L) [.bool (true)] (.bool (true)) (.tmp rfl .nil) rfl (FLe.refl _) (FLe.trans (FLe.trans (FLe.trans (FLe.trans (FLe.trans (FLe.trans le2 le3) le4) le6) le7) le8) le11) (Sub.drop (Sub.drop (Sub.refl _))) ?_)
     exact ⟨rfl, rfl, rfl⟩
end Go.Proofs.Ytiaanelimbmniaa
