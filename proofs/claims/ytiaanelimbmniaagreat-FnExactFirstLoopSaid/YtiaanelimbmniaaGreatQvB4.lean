/-
  Walks, one after the other (part 5).
-/
import Derived.Test.YtiaanelimbmniaaGreatQvL1
import Derived.Test.YtiaanelimbmniaaGreatQvB3
set_option linter.unusedSimpArgs false
set_option linter.unusedVariables false
namespace Go.Proofs.YtiaanelimbmniaaGreat
open Go X M

/- spec.l19Steps -/
theorem l19Steps_spec {F : FH} {L : List HP} {n : Int} :
    Does Tryz.prog 71 [.int .i64 (n)] F (L) (fun v F' L' => (.bool (decide (1 ≤ n ∧ n ≤ 20)) : Value) = v ∧ F = F' ∧ L = L') := by
 refine Does.of_X Tryz.func71 rfl rfl rfl ?_
 refine X.seq (X.region ?_)
 refine XL.as (.bool (false)) rfl ?_
 refine XL.nil (X.seq (X.region ?_))
 refine XL.mv (.int .i64 (n)) rfl ?_
 refine XL.cons (XOp.call (args := [.int .i64 (n), .int .i64 (1), .int .i64 (20)]) Tryz.call98 rfl (l1In_spec (n := n) (a := 1) (b := 20)) ?_)
 rintro _ _ _ _ ⟨rfl, rfl, rfl⟩
 refine XL.as (.bool (decide (1 ≤ n ∧ n ≤ 20))) rfl ?_
 refine XL.nil ?_
 refine X.ret (retEnd (L' := L) [.bool (decide (1 ≤ n ∧ n ≤ 20))] (.bool (decide (1 ≤ n ∧ n ≤ 20))) (.tmp rfl .nil) rfl rF rF sR ?_)
 exact ⟨rfl, rfl, rfl⟩

/- spec.Matched -/
theorem sMatched_spec {F : FH} {L : List HP} {arv : Value} {ar : List Int} (har : IntsF F arv ar) {pv : Value} {p : List Int} (hp : IntsF F pv p) {tv : Value} {t : List Int} (ht : IntsF F tv t) (ho : termOk ar t = true) (hpo : termOk ar p = true) (hla : ar.length ≤ 4000000) :
    Does Tryz.prog 145 [.agg #[arv], pv, tv] F (L) (fun v F' L' => ∃ (a : Value), (.tuple #[.agg #[a], .bool ((matchB ar p t).isSome)] : Value) = v ∧ (RowsF F' a (matchP ar p t)) ∧ L = L') := by
 refine Does.of_X Tryz.func145 rfl rfl rfl ?_
 have hpl := termOk_len hpo
 have htl := termOk_len ho
 refine X.seq (X.region ?_)
 refine XL.cons (XOp.box [arv] rfl rfl ?_)
 intro b1
 refine XL.cons (XOp.alloc [(.slice none 0 0)] Tryz.zeroValue60 rfl ?_)
 intro b2
 refine XL.as (.bool (false)) rfl ?_
 refine XL.nil (X.seq (X.seq (X.region ?_)))
 refine XL.cons (XOp.loadN [arv] Tryz.isAgg34 Tryz.sizeOf34 rfl rfl (Rd.ownN [_] rfl rfl) ?_)
 refine XL.mv (pv) rfl ?_
 refine XL.cons (XOp.call (args := [.agg #[arv], pv]) Tryz.call70 rfl (sTermOk_spec har hp (hla := (by first | assumption | rfl | omega | simp)) (hlt := (by first | assumption | rfl | omega | simp))) ?_)
 rintro _ _ _ _ ⟨rfl, rfl, rfl⟩
 refine XL.cons (XOp.notB (b := termOk ar p) rfl ?_)
 refine XL.mv (.bool (!(termOk ar p))) rfl ?_
 by_cases h1 : (!(termOk ar p)) = true
 ·exact absurd h1 (by simp [ho, hpo])
 ·rw [Bool.not_eq_true] at h1
  refine XL.yes (t := 12) rfl (vB h1) (XOp.loadN [arv] Tryz.isAgg34 Tryz.sizeOf34 rfl rfl (Rd.ownN [_] rfl rfl) ?_)
  refine XL.yes (t := 12) rfl (vB h1) (XOp.move (tv) rfl ?_)
  refine XL.yes (t := 12) rfl (vB h1) (XOp.call (args := [.agg #[arv], tv]) Tryz.call70 rfl (sTermOk_spec har ht (hla := (by first | assumption | rfl | omega | simp)) (hlt := (by first | assumption | rfl | omega | simp))) ?_)
  rintro _ _ _ _ ⟨rfl, rfl, rfl⟩
  refine XL.yes (t := 12) rfl (vB h1) (XOp.notB (b := termOk ar t) rfl ?_)
  refine XL.cons (XOp.pickF (.bool (!(termOk ar t))) (vB h1) rfl ?_)
  refine XL.nil ?_
  refine X.cond (t := !(termOk ar t)) rfl (fun h2 => ?_) (fun h2 => ?_)
  ·exact absurd h2 (by simp [ho, hpo])
  ·refine X.skip (X.seq (X.region ?_))
   refine XL.cons (XOp.loadN [arv] Tryz.isAgg34 Tryz.sizeOf34 rfl rfl (Rd.ownN [_] rfl rfl) ?_)
   refine XL.mv (pv) rfl ?_
   refine XL.mv (tv) rfl ?_
   refine XL.cons (XOp.call (args := [.agg #[arv], pv, tv]) Tryz.call172 rfl (l4Match_spec har hp ht (ho := (by first | assumption | rfl | omega | simp)) (hpo := (by first | assumption | rfl | omega | simp))) ?_)
   rintro _ F1 _ le1 ⟨x1, rfl, hr1, rfl⟩
   replace har := har.mono le1
   replace hp := hp.mono le1
   replace ht := ht.mono le1
   refine XL.cons (XOp.extract (.agg #[x1]) rfl rfl ?_)
   refine XL.cons (XOp.extract (.bool ((matchB ar p t).isSome)) rfl rfl ?_)
   refine XL.cons (XOp.storeN (vs := [x1]) [] _ [x1] Tryz.sizeOf60 rfl rfl rfl (ones_cons (one_sl (RowsF.isSl hr1)) ones_nil) rfl rfl rfl ?_)
   refine XL.as (.bool ((matchB ar p t).isSome)) rfl ?_
   refine XL.nil ?_
   refine X.ret (retEnd (L' := L) [.agg #[x1], .bool ((matchB ar p t).isSome)] (.tuple #[.agg #[x1], .bool ((matchB ar p t).isSome)]) (.cell rfl (loadNV [x1] Tryz.isAgg60 Tryz.sizeOf60 rfl (Rd.ownN [] rfl rfl)) (.tmp rfl .nil)) rfl le1 rF (Sub.drop (Sub.drop sR)) ?_)
   exact ⟨_, rfl, hr1, rfl⟩

/- spec.StepsFrom -/
set_option maxRecDepth 20000 in
theorem sStepsFrom_spec {F : FH} {L : List HP} {arv : Value} {ar : List Int} (har : IntsF F arv ar) {rsv : Value} {rs : List (List Int × List Int)} (hrs : PairsF F rsv rs) {tv : Value} {t : List Int} (ht : IntsF F tv t) (hsys : sysOk ar rs = true) (ho : termOk ar t = true) (hla : ar.length ≤ 4000000) (hlr : rs.length ≤ 4000000) (hrb : ∀ i, i < rs.length → (rs.getD i ([], [])).1.length ≤ 4000000 ∧ (rs.getD i ([], [])).2.length ≤ 4000000) (hlt : t.length ≤ 4000000) :
    Does Tryz.prog 73 [.agg #[arv, rsv], tv] F (L) (fun v F' L' => ∃ (a : Value), (a : Value) = v ∧ (StepsF F' a (stepsL ar rs t)) ∧ L = L') := by
 refine Does.of_X Tryz.func73 rfl rfl rfl ?_
 refine X.seq (X.region ?_)
 refine XL.cons (XOp.box [arv, rsv] rfl rfl ?_)
 intro b1
 refine XL.as ((.slice none 0 0)) rfl ?_
 refine XL.nil (X.seq (X.seq (X.region ?_)))
 refine XL.cons (XOp.loadN [arv, rsv] Tryz.isAgg37 Tryz.sizeOf37 rfl rfl (Rd.ownN [] rfl rfl) ?_)
 refine XL.mv (tv) rfl ?_
 refine XL.cons (XOp.call (args := [.agg #[arv, rsv], tv]) Tryz.call143 rfl (l7Right_spec har hrs ht (hla := (by first | assumption | rfl | omega | simp)) (hlr := (by first | assumption | rfl | omega | simp)) (hrb := (by first | assumption | rfl | omega | simp)) (hlt := (by first | assumption | rfl | omega | simp))) ?_)
 rintro _ _ _ _ ⟨rfl, rfl, rfl⟩
 refine XL.cons (XOp.notB (b := rightB ar rs t) rfl ?_)
 refine XL.nil ?_
 refine X.cond (t := !(rightB ar rs t)) rfl (fun h1 => ?_) (fun h1 => ?_)
 ·exact absurd h1 (by simp [rightB, hsys, ho])
 ·refine X.skip (X.seq (X.region ?_))
  refine XL.cons (XOp.loadN [arv, rsv] Tryz.isAgg37 Tryz.sizeOf37 rfl rfl (Rd.ownN [] rfl rfl) ?_)
  refine XL.mv (tv) rfl ?_
  refine XL.cons (XOp.call (args := [.agg #[arv, rsv], tv]) Tryz.call144 rfl (l7Steps_spec har hrs ht (hsys := (by first | assumption | rfl | omega | simp)) (ho := (by first | assumption | rfl | omega | simp))) ?_)
  rintro _ F1 _ le1 ⟨x1, rfl, hr1, rfl⟩
  replace har := har.mono le1
  replace hrs := hrs.mono le1
  replace ht := ht.mono le1
  refine XL.as (x1) rfl ?_
  refine XL.nil ?_
  refine X.ret (retEnd (L' := L) [x1] (x1) (.tmp rfl .nil) rfl le1 rF (Sub.drop sR) ?_)
  exact ⟨_, rfl, hr1, rfl⟩

/- spec.l19Found -/
theorem l19Found_spec {F : FH} {L : List HP} {arv : Value} {ar : List Int} (har : IntsF F arv ar) {rsv : Value} {rs : List (List Int × List Int)} (hrs : PairsF F rsv rs) {tv : Value} {t : List Int} (ht : IntsF F tv t) {uv : Value} {u : List Int} (hu : IntsF F uv u) (ho : termOk ar t = true) (huo : termOk ar u = true) (hla : ar.length ≤ 4000000) :
    Does Tryz.prog 74 [.agg #[arv, rsv], tv, uv] F (L) (fun v F' L' => ∃ (a : Value), (.tuple #[.int .i64 (instI ar t u), .agg #[a]] : Value) = v ∧ (RowsF F' a (placeS ar t u)) ∧ L = L') := by
 refine Does.of_X Tryz.func74 rfl rfl rfl ?_
 have hul := termOk_len huo
 have htl := termOk_len ho
 refine X.seq (X.region ?_)
 refine XL.cons (XOp.box [arv, rsv] rfl rfl ?_)
 intro b1
 refine XL.as (.int .i64 (0)) rfl ?_
 refine XL.cons (XOp.alloc [(.slice none 0 0)] Tryz.zeroValue60 rfl ?_)
 intro b2
 refine XL.nil (X.seq (X.seq (X.region ?_)))
 refine XL.as (.int .i64 (0)) rfl ?_
 refine XL.nil (X.block ?_)
 refine X.loop (α := Nat × FH) (fun xQ => [(1, tv), (2, uv), (3, ptr b1 0), (7, ptr b2 0), (8, .int .i64 (((xQ.1 : Nat) : Int)))]) (fun xQ => cellsH b2 [(.slice none 0 0)] 60 :: cellsH b1 [arv, rsv] 37 :: L) (fun xQ F' => xQ.2 = F' ∧ F ≤ xQ.2 ∧ (xQ.1 ≤ u.length) ∧ (∀ i, i < xQ.1 → (matchB ar t (sub ar u i)).isSome = false)) (fun xQ => u.length - xQ.1) (0, F) ⟨rfl, rfl, rfl, rfl, rfl, trivial⟩ (Sub.cons (Sub.cons sR)) ⟨rfl, FLe.refl _, (by (try dsimp only) <;> omega), (fun i hi => absurd hi (by omega))⟩ ?_
 rintro ⟨k, G1⟩ rE _ _ ⟨rfl, leG, hk, hall⟩
 show X _ _ _ _ (envs [(1, tv), (2, uv), (3, ptr b1 0), (7, ptr b2 0), (8, .int .i64 ((k : Int)))] rE) _ (cellsH b2 [(.slice none 0 0)] 60 :: cellsH b1 [arv, rsv] 37 :: L)
 replace leG : F ≤ G1 := leG
 dsimp only at hk hall
 have hsk := fun (h : k < u.length) => (show (if posOk ar u (k : Int) = true then sub ar u ((k : Int)).toNat else []) = sub ar u k from if_pos (posOk_iff.2 ⟨huo, by omega⟩))
 have hso := fun (h : k < u.length) => sub_ok huo h
 have leG1 := leG
 replace har := har.mono leG1
 replace hrs := hrs.mono leG1
 replace ht := ht.mono leG1
 replace hu := hu.mono leG1
 refine X.seq (X.seq (X.region ?_))
 refine XL.mv (.int .i64 ((k : Int))) rfl ?_
 refine XL.mv (uv) rfl ?_
 refine XL.cons (XOp.lenS (v := uv) (n := (u).length) Tryz.runUnderlying22 rfl hu.slv ?_)
 refine XL.cons (XOp.lss (a := (k : Int)) (b := (u.length : Int)) rfl rfl ?_)
 refine XL.nil ?_
 refine X.condD (p := (k : Int) < (u.length : Int)) rfl (fun h1 => ?_) (fun h1 => ?_)
 ·refine X.skip (X.seq (X.block (X.seq ?_)))
  refine X.drawG [cellsH b2 [(.slice none 0 0)] 60, cellsH b1 [arv, rsv] 37] L 14 [[], [], [], [], [], [], [], [], [], [8], [8], [], [], [8, 12]] [[], [0], [], [], [3], [], [], [4, 5, 6], [1, 2, 7], [8], [8, 9], [8, 9], [], [8, 10, 12]] [[], [], [], [], [], [], [], [], [], [], [], [], [], [12]] (phiG [fun FF us v => v = ptr b1 0, fun FF us v => v = (.agg #[arv] : Value), fun FF us v => v = tv, fun FF us v => v = ptr b1 0, fun FF us v => v = (.agg #[arv] : Value), fun FF us v => v = uv, fun FF us v => v = (.int .i64 ((k : Int)) : Value), fun FF us v => ((v) : Value) = v ∧ (IntsF FF (v) (if posOk ar u ((k : Int)) = true then sub ar u ((k : Int)).toNat else [])), fun FF us v => (.tuple #[.agg #[((aggAt (tupAt v 0) 0))], .bool ((matchB ar t (if posOk ar u ((k : Int)) = true then sub ar u ((k : Int)).toNat else [])).isSome)] : Value) = v ∧ (RowsF FF ((aggAt (tupAt v 0) 0)) (matchP ar t (if posOk ar u ((k : Int)) = true then sub ar u ((k : Int)).toNat else []))), fun FF us v => v = (.tuple #[.agg #[((aggAt (tupAt (us.getD 0 undef) 0) 0))], .bool ((matchB ar t (if posOk ar u ((k : Int)) = true then sub ar u ((k : Int)).toNat else [])).isSome)] : Value), fun FF us v => v = (.agg #[((aggAt (tupAt (us.getD 0 undef) 0) 0))] : Value), fun FF us v => v = (.bool ((matchB ar t (if posOk ar u ((k : Int)) = true then sub ar u ((k : Int)).toNat else [])).isSome) : Value), fun FF us v => v = ptr (blk v) 0, fun FF us v => True]) (ownL [fun us v => [], fun us v => [], fun us v => [], fun us v => [], fun us v => [], fun us v => [], fun us v => [], fun us v => [], fun us v => [], fun us v => [], fun us v => [], fun us v => [], fun us v => [cellsH (blk v) [(.slice none 0 0)] 60], fun us v => [cellsH (blk (us.getD 1 undef)) [((aggAt (tupAt (us.getD 0 undef) 0) 0))] 60]]) mixed rfl rfl (by kernel_rfl) (by kernel_rfl) (MonoG.get (MonoG.cons (fun le h => h) (MonoG.cons (fun le h => h) (MonoG.cons (fun le h => h) (MonoG.cons (fun le h => h) (MonoG.cons (fun le h => h) (MonoG.cons (fun le h => h) (MonoG.cons (fun le h => h) (MonoG.cons (fun le h => ⟨h.1, h.2.mono le⟩) (MonoG.cons (fun le h => ⟨h.1, h.2.mono le⟩) (MonoG.cons (fun le h => h) (MonoG.cons (fun le h => h) (MonoG.cons (fun le h => h) (MonoG.cons (fun le h => h) (MonoG.cons (fun le h => h) MonoG.nil))))))))))))))) ?_ ?_
  ·refine stepsG.cons (fun vals Fs R leFs hpZ => ?_) ?_
   ·refine XG.op (XOp.fieldP (b := b1) (0) Tryz.runUnderlying37 rfl Tryz.sizeOf34 (by decide) rfl rfl ?_)
    exact ⟨rfl, rfl⟩
   refine stepsG.cons (fun vals Fs R leFs hpZ => ?_) ?_
   ·replace har := har.mono leFs
    replace hrs := hrs.mono leFs
    replace ht := ht.mono leFs
    replace hu := hu.mono leFs
    rw [eS (l := [(0, ptr b1 0)]) ⟨(hpZ 0 (by decide)), trivial⟩]
    refine XG.op (XOp.loadN [arv] Tryz.isAgg34 Tryz.sizeOf34 rfl rfl (Rd.ownN [_] rfl rfl) ?_)
    exact ⟨rfl, rfl⟩
   refine stepsG.cons (fun vals Fs R leFs hpZ => ?_) ?_
   ·refine XG.op (XOp.move (tv) rfl ?_)
    exact ⟨rfl, rfl⟩
   refine stepsG.cons (fun vals Fs R leFs hpZ => ?_) ?_
   ·refine XG.op (XOp.fieldP (b := b1) (0) Tryz.runUnderlying37 rfl Tryz.sizeOf34 (by decide) rfl rfl ?_)
    exact ⟨rfl, rfl⟩
   refine stepsG.cons (fun vals Fs R leFs hpZ => ?_) ?_
   ·replace har := har.mono leFs
    replace hrs := hrs.mono leFs
    replace ht := ht.mono leFs
    replace hu := hu.mono leFs
    rw [eS (l := [(3, ptr b1 0)]) ⟨(hpZ 3 (by decide)), trivial⟩]
    refine XG.op (XOp.loadN [arv] Tryz.isAgg34 Tryz.sizeOf34 rfl rfl (Rd.ownN [_] rfl rfl) ?_)
    exact ⟨rfl, rfl⟩
   refine stepsG.cons (fun vals Fs R leFs hpZ => ?_) ?_
   ·refine XG.op (XOp.move (uv) rfl ?_)
    exact ⟨rfl, rfl⟩
   refine stepsG.cons (fun vals Fs R leFs hpZ => ?_) ?_
   ·refine XG.op (XOp.move (.int .i64 ((k : Int))) rfl ?_)
    exact ⟨rfl, rfl⟩
   refine stepsG.cons (fun vals Fs R leFs hpZ => ?_) ?_
   ·replace har := har.mono leFs
    replace hrs := hrs.mono leFs
    replace ht := ht.mono leFs
    replace hu := hu.mono leFs
    rw [eS (l := [(4, (.agg #[arv] : Value)), (5, uv), (6, (.int .i64 ((k : Int)) : Value))]) ⟨(hpZ 4 (by decide)), (hpZ 5 (by decide)), (hpZ 6 (by decide)), trivial⟩]
    refine XG.op (XOp.call (args := [.agg #[arv], uv, .int .i64 ((k : Int))]) Tryz.call146 rfl (sSubAt_spec (p := (k : Int)) har hu (hla := (by first | assumption | rfl | omega | simp)) (hlt := (by first | assumption | rfl | omega | simp))) ?_)
    rintro _ F3 _ le3 ⟨x3, rfl, hr3, rfl⟩
    replace har := har.mono le3
    replace hrs := hrs.mono le3
    replace ht := ht.mono le3
    replace hu := hu.mono le3
    exact ⟨⟨rfl, hr3⟩, rfl⟩
   refine stepsG.cons (fun vals Fs R leFs hpZ => ?_) ?_
   ·obtain ⟨e7, f7_1hr⟩ := hpZ 7 (by decide)
    replace har := har.mono leFs
    replace hrs := hrs.mono leFs
    replace ht := ht.mono leFs
    replace hu := hu.mono leFs
    rw [eS (l := [(1, (.agg #[arv] : Value)), (2, tv), (7, ((vals 7)))]) ⟨(hpZ 1 (by decide)), (hpZ 2 (by decide)), (e7).symm, trivial⟩]
    refine XG.op (XOp.call (args := [.agg #[arv], tv, ((vals 7))]) Tryz.call145 rfl (sMatched_spec har ht f7_1hr (ho := (by rw [hsk (by omega)]; exact hso (by omega))) (hpo := (ho)) (hla := (by first | assumption | rfl | omega | simp))) ?_)
    rintro _ F4 _ le4 ⟨x4, rfl, hr4, rfl⟩
    replace har := har.mono le4
    replace hrs := hrs.mono le4
    replace ht := ht.mono le4
    replace hu := hu.mono le4
    replace f7_1hr := f7_1hr.mono le4
    exact ⟨⟨rfl, hr4⟩, rfl⟩
   refine stepsG.cons (fun vals Fs R leFs hpZ => ?_) ?_
   ·obtain ⟨e8, f8_1hr⟩ := hpZ 8 (by decide)
    rw [eS (l := [(8, (.tuple #[.agg #[((aggAt (tupAt (vals 8) 0) 0))], .bool ((matchB ar t (if posOk ar u ((k : Int)) = true then sub ar u ((k : Int)).toNat else [])).isSome)] : Value))]) ⟨(e8).symm, trivial⟩]
    refine XG.op (XOp.move (.tuple #[.agg #[((aggAt (tupAt (vals 8) 0) 0))], .bool ((matchB ar t (if posOk ar u ((k : Int)) = true then sub ar u ((k : Int)).toNat else [])).isSome)]) rfl ?_)
    exact ⟨rfl, rfl⟩
   refine stepsG.cons (fun vals Fs R leFs hpZ => ?_) ?_
   ·obtain ⟨e8, f8_1hr⟩ := hpZ 8 (by decide)
    have e9 : vals 9 = (.tuple #[.agg #[((aggAt (tupAt (vals 8) 0) 0))], .bool ((matchB ar t (if posOk ar u ((k : Int)) = true then sub ar u ((k : Int)).toNat else [])).isSome)] : Value) := hpZ 9 (by decide)
    rw [eS (l := [(8, (.tuple #[.agg #[((aggAt (tupAt (vals 8) 0) 0))], .bool ((matchB ar t (if posOk ar u ((k : Int)) = true then sub ar u ((k : Int)).toNat else [])).isSome)] : Value)), (9, (.tuple #[.agg #[((aggAt (tupAt (vals 8) 0) 0))], .bool ((matchB ar t (if posOk ar u ((k : Int)) = true then sub ar u ((k : Int)).toNat else [])).isSome)] : Value))]) ⟨(e8).symm, e9, trivial⟩]
    refine XG.op (XOp.extract (.agg #[((aggAt (tupAt (vals 8) 0) 0))]) rfl rfl ?_)
    exact ⟨rfl, rfl⟩
   refine stepsG.cons (fun vals Fs R leFs hpZ => ?_) ?_
   ·obtain ⟨e8, f8_1hr⟩ := hpZ 8 (by decide)
    have e9 : vals 9 = (.tuple #[.agg #[((aggAt (tupAt (vals 8) 0) 0))], .bool ((matchB ar t (if posOk ar u ((k : Int)) = true then sub ar u ((k : Int)).toNat else [])).isSome)] : Value) := hpZ 9 (by decide)
    rw [eS (l := [(8, (.tuple #[.agg #[((aggAt (tupAt (vals 8) 0) 0))], .bool ((matchB ar t (if posOk ar u ((k : Int)) = true then sub ar u ((k : Int)).toNat else [])).isSome)] : Value)), (9, (.tuple #[.agg #[((aggAt (tupAt (vals 8) 0) 0))], .bool ((matchB ar t (if posOk ar u ((k : Int)) = true then sub ar u ((k : Int)).toNat else [])).isSome)] : Value))]) ⟨(e8).symm, e9, trivial⟩]
    refine XG.op (XOp.extract (.bool ((matchB ar t (if posOk ar u ((k : Int)) = true then sub ar u ((k : Int)).toNat else [])).isSome)) rfl rfl ?_)
    exact ⟨rfl, rfl⟩
   refine stepsG.cons (fun vals Fs R leFs hpZ => ?_) ?_
   ·replace har := har.mono leFs
    replace hrs := hrs.mono leFs
    replace ht := ht.mono leFs
    replace hu := hu.mono leFs
    refine XG.op (XOp.alloc [(.slice none 0 0)] Tryz.zeroValue60 rfl ?_)
    intro b4
    exact ⟨rfl, rfl⟩
   refine stepsG.cons (fun vals Fs R leFs hpZ => ?_) ?_
   ·obtain ⟨e8, f8_1hr⟩ := hpZ 8 (by decide)
    have e10 : vals 10 = (.agg #[((aggAt (tupAt (vals 8) 0) 0))] : Value) := hpZ 10 (by decide)
    have e12 : vals 12 = ptr (blk (vals 12)) 0 := hpZ 12 (by decide)
    replace har := har.mono leFs
    replace hrs := hrs.mono leFs
    replace ht := ht.mono leFs
    replace hu := hu.mono leFs
    rw [eS (l := [(8, (.tuple #[.agg #[((aggAt (tupAt (vals 8) 0) 0))], .bool ((matchB ar t (if posOk ar u ((k : Int)) = true then sub ar u ((k : Int)).toNat else [])).isSome)] : Value)), (10, (.agg #[((aggAt (tupAt (vals 8) 0) 0))] : Value)), (12, ptr (blk (vals 12)) 0)]) ⟨(e8).symm, e10, e12, trivial⟩]
    show XG _ _ _ _ _ (cellsH (blk (vals 12)) [(.slice none 0 0)] 60 :: ([cellsH b2 [(.slice none 0 0)] 60, cellsH b1 [arv, rsv] 37] ++ R)) _
    refine XG.op (XOp.storeN (vs := [((aggAt (tupAt (vals 8) 0) 0))]) [] _ [((aggAt (tupAt (vals 8) 0) 0))] Tryz.sizeOf60 rfl rfl rfl (ones_cons (one_sl (RowsF.isSl f8_1hr)) ones_nil) rfl rfl rfl ?_)
    exact ⟨trivial, rfl⟩
   exact stepsG.nil
  ·intro vals F5 le5 hphi
   obtain ⟨e7, f7_1hr⟩ := hphi 7 (by decide)
   obtain ⟨e8, f8_1hr⟩ := hphi 8 (by decide)
   have e9 : vals 9 = (.tuple #[.agg #[((aggAt (tupAt (vals 8) 0) 0))], .bool ((matchB ar t (if posOk ar u ((k : Int)) = true then sub ar u ((k : Int)).toNat else [])).isSome)] : Value) := hphi 9 (by decide)
   have e10 : vals 10 = (.agg #[((aggAt (tupAt (vals 8) 0) 0))] : Value) := hphi 10 (by decide)
   have e12 : vals 12 = ptr (blk (vals 12)) 0 := hphi 12 (by decide)
   generalize hu1 : ((vals 7)) = u1 at e7 f7_1hr e8 f8_1hr e9 e10 e12
   generalize hu2 : ((aggAt (tupAt (vals 8) 0) 0)) = u2 at e7 f7_1hr e8 f8_1hr e9 e10 e12
   generalize hu3 : blk (vals 12) = b5 at e7 f7_1hr e8 f8_1hr e9 e10 e12
   rw [eS (l := [(0, ptr b1 0), (1, (.agg #[arv] : Value)), (2, tv), (3, ptr b1 0), (4, (.agg #[arv] : Value)), (5, uv), (6, (.int .i64 ((k : Int)) : Value)), (7, u1), (8, (.tuple #[.agg #[u2], .bool ((matchB ar t (if posOk ar u ((k : Int)) = true then sub ar u ((k : Int)).toNat else [])).isSome)] : Value)), (9, (.tuple #[.agg #[u2], .bool ((matchB ar t (if posOk ar u ((k : Int)) = true then sub ar u ((k : Int)).toNat else [])).isSome)] : Value)), (10, (.agg #[u2] : Value)), (11, (.bool ((matchB ar t (if posOk ar u ((k : Int)) = true then sub ar u ((k : Int)).toNat else [])).isSome) : Value)), (12, ptr b5 0)]) ⟨(hphi 0 (by decide)), (hphi 1 (by decide)), (hphi 2 (by decide)), (hphi 3 (by decide)), (hphi 4 (by decide)), (hphi 5 (by decide)), (hphi 6 (by decide)), hu1, (e8).symm, e9, e10, (hphi 11 (by decide)), e12, trivial⟩]
   replace har := har.mono le5
   replace hrs := hrs.mono le5
   replace ht := ht.mono le5
   replace hu := hu.mono le5
   show XL _ _ _ _ _ _ _ (cellsH b5 [u2] 60 :: cellsH b2 [(.slice none 0 0)] 60 :: cellsH b1 [arv, rsv] 37 :: L)
   refine XL.as (.bool ((matchB ar t (if posOk ar u ((k : Int)) = true then sub ar u ((k : Int)).toNat else [])).isSome)) rfl ?_
   refine XL.nil (X.seq (X.region ?_))
   refine XL.mv (.bool ((matchB ar t (if posOk ar u ((k : Int)) = true then sub ar u ((k : Int)).toNat else [])).isSome)) rfl ?_
   refine XL.nil ?_
   refine X.cond (t := (matchB ar t (if posOk ar u ((k : Int)) = true then sub ar u ((k : Int)).toNat else [])).isSome) rfl (fun h2 => ?_) (fun h2 => ?_)
   ·have hmk : (matchB ar t (sub ar u k)).isSome = true := by rw [← hsk (by omega)]; exact h2
    refine X.seq ?_
    refine X.draw [cellsH b5 [u2] 60, cellsH b2 [(.slice none 0 0)] 60, cellsH b1 [arv, rsv] 37] L 3 [[], [], []] [[], [], [0]] (phiL [fun us v => v = (.int .i64 ((k : Int)) : Value), fun us v => v = (.agg #[u2] : Value), fun us v => v = (.int .i64 ((k : Int)) : Value)]) (ownL [fun us v => [], fun us v => [], fun us v => []]) mixed rfl rfl (by kernel_rfl) ?_ ?_
    ·refine stepsP.cons (fun vals R hpZ => ?_) ?_
     ·refine XG.op (XOp.move (.int .i64 ((k : Int))) rfl ?_)
      exact ⟨rfl, rfl, rfl⟩
     refine stepsP.cons (fun vals R hpZ => ?_) ?_
     ·refine XG.op (XOp.loadN [u2] Tryz.isAgg60 Tryz.sizeOf60 rfl rfl (Rd.ownN [] rfl rfl) ?_)
      exact ⟨rfl, rfl, rfl⟩
     refine stepsP.cons (fun vals R hpZ => ?_) ?_
     ·rw [eS (l := [(0, (.int .i64 ((k : Int)) : Value))]) ⟨hpZ 0 (by decide), trivial⟩]
      refine XG.op (XOp.assign (.int .i64 ((k : Int))) rfl ?_)
      exact ⟨rfl, rfl, rfl⟩
     exact stepsP.nil
    ·intro vals hphi
     rw [eS (l := [(0, (.int .i64 ((k : Int)) : Value)), (1, (.agg #[u2] : Value)), (2, (.int .i64 ((k : Int)) : Value))]) ⟨(hphi 0 (by decide)), (hphi 1 (by decide)), (hphi 2 (by decide)), trivial⟩]
     show XL _ _ _ _ _ _ _ (cellsH b5 [u2] 60 :: cellsH b2 [(.slice none 0 0)] 60 :: cellsH b1 [arv, rsv] 37 :: L)
     refine XL.cons (XOp.storeN (vs := [u2]) [_] _ [u2] Tryz.sizeOf60 rfl rfl rfl (ones_cons (one_sl (RowsF.isSl f8_1hr)) ones_nil) rfl rfl rfl ?_)
     refine XL.nil ?_
     refine X.ret (blockQ_ret (thenQ_ret (thenQ_ret (blockQ_ret (thenQ_ret (retEnd (L' := L) [.int .i64 ((k : Int)), .agg #[u2]] (.tuple #[.int .i64 ((k : Int)), .agg #[u2]]) (.tmp rfl (.cell rfl (loadNV [u2] Tryz.isAgg60 Tryz.sizeOf60 rfl (Rd.ownN [_] rfl rfl)) .nil)) rfl (FLe.trans leG1 le5) rF (Sub.drop (Sub.drop (Sub.drop sR))) ?_))))))
     have e := instI_at (by omega) hmk hall
     have e2 := placeS_at e
     exact ⟨_, by rw [e], by rw [e2, ← hsk (by omega)]; exact f8_1hr, rfl⟩
   ·have hmk : (matchB ar t (sub ar u k)).isSome = false := by rw [← hsk (by omega)]; exact h2
    refine X.skip (X.region ?_)
    refine XL.mv (.int .i64 ((k : Int))) rfl ?_
    refine XL.cons (XOp.addR (a := (k : Int)) (b := 1) (((k + 1 : Nat) : Int)) rfl rfl (by omega) (by omega) ?_)
    refine XL.as (.int .i64 (((k + 1 : Nat) : Int))) rfl ?_
    refine XL.nil ?_
    exact ⟨(k + 1, F5), _, (FLe.trans leG1 le5), rF, ⟨rfl, rfl, rfl, rfl, rfl, trivial⟩, (Sub.drop (Sub.cons (Sub.cons sR))), ⟨rfl, (FLe.trans leG1 le5), (by (try dsimp only) <;> omega), (fun i hi => (Nat.lt_or_ge i k).elim (fun h => hall i h) (fun h => by obtain rfl : i = k := (by omega); exact hmk))⟩, (by omega)⟩
 ·refine X.exit (thenQ_exit (thenQ_exit (blockQ_exit ?_)))
  refine X.seq (X.region ?_)
  refine XL.cons (XOp.build [(.slice none 0 0)] [(.slice none 0 0)] [(0, 1)] [] Tryz.runUnderlying60 Tryz.zeroValue60 rfl (.cons rfl Tryz.sizeOf58 PlacesAre.nil) rfl CellsAre.nil ?_)
  refine XL.as (.int .i64 (-1)) rfl ?_
  refine XL.cons (XOp.storeN (vs := [(.slice none 0 0)]) [] _ [(.slice none 0 0)] Tryz.sizeOf60 rfl rfl rfl (ones_cons rfl ones_nil) rfl rfl rfl ?_)
  refine XL.nil ?_
  refine X.ret (retEnd (L' := L) [.int .i64 (-1), .agg #[(.slice none 0 0)]] (.tuple #[.int .i64 (-1), .agg #[(.slice none 0 0)]]) (.tmp rfl (.cell rfl (loadNV [(.slice none 0 0)] Tryz.isAgg60 Tryz.sizeOf60 rfl (Rd.ownN [] rfl rfl)) .nil)) rfl leG1 rF (Sub.drop (Sub.drop sR)) ?_)
  have e := instI_none (fun i hi => hall i (by omega))
  have e2 := placeS_none e
  exact ⟨_, by rw [e], by rw [e2]; exact SlOf.nilV, rfl⟩

/- spec.LoopFrom -/
set_option maxHeartbeats 1000000 in
set_option maxRecDepth 20000 in
theorem sLoopFrom_spec {F : FH} {L : List HP} {arv : Value} {ar : List Int} (har : IntsF F arv ar) {rsv : Value} {rs : List (List Int × List Int)} (hrs : PairsF F rsv rs) {tv : Value} {t : List Int} (ht : IntsF F tv t) {n : Int} (hla : ar.length ≤ 4000000) (hlr : rs.length ≤ 4000000) (hrb : ∀ i, i < rs.length → (rs.getD i ([], [])).1.length ≤ 4000000 ∧ (rs.getD i ([], [])).2.length ≤ 4000000) (hlt : t.length ≤ 4000000) :
    Does Tryz.prog 25 [.agg #[arv, rsv], tv, .int .i64 (n)] F (L) (fun v F' L' => ∃ (a : Value), ∃ (b : Value), ∃ (c : Value), (.tuple #[.agg #[a, b, .int .i64 ((loopF ar rs t n).2.2.1), c], .bool ((loopF ar rs t n).2.2.2.2)] : Value) = v ∧ (IntsF F' a (loopF ar rs t n).1) ∧ (StepsF F' b (loopF ar rs t n).2.1) ∧ (RowsF F' c (loopF ar rs t n).2.2.2.1) ∧ L = L') := by
 refine Does.of_X Tryz.func25 rfl rfl rfl ?_
 refine X.seq (X.region ?_)
 refine XL.cons (XOp.box [arv, rsv] rfl rfl ?_)
 intro b1
 refine XL.cons (XOp.alloc [(.slice none 0 0), (.slice none 0 0), .int .i64 (0), (.slice none 0 0)] Tryz.zeroValue62 rfl ?_)
 intro b2
 refine XL.as (.bool (false)) rfl ?_
 refine XL.nil (X.seq (X.seq (X.region ?_)))
 refine XL.cons (XOp.loadN [arv, rsv] Tryz.isAgg37 Tryz.sizeOf37 rfl rfl (Rd.ownN [_] rfl rfl) ?_)
 refine XL.cons (XOp.call (args := [.agg #[arv, rsv]]) Tryz.call63 rfl (sSystemOk_spec har hrs (hla := (by first | assumption | rfl | omega | simp)) (hlr := (by first | assumption | rfl | omega | simp)) (hrb := (by first | assumption | rfl | omega | simp))) ?_)
 rintro _ _ _ _ ⟨rfl, rfl, rfl⟩
 refine XL.cons (XOp.notB (b := sysOk ar rs) rfl ?_)
 refine XL.mv (.bool (!(sysOk ar rs))) rfl ?_
 by_cases h1 : (!(sysOk ar rs)) = true
 ·refine XL.no (t := 20) rfl (vB h1) ?_
  refine XL.no (t := 20) rfl (vB h1) ?_
  refine XL.no (t := 20) rfl (vB h1) ?_
  refine XL.no (t := 20) rfl (vB h1) ?_
  refine XL.no (t := 20) rfl (vB h1) ?_
  refine XL.cons (XOp.pickT (.bool (true)) (vB h1) rfl ?_)
  refine XL.mv (.bool (true)) rfl ?_
  refine XL.no (t := 27) rfl rfl ?_
  refine XL.no (t := 27) rfl rfl ?_
  refine XL.no (t := 27) rfl rfl ?_
  refine XL.cons (XOp.pickT (.bool (true)) rfl rfl ?_)
  refine XL.nil ?_
  refine X.condT rfl ?_
  refine X.seq (X.region ?_)
  refine XL.cons (XOp.build [(.slice none 0 0), (.slice none 0 0), .int .i64 (0), (.slice none 0 0)] [(.slice none 0 0), (.slice none 0 0), .int .i64 (0), (.slice none 0 0)] [(0, 2), (2, 1), (3, 1)] [] Tryz.runUnderlying62 Tryz.zeroValue62 rfl (.cons rfl Tryz.sizeOf57 (.cons rfl Tryz.sizeOf2 (.cons rfl Tryz.sizeOf60 PlacesAre.nil))) rfl CellsAre.nil ?_)
  refine XL.cons (XOp.storeN (vs := [(.slice none 0 0), (.slice none 0 0), .int .i64 (0), (.slice none 0 0)]) [] _ [(.slice none 0 0), (.slice none 0 0), .int .i64 (0), (.slice none 0 0)] Tryz.sizeOf62 rfl rfl rfl (ones_cons rfl (ones_cons rfl (ones_cons rfl (ones_cons rfl ones_nil)))) rfl rfl rfl ?_)
  refine XL.as (.bool (false)) rfl ?_
  refine XL.nil ?_
  refine X.ret (thenQ_ret (retEnd (L' := L) [.agg #[(.slice none 0 0), (.slice none 0 0), .int .i64 (0), (.slice none 0 0)], .bool (false)] (.tuple #[.agg #[(.slice none 0 0), (.slice none 0 0), .int .i64 (0), (.slice none 0 0)], .bool (false)]) (.cell rfl (loadNV [(.slice none 0 0), (.slice none 0 0), .int .i64 (0), (.slice none 0 0)] Tryz.isAgg62 Tryz.sizeOf62 rfl (Rd.ownN [] rfl rfl)) (.tmp rfl .nil)) rfl rF rF (Sub.drop (Sub.drop sR)) ?_))
  have e : loopF ar rs t n = noLoop := loopF_no (by simp_all)
  exact ⟨_, _, _, by rw [e], by rw [e]; exact IntsF.nilV, by rw [e]; exact SlOf.nilV, by rw [e]; exact SlOf.nilV, rfl⟩
 ·rw [Bool.not_eq_true] at h1
  have hsys : sysOk ar rs = true := by simpa using h1
  have hrs12 := (sysOk_iff.1 hsys).2.1
  refine XL.yes (t := 20) rfl (vB h1) (XOp.fieldP (b := b1) (0) Tryz.runUnderlying37 rfl Tryz.sizeOf34 (by decide) rfl rfl ?_)
  refine XL.yes (t := 20) rfl (vB h1) (XOp.loadN [arv] Tryz.isAgg34 Tryz.sizeOf34 rfl rfl (Rd.ownN [_] rfl rfl) ?_)
  refine XL.yes (t := 20) rfl (vB h1) (XOp.move (tv) rfl ?_)
  refine XL.yes (t := 20) rfl (vB h1) (XOp.call (args := [.agg #[arv], tv]) Tryz.call70 rfl (sTermOk_spec har ht (hla := (by first | assumption | rfl | omega | simp)) (hlt := (by first | assumption | rfl | omega | simp))) ?_)
  rintro _ _ _ _ ⟨rfl, rfl, rfl⟩
  refine XL.yes (t := 20) rfl (vB h1) (XOp.notB (b := termOk ar t) rfl ?_)
  refine XL.cons (XOp.pickF (.bool (!(termOk ar t))) (vB h1) rfl ?_)
  refine XL.mv (.bool (!(termOk ar t))) rfl ?_
  by_cases h2 : (!(termOk ar t)) = true
  ·refine XL.no (t := 27) rfl (vB h2) ?_
   refine XL.no (t := 27) rfl (vB h2) ?_
   refine XL.no (t := 27) rfl (vB h2) ?_
   refine XL.cons (XOp.pickT (.bool (true)) (vB h2) rfl ?_)
   refine XL.nil ?_
   refine X.condT rfl ?_
   refine X.seq (X.region ?_)
   refine XL.cons (XOp.build [(.slice none 0 0), (.slice none 0 0), .int .i64 (0), (.slice none 0 0)] [(.slice none 0 0), (.slice none 0 0), .int .i64 (0), (.slice none 0 0)] [(0, 2), (2, 1), (3, 1)] [] Tryz.runUnderlying62 Tryz.zeroValue62 rfl (.cons rfl Tryz.sizeOf57 (.cons rfl Tryz.sizeOf2 (.cons rfl Tryz.sizeOf60 PlacesAre.nil))) rfl CellsAre.nil ?_)
   refine XL.cons (XOp.storeN (vs := [(.slice none 0 0), (.slice none 0 0), .int .i64 (0), (.slice none 0 0)]) [] _ [(.slice none 0 0), (.slice none 0 0), .int .i64 (0), (.slice none 0 0)] Tryz.sizeOf62 rfl rfl rfl (ones_cons rfl (ones_cons rfl (ones_cons rfl (ones_cons rfl ones_nil)))) rfl rfl rfl ?_)
   refine XL.as (.bool (false)) rfl ?_
   refine XL.nil ?_
   refine X.ret (thenQ_ret (retEnd (L' := L) [.agg #[(.slice none 0 0), (.slice none 0 0), .int .i64 (0), (.slice none 0 0)], .bool (false)] (.tuple #[.agg #[(.slice none 0 0), (.slice none 0 0), .int .i64 (0), (.slice none 0 0)], .bool (false)]) (.cell rfl (loadNV [(.slice none 0 0), (.slice none 0 0), .int .i64 (0), (.slice none 0 0)] Tryz.isAgg62 Tryz.sizeOf62 rfl (Rd.ownN [] rfl rfl)) (.tmp rfl .nil)) rfl rF rF (Sub.drop (Sub.drop sR)) ?_))
   have e : loopF ar rs t n = noLoop := loopF_no (by simp_all)
   exact ⟨_, _, _, by rw [e], by rw [e]; exact IntsF.nilV, by rw [e]; exact SlOf.nilV, by rw [e]; exact SlOf.nilV, rfl⟩
  ·rw [Bool.not_eq_true] at h2
   have ho : termOk ar t = true := by simpa using h2
   refine XL.yes (t := 27) rfl (vB h2) (XOp.move (.int .i64 (n)) rfl ?_)
   refine XL.yes (t := 27) rfl (vB h2) (XOp.call (args := [.int .i64 (n)]) Tryz.call71 rfl (l19Steps_spec (n := n)) ?_)
   rintro _ _ _ _ ⟨rfl, rfl, rfl⟩
   refine XL.yes (t := 27) rfl (vB h2) (XOp.notD (p := 1 ≤ n ∧ n ≤ 20) rfl ?_)
   refine XL.cons (XOp.pickF (.bool (decide (¬(1 ≤ n ∧ n ≤ 20)))) (vB h2) rfl ?_)
   refine XL.nil ?_
   refine X.condD (p := ¬(1 ≤ n ∧ n ≤ 20)) rfl (fun h3 => ?_) (fun h3 => ?_)
   ·refine X.seq (X.region ?_)
    refine XL.cons (XOp.build [(.slice none 0 0), (.slice none 0 0), .int .i64 (0), (.slice none 0 0)] [(.slice none 0 0), (.slice none 0 0), .int .i64 (0), (.slice none 0 0)] [(0, 2), (2, 1), (3, 1)] [] Tryz.runUnderlying62 Tryz.zeroValue62 rfl (.cons rfl Tryz.sizeOf57 (.cons rfl Tryz.sizeOf2 (.cons rfl Tryz.sizeOf60 PlacesAre.nil))) rfl CellsAre.nil ?_)
    refine XL.cons (XOp.storeN (vs := [(.slice none 0 0), (.slice none 0 0), .int .i64 (0), (.slice none 0 0)]) [] _ [(.slice none 0 0), (.slice none 0 0), .int .i64 (0), (.slice none 0 0)] Tryz.sizeOf62 rfl rfl rfl (ones_cons rfl (ones_cons rfl (ones_cons rfl (ones_cons rfl ones_nil)))) rfl rfl rfl ?_)
    refine XL.as (.bool (false)) rfl ?_
    refine XL.nil ?_
    refine X.ret (thenQ_ret (retEnd (L' := L) [.agg #[(.slice none 0 0), (.slice none 0 0), .int .i64 (0), (.slice none 0 0)], .bool (false)] (.tuple #[.agg #[(.slice none 0 0), (.slice none 0 0), .int .i64 (0), (.slice none 0 0)], .bool (false)]) (.cell rfl (loadNV [(.slice none 0 0), (.slice none 0 0), .int .i64 (0), (.slice none 0 0)] Tryz.isAgg62 Tryz.sizeOf62 rfl (Rd.ownN [] rfl rfl)) (.tmp rfl .nil)) rfl rF rF (Sub.drop (Sub.drop sR)) ?_))
    have e : loopF ar rs t n = noLoop := loopF_no (by simp_all)
    exact ⟨_, _, _, by rw [e], by rw [e]; exact IntsF.nilV, by rw [e]; exact SlOf.nilV, by rw [e]; exact SlOf.nilV, rfl⟩
   ·have hn20 : 1 ≤ n ∧ n ≤ 20 := by first | exact Classical.not_not.1 h3 | simpa using h3
    have hgd := reachL_good (ar := ar) (rs := rs) (t := t) (n := n - 1) (by omega)
    have hrk := reachL_ok (n := n - 1) hsys ho
    have hrl := hrk.1
    have hrs12 := (sysOk_iff.1 hsys).2.1
    have hrf : reachF ar rs t (n - 1) = reachL ar rs t (n - 1) := reachF_yes (reachOk_iff.2 ⟨⟨hsys, ho⟩, by omega⟩)
    have hxl : (terms (reachF ar rs t (n - 1)).1).length = (reachL ar rs t (n - 1)).1.length := by rw [hrf, terms_len]
    have hxg : ∀ i, (terms (reachF ar rs t (n - 1)).1).getD i [] = (EL (reachL ar rs t (n - 1)).1 i).1 := fun i => by rw [hrf, terms_get]
    have htl9 := termOk_len ho
    refine X.skip (X.seq (X.region ?_))
    refine XL.cons (XOp.loadN [arv, rsv] Tryz.isAgg37 Tryz.sizeOf37 rfl rfl (Rd.ownN [_] rfl rfl) ?_)
    refine XL.mv (tv) rfl ?_
    refine XL.mv (.int .i64 (n)) rfl ?_
    refine XL.cons (XOp.subR (a := n) (b := 1) (n - 1) rfl rfl (by omega) (by omega) ?_)
    refine XL.cons (XOp.call (args := [.agg #[arv, rsv], tv, .int .i64 (n - 1)]) Tryz.call72 rfl (sReachOf_spec (n := n - 1) har hrs ht (hla := (by first | assumption | rfl | omega | simp)) (hlr := (by first | assumption | rfl | omega | simp)) (hrb := (by first | assumption | rfl | omega | simp)) (hlt := (by first | assumption | rfl | omega | simp))) ?_)
    rintro _ F1 _ le1 ⟨x1, rfl, hr1, rfl⟩
    replace har := har.mono le1
    replace hrs := hrs.mono le1
    replace ht := ht.mono le1
    refine XL.mv (.tuple #[x1, .bool ((reachF ar rs t (n - 1)).2)]) rfl ?_
    refine XL.cons (XOp.extract (x1) rfl rfl ?_)
    refine XL.cons (XOp.extract (.bool ((reachF ar rs t (n - 1)).2)) rfl rfl ?_)
    refine XL.as (x1) rfl ?_
    refine XL.as (.bool ((reachF ar rs t (n - 1)).2)) rfl ?_
    refine XL.nil (X.seq (X.seq (X.region ?_)))
    refine XL.as (.int .i64 (0)) rfl ?_
    refine XL.nil (X.block ?_)
    refine X.loop (α := Nat × FH) (fun xQ => [(1, tv), (2, .int .i64 (n)), (3, ptr b1 0), (6, ptr b2 0), (8, x1), (10, .int .i64 (((xQ.1 : Nat) : Int)))]) (fun xQ => cellsH b2 [(.slice none 0 0), (.slice none 0 0), .int .i64 (0), (.slice none 0 0)] 62 :: cellsH b1 [arv, rsv] 37 :: L) (fun xQ F' => xQ.2 = F' ∧ F1 ≤ xQ.2 ∧ (xQ.1 ≤ (terms (reachF ar rs t (n - 1)).1).length) ∧ (∀ i, i < xQ.1 → nextI ar t (stepsL ar rs (EL (reachL ar rs t (n - 1)).1 i).1) < 0)) (fun xQ => (terms (reachF ar rs t (n - 1)).1).length - xQ.1) (0, F1) ⟨rfl, rfl, rfl, rfl, rfl, rfl, trivial⟩ (Sub.cons (Sub.cons sR)) ⟨rfl, FLe.refl _, (by (try dsimp only) <;> omega), (fun i hi => absurd hi (by omega))⟩ ?_
    rintro ⟨k, G1⟩ rE _ _ ⟨rfl, leG, hk, hno⟩
    show X _ _ _ _ (envs [(1, tv), (2, .int .i64 (n)), (3, ptr b1 0), (6, ptr b2 0), (8, x1), (10, .int .i64 ((k : Int)))] rE) _ (cellsH b2 [(.slice none 0 0), (.slice none 0 0), .int .i64 (0), (.slice none 0 0)] 62 :: cellsH b1 [arv, rsv] 37 :: L)
    replace leG : F1 ≤ G1 := leG
    dsimp only at hk hno
    have hgk := hxg k
    have hka := fun (h : k < (reachL ar rs t (n - 1)).1.length) => (show termOk ar (EL (reachL ar rs t (n - 1)).1 k).1 = true from hrk.2 k h)
    have hkt := fun (h : k < (terms (reachF ar rs t (n - 1)).1).length) => (show termOk ar ((terms (reachF ar rs t (n - 1)).1).getD k []) = true from by rw [hgk]; exact hka (by omega))
    have hkl := fun (h : k < (terms (reachF ar rs t (n - 1)).1).length) => termOk_len (hkt h)
    have leG1 := leG
    replace har := har.mono leG1
    replace hrs := hrs.mono leG1
    replace ht := ht.mono leG1
    replace hr1 := hr1.mono leG1
    refine X.seq (X.seq (X.region ?_))
    refine XL.mv (.int .i64 ((k : Int))) rfl ?_
    refine XL.mv (x1) rfl ?_
    refine XL.cons (XOp.lenS (v := x1) (n := (terms (reachF ar rs t (n - 1)).1).length) Tryz.runUnderlying58 rfl hr1.slv ?_)
    refine XL.cons (XOp.lss (a := (k : Int)) (b := (((terms (reachF ar rs t (n - 1)).1).length : Nat) : Int)) rfl rfl ?_)
    refine XL.nil ?_
    refine X.condD (p := (k : Int) < (((terms (reachF ar rs t (n - 1)).1).length : Nat) : Int)) rfl (fun h4 => ?_) (fun h4 => ?_)
    ·refine X.skip (X.seq (X.block (X.seq ?_)))
     obtain ⟨a1, ha1, hr2⟩ := hr1.rd (i := k) (by omega)
     refine X.draw [cellsH b2 [(.slice none 0 0), (.slice none 0 0), .int .i64 (0), (.slice none 0 0)] 62, cellsH b1 [arv, rsv] 37] L 5 [[], [], [], [], []] [[], [], [], [1, 2], [3]] (phiL [fun us v => v = (.agg #[arv, rsv] : Value), fun us v => v = x1, fun us v => v = (.int .i64 ((k : Int)) : Value), fun us v => v = (.pointer (some (elemA x1 (k))) : Value), fun us v => v = a1]) (ownL [fun us v => [], fun us v => [], fun us v => [], fun us v => [], fun us v => []]) mixed rfl rfl (by kernel_rfl) ?_ ?_
     ·refine stepsP.cons (fun vals R hpZ => ?_) ?_
      ·refine XG.op (XOp.loadN [arv, rsv] Tryz.isAgg37 Tryz.sizeOf37 rfl rfl (Rd.ownN [_] rfl rfl) ?_)
       exact ⟨rfl, rfl, rfl⟩
      refine stepsP.cons (fun vals R hpZ => ?_) ?_
      ·refine XG.op (XOp.move (x1) rfl ?_)
       exact ⟨rfl, rfl, rfl⟩
      refine stepsP.cons (fun vals R hpZ => ?_) ?_
      ·refine XG.op (XOp.move (.int .i64 ((k : Int))) rfl ?_)
       exact ⟨rfl, rfl, rfl⟩
      refine stepsP.cons (fun vals R hpZ => ?_) ?_
      ·rw [eS (l := [(1, x1), (2, (.int .i64 ((k : Int)) : Value))]) ⟨hpZ 1 (by decide), hpZ 2 (by decide), trivial⟩]
       refine XG.op (XOp.indexS (v := x1) (i := (k : Int)) (n := (terms (reachF ar rs t (n - 1)).1).length) k Tryz.runUnderlying58 Tryz.sizeOf22 rfl rfl rfl hr1.slv (by omega) (Nat.mul_one _) ?_)
       exact ⟨rfl, rfl, rfl⟩
      refine stepsP.cons (fun vals R hpZ => ?_) ?_
      ·rw [eS (l := [(3, (.pointer (some (elemA x1 (k))) : Value))]) ⟨hpZ 3 (by decide), trivial⟩]
       refine XG.op (XOp.load1 (v := a1) Tryz.isAgg22 rfl (hr2 _) ?_)
       exact ⟨rfl, rfl, rfl⟩
      exact stepsP.nil
     ·intro vals hphi
      rw [eS (l := [(0, (.agg #[arv, rsv] : Value)), (1, x1), (2, (.int .i64 ((k : Int)) : Value)), (3, (.pointer (some (elemA x1 (k))) : Value)), (4, a1)]) ⟨(hphi 0 (by decide)), (hphi 1 (by decide)), (hphi 2 (by decide)), (hphi 3 (by decide)), (hphi 4 (by decide)), trivial⟩]
      show XL _ _ _ _ _ _ _ (cellsH b2 [(.slice none 0 0), (.slice none 0 0), .int .i64 (0), (.slice none 0 0)] 62 :: cellsH b1 [arv, rsv] 37 :: L)
      refine XL.cons (XOp.call (args := [.agg #[arv, rsv], a1]) Tryz.call73 rfl (sStepsFrom_spec har hrs ha1 (hsys := (hsys)) (ho := (hkt (by omega))) (hla := (by first | assumption | rfl | omega | simp)) (hlr := (by first | assumption | rfl | omega | simp)) (hrb := (by first | assumption | rfl | omega | simp)) (hlt := (by have := hkl (by omega); omega))) ?_)
      rintro _ F2 _ le2 ⟨x2, rfl, hr3, rfl⟩
      replace har := har.mono le2
      replace hrs := hrs.mono le2
      replace ht := ht.mono le2
      replace hr1 := hr1.mono le2
      replace ha1 := ha1.mono le2
      replace hr2 := Rd.monoA hr2 le2
      refine XL.as (x2) rfl ?_
      refine XL.nil (X.seq (X.region ?_))
      refine XL.as (.int .i64 (0)) rfl ?_
      refine XL.nil (X.block ?_)
      refine X.loop (α := Nat × FH) (fun xQ => [(1, tv), (2, .int .i64 (n)), (3, ptr b1 0), (6, ptr b2 0), (8, x1), (10, .int .i64 ((k : Int))), (11, x2), (12, .int .i64 (((xQ.1 : Nat) : Int)))]) (fun xQ => cellsH b2 [(.slice none 0 0), (.slice none 0 0), .int .i64 (0), (.slice none 0 0)] 62 :: cellsH b1 [arv, rsv] 37 :: L) (fun xQ F' => xQ.2 = F' ∧ F2 ≤ xQ.2 ∧ (xQ.1 ≤ (stepsL ar rs ((terms (reachF ar rs t (n - 1)).1).getD k [])).length) ∧ (∀ i, i < xQ.1 → instI ar t ((stepsL ar rs ((terms (reachF ar rs t (n - 1)).1).getD k [])).getD i (0, 0, [])).2.2 < 0)) (fun xQ => (stepsL ar rs ((terms (reachF ar rs t (n - 1)).1).getD k [])).length - xQ.1) (0, F2) ⟨rfl, rfl, rfl, rfl, rfl, rfl, rfl, rfl, trivial⟩ (Sub.cons (Sub.cons sR)) ⟨rfl, FLe.refl _, (by (try dsimp only) <;> omega), (fun i hi => absurd hi (by omega))⟩ ?_
      rintro ⟨q, G2⟩ rE _ _ ⟨rfl, leG, hq, hnq⟩
      show X _ _ _ _ (envs [(1, tv), (2, .int .i64 (n)), (3, ptr b1 0), (6, ptr b2 0), (8, x1), (10, .int .i64 ((k : Int))), (11, x2), (12, .int .i64 ((q : Int)))] rE) _ (cellsH b2 [(.slice none 0 0), (.slice none 0 0), .int .i64 (0), (.slice none 0 0)] 62 :: cellsH b1 [arv, rsv] 37 :: L)
      replace leG : F2 ≤ G2 := leG
      dsimp only at hq hnq
      have hnl : (stepsL ar rs ((terms (reachF ar rs t (n - 1)).1).getD k [])).length ≤ 1000 := by have h9 := stepsTo_len (ar := ar) (t := (terms (reachF ar rs t (n - 1)).1).getD k []) (rs := rs) hrs12 ((terms (reachF ar rs t (n - 1)).1).getD k []).length; have h8 := hkl (by omega); show (stepsTo ar rs ((terms (reachF ar rs t (n - 1)).1).getD k []) ((terms (reachF ar rs t (n - 1)).1).getD k []).length).length ≤ 1000; omega
      have hqo := fun (h : q < (stepsL ar rs ((terms (reachF ar rs t (n - 1)).1).getD k [])).length) => steps_ok hsys (hkt (by omega)) h
      have hql := fun (h : q < (stepsL ar rs ((terms (reachF ar rs t (n - 1)).1).getD k [])).length) => termOk_len (hqo h)
      have leG2 := leG
      replace har := har.mono leG2
      replace hrs := hrs.mono leG2
      replace ht := ht.mono leG2
      replace hr1 := hr1.mono leG2
      replace ha1 := ha1.mono leG2
      replace hr3 := hr3.mono leG2
      refine X.seq (X.seq (X.region ?_))
      refine XL.mv (.int .i64 ((q : Int))) rfl ?_
      refine XL.mv (x2) rfl ?_
      refine XL.cons (XOp.lenS (v := x2) (n := (stepsL ar rs (((terms (reachF ar rs t (n - 1)).1).getD k []))).length) Tryz.runUnderlying55 rfl hr3.slv ?_)
      refine XL.cons (XOp.lss (a := (q : Int)) (b := (((stepsL ar rs (((terms (reachF ar rs t (n - 1)).1).getD k []))).length : Nat) : Int)) rfl rfl ?_)
      refine XL.nil ?_
      refine X.condD (p := (q : Int) < (((stepsL ar rs (((terms (reachF ar rs t (n - 1)).1).getD k []))).length : Nat) : Int)) rfl (fun h5 => ?_) (fun h5 => ?_)
      ·refine X.skip (X.seq (X.block (X.seq ?_)))
       obtain ⟨a2, ha2, hr4, hr5, hr6⟩ := hr3.rd (i := q) (by omega)
       refine X.drawG [cellsH b2 [(.slice none 0 0), (.slice none 0 0), .int .i64 (0), (.slice none 0 0)] 62, cellsH b1 [arv, rsv] 37] L 13 [[], [], [], [], [], [], [], [], [7], [], [7], [], []] [[], [], [], [], [2, 3], [4], [5], [0, 1, 6], [7], [7, 8], [7, 8], [], [9]] [[], [], [], [], [], [], [], [], [], [], [], [], []] (phiG [fun FF us v => v = (.agg #[arv, rsv] : Value), fun FF us v => v = tv, fun FF us v => v = x2, fun FF us v => v = (.int .i64 ((q : Int)) : Value), fun FF us v => v = (.pointer (some (elemA x2 (q * 3))) : Value), fun FF us v => v = (.pointer (some (elemA x2 (q * 3 + 2))) : Value), fun FF us v => v = a2, fun FF us v => (.tuple #[.int .i64 (instI ar t (((stepsL ar rs (((terms (reachF ar rs t (n - 1)).1).getD k []))).getD q (0, 0, [])).2.2)), .agg #[((aggAt (tupAt v 1) 0))]] : Value) = v ∧ (RowsF FF ((aggAt (tupAt v 1) 0)) (placeS ar t (((stepsL ar rs (((terms (reachF ar rs t (n - 1)).1).getD k []))).getD q (0, 0, [])).2.2))), fun FF us v => v = (.tuple #[.int .i64 (instI ar t (((stepsL ar rs (((terms (reachF ar rs t (n - 1)).1).getD k []))).getD q (0, 0, [])).2.2)), .agg #[((aggAt (tupAt (us.getD 0 undef) 1) 0))]] : Value), fun FF us v => v = (.int .i64 (instI ar t (((stepsL ar rs (((terms (reachF ar rs t (n - 1)).1).getD k []))).getD q (0, 0, [])).2.2)) : Value), fun FF us v => v = (.agg #[((aggAt (tupAt (us.getD 0 undef) 1) 0))] : Value), fun FF us v => v = ptr (blk v) 0, fun FF us v => v = (.int .i64 (instI ar t (((stepsL ar rs (((terms (reachF ar rs t (n - 1)).1).getD k []))).getD q (0, 0, [])).2.2)) : Value)]) (ownL [fun us v => [], fun us v => [], fun us v => [], fun us v => [], fun us v => [], fun us v => [], fun us v => [], fun us v => [], fun us v => [], fun us v => [], fun us v => [], fun us v => [cellsH (blk v) [(.slice none 0 0)] 60], fun us v => []]) mixed rfl rfl (by kernel_rfl) (by kernel_rfl) (MonoG.get (MonoG.cons (fun le h => h) (MonoG.cons (fun le h => h) (MonoG.cons (fun le h => h) (MonoG.cons (fun le h => h) (MonoG.cons (fun le h => h) (MonoG.cons (fun le h => h) (MonoG.cons (fun le h => h) (MonoG.cons (fun le h => ⟨h.1, h.2.mono le⟩) (MonoG.cons (fun le h => h) (MonoG.cons (fun le h => h) (MonoG.cons (fun le h => h) (MonoG.cons (fun le h => h) (MonoG.cons (fun le h => h) MonoG.nil)))))))))))))) ?_ ?_
       ·refine stepsG.cons (fun vals Fs R leFs hpZ => ?_) ?_
        ·replace har := har.mono leFs
         replace hrs := hrs.mono leFs
         replace ht := ht.mono leFs
         replace hr1 := hr1.mono leFs
         replace ha1 := ha1.mono leFs
         replace hr3 := hr3.mono leFs
         replace ha2 := ha2.mono leFs
         replace hr4 := Rd.monoA hr4 leFs
         replace hr5 := Rd.monoA hr5 leFs
         replace hr6 := Rd.monoA hr6 leFs
         refine XG.op (XOp.loadN [arv, rsv] Tryz.isAgg37 Tryz.sizeOf37 rfl rfl (Rd.ownN [_] rfl rfl) ?_)
         exact ⟨rfl, rfl⟩
        refine stepsG.cons (fun vals Fs R leFs hpZ => ?_) ?_
        ·refine XG.op (XOp.move (tv) rfl ?_)
         exact ⟨rfl, rfl⟩
        refine stepsG.cons (fun vals Fs R leFs hpZ => ?_) ?_
        ·refine XG.op (XOp.move (x2) rfl ?_)
         exact ⟨rfl, rfl⟩
        refine stepsG.cons (fun vals Fs R leFs hpZ => ?_) ?_
        ·refine XG.op (XOp.move (.int .i64 ((q : Int))) rfl ?_)
         exact ⟨rfl, rfl⟩
        refine stepsG.cons (fun vals Fs R leFs hpZ => ?_) ?_
        ·replace har := har.mono leFs
         replace hrs := hrs.mono leFs
         replace ht := ht.mono leFs
         replace hr1 := hr1.mono leFs
         replace ha1 := ha1.mono leFs
         replace hr3 := hr3.mono leFs
         replace ha2 := ha2.mono leFs
         replace hr4 := Rd.monoA hr4 leFs
         replace hr5 := Rd.monoA hr5 leFs
         replace hr6 := Rd.monoA hr6 leFs
         rw [eS (l := [(2, x2), (3, (.int .i64 ((q : Int)) : Value))]) ⟨(hpZ 2 (by decide)), (hpZ 3 (by decide)), trivial⟩]
         refine XG.op (XOp.indexS (v := x2) (i := (q : Int)) (n := (stepsL ar rs (((terms (reachF ar rs t (n - 1)).1).getD k []))).length) q Tryz.runUnderlying55 Tryz.sizeOf116 rfl rfl rfl hr3.slv (by omega) rfl ?_)
         exact ⟨rfl, rfl⟩
        refine stepsG.cons (fun vals Fs R leFs hpZ => ?_) ?_
        ·rw [eS (l := [(4, (.pointer (some (elemA x2 (q * 3))) : Value))]) ⟨(hpZ 4 (by decide)), trivial⟩]
         refine XG.op (XOp.fieldE (v := x2) (q * 3 + 2) Tryz.runUnderlying116 rfl Tryz.sizeOf22 (by decide) rfl rfl ?_)
         exact ⟨rfl, rfl⟩
        refine stepsG.cons (fun vals Fs R leFs hpZ => ?_) ?_
        ·replace har := har.mono leFs
         replace hrs := hrs.mono leFs
         replace ht := ht.mono leFs
         replace hr1 := hr1.mono leFs
         replace ha1 := ha1.mono leFs
         replace hr3 := hr3.mono leFs
         replace ha2 := ha2.mono leFs
         replace hr4 := Rd.monoA hr4 leFs
         replace hr5 := Rd.monoA hr5 leFs
         replace hr6 := Rd.monoA hr6 leFs
         rw [eS (l := [(5, (.pointer (some (elemA x2 (q * 3 + 2))) : Value))]) ⟨(hpZ 5 (by decide)), trivial⟩]
         refine XG.op (XOp.load1 (v := a2) Tryz.isAgg22 rfl (hr6 _) ?_)
         exact ⟨rfl, rfl⟩
        refine stepsG.cons (fun vals Fs R leFs hpZ => ?_) ?_
        ·replace har := har.mono leFs
         replace hrs := hrs.mono leFs
         replace ht := ht.mono leFs
         replace hr1 := hr1.mono leFs
         replace ha1 := ha1.mono leFs
         replace hr3 := hr3.mono leFs
         replace ha2 := ha2.mono leFs
         replace hr4 := Rd.monoA hr4 leFs
         replace hr5 := Rd.monoA hr5 leFs
         replace hr6 := Rd.monoA hr6 leFs
         rw [eS (l := [(0, (.agg #[arv, rsv] : Value)), (1, tv), (6, a2)]) ⟨(hpZ 0 (by decide)), (hpZ 1 (by decide)), (hpZ 6 (by decide)), trivial⟩]
         refine XG.op (XOp.call (args := [.agg #[arv, rsv], tv, a2]) Tryz.call74 rfl (l19Found_spec har hrs ht ha2 (ho := (ho)) (huo := (hqo (by omega))) (hla := (by first | assumption | rfl | omega | simp))) ?_)
         rintro _ F4 _ le4 ⟨x4, rfl, hr8, rfl⟩
         replace har := har.mono le4
         replace hrs := hrs.mono le4
         replace ht := ht.mono le4
         replace hr1 := hr1.mono le4
         replace ha1 := ha1.mono le4
         replace hr3 := hr3.mono le4
         replace ha2 := ha2.mono le4
         replace hr4 := Rd.monoA hr4 le4
         replace hr5 := Rd.monoA hr5 le4
         replace hr6 := Rd.monoA hr6 le4
         exact ⟨⟨rfl, hr8⟩, rfl⟩
        refine stepsG.cons (fun vals Fs R leFs hpZ => ?_) ?_
        ·obtain ⟨e7, f7_2hr⟩ := hpZ 7 (by decide)
         rw [eS (l := [(7, (.tuple #[.int .i64 (instI ar t (((stepsL ar rs (((terms (reachF ar rs t (n - 1)).1).getD k []))).getD q (0, 0, [])).2.2)), .agg #[((aggAt (tupAt (vals 7) 1) 0))]] : Value))]) ⟨(e7).symm, trivial⟩]
         refine XG.op (XOp.move (.tuple #[.int .i64 (instI ar t (((stepsL ar rs (((terms (reachF ar rs t (n - 1)).1).getD k []))).getD q (0, 0, [])).2.2)), .agg #[((aggAt (tupAt (vals 7) 1) 0))]]) rfl ?_)
         exact ⟨rfl, rfl⟩
        refine stepsG.cons (fun vals Fs R leFs hpZ => ?_) ?_
        ·obtain ⟨e7, f7_2hr⟩ := hpZ 7 (by decide)
         have e8 : vals 8 = (.tuple #[.int .i64 (instI ar t (((stepsL ar rs (((terms (reachF ar rs t (n - 1)).1).getD k []))).getD q (0, 0, [])).2.2)), .agg #[((aggAt (tupAt (vals 7) 1) 0))]] : Value) := hpZ 8 (by decide)
         rw [eS (l := [(7, (.tuple #[.int .i64 (instI ar t (((stepsL ar rs (((terms (reachF ar rs t (n - 1)).1).getD k []))).getD q (0, 0, [])).2.2)), .agg #[((aggAt (tupAt (vals 7) 1) 0))]] : Value)), (8, (.tuple #[.int .i64 (instI ar t (((stepsL ar rs (((terms (reachF ar rs t (n - 1)).1).getD k []))).getD q (0, 0, [])).2.2)), .agg #[((aggAt (tupAt (vals 7) 1) 0))]] : Value))]) ⟨(e7).symm, e8, trivial⟩]
         refine XG.op (XOp.extract (.int .i64 (instI ar t (((stepsL ar rs (((terms (reachF ar rs t (n - 1)).1).getD k []))).getD q (0, 0, [])).2.2))) rfl rfl ?_)
         exact ⟨rfl, rfl⟩
        refine stepsG.cons (fun vals Fs R leFs hpZ => ?_) ?_
        ·obtain ⟨e7, f7_2hr⟩ := hpZ 7 (by decide)
         have e8 : vals 8 = (.tuple #[.int .i64 (instI ar t (((stepsL ar rs (((terms (reachF ar rs t (n - 1)).1).getD k []))).getD q (0, 0, [])).2.2)), .agg #[((aggAt (tupAt (vals 7) 1) 0))]] : Value) := hpZ 8 (by decide)
         rw [eS (l := [(7, (.tuple #[.int .i64 (instI ar t (((stepsL ar rs (((terms (reachF ar rs t (n - 1)).1).getD k []))).getD q (0, 0, [])).2.2)), .agg #[((aggAt (tupAt (vals 7) 1) 0))]] : Value)), (8, (.tuple #[.int .i64 (instI ar t (((stepsL ar rs (((terms (reachF ar rs t (n - 1)).1).getD k []))).getD q (0, 0, [])).2.2)), .agg #[((aggAt (tupAt (vals 7) 1) 0))]] : Value))]) ⟨(e7).symm, e8, trivial⟩]
         refine XG.op (XOp.extract (.agg #[((aggAt (tupAt (vals 7) 1) 0))]) rfl rfl ?_)
         exact ⟨rfl, rfl⟩
        refine stepsG.cons (fun vals Fs R leFs hpZ => ?_) ?_
        ·replace har := har.mono leFs
         replace hrs := hrs.mono leFs
         replace ht := ht.mono leFs
         replace hr1 := hr1.mono leFs
         replace ha1 := ha1.mono leFs
         replace hr3 := hr3.mono leFs
         replace ha2 := ha2.mono leFs
         replace hr4 := Rd.monoA hr4 leFs
         replace hr5 := Rd.monoA hr5 leFs
         replace hr6 := Rd.monoA hr6 leFs
         refine XG.op (XOp.alloc [(.slice none 0 0)] Tryz.zeroValue60 rfl ?_)
         intro b4
         exact ⟨rfl, rfl⟩
        refine stepsG.cons (fun vals Fs R leFs hpZ => ?_) ?_
        ·rw [eS (l := [(9, (.int .i64 (instI ar t (((stepsL ar rs (((terms (reachF ar rs t (n - 1)).1).getD k []))).getD q (0, 0, [])).2.2)) : Value))]) ⟨(hpZ 9 (by decide)), trivial⟩]
         refine XG.op (XOp.assign (.int .i64 (instI ar t (((stepsL ar rs (((terms (reachF ar rs t (n - 1)).1).getD k []))).getD q (0, 0, [])).2.2))) rfl ?_)
         exact ⟨rfl, rfl⟩
        exact stepsG.nil
       ·intro vals F5 le5 hphi
        obtain ⟨e7, f7_2hr⟩ := hphi 7 (by decide)
        have e8 : vals 8 = (.tuple #[.int .i64 (instI ar t (((stepsL ar rs (((terms (reachF ar rs t (n - 1)).1).getD k []))).getD q (0, 0, [])).2.2)), .agg #[((aggAt (tupAt (vals 7) 1) 0))]] : Value) := hphi 8 (by decide)
        have e10 : vals 10 = (.agg #[((aggAt (tupAt (vals 7) 1) 0))] : Value) := hphi 10 (by decide)
        have e11 : vals 11 = ptr (blk (vals 11)) 0 := hphi 11 (by decide)
        generalize hu1 : ((aggAt (tupAt (vals 7) 1) 0)) = u1 at e7 f7_2hr e8 e10 e11
        generalize hu2 : blk (vals 11) = b5 at e7 f7_2hr e8 e10 e11
        rw [eS (l := [(0, (.agg #[arv, rsv] : Value)), (1, tv), (2, x2), (3, (.int .i64 ((q : Int)) : Value)), (4, (.pointer (some (elemA x2 (q * 3))) : Value)), (5, (.pointer (some (elemA x2 (q * 3 + 2))) : Value)), (6, a2), (7, (.tuple #[.int .i64 (instI ar t (((stepsL ar rs (((terms (reachF ar rs t (n - 1)).1).getD k []))).getD q (0, 0, [])).2.2)), .agg #[u1]] : Value)), (8, (.tuple #[.int .i64 (instI ar t (((stepsL ar rs (((terms (reachF ar rs t (n - 1)).1).getD k []))).getD q (0, 0, [])).2.2)), .agg #[u1]] : Value)), (9, (.int .i64 (instI ar t (((stepsL ar rs (((terms (reachF ar rs t (n - 1)).1).getD k []))).getD q (0, 0, [])).2.2)) : Value)), (10, (.agg #[u1] : Value)), (11, ptr b5 0), (12, (.int .i64 (instI ar t (((stepsL ar rs (((terms (reachF ar rs t (n - 1)).1).getD k []))).getD q (0, 0, [])).2.2)) : Value))]) ⟨(hphi 0 (by decide)), (hphi 1 (by decide)), (hphi 2 (by decide)), (hphi 3 (by decide)), (hphi 4 (by decide)), (hphi 5 (by decide)), (hphi 6 (by decide)), (e7).symm, e8, (hphi 9 (by decide)), e10, e11, (hphi 12 (by decide)), trivial⟩]
        replace har := har.mono le5
        replace hrs := hrs.mono le5
        replace ht := ht.mono le5
        replace hr1 := hr1.mono le5
        replace ha1 := ha1.mono le5
        replace hr3 := hr3.mono le5
        replace ha2 := ha2.mono le5
        replace hr4 := Rd.monoA hr4 le5
        replace hr5 := Rd.monoA hr5 le5
        replace hr6 := Rd.monoA hr6 le5
        show XL _ _ _ _ _ _ _ (cellsH b5 [(.slice none 0 0)] 60 :: cellsH b2 [(.slice none 0 0), (.slice none 0 0), .int .i64 (0), (.slice none 0 0)] 62 :: cellsH b1 [arv, rsv] 37 :: L)
        refine XL.cons (XOp.storeN (vs := [u1]) [] _ [u1] Tryz.sizeOf60 rfl rfl rfl (ones_cons (one_sl (RowsF.isSl f7_2hr)) ones_nil) rfl rfl rfl ?_)
        refine XL.nil (X.seq (X.seq (X.region ?_)))
        refine XL.mv (.int .i64 (instI ar t (((stepsL ar rs (((terms (reachF ar rs t (n - 1)).1).getD k []))).getD q (0, 0, [])).2.2))) rfl ?_
        refine XL.cons (XOp.lss (a := instI ar t (((stepsL ar rs (((terms (reachF ar rs t (n - 1)).1).getD k []))).getD q (0, 0, [])).2.2)) (b := 0) rfl rfl ?_)
        refine XL.nil ?_
        refine X.condD (p := (instI ar t (((stepsL ar rs (((terms (reachF ar rs t (n - 1)).1).getD k []))).getD q (0, 0, [])).2.2) : Int) < 0) rfl (fun h6 => ?_) (fun h6 => ?_)
        ·refine X.exit (thenQ_exit (blockQ_exit ?_))
         refine X.region ?_
         refine XL.mv (.int .i64 ((q : Int))) rfl ?_
         refine XL.cons (XOp.addR (a := (q : Int)) (b := 1) (((q + 1 : Nat) : Int)) rfl rfl (by omega) (by omega) ?_)
         refine XL.as (.int .i64 (((q + 1 : Nat) : Int))) rfl ?_
         refine XL.nil ?_
         exact ⟨(q + 1, F5), _, (FLe.trans leG2 le5), rF, ⟨rfl, rfl, rfl, rfl, rfl, rfl, rfl, rfl, trivial⟩, (Sub.drop (Sub.cons (Sub.cons sR))), ⟨rfl, (FLe.trans leG2 le5), (by (try dsimp only) <;> omega), (fun i hi => (Nat.lt_or_ge i q).elim (fun h => hnq i h) (fun h => by obtain rfl : i = q := (by omega); omega))⟩, (by omega)⟩
        ·have hql9 := hql (by omega)
         have hk9 : k < (reachL ar rs t (n - 1)).1.length := by omega
         have hw9 : (walkToF ar rs t ((terms (reachF ar rs t (n - 1)).1).getD k []) (n - 1)) = (t, walkL (reachL ar rs t (n - 1)).1 k, true) := by rw [walkToF_yes (reachOk2_iff.2 ⟨⟨hsys, ho, by rw [hgk]; exact hka hk9⟩, by omega⟩), hgk, walkTo0_yes (by rw [foundI_dist hgd.2.1 hk9]; omega), foundI_dist hgd.2.1 hk9]; rfl
         have hwl9 := (walkL_len hgd.1 hgd.2.2.1 hk9).2
         have hwl8 : (walkToF ar rs t ((terms (reachF ar rs t (n - 1)).1).getD k []) (n - 1)).2.1.length = (walkL (reachL ar rs t (n - 1)).1 k).length := by rw [hw9]
         refine X.skip (X.seq ?_)
         obtain ⟨a3, ha3, hr9⟩ := hr1.rd (i := k) (by omega)
         refine X.drawG [cellsH b5 [u1] 60, cellsH b2 [(.slice none 0 0), (.slice none 0 0), .int .i64 (0), (.slice none 0 0)] 62, cellsH b1 [arv, rsv] 37] L 14 [[], [], [], [], [], [], [], [], [], [8], [8], [], [], [8, 12]] [[], [], [], [], [2, 3], [4], [], [6], [0, 1, 5, 7], [8], [8, 9], [8, 9], [], [8, 10, 12]] [[], [], [], [], [], [], [], [], [], [], [], [], [], [12]] (phiG [fun FF us v => v = (.agg #[arv, rsv] : Value), fun FF us v => v = tv, fun FF us v => v = x1, fun FF us v => v = (.int .i64 ((k : Int)) : Value), fun FF us v => v = (.pointer (some (elemA x1 (k))) : Value), fun FF us v => v = a3, fun FF us v => v = (.int .i64 (n) : Value), fun FF us v => v = (.int .i64 (n - 1) : Value), fun FF us v => (.tuple #[.agg #[((aggAt (tupAt v 0) 0)), ((aggAt (tupAt v 0) 1))], .bool ((walkToF ar rs t (((terms (reachF ar rs t (n - 1)).1).getD k [])) (n - 1)).2.2)] : Value) = v ∧ (IsSl ((aggAt (tupAt v 0) 0))) ∧ (IsSl ((aggAt (tupAt v 0) 1))), fun FF us v => v = (.tuple #[.agg #[((aggAt (tupAt (us.getD 0 undef) 0) 0)), ((aggAt (tupAt (us.getD 0 undef) 0) 1))], .bool ((walkToF ar rs t (((terms (reachF ar rs t (n - 1)).1).getD k [])) (n - 1)).2.2)] : Value), fun FF us v => v = (.agg #[((aggAt (tupAt (us.getD 0 undef) 0) 0)), ((aggAt (tupAt (us.getD 0 undef) 0) 1))] : Value), fun FF us v => v = (.bool ((walkToF ar rs t (((terms (reachF ar rs t (n - 1)).1).getD k [])) (n - 1)).2.2) : Value), fun FF us v => v = ptr (blk v) 0, fun FF us v => True]) (ownL [fun us v => [], fun us v => [], fun us v => [], fun us v => [], fun us v => [], fun us v => [], fun us v => [], fun us v => [], fun us v => [intsH 2 (((aggAt (tupAt v 0) 0))) ((walkToF ar rs t (((terms (reachF ar rs t (n - 1)).1).getD k [])) (n - 1)).1), stepsD 2 116 (((aggAt (tupAt v 0) 1))) ((walkToF ar rs t (((terms (reachF ar rs t (n - 1)).1).getD k [])) (n - 1)).2.1)], fun us v => [], fun us v => [], fun us v => [], fun us v => [cellsH (blk v) [(.slice none 0 0), (.slice none 0 0)] 57], fun us v => [cellsH (blk (us.getD 1 undef)) [((aggAt (tupAt (us.getD 0 undef) 0) 0)), ((aggAt (tupAt (us.getD 0 undef) 0) 1))] 57]]) mixed rfl rfl (by kernel_rfl) (by kernel_rfl) (MonoG.get (MonoG.cons (fun le h => h) (MonoG.cons (fun le h => h) (MonoG.cons (fun le h => h) (MonoG.cons (fun le h => h) (MonoG.cons (fun le h => h) (MonoG.cons (fun le h => h) (MonoG.cons (fun le h => h) (MonoG.cons (fun le h => h) (MonoG.cons (fun le h => ⟨h.1, h.2.1, h.2.2⟩) (MonoG.cons (fun le h => h) (MonoG.cons (fun le h => h) (MonoG.cons (fun le h => h) (MonoG.cons (fun le h => h) (MonoG.cons (fun le h => h) MonoG.nil))))))))))))))) ?_ ?_
         ·refine stepsG.cons (fun vals Fs R leFs hpZ => ?_) ?_
          ·replace har := har.mono leFs
           replace hrs := hrs.mono leFs
           replace ht := ht.mono leFs
           replace hr1 := hr1.mono leFs
           replace ha1 := ha1.mono leFs
           replace hr3 := hr3.mono leFs
           replace ha2 := ha2.mono leFs
           replace f7_2hr := f7_2hr.mono leFs
           replace ha3 := ha3.mono leFs
           replace hr4 := Rd.monoA hr4 leFs
           replace hr5 := Rd.monoA hr5 leFs
           replace hr6 := Rd.monoA hr6 leFs
           replace hr9 := Rd.monoA hr9 leFs
           refine XG.op (XOp.loadN [arv, rsv] Tryz.isAgg37 Tryz.sizeOf37 rfl rfl (Rd.ownN [_, _] rfl rfl) ?_)
           exact ⟨rfl, rfl⟩
          refine stepsG.cons (fun vals Fs R leFs hpZ => ?_) ?_
          ·refine XG.op (XOp.move (tv) rfl ?_)
           exact ⟨rfl, rfl⟩
          refine stepsG.cons (fun vals Fs R leFs hpZ => ?_) ?_
          ·refine XG.op (XOp.move (x1) rfl ?_)
           exact ⟨rfl, rfl⟩
          refine stepsG.cons (fun vals Fs R leFs hpZ => ?_) ?_
          ·refine XG.op (XOp.move (.int .i64 ((k : Int))) rfl ?_)
           exact ⟨rfl, rfl⟩
          refine stepsG.cons (fun vals Fs R leFs hpZ => ?_) ?_
          ·replace har := har.mono leFs
           replace hrs := hrs.mono leFs
           replace ht := ht.mono leFs
           replace hr1 := hr1.mono leFs
           replace ha1 := ha1.mono leFs
           replace hr3 := hr3.mono leFs
           replace ha2 := ha2.mono leFs
           replace f7_2hr := f7_2hr.mono leFs
           replace ha3 := ha3.mono leFs
           replace hr4 := Rd.monoA hr4 leFs
           replace hr5 := Rd.monoA hr5 leFs
           replace hr6 := Rd.monoA hr6 leFs
           replace hr9 := Rd.monoA hr9 leFs
           rw [eS (l := [(2, x1), (3, (.int .i64 ((k : Int)) : Value))]) ⟨(hpZ 2 (by decide)), (hpZ 3 (by decide)), trivial⟩]
           refine XG.op (XOp.indexS (v := x1) (i := (k : Int)) (n := (terms (reachF ar rs t (n - 1)).1).length) k Tryz.runUnderlying58 Tryz.sizeOf22 rfl rfl rfl hr1.slv (by omega) (Nat.mul_one _) ?_)
           exact ⟨rfl, rfl⟩
          refine stepsG.cons (fun vals Fs R leFs hpZ => ?_) ?_
          ·replace har := har.mono leFs
           replace hrs := hrs.mono leFs
           replace ht := ht.mono leFs
           replace hr1 := hr1.mono leFs
           replace ha1 := ha1.mono leFs
           replace hr3 := hr3.mono leFs
           replace ha2 := ha2.mono leFs
           replace f7_2hr := f7_2hr.mono leFs
           replace ha3 := ha3.mono leFs
           replace hr4 := Rd.monoA hr4 leFs
           replace hr5 := Rd.monoA hr5 leFs
           replace hr6 := Rd.monoA hr6 leFs
           replace hr9 := Rd.monoA hr9 leFs
           rw [eS (l := [(4, (.pointer (some (elemA x1 (k))) : Value))]) ⟨(hpZ 4 (by decide)), trivial⟩]
           refine XG.op (XOp.load1 (v := a3) Tryz.isAgg22 rfl (hr9 _) ?_)
           exact ⟨rfl, rfl⟩
          refine stepsG.cons (fun vals Fs R leFs hpZ => ?_) ?_
          ·refine XG.op (XOp.move (.int .i64 (n)) rfl ?_)
           exact ⟨rfl, rfl⟩
          refine stepsG.cons (fun vals Fs R leFs hpZ => ?_) ?_
          ·rw [eS (l := [(6, (.int .i64 (n) : Value))]) ⟨(hpZ 6 (by decide)), trivial⟩]
           refine XG.op (XOp.subR (a := n) (b := 1) (n - 1) rfl rfl (by omega) (by omega) ?_)
           exact ⟨rfl, rfl⟩
          refine stepsG.cons (fun vals Fs R leFs hpZ => ?_) ?_
          ·replace har := har.mono leFs
           replace hrs := hrs.mono leFs
           replace ht := ht.mono leFs
           replace hr1 := hr1.mono leFs
           replace ha1 := ha1.mono leFs
           replace hr3 := hr3.mono leFs
           replace ha2 := ha2.mono leFs
           replace f7_2hr := f7_2hr.mono leFs
           replace ha3 := ha3.mono leFs
           replace hr4 := Rd.monoA hr4 leFs
           replace hr5 := Rd.monoA hr5 leFs
           replace hr6 := Rd.monoA hr6 leFs
           replace hr9 := Rd.monoA hr9 leFs
           rw [eS (l := [(0, (.agg #[arv, rsv] : Value)), (1, tv), (5, a3), (7, (.int .i64 (n - 1) : Value))]) ⟨(hpZ 0 (by decide)), (hpZ 1 (by decide)), (hpZ 5 (by decide)), (hpZ 7 (by decide)), trivial⟩]
           refine XG.op (XOp.thawL ?_)
           refine id (XOp.call (args := [.agg #[arv, rsv], tv, a3, .int .i64 (n - 1)]) Tryz.call75 rfl (sWalkTo_spec (n := n - 1) har hrs ht ha3 (hla := (by first | assumption | rfl | omega | simp)) (hlr := (by first | assumption | rfl | omega | simp)) (hrb := (by first | assumption | rfl | omega | simp)) (hlt := (by first | assumption | rfl | omega | simp)) (hlu := (by have := hkl (by omega); omega))) ?_)
           rintro _ F7 _ le7 ⟨x7, x8, rfl, hr13, hr14, hr15, rfl⟩
           refine ⟨[intsH 2 x7 ((walkToF ar rs t (((terms (reachF ar rs t (n - 1)).1).getD k [])) (n - 1)).1), stepsD 2 116 x8 ((walkToF ar rs t (((terms (reachF ar rs t (n - 1)).1).getD k [])) (n - 1)).2.1)], hr15, ?_⟩
           exact ⟨⟨rfl, (IntsF.isSl hr13), (StepsF.isSl hr14)⟩, rfl⟩
          refine stepsG.cons (fun vals Fs R leFs hpZ => ?_) ?_
          ·obtain ⟨e8, f8_3sl0, f8_3sl1⟩ := hpZ 8 (by decide)
           rw [eS (l := [(8, (.tuple #[.agg #[((aggAt (tupAt (vals 8) 0) 0)), ((aggAt (tupAt (vals 8) 0) 1))], .bool ((walkToF ar rs t (((terms (reachF ar rs t (n - 1)).1).getD k [])) (n - 1)).2.2)] : Value))]) ⟨(e8).symm, trivial⟩]
           refine XG.op (XOp.move (.tuple #[.agg #[((aggAt (tupAt (vals 8) 0) 0)), ((aggAt (tupAt (vals 8) 0) 1))], .bool ((walkToF ar rs t (((terms (reachF ar rs t (n - 1)).1).getD k [])) (n - 1)).2.2)]) rfl ?_)
           exact ⟨rfl, rfl⟩
          refine stepsG.cons (fun vals Fs R leFs hpZ => ?_) ?_
          ·obtain ⟨e8, f8_3sl0, f8_3sl1⟩ := hpZ 8 (by decide)
           have e9 : vals 9 = (.tuple #[.agg #[((aggAt (tupAt (vals 8) 0) 0)), ((aggAt (tupAt (vals 8) 0) 1))], .bool ((walkToF ar rs t (((terms (reachF ar rs t (n - 1)).1).getD k [])) (n - 1)).2.2)] : Value) := hpZ 9 (by decide)
           rw [eS (l := [(8, (.tuple #[.agg #[((aggAt (tupAt (vals 8) 0) 0)), ((aggAt (tupAt (vals 8) 0) 1))], .bool ((walkToF ar rs t (((terms (reachF ar rs t (n - 1)).1).getD k [])) (n - 1)).2.2)] : Value)), (9, (.tuple #[.agg #[((aggAt (tupAt (vals 8) 0) 0)), ((aggAt (tupAt (vals 8) 0) 1))], .bool ((walkToF ar rs t (((terms (reachF ar rs t (n - 1)).1).getD k [])) (n - 1)).2.2)] : Value))]) ⟨(e8).symm, e9, trivial⟩]
           refine XG.op (XOp.extract (.agg #[((aggAt (tupAt (vals 8) 0) 0)), ((aggAt (tupAt (vals 8) 0) 1))]) rfl rfl ?_)
           exact ⟨rfl, rfl⟩
          refine stepsG.cons (fun vals Fs R leFs hpZ => ?_) ?_
          ·obtain ⟨e8, f8_3sl0, f8_3sl1⟩ := hpZ 8 (by decide)
           have e9 : vals 9 = (.tuple #[.agg #[((aggAt (tupAt (vals 8) 0) 0)), ((aggAt (tupAt (vals 8) 0) 1))], .bool ((walkToF ar rs t (((terms (reachF ar rs t (n - 1)).1).getD k [])) (n - 1)).2.2)] : Value) := hpZ 9 (by decide)
           rw [eS (l := [(8, (.tuple #[.agg #[((aggAt (tupAt (vals 8) 0) 0)), ((aggAt (tupAt (vals 8) 0) 1))], .bool ((walkToF ar rs t (((terms (reachF ar rs t (n - 1)).1).getD k [])) (n - 1)).2.2)] : Value)), (9, (.tuple #[.agg #[((aggAt (tupAt (vals 8) 0) 0)), ((aggAt (tupAt (vals 8) 0) 1))], .bool ((walkToF ar rs t (((terms (reachF ar rs t (n - 1)).1).getD k [])) (n - 1)).2.2)] : Value))]) ⟨(e8).symm, e9, trivial⟩]
           refine XG.op (XOp.extract (.bool ((walkToF ar rs t (((terms (reachF ar rs t (n - 1)).1).getD k [])) (n - 1)).2.2)) rfl rfl ?_)
           exact ⟨rfl, rfl⟩
          refine stepsG.cons (fun vals Fs R leFs hpZ => ?_) ?_
          ·replace har := har.mono leFs
           replace hrs := hrs.mono leFs
           replace ht := ht.mono leFs
           replace hr1 := hr1.mono leFs
           replace ha1 := ha1.mono leFs
           replace hr3 := hr3.mono leFs
           replace ha2 := ha2.mono leFs
           replace f7_2hr := f7_2hr.mono leFs
           replace ha3 := ha3.mono leFs
           replace hr4 := Rd.monoA hr4 leFs
           replace hr5 := Rd.monoA hr5 leFs
           replace hr6 := Rd.monoA hr6 leFs
           replace hr9 := Rd.monoA hr9 leFs
           refine XG.op (XOp.alloc [(.slice none 0 0), (.slice none 0 0)] Tryz.zeroValue57 rfl ?_)
           intro b7
           exact ⟨rfl, rfl⟩
          refine stepsG.cons (fun vals Fs R leFs hpZ => ?_) ?_
          ·obtain ⟨e8, f8_3sl0, f8_3sl1⟩ := hpZ 8 (by decide)
           have e10 : vals 10 = (.agg #[((aggAt (tupAt (vals 8) 0) 0)), ((aggAt (tupAt (vals 8) 0) 1))] : Value) := hpZ 10 (by decide)
           have e12 : vals 12 = ptr (blk (vals 12)) 0 := hpZ 12 (by decide)
           replace har := har.mono leFs
           replace hrs := hrs.mono leFs
           replace ht := ht.mono leFs
           replace hr1 := hr1.mono leFs
           replace ha1 := ha1.mono leFs
           replace hr3 := hr3.mono leFs
           replace ha2 := ha2.mono leFs
           replace f7_2hr := f7_2hr.mono leFs
           replace ha3 := ha3.mono leFs
           replace hr4 := Rd.monoA hr4 leFs
           replace hr5 := Rd.monoA hr5 leFs
           replace hr6 := Rd.monoA hr6 leFs
           replace hr9 := Rd.monoA hr9 leFs
           rw [eS (l := [(8, (.tuple #[.agg #[((aggAt (tupAt (vals 8) 0) 0)), ((aggAt (tupAt (vals 8) 0) 1))], .bool ((walkToF ar rs t (((terms (reachF ar rs t (n - 1)).1).getD k [])) (n - 1)).2.2)] : Value)), (10, (.agg #[((aggAt (tupAt (vals 8) 0) 0)), ((aggAt (tupAt (vals 8) 0) 1))] : Value)), (12, ptr (blk (vals 12)) 0)]) ⟨(e8).symm, e10, e12, trivial⟩]
           show XG _ _ _ _ _ (cellsH (blk (vals 12)) [(.slice none 0 0), (.slice none 0 0)] 57 :: ([cellsH b5 [u1] 60, cellsH b2 [(.slice none 0 0), (.slice none 0 0), .int .i64 (0), (.slice none 0 0)] 62, cellsH b1 [arv, rsv] 37] ++ R)) _
           refine XG.op (XOp.storeN (vs := [((aggAt (tupAt (vals 8) 0) 0)), ((aggAt (tupAt (vals 8) 0) 1))]) [] _ [((aggAt (tupAt (vals 8) 0) 0)), ((aggAt (tupAt (vals 8) 0) 1))] Tryz.sizeOf57 rfl rfl rfl (ones_cons (one_sl f8_3sl0) (ones_cons (one_sl f8_3sl1) ones_nil)) rfl rfl rfl ?_)
           exact ⟨trivial, rfl⟩
          exact stepsG.nil
         ·intro vals F8 le8 hphi
          obtain ⟨e8, f8_3sl0, f8_3sl1⟩ := hphi 8 (by decide)
          have e9 : vals 9 = (.tuple #[.agg #[((aggAt (tupAt (vals 8) 0) 0)), ((aggAt (tupAt (vals 8) 0) 1))], .bool ((walkToF ar rs t (((terms (reachF ar rs t (n - 1)).1).getD k [])) (n - 1)).2.2)] : Value) := hphi 9 (by decide)
          have e10 : vals 10 = (.agg #[((aggAt (tupAt (vals 8) 0) 0)), ((aggAt (tupAt (vals 8) 0) 1))] : Value) := hphi 10 (by decide)
          have e12 : vals 12 = ptr (blk (vals 12)) 0 := hphi 12 (by decide)
          generalize hu3 : ((aggAt (tupAt (vals 8) 0) 0)) = u2 at e8 f8_3sl0 f8_3sl1 e9 e10 e12
          generalize hu4 : ((aggAt (tupAt (vals 8) 0) 1)) = u3 at e8 f8_3sl0 f8_3sl1 e9 e10 e12
          generalize hu5 : blk (vals 12) = b8 at e8 f8_3sl0 f8_3sl1 e9 e10 e12
          rw [eS (l := [(0, (.agg #[arv, rsv] : Value)), (1, tv), (2, x1), (3, (.int .i64 ((k : Int)) : Value)), (4, (.pointer (some (elemA x1 (k))) : Value)), (5, a3), (6, (.int .i64 (n) : Value)), (7, (.int .i64 (n - 1) : Value)), (8, (.tuple #[.agg #[u2, u3], .bool ((walkToF ar rs t (((terms (reachF ar rs t (n - 1)).1).getD k [])) (n - 1)).2.2)] : Value)), (9, (.tuple #[.agg #[u2, u3], .bool ((walkToF ar rs t (((terms (reachF ar rs t (n - 1)).1).getD k [])) (n - 1)).2.2)] : Value)), (10, (.agg #[u2, u3] : Value)), (11, (.bool ((walkToF ar rs t (((terms (reachF ar rs t (n - 1)).1).getD k [])) (n - 1)).2.2) : Value)), (12, ptr b8 0)]) ⟨(hphi 0 (by decide)), (hphi 1 (by decide)), (hphi 2 (by decide)), (hphi 3 (by decide)), (hphi 4 (by decide)), (hphi 5 (by decide)), (hphi 6 (by decide)), (hphi 7 (by decide)), (e8).symm, e9, e10, (hphi 11 (by decide)), e12, trivial⟩]
          replace har := har.mono le8
          replace hrs := hrs.mono le8
          replace ht := ht.mono le8
          replace hr1 := hr1.mono le8
          replace ha1 := ha1.mono le8
          replace hr3 := hr3.mono le8
          replace ha2 := ha2.mono le8
          replace f7_2hr := f7_2hr.mono le8
          replace ha3 := ha3.mono le8
          replace hr4 := Rd.monoA hr4 le8
          replace hr5 := Rd.monoA hr5 le8
          replace hr6 := Rd.monoA hr6 le8
          replace hr9 := Rd.monoA hr9 le8
          show XL _ _ _ _ _ _ _ (intsH 2 u2 ((walkToF ar rs t (((terms (reachF ar rs t (n - 1)).1).getD k [])) (n - 1)).1) :: stepsD 2 116 u3 ((walkToF ar rs t (((terms (reachF ar rs t (n - 1)).1).getD k [])) (n - 1)).2.1) :: cellsH b8 [u2, u3] 57 :: cellsH b5 [u1] 60 :: cellsH b2 [(.slice none 0 0), (.slice none 0 0), .int .i64 (0), (.slice none 0 0)] 62 :: cellsH b1 [arv, rsv] 37 :: L)
          refine XL.as (.bool ((walkToF ar rs t (((terms (reachF ar rs t (n - 1)).1).getD k [])) (n - 1)).2.2)) rfl ?_
          refine XL.nil (X.seq (X.seq (X.region ?_)))
          refine XL.openD [_] _ rfl (fun cs1 Ls1 F9 le9 hs1 hD1 hZ1 => ?_)
          replace har := har.mono le9
          replace hrs := hrs.mono le9
          replace ht := ht.mono le9
          replace hr1 := hr1.mono le9
          replace ha1 := ha1.mono le9
          replace hr3 := hr3.mono le9
          replace ha2 := ha2.mono le9
          replace f7_2hr := f7_2hr.mono le9
          replace ha3 := ha3.mono le9
          replace hr4 := Rd.monoA hr4 le9
          replace hr5 := Rd.monoA hr5 le9
          replace hr6 := Rd.monoA hr6 le9
          replace hr9 := Rd.monoA hr9 le9
          have hc1 := hD1.steps hZ1
          show XL _ _ _ _ _ _ _ (intsH 2 u2 ((walkToF ar rs t (((terms (reachF ar rs t (n - 1)).1).getD k [])) (n - 1)).1) :: slH 116 3 u3 (((walkToF ar rs t (((terms (reachF ar rs t (n - 1)).1).getD k [])) (n - 1)).2.1).length) cs1 :: cellsH b8 [u2, u3] 57 :: cellsH b5 [u1] 60 :: cellsH b2 [(.slice none 0 0), (.slice none 0 0), .int .i64 (0), (.slice none 0 0)] 62 :: cellsH b1 [arv, rsv] 37 :: L)
          skip
          refine XL.mv (.bool ((walkToF ar rs t (((terms (reachF ar rs t (n - 1)).1).getD k [])) (n - 1)).2.2)) rfl ?_
          refine XL.cons (XOp.notB (b := (walkToF ar rs t (((terms (reachF ar rs t (n - 1)).1).getD k [])) (n - 1)).2.2) rfl ?_)
          refine XL.mv (.bool (!((walkToF ar rs t (((terms (reachF ar rs t (n - 1)).1).getD k [])) (n - 1)).2.2))) rfl ?_
          by_cases h7 : (!((walkToF ar rs t (((terms (reachF ar rs t (n - 1)).1).getD k [])) (n - 1)).2.2)) = true
          ·exact absurd h7 (by rw [hw9]; simp)
          ·rw [Bool.not_eq_true] at h7
           refine XL.yes (t := 86) rfl (vB h7) (XOp.fieldP (b := b8) (1) Tryz.runUnderlying57 rfl Tryz.sizeOf55 (by decide) rfl rfl ?_)
           refine XL.yes (t := 86) rfl (vB h7) (XOp.load1 (v := u3) Tryz.isAgg55 rfl (Rd.own [_, _] rfl rfl) ?_)
           refine XL.yes (t := 86) rfl (vB h7) (XOp.lenS (v := u3) (n := ((walkToF ar rs t (((terms (reachF ar rs t (n - 1)).1).getD k [])) (n - 1)).2.1).length) Tryz.runUnderlying55 rfl (SlV.own [_] rfl) ?_)
           refine XL.yes (t := 86) rfl (vB h7) (XOp.geq (a := ((((walkToF ar rs t (((terms (reachF ar rs t (n - 1)).1).getD k [])) (n - 1)).2.1).length : Nat) : Int)) (b := 60) rfl rfl ?_)
           refine XL.cons (XOp.pickF (.bool (decide ((((((walkToF ar rs t (((terms (reachF ar rs t (n - 1)).1).getD k [])) (n - 1)).2.1).length : Nat) : Int) : Int) ≥ 60))) (vB h7) rfl ?_)
           refine XL.nil ?_
           refine X.condD (p := (((((walkToF ar rs t (((terms (reachF ar rs t (n - 1)).1).getD k [])) (n - 1)).2.1).length : Nat) : Int) : Int) ≥ 60) rfl (fun h8 => ?_) (fun h8 => ?_)
           ·exact absurd h8 (by omega)
           ·refine X.skip (X.seq ?_)
            refine X.draw [intsH 2 u2 ((walkToF ar rs t (((terms (reachF ar rs t (n - 1)).1).getD k [])) (n - 1)).1), slH 116 3 u3 (((walkToF ar rs t (((terms (reachF ar rs t (n - 1)).1).getD k [])) (n - 1)).2.1).length) cs1, cellsH b8 [u2, u3] 57, cellsH b5 [u1] 60, cellsH b2 [(.slice none 0 0), (.slice none 0 0), .int .i64 (0), (.slice none 0 0)] 62, cellsH b1 [arv, rsv] 37] L 7 [[], [], [], [], [], [], []] [[], [0], [], [], [2, 3], [4], [5]] (phiL [fun us v => v = ptr b8 1, fun us v => v = u3, fun us v => v = x2, fun us v => v = (.int .i64 ((q : Int)) : Value), fun us v => v = (.pointer (some (elemA x2 (q * 3))) : Value), fun us v => v = (.agg #[.int .i64 (((stepsL ar rs (((terms (reachF ar rs t (n - 1)).1).getD k []))).getD q (0, 0, [])).1), .int .i64 (((stepsL ar rs (((terms (reachF ar rs t (n - 1)).1).getD k []))).getD q (0, 0, [])).2.1), a2] : Value), fun us v => ∃ b, v = .slice (some ⟨b, 0, none⟩) 1 1]) (ownL [fun us v => [], fun us v => [], fun us v => [], fun us v => [], fun us v => [], fun us v => [], fun us v => [slH 116 3 v 1 [.int .i64 (((stepsL ar rs (((terms (reachF ar rs t (n - 1)).1).getD k []))).getD q (0, 0, [])).1), .int .i64 (((stepsL ar rs (((terms (reachF ar rs t (n - 1)).1).getD k []))).getD q (0, 0, [])).2.1), a2]]]) mixed rfl rfl (by kernel_rfl) ?_ ?_
            ·refine stepsP.cons (fun vals R hpZ => ?_) ?_
             ·refine XG.op (XOp.fieldP (b := b8) (1) Tryz.runUnderlying57 rfl Tryz.sizeOf55 (by decide) rfl rfl ?_)
              exact ⟨rfl, rfl, rfl⟩
             refine stepsP.cons (fun vals R hpZ => ?_) ?_
             ·rw [eS (l := [(0, ptr b8 1)]) ⟨hpZ 0 (by decide), trivial⟩]
              refine XG.op (XOp.load1 (v := u3) Tryz.isAgg55 rfl (Rd.own [_, _] rfl rfl) ?_)
              exact ⟨rfl, rfl, rfl⟩
             refine stepsP.cons (fun vals R hpZ => ?_) ?_
             ·refine XG.op (XOp.move (x2) rfl ?_)
              exact ⟨rfl, rfl, rfl⟩
             refine stepsP.cons (fun vals R hpZ => ?_) ?_
             ·refine XG.op (XOp.move (.int .i64 ((q : Int))) rfl ?_)
              exact ⟨rfl, rfl, rfl⟩
             refine stepsP.cons (fun vals R hpZ => ?_) ?_
             ·rw [eS (l := [(2, x2), (3, (.int .i64 ((q : Int)) : Value))]) ⟨hpZ 2 (by decide), hpZ 3 (by decide), trivial⟩]
              refine XG.op (XOp.indexS (v := x2) (i := (q : Int)) (n := (stepsL ar rs (((terms (reachF ar rs t (n - 1)).1).getD k []))).length) q Tryz.runUnderlying55 Tryz.sizeOf116 rfl rfl rfl hr3.slv (by omega) rfl ?_)
              exact ⟨rfl, rfl, rfl⟩
             refine stepsP.cons (fun vals R hpZ => ?_) ?_
             ·rw [eS (l := [(4, (.pointer (some (elemA x2 (q * 3))) : Value))]) ⟨hpZ 4 (by decide), trivial⟩]
              refine XG.op (XOp.loadN [.int .i64 (((stepsL ar rs (((terms (reachF ar rs t (n - 1)).1).getD k []))).getD q (0, 0, [])).1), .int .i64 (((stepsL ar rs (((terms (reachF ar rs t (n - 1)).1).getD k []))).getD q (0, 0, [])).2.1), a2] Tryz.isAgg116 Tryz.sizeOf116 rfl rfl (Rd.three (hr4 _) (hr5 _) (hr6 _)) ?_)
              exact ⟨rfl, rfl, rfl⟩
             refine stepsP.cons (fun vals R hpZ => ?_) ?_
             ·rw [eS (l := [(5, (.agg #[.int .i64 (((stepsL ar rs (((terms (reachF ar rs t (n - 1)).1).getD k []))).getD q (0, 0, [])).1), .int .i64 (((stepsL ar rs (((terms (reachF ar rs t (n - 1)).1).getD k []))).getD q (0, 0, [])).2.1), a2] : Value))]) ⟨hpZ 5 (by decide), trivial⟩]
              refine XG.op (XOp.buildSlice (s := 3) [.int .i64 (((stepsL ar rs (((terms (reachF ar rs t (n - 1)).1).getD k []))).getD q (0, 0, [])).1), .int .i64 (((stepsL ar rs (((terms (reachF ar rs t (n - 1)).1).getD k []))).getD q (0, 0, [])).2.1), a2] [.int .i64 (0), .int .i64 (0), (.slice none 0 0)] [(0, [.int .i64 (((stepsL ar rs (((terms (reachF ar rs t (n - 1)).1).getD k []))).getD q (0, 0, [])).1), .int .i64 (((stepsL ar rs (((terms (reachF ar rs t (n - 1)).1).getD k []))).getD q (0, 0, [])).2.1), a2])] Tryz.runUnderlying55 Tryz.sizeOf116 Tryz.zeroValue116 rfl (by decide) rfl (.cons rfl CellsAre.nil) rfl ?_)
              intro v2 hv2
              exact ⟨rfl, hv2, rfl⟩
             exact stepsP.nil
            ·intro vals hphi
             have f6 : ∃ b, (vals 6) = .slice (some ⟨b, 0, none⟩) 1 1 := hphi 6 (by decide)
             generalize hu6 : vals 6 = u4 at f6
             rw [eS (l := [(0, ptr b8 1), (1, u3), (2, x2), (3, (.int .i64 ((q : Int)) : Value)), (4, (.pointer (some (elemA x2 (q * 3))) : Value)), (5, (.agg #[.int .i64 (((stepsL ar rs (((terms (reachF ar rs t (n - 1)).1).getD k []))).getD q (0, 0, [])).1), .int .i64 (((stepsL ar rs (((terms (reachF ar rs t (n - 1)).1).getD k []))).getD q (0, 0, [])).2.1), a2] : Value)), (6, u4)]) ⟨(hphi 0 (by decide)), (hphi 1 (by decide)), (hphi 2 (by decide)), (hphi 3 (by decide)), (hphi 4 (by decide)), (hphi 5 (by decide)), hu6, trivial⟩]
             show XL _ _ _ _ _ _ _ (slH 116 3 u4 1 [.int .i64 (((stepsL ar rs (((terms (reachF ar rs t (n - 1)).1).getD k []))).getD q (0, 0, [])).1), .int .i64 (((stepsL ar rs (((terms (reachF ar rs t (n - 1)).1).getD k []))).getD q (0, 0, [])).2.1), a2] :: intsH 2 u2 ((walkToF ar rs t (((terms (reachF ar rs t (n - 1)).1).getD k [])) (n - 1)).1) :: slH 116 3 u3 (((walkToF ar rs t (((terms (reachF ar rs t (n - 1)).1).getD k [])) (n - 1)).2.1).length) cs1 :: cellsH b8 [u2, u3] 57 :: cellsH b5 [u1] 60 :: cellsH b2 [(.slice none 0 0), (.slice none 0 0), .int .i64 (0), (.slice none 0 0)] 62 :: cellsH b1 [arv, rsv] 37 :: L)
             refine XL.cons (XOp.append (m := 1) (bytes := 40) (cs := cs1) [_, _] _ [.int .i64 (((stepsL ar rs (((terms (reachF ar rs t (n - 1)).1).getD k []))).getD q (0, 0, [])).1), .int .i64 (((stepsL ar rs (((terms (reachF ar rs t (n - 1)).1).getD k []))).getD q (0, 0, [])).2.1), a2] Tryz.runUnderlying55 Tryz.typeInfo116 rfl rfl rfl rfl rfl rfl rfl (SlV.own [] rfl) rfl (Rd.lit [] rfl) (ones_cons rfl (ones_cons rfl (ones_cons (one_sl (IntsF.isSl ha2)) ones_nil))) (by (try simp only [List.length_append, List.length_nil, List.length_cons, List.length_singleton]); omega) (by (try simp only [List.length_append, List.length_nil, List.length_cons, List.length_singleton]); omega) ?_)
             intro v3 hs2 hn1 hm1
             have hc2 := StepsC.snoc hc1 (i := ((stepsL ar rs (((terms (reachF ar rs t (n - 1)).1).getD k []))).getD q (0, 0, [])).1) (j := ((stepsL ar rs (((terms (reachF ar rs t (n - 1)).1).getD k []))).getD q (0, 0, [])).2.1) ha2
             refine XL.cons (XOp.fieldP (b := b8) (1) Tryz.runUnderlying57 rfl Tryz.sizeOf55 (by decide) rfl rfl ?_)
             refine XL.cons (XOp.store1 (v := v3) [_, _, _] _ [u2, v3] Tryz.sizeOf55 rfl rfl (one_sl hs2) rfl rfl rfl ?_)
             refine XL.nil (X.seq (X.region ?_))
             refine XL.cons (XOp.loadN [u2, v3] Tryz.isAgg57 Tryz.sizeOf57 rfl rfl (Rd.ownN [_, _, _] rfl rfl) ?_)
             refine XL.mv (.int .i64 (instI ar t (((stepsL ar rs (((terms (reachF ar rs t (n - 1)).1).getD k []))).getD q (0, 0, [])).2.2))) rfl ?_
             refine XL.cons (XOp.loadN [u1] Tryz.isAgg60 Tryz.sizeOf60 rfl rfl (Rd.ownN [_, _, _, _] rfl rfl) ?_)
             refine XL.cons (XOp.build [u2, v3, .int .i64 (instI ar t (((stepsL ar rs (((terms (reachF ar rs t (n - 1)).1).getD k []))).getD q (0, 0, [])).2.2)), u1] [(.slice none 0 0), (.slice none 0 0), .int .i64 (0), (.slice none 0 0)] [(0, 2), (2, 1), (3, 1)] [(0, [u2, v3]), (1, [.int .i64 (instI ar t (((stepsL ar rs (((terms (reachF ar rs t (n - 1)).1).getD k []))).getD q (0, 0, [])).2.2))]), (2, [u1])] Tryz.runUnderlying62 Tryz.zeroValue62 rfl (.cons rfl Tryz.sizeOf57 (.cons rfl Tryz.sizeOf2 (.cons rfl Tryz.sizeOf60 PlacesAre.nil))) rfl (.cons rfl (.cons rfl (.cons rfl CellsAre.nil))) ?_)
             refine XL.cons (XOp.storeN (vs := [u2, v3, .int .i64 (instI ar t (((stepsL ar rs (((terms (reachF ar rs t (n - 1)).1).getD k []))).getD q (0, 0, [])).2.2)), u1]) [_, _, _, _, _] _ [u2, v3, .int .i64 (instI ar t (((stepsL ar rs (((terms (reachF ar rs t (n - 1)).1).getD k []))).getD q (0, 0, [])).2.2)), u1] Tryz.sizeOf62 rfl rfl rfl (ones_cons (one_sl f8_3sl0) (ones_cons (one_sl hs2) (ones_cons rfl (ones_cons (one_sl (RowsF.isSl f7_2hr)) ones_nil)))) rfl rfl rfl ?_)
             refine XL.as (.bool (true)) rfl ?_
             refine XL.nil ?_
             refine X.freezeF [_] _ _ rfl (fun F10 le10 hz1 => ?_)
             replace har := har.mono le10
             replace hrs := hrs.mono le10
             replace ht := ht.mono le10
             replace hr1 := hr1.mono le10
             replace ha1 := ha1.mono le10
             replace hr3 := hr3.mono le10
             replace ha2 := ha2.mono le10
             replace f7_2hr := f7_2hr.mono le10
             replace ha3 := ha3.mono le10
             replace hc1 := hc1.mono le10
             replace hc2 := hc2.mono le10
             replace hr4 := Rd.monoA hr4 le10
             replace hr5 := Rd.monoA hr5 le10
             replace hr6 := Rd.monoA hr6 le10
             replace hr9 := Rd.monoA hr9 le10
             have hf1 : IntsF F10 u2 ((walkToF ar rs t (((terms (reachF ar rs t (n - 1)).1).getD k [])) (n - 1)).1) := intsH.fz (xs := (walkToF ar rs t (((terms (reachF ar rs t (n - 1)).1).getD k [])) (n - 1)).1) hz1.fz
             refine X.freezeF [_] _ _ rfl (fun F11 le11 hz2 => ?_)
             replace har := har.mono le11
             replace hrs := hrs.mono le11
             replace ht := ht.mono le11
             replace hr1 := hr1.mono le11
             replace ha1 := ha1.mono le11
             replace hr3 := hr3.mono le11
             replace ha2 := ha2.mono le11
             replace f7_2hr := f7_2hr.mono le11
             replace ha3 := ha3.mono le11
             replace hc1 := hc1.mono le11
             replace hc2 := hc2.mono le11
             replace hf1 := hf1.mono le11
             replace hr4 := Rd.monoA hr4 le11
             replace hr5 := Rd.monoA hr5 le11
             replace hr6 := Rd.monoA hr6 le11
             replace hr9 := Rd.monoA hr9 le11
             have hf2 : StepsF F11 v3 (((walkToF ar rs t (((terms (reachF ar rs t (n - 1)).1).getD k [])) (n - 1)).2.1) ++ [(((stepsL ar rs (((terms (reachF ar rs t (n - 1)).1).getD k []))).getD q (0, 0, [])).1, ((stepsL ar rs (((terms (reachF ar rs t (n - 1)).1).getD k []))).getD q (0, 0, [])).2.1, ((stepsL ar rs (((terms (reachF ar rs t (n - 1)).1).getD k []))).getD q (0, 0, [])).2.2)]) := CO.fz hc2 (by first | rfl | simp | omega) hz2.fz
             refine X.ret (blockQ_ret (thenQ_ret (thenQ_ret (blockQ_ret (blockQ_ret (thenQ_ret (thenQ_ret (blockQ_ret (thenQ_ret (retEnd (L' := L) [.agg #[u2, v3, .int .i64 (instI ar t (((stepsL ar rs (((terms (reachF ar rs t (n - 1)).1).getD k []))).getD q (0, 0, [])).2.2)), u1], .bool (true)] (.tuple #[.agg #[u2, v3, .int .i64 (instI ar t (((stepsL ar rs (((terms (reachF ar rs t (n - 1)).1).getD k []))).getD q (0, 0, [])).2.2)), u1], .bool (true)]) (.cell rfl (loadNV [u2, v3, .int .i64 (instI ar t (((stepsL ar rs (((terms (reachF ar rs t (n - 1)).1).getD k []))).getD q (0, 0, [])).2.2)), u1] Tryz.isAgg62 Tryz.sizeOf62 rfl (Rd.ownN [_, _, _] rfl rfl)) (.tmp rfl .nil)) rfl (FLe.trans (FLe.trans (FLe.trans (FLe.trans (FLe.trans (FLe.trans (FLe.trans (FLe.trans le1 leG1) le2) leG2) le5) le8) le9) le10) le11) rF (Sub.drop (Sub.drop (Sub.drop (Sub.drop (Sub.drop sR))))) ?_))))))))))
             have hq9 : q < (stepsL ar rs ((terms (reachF ar rs t (n - 1)).1).getD k [])).length := by omega
             have hi9 : 0 ≤ instI ar t ((stepsL ar rs ((terms (reachF ar rs t (n - 1)).1).getD k [])).getD q (0, 0, [])).2.2 := by omega
             rw [hgk] at hq9 hi9 hnq
             have e : loopF ar rs t n = (t, walkL (reachL ar rs t (n - 1)).1 k ++ [(stepsL ar rs (EL (reachL ar rs t (n - 1)).1 k).1).getD q (0, 0, [])], instI ar t ((stepsL ar rs (EL (reachL ar rs t (n - 1)).1 k).1).getD q (0, 0, [])).2.2, placeS ar t ((stepsL ar rs (EL (reachL ar rs t (n - 1)).1 k).1).getD q (0, 0, [])).2.2, true) := by rw [loopF_yes ⟨⟨hsys, ho⟩, hn20⟩, loop0_at (k := k) (q := q) hk9 hno hq9 hi9 hnq, loopAt, placeS_yes hi9]
             have ha9 := hf1
             have hb9 := hf2
             have hc9 := f7_2hr
             rw [hw9] at ha9
             rw [hw9, hgk] at hb9
             rw [hgk] at hc9
             exact ⟨_, _, _, by rw [e, hgk], by rw [e]; exact ha9, by rw [e]; exact hb9, by rw [e]; exact hc9, rfl⟩
      ·refine X.exit (thenQ_exit (thenQ_exit (blockQ_exit ?_)))
       refine X.region ?_
       refine XL.mv (.int .i64 ((k : Int))) rfl ?_
       refine XL.cons (XOp.addR (a := (k : Int)) (b := 1) (((k + 1 : Nat) : Int)) rfl rfl (by omega) (by omega) ?_)
       refine XL.as (.int .i64 (((k + 1 : Nat) : Int))) rfl ?_
       refine XL.nil ?_
       exact ⟨(k + 1, G2), _, (FLe.trans (FLe.trans leG1 le2) leG2), rF, ⟨rfl, rfl, rfl, rfl, rfl, rfl, trivial⟩, (Sub.cons (Sub.cons sR)), ⟨rfl, (FLe.trans (FLe.trans leG1 le2) leG2), (by (try dsimp only) <;> omega), (fun i hi => (Nat.lt_or_ge i k).elim (fun h => hno i h) (fun h => by obtain rfl : i = k := (by omega); rw [← hgk, nextI_none (ar := ar) (t := t) (fun j hj => hnq j (by omega))]; omega))⟩, (by omega)⟩
    ·refine X.exit (thenQ_exit (thenQ_exit (blockQ_exit ?_)))
     refine X.seq (X.region ?_)
     refine XL.cons (XOp.build [(.slice none 0 0), (.slice none 0 0), .int .i64 (0), (.slice none 0 0)] [(.slice none 0 0), (.slice none 0 0), .int .i64 (0), (.slice none 0 0)] [(0, 2), (2, 1), (3, 1)] [] Tryz.runUnderlying62 Tryz.zeroValue62 rfl (.cons rfl Tryz.sizeOf57 (.cons rfl Tryz.sizeOf2 (.cons rfl Tryz.sizeOf60 PlacesAre.nil))) rfl CellsAre.nil ?_)
     refine XL.cons (XOp.storeN (vs := [(.slice none 0 0), (.slice none 0 0), .int .i64 (0), (.slice none 0 0)]) [] _ [(.slice none 0 0), (.slice none 0 0), .int .i64 (0), (.slice none 0 0)] Tryz.sizeOf62 rfl rfl rfl (ones_cons rfl (ones_cons rfl (ones_cons rfl (ones_cons rfl ones_nil)))) rfl rfl rfl ?_)
     refine XL.as (.bool (false)) rfl ?_
     refine XL.nil ?_
     refine X.ret (retEnd (L' := L) [.agg #[(.slice none 0 0), (.slice none 0 0), .int .i64 (0), (.slice none 0 0)], .bool (false)] (.tuple #[.agg #[(.slice none 0 0), (.slice none 0 0), .int .i64 (0), (.slice none 0 0)], .bool (false)]) (.cell rfl (loadNV [(.slice none 0 0), (.slice none 0 0), .int .i64 (0), (.slice none 0 0)] Tryz.isAgg62 Tryz.sizeOf62 rfl (Rd.ownN [] rfl rfl)) (.tmp rfl .nil)) rfl (FLe.trans le1 leG1) rF (Sub.drop (Sub.drop sR)) ?_)
     have e : loopF ar rs t n = noLoop := (loopF_yes ⟨⟨hsys, ho⟩, hn20⟩).trans (loop0_none (fun i hi => hno i (by omega)))
     exact ⟨_, _, _, by rw [e], by rw [e]; exact IntsF.nilV, by rw [e]; exact SlOf.nilV, by rw [e]; exact SlOf.nilV, rfl⟩

/- spec.FirstLoop -/
set_option maxRecDepth 20000 in
theorem sFirstLoop_spec {F : FH} {L : List HP} {arv : Value} {ar : List Int} (har : IntsF F arv ar) {rsv : Value} {rs : List (List Int × List Int)} (hrs : PairsF F rsv rs) {n : Int} (hla : ar.length ≤ 4000000) (hlr : rs.length ≤ 4000000) (hrb : ∀ i, i < rs.length → (rs.getD i ([], [])).1.length ≤ 4000000 ∧ (rs.getD i ([], [])).2.length ≤ 4000000) :
    Does Tryz.prog 30 [.agg #[arv, rsv], .int .i64 (n)] F (L) (fun v F' L' => ∃ (a : Value), ∃ (b : Value), ∃ (c : Value), (.tuple #[.agg #[a, b, .int .i64 ((firstF ar rs n).2.2.1), c], .bool ((firstF ar rs n).2.2.2.2)] : Value) = v ∧ (IntsF F' a (firstF ar rs n).1) ∧ (StepsF F' b (firstF ar rs n).2.1) ∧ (RowsF F' c (firstF ar rs n).2.2.2.1) ∧ L = L') := by
 refine Does.of_X Tryz.func30 rfl rfl rfl ?_
 refine X.seq (X.region ?_)
 refine XL.cons (XOp.box [arv, rsv] rfl rfl ?_)
 intro b1
 refine XL.cons (XOp.alloc [(.slice none 0 0), (.slice none 0 0), .int .i64 (0), (.slice none 0 0)] Tryz.zeroValue62 rfl ?_)
 intro b2
 refine XL.as (.bool (false)) rfl ?_
 refine XL.nil (X.seq (X.seq (X.region ?_)))
 refine XL.cons (XOp.loadN [arv, rsv] Tryz.isAgg37 Tryz.sizeOf37 rfl rfl (Rd.ownN [_] rfl rfl) ?_)
 refine XL.cons (XOp.call (args := [.agg #[arv, rsv]]) Tryz.call63 rfl (sSystemOk_spec har hrs (hla := (by first | assumption | rfl | omega | simp)) (hlr := (by first | assumption | rfl | omega | simp)) (hrb := (by first | assumption | rfl | omega | simp))) ?_)
 rintro _ _ _ _ ⟨rfl, rfl, rfl⟩
 refine XL.cons (XOp.notB (b := sysOk ar rs) rfl ?_)
 refine XL.nil ?_
 refine X.cond (t := !(sysOk ar rs)) rfl (fun h1 => ?_) (fun h1 => ?_)
 ·refine X.seq (X.region ?_)
  refine XL.cons (XOp.build [(.slice none 0 0), (.slice none 0 0), .int .i64 (0), (.slice none 0 0)] [(.slice none 0 0), (.slice none 0 0), .int .i64 (0), (.slice none 0 0)] [(0, 2), (2, 1), (3, 1)] [] Tryz.runUnderlying62 Tryz.zeroValue62 rfl (.cons rfl Tryz.sizeOf57 (.cons rfl Tryz.sizeOf2 (.cons rfl Tryz.sizeOf60 PlacesAre.nil))) rfl CellsAre.nil ?_)
  refine XL.cons (XOp.storeN (vs := [(.slice none 0 0), (.slice none 0 0), .int .i64 (0), (.slice none 0 0)]) [] _ [(.slice none 0 0), (.slice none 0 0), .int .i64 (0), (.slice none 0 0)] Tryz.sizeOf62 rfl rfl rfl (ones_cons rfl (ones_cons rfl (ones_cons rfl (ones_cons rfl ones_nil)))) rfl rfl rfl ?_)
  refine XL.as (.bool (false)) rfl ?_
  refine XL.nil ?_
  refine X.ret (thenQ_ret (retEnd (L' := L) [.agg #[(.slice none 0 0), (.slice none 0 0), .int .i64 (0), (.slice none 0 0)], .bool (false)] (.tuple #[.agg #[(.slice none 0 0), (.slice none 0 0), .int .i64 (0), (.slice none 0 0)], .bool (false)]) (.cell rfl (loadNV [(.slice none 0 0), (.slice none 0 0), .int .i64 (0), (.slice none 0 0)] Tryz.isAgg62 Tryz.sizeOf62 rfl (Rd.ownN [] rfl rfl)) (.tmp rfl .nil)) rfl rF rF (Sub.drop (Sub.drop sR)) ?_))
  have e : firstF ar rs n = noLoop := firstF_no (by simp_all)
  exact ⟨_, _, _, by rw [e], by rw [e]; exact IntsF.nilV, by rw [e]; exact SlOf.nilV, by rw [e]; exact SlOf.nilV, rfl⟩
 ·have hsys : sysOk ar rs = true := by simpa using h1
  have hrs12 := (sysOk_iff.1 hsys).2.1
  refine X.skip (X.seq (X.seq (X.region ?_)))
  refine XL.as (.int .i64 (0)) rfl ?_
  refine XL.nil (X.block ?_)
  refine X.loop (α := Nat × FH) (fun xQ => [(1, .int .i64 (n)), (2, ptr b1 0), (4, ptr b2 0), (6, .int .i64 (((xQ.1 : Nat) : Int)))]) (fun xQ => cellsH b2 [(.slice none 0 0), (.slice none 0 0), .int .i64 (0), (.slice none 0 0)] 62 :: cellsH b1 [arv, rsv] 37 :: L) (fun xQ F' => xQ.2 = F' ∧ F ≤ xQ.2 ∧ (xQ.1 ≤ rs.length) ∧ (∀ i, i < xQ.1 → (loopF ar rs (rs.getD i ([], [])).1 n).2.2.2.2 = false)) (fun xQ => rs.length - xQ.1) (0, F) ⟨rfl, rfl, rfl, rfl, trivial⟩ (Sub.cons (Sub.cons sR)) ⟨rfl, FLe.refl _, (by (try dsimp only) <;> omega), (fun i hi => absurd hi (by omega))⟩ ?_
  rintro ⟨k, G1⟩ rE _ _ ⟨rfl, leG, hk, hall⟩
  show X _ _ _ _ (envs [(1, .int .i64 (n)), (2, ptr b1 0), (4, ptr b2 0), (6, .int .i64 ((k : Int)))] rE) _ (cellsH b2 [(.slice none 0 0), (.slice none 0 0), .int .i64 (0), (.slice none 0 0)] 62 :: cellsH b1 [arv, rsv] 37 :: L)
  replace leG : F ≤ G1 := leG
  dsimp only at hk hall
  have hrbk := hrb k
  have leG1 := leG
  replace har := har.mono leG1
  replace hrs := hrs.mono leG1
  refine X.seq (X.seq (X.region ?_))
  refine XL.mv (.int .i64 ((k : Int))) rfl ?_
  refine XL.cons (XOp.fieldP (b := b1) (1) Tryz.runUnderlying37 rfl Tryz.sizeOf35 (by decide) rfl rfl ?_)
  refine XL.cons (XOp.load1 (v := rsv) Tryz.isAgg35 rfl (Rd.own [_] rfl rfl) ?_)
  refine XL.cons (XOp.lenS (v := rsv) (n := (rs).length) Tryz.runUnderlying35 rfl hrs.slv ?_)
  refine XL.cons (XOp.lss (a := (k : Int)) (b := (rs.length : Int)) rfl rfl ?_)
  refine XL.nil ?_
  refine X.condD (p := (k : Int) < (rs.length : Int)) rfl (fun h2 => ?_) (fun h2 => ?_)
  ·refine X.skip (X.seq (X.block (X.seq ?_)))
   obtain ⟨a1, a2, ha1, ha2, hr1, hr2⟩ := hrs.rd (i := k) (by omega)
   refine X.drawG [cellsH b2 [(.slice none 0 0), (.slice none 0 0), .int .i64 (0), (.slice none 0 0)] 62, cellsH b1 [arv, rsv] 37] L 14 [[], [], [], [], [], [], [], [], [], [8], [8], [], [], [8, 12]] [[], [], [1], [], [2, 3], [4], [5], [], [0, 6, 7], [8], [8, 9], [8, 9], [], [8, 10, 12]] [[], [], [], [], [], [], [], [], [], [], [], [], [], [12]] (phiG [fun FF us v => v = (.agg #[arv, rsv] : Value), fun FF us v => v = ptr b1 1, fun FF us v => v = rsv, fun FF us v => v = (.int .i64 ((k : Int)) : Value), fun FF us v => v = (.pointer (some (elemA rsv (k * 2))) : Value), fun FF us v => v = (.pointer (some (elemA rsv (k * 2))) : Value), fun FF us v => v = a1, fun FF us v => v = (.int .i64 (n) : Value), fun FF us v => (.tuple #[.agg #[((aggAt (tupAt v 0) 0)), ((aggAt (tupAt v 0) 1)), .int .i64 ((loopF ar rs ((rs.getD k ([], [])).1) n).2.2.1), ((aggAt (tupAt v 0) 3))], .bool ((loopF ar rs ((rs.getD k ([], [])).1) n).2.2.2.2)] : Value) = v ∧ (IntsF FF ((aggAt (tupAt v 0) 0)) (loopF ar rs ((rs.getD k ([], [])).1) n).1) ∧ (StepsF FF ((aggAt (tupAt v 0) 1)) (loopF ar rs ((rs.getD k ([], [])).1) n).2.1) ∧ (RowsF FF ((aggAt (tupAt v 0) 3)) (loopF ar rs ((rs.getD k ([], [])).1) n).2.2.2.1), fun FF us v => v = (.tuple #[.agg #[((aggAt (tupAt (us.getD 0 undef) 0) 0)), ((aggAt (tupAt (us.getD 0 undef) 0) 1)), .int .i64 ((loopF ar rs ((rs.getD k ([], [])).1) n).2.2.1), ((aggAt (tupAt (us.getD 0 undef) 0) 3))], .bool ((loopF ar rs ((rs.getD k ([], [])).1) n).2.2.2.2)] : Value), fun FF us v => v = (.agg #[((aggAt (tupAt (us.getD 0 undef) 0) 0)), ((aggAt (tupAt (us.getD 0 undef) 0) 1)), .int .i64 ((loopF ar rs ((rs.getD k ([], [])).1) n).2.2.1), ((aggAt (tupAt (us.getD 0 undef) 0) 3))] : Value), fun FF us v => v = (.bool ((loopF ar rs ((rs.getD k ([], [])).1) n).2.2.2.2) : Value), fun FF us v => v = ptr (blk v) 0, fun FF us v => True]) (ownL [fun us v => [], fun us v => [], fun us v => [], fun us v => [], fun us v => [], fun us v => [], fun us v => [], fun us v => [], fun us v => [], fun us v => [], fun us v => [], fun us v => [], fun us v => [cellsH (blk v) [(.slice none 0 0), (.slice none 0 0), .int .i64 (0), (.slice none 0 0)] 62], fun us v => [cellsH (blk (us.getD 1 undef)) [((aggAt (tupAt (us.getD 0 undef) 0) 0)), ((aggAt (tupAt (us.getD 0 undef) 0) 1)), .int .i64 ((loopF ar rs ((rs.getD k ([], [])).1) n).2.2.1), ((aggAt (tupAt (us.getD 0 undef) 0) 3))] 62]]) mixed rfl rfl (by kernel_rfl) (by kernel_rfl) (MonoG.get (MonoG.cons (fun le h => h) (MonoG.cons (fun le h => h) (MonoG.cons (fun le h => h) (MonoG.cons (fun le h => h) (MonoG.cons (fun le h => h) (MonoG.cons (fun le h => h) (MonoG.cons (fun le h => h) (MonoG.cons (fun le h => h) (MonoG.cons (fun le h => ⟨h.1, h.2.1.mono le, h.2.2.1.mono le, h.2.2.2.mono le⟩) (MonoG.cons (fun le h => h) (MonoG.cons (fun le h => h) (MonoG.cons (fun le h => h) (MonoG.cons (fun le h => h) (MonoG.cons (fun le h => h) MonoG.nil))))))))))))))) ?_ ?_
   ·refine stepsG.cons (fun vals Fs R leFs hpZ => ?_) ?_
    ·replace har := har.mono leFs
     replace hrs := hrs.mono leFs
     replace ha1 := ha1.mono leFs
     replace ha2 := ha2.mono leFs
     replace hr1 := Rd.monoA hr1 leFs
     replace hr2 := Rd.monoA hr2 leFs
     refine XG.op (XOp.loadN [arv, rsv] Tryz.isAgg37 Tryz.sizeOf37 rfl rfl (Rd.ownN [_] rfl rfl) ?_)
     exact ⟨rfl, rfl⟩
    refine stepsG.cons (fun vals Fs R leFs hpZ => ?_) ?_
    ·refine XG.op (XOp.fieldP (b := b1) (1) Tryz.runUnderlying37 rfl Tryz.sizeOf35 (by decide) rfl rfl ?_)
     exact ⟨rfl, rfl⟩
    refine stepsG.cons (fun vals Fs R leFs hpZ => ?_) ?_
    ·replace har := har.mono leFs
     replace hrs := hrs.mono leFs
     replace ha1 := ha1.mono leFs
     replace ha2 := ha2.mono leFs
     replace hr1 := Rd.monoA hr1 leFs
     replace hr2 := Rd.monoA hr2 leFs
     rw [eS (l := [(1, ptr b1 1)]) ⟨(hpZ 1 (by decide)), trivial⟩]
     refine XG.op (XOp.load1 (v := rsv) Tryz.isAgg35 rfl (Rd.own [_] rfl rfl) ?_)
     exact ⟨rfl, rfl⟩
    refine stepsG.cons (fun vals Fs R leFs hpZ => ?_) ?_
    ·refine XG.op (XOp.move (.int .i64 ((k : Int))) rfl ?_)
     exact ⟨rfl, rfl⟩
    refine stepsG.cons (fun vals Fs R leFs hpZ => ?_) ?_
    ·replace har := har.mono leFs
     replace hrs := hrs.mono leFs
     replace ha1 := ha1.mono leFs
     replace ha2 := ha2.mono leFs
     replace hr1 := Rd.monoA hr1 leFs
     replace hr2 := Rd.monoA hr2 leFs
     rw [eS (l := [(2, rsv), (3, (.int .i64 ((k : Int)) : Value))]) ⟨(hpZ 2 (by decide)), (hpZ 3 (by decide)), trivial⟩]
     refine XG.op (XOp.indexS (v := rsv) (i := (k : Int)) (n := (rs).length) k Tryz.runUnderlying35 Tryz.sizeOf121 rfl rfl rfl hrs.slv (by omega) rfl ?_)
     exact ⟨rfl, rfl⟩
    refine stepsG.cons (fun vals Fs R leFs hpZ => ?_) ?_
    ·rw [eS (l := [(4, (.pointer (some (elemA rsv (k * 2))) : Value))]) ⟨(hpZ 4 (by decide)), trivial⟩]
     refine XG.op (XOp.fieldE (v := rsv) (k * 2) Tryz.runUnderlying121 rfl Tryz.sizeOf22 (by decide) rfl rfl ?_)
     exact ⟨rfl, rfl⟩
    refine stepsG.cons (fun vals Fs R leFs hpZ => ?_) ?_
    ·replace har := har.mono leFs
     replace hrs := hrs.mono leFs
     replace ha1 := ha1.mono leFs
     replace ha2 := ha2.mono leFs
     replace hr1 := Rd.monoA hr1 leFs
     replace hr2 := Rd.monoA hr2 leFs
     rw [eS (l := [(5, (.pointer (some (elemA rsv (k * 2))) : Value))]) ⟨(hpZ 5 (by decide)), trivial⟩]
     refine XG.op (XOp.load1 (v := a1) Tryz.isAgg22 rfl (hr1 _) ?_)
     exact ⟨rfl, rfl⟩
    refine stepsG.cons (fun vals Fs R leFs hpZ => ?_) ?_
    ·refine XG.op (XOp.move (.int .i64 (n)) rfl ?_)
     exact ⟨rfl, rfl⟩
    refine stepsG.cons (fun vals Fs R leFs hpZ => ?_) ?_
    ·replace har := har.mono leFs
     replace hrs := hrs.mono leFs
     replace ha1 := ha1.mono leFs
     replace ha2 := ha2.mono leFs
     replace hr1 := Rd.monoA hr1 leFs
     replace hr2 := Rd.monoA hr2 leFs
     rw [eS (l := [(0, (.agg #[arv, rsv] : Value)), (6, a1), (7, (.int .i64 (n) : Value))]) ⟨(hpZ 0 (by decide)), (hpZ 6 (by decide)), (hpZ 7 (by decide)), trivial⟩]
     refine XG.op (XOp.call (args := [.agg #[arv, rsv], a1, .int .i64 (n)]) Tryz.call25 rfl (sLoopFrom_spec (n := n) har hrs ha1 (hla := (by first | assumption | rfl | omega | simp)) (hlr := (by first | assumption | rfl | omega | simp)) (hrb := (by first | assumption | rfl | omega | simp)) (hlt := ((hrbk (by omega)).1))) ?_)
     rintro _ F2 _ le2 ⟨x4, x5, x6, rfl, hr6, hr7, hr8, rfl⟩
     replace har := har.mono le2
     replace hrs := hrs.mono le2
     replace ha1 := ha1.mono le2
     replace ha2 := ha2.mono le2
     replace hr1 := Rd.monoA hr1 le2
     replace hr2 := Rd.monoA hr2 le2
     exact ⟨⟨rfl, hr6, hr7, hr8⟩, rfl⟩
    refine stepsG.cons (fun vals Fs R leFs hpZ => ?_) ?_
    ·obtain ⟨e8, f8_1hr1, f8_1hr2, f8_1hr3⟩ := hpZ 8 (by decide)
     rw [eS (l := [(8, (.tuple #[.agg #[((aggAt (tupAt (vals 8) 0) 0)), ((aggAt (tupAt (vals 8) 0) 1)), .int .i64 ((loopF ar rs ((rs.getD k ([], [])).1) n).2.2.1), ((aggAt (tupAt (vals 8) 0) 3))], .bool ((loopF ar rs ((rs.getD k ([], [])).1) n).2.2.2.2)] : Value))]) ⟨(e8).symm, trivial⟩]
     refine XG.op (XOp.move (.tuple #[.agg #[((aggAt (tupAt (vals 8) 0) 0)), ((aggAt (tupAt (vals 8) 0) 1)), .int .i64 ((loopF ar rs ((rs.getD k ([], [])).1) n).2.2.1), ((aggAt (tupAt (vals 8) 0) 3))], .bool ((loopF ar rs ((rs.getD k ([], [])).1) n).2.2.2.2)]) rfl ?_)
     exact ⟨rfl, rfl⟩
    refine stepsG.cons (fun vals Fs R leFs hpZ => ?_) ?_
    ·obtain ⟨e8, f8_1hr1, f8_1hr2, f8_1hr3⟩ := hpZ 8 (by decide)
     have e9 : vals 9 = (.tuple #[.agg #[((aggAt (tupAt (vals 8) 0) 0)), ((aggAt (tupAt (vals 8) 0) 1)), .int .i64 ((loopF ar rs ((rs.getD k ([], [])).1) n).2.2.1), ((aggAt (tupAt (vals 8) 0) 3))], .bool ((loopF ar rs ((rs.getD k ([], [])).1) n).2.2.2.2)] : Value) := hpZ 9 (by decide)
     rw [eS (l := [(8, (.tuple #[.agg #[((aggAt (tupAt (vals 8) 0) 0)), ((aggAt (tupAt (vals 8) 0) 1)), .int .i64 ((loopF ar rs ((rs.getD k ([], [])).1) n).2.2.1), ((aggAt (tupAt (vals 8) 0) 3))], .bool ((loopF ar rs ((rs.getD k ([], [])).1) n).2.2.2.2)] : Value)), (9, (.tuple #[.agg #[((aggAt (tupAt (vals 8) 0) 0)), ((aggAt (tupAt (vals 8) 0) 1)), .int .i64 ((loopF ar rs ((rs.getD k ([], [])).1) n).2.2.1), ((aggAt (tupAt (vals 8) 0) 3))], .bool ((loopF ar rs ((rs.getD k ([], [])).1) n).2.2.2.2)] : Value))]) ⟨(e8).symm, e9, trivial⟩]
     refine XG.op (XOp.extract (.agg #[((aggAt (tupAt (vals 8) 0) 0)), ((aggAt (tupAt (vals 8) 0) 1)), .int .i64 ((loopF ar rs ((rs.getD k ([], [])).1) n).2.2.1), ((aggAt (tupAt (vals 8) 0) 3))]) rfl rfl ?_)
     exact ⟨rfl, rfl⟩
    refine stepsG.cons (fun vals Fs R leFs hpZ => ?_) ?_
    ·obtain ⟨e8, f8_1hr1, f8_1hr2, f8_1hr3⟩ := hpZ 8 (by decide)
     have e9 : vals 9 = (.tuple #[.agg #[((aggAt (tupAt (vals 8) 0) 0)), ((aggAt (tupAt (vals 8) 0) 1)), .int .i64 ((loopF ar rs ((rs.getD k ([], [])).1) n).2.2.1), ((aggAt (tupAt (vals 8) 0) 3))], .bool ((loopF ar rs ((rs.getD k ([], [])).1) n).2.2.2.2)] : Value) := hpZ 9 (by decide)
     rw [eS (l := [(8, (.tuple #[.agg #[((aggAt (tupAt (vals 8) 0) 0)), ((aggAt (tupAt (vals 8) 0) 1)), .int .i64 ((loopF ar rs ((rs.getD k ([], [])).1) n).2.2.1), ((aggAt (tupAt (vals 8) 0) 3))], .bool ((loopF ar rs ((rs.getD k ([], [])).1) n).2.2.2.2)] : Value)), (9, (.tuple #[.agg #[((aggAt (tupAt (vals 8) 0) 0)), ((aggAt (tupAt (vals 8) 0) 1)), .int .i64 ((loopF ar rs ((rs.getD k ([], [])).1) n).2.2.1), ((aggAt (tupAt (vals 8) 0) 3))], .bool ((loopF ar rs ((rs.getD k ([], [])).1) n).2.2.2.2)] : Value))]) ⟨(e8).symm, e9, trivial⟩]
     refine XG.op (XOp.extract (.bool ((loopF ar rs ((rs.getD k ([], [])).1) n).2.2.2.2)) rfl rfl ?_)
     exact ⟨rfl, rfl⟩
    refine stepsG.cons (fun vals Fs R leFs hpZ => ?_) ?_
    ·replace har := har.mono leFs
     replace hrs := hrs.mono leFs
     replace ha1 := ha1.mono leFs
     replace ha2 := ha2.mono leFs
     replace hr1 := Rd.monoA hr1 leFs
     replace hr2 := Rd.monoA hr2 leFs
     refine XG.op (XOp.alloc [(.slice none 0 0), (.slice none 0 0), .int .i64 (0), (.slice none 0 0)] Tryz.zeroValue62 rfl ?_)
     intro b4
     exact ⟨rfl, rfl⟩
    refine stepsG.cons (fun vals Fs R leFs hpZ => ?_) ?_
    ·obtain ⟨e8, f8_1hr1, f8_1hr2, f8_1hr3⟩ := hpZ 8 (by decide)
     have e10 : vals 10 = (.agg #[((aggAt (tupAt (vals 8) 0) 0)), ((aggAt (tupAt (vals 8) 0) 1)), .int .i64 ((loopF ar rs ((rs.getD k ([], [])).1) n).2.2.1), ((aggAt (tupAt (vals 8) 0) 3))] : Value) := hpZ 10 (by decide)
     have e12 : vals 12 = ptr (blk (vals 12)) 0 := hpZ 12 (by decide)
     replace har := har.mono leFs
     replace hrs := hrs.mono leFs
     replace ha1 := ha1.mono leFs
     replace ha2 := ha2.mono leFs
     replace hr1 := Rd.monoA hr1 leFs
     replace hr2 := Rd.monoA hr2 leFs
     rw [eS (l := [(8, (.tuple #[.agg #[((aggAt (tupAt (vals 8) 0) 0)), ((aggAt (tupAt (vals 8) 0) 1)), .int .i64 ((loopF ar rs ((rs.getD k ([], [])).1) n).2.2.1), ((aggAt (tupAt (vals 8) 0) 3))], .bool ((loopF ar rs ((rs.getD k ([], [])).1) n).2.2.2.2)] : Value)), (10, (.agg #[((aggAt (tupAt (vals 8) 0) 0)), ((aggAt (tupAt (vals 8) 0) 1)), .int .i64 ((loopF ar rs ((rs.getD k ([], [])).1) n).2.2.1), ((aggAt (tupAt (vals 8) 0) 3))] : Value)), (12, ptr (blk (vals 12)) 0)]) ⟨(e8).symm, e10, e12, trivial⟩]
     show XG _ _ _ _ _ (cellsH (blk (vals 12)) [(.slice none 0 0), (.slice none 0 0), .int .i64 (0), (.slice none 0 0)] 62 :: ([cellsH b2 [(.slice none 0 0), (.slice none 0 0), .int .i64 (0), (.slice none 0 0)] 62, cellsH b1 [arv, rsv] 37] ++ R)) _
     refine XG.op (XOp.storeN (vs := [((aggAt (tupAt (vals 8) 0) 0)), ((aggAt (tupAt (vals 8) 0) 1)), .int .i64 ((loopF ar rs ((rs.getD k ([], [])).1) n).2.2.1), ((aggAt (tupAt (vals 8) 0) 3))]) [] _ [((aggAt (tupAt (vals 8) 0) 0)), ((aggAt (tupAt (vals 8) 0) 1)), .int .i64 ((loopF ar rs ((rs.getD k ([], [])).1) n).2.2.1), ((aggAt (tupAt (vals 8) 0) 3))] Tryz.sizeOf62 rfl rfl rfl (ones_cons (one_sl (IntsF.isSl f8_1hr1)) (ones_cons (one_sl (StepsF.isSl f8_1hr2)) (ones_cons rfl (ones_cons (one_sl (RowsF.isSl f8_1hr3)) ones_nil)))) rfl rfl rfl ?_)
     exact ⟨trivial, rfl⟩
    exact stepsG.nil
   ·intro vals F3 le3 hphi
    obtain ⟨e8, f8_1hr1, f8_1hr2, f8_1hr3⟩ := hphi 8 (by decide)
    have e9 : vals 9 = (.tuple #[.agg #[((aggAt (tupAt (vals 8) 0) 0)), ((aggAt (tupAt (vals 8) 0) 1)), .int .i64 ((loopF ar rs ((rs.getD k ([], [])).1) n).2.2.1), ((aggAt (tupAt (vals 8) 0) 3))], .bool ((loopF ar rs ((rs.getD k ([], [])).1) n).2.2.2.2)] : Value) := hphi 9 (by decide)
    have e10 : vals 10 = (.agg #[((aggAt (tupAt (vals 8) 0) 0)), ((aggAt (tupAt (vals 8) 0) 1)), .int .i64 ((loopF ar rs ((rs.getD k ([], [])).1) n).2.2.1), ((aggAt (tupAt (vals 8) 0) 3))] : Value) := hphi 10 (by decide)
    have e12 : vals 12 = ptr (blk (vals 12)) 0 := hphi 12 (by decide)
    generalize hu1 : ((aggAt (tupAt (vals 8) 0) 0)) = u1 at e8 f8_1hr1 f8_1hr2 f8_1hr3 e9 e10 e12
    generalize hu2 : ((aggAt (tupAt (vals 8) 0) 1)) = u2 at e8 f8_1hr1 f8_1hr2 f8_1hr3 e9 e10 e12
    generalize hu3 : ((aggAt (tupAt (vals 8) 0) 3)) = u3 at e8 f8_1hr1 f8_1hr2 f8_1hr3 e9 e10 e12
    generalize hu4 : blk (vals 12) = b5 at e8 f8_1hr1 f8_1hr2 f8_1hr3 e9 e10 e12
    rw [eS (l := [(0, (.agg #[arv, rsv] : Value)), (1, ptr b1 1), (2, rsv), (3, (.int .i64 ((k : Int)) : Value)), (4, (.pointer (some (elemA rsv (k * 2))) : Value)), (5, (.pointer (some (elemA rsv (k * 2))) : Value)), (6, a1), (7, (.int .i64 (n) : Value)), (8, (.tuple #[.agg #[u1, u2, .int .i64 ((loopF ar rs ((rs.getD k ([], [])).1) n).2.2.1), u3], .bool ((loopF ar rs ((rs.getD k ([], [])).1) n).2.2.2.2)] : Value)), (9, (.tuple #[.agg #[u1, u2, .int .i64 ((loopF ar rs ((rs.getD k ([], [])).1) n).2.2.1), u3], .bool ((loopF ar rs ((rs.getD k ([], [])).1) n).2.2.2.2)] : Value)), (10, (.agg #[u1, u2, .int .i64 ((loopF ar rs ((rs.getD k ([], [])).1) n).2.2.1), u3] : Value)), (11, (.bool ((loopF ar rs ((rs.getD k ([], [])).1) n).2.2.2.2) : Value)), (12, ptr b5 0)]) ⟨(hphi 0 (by decide)), (hphi 1 (by decide)), (hphi 2 (by decide)), (hphi 3 (by decide)), (hphi 4 (by decide)), (hphi 5 (by decide)), (hphi 6 (by decide)), (hphi 7 (by decide)), (e8).symm, e9, e10, (hphi 11 (by decide)), e12, trivial⟩]
    replace har := har.mono le3
    replace hrs := hrs.mono le3
    replace ha1 := ha1.mono le3
    replace ha2 := ha2.mono le3
    replace hr1 := Rd.monoA hr1 le3
    replace hr2 := Rd.monoA hr2 le3
    show XL _ _ _ _ _ _ _ (cellsH b5 [u1, u2, .int .i64 ((loopF ar rs ((rs.getD k ([], [])).1) n).2.2.1), u3] 62 :: cellsH b2 [(.slice none 0 0), (.slice none 0 0), .int .i64 (0), (.slice none 0 0)] 62 :: cellsH b1 [arv, rsv] 37 :: L)
    refine XL.as (.bool ((loopF ar rs ((rs.getD k ([], [])).1) n).2.2.2.2)) rfl ?_
    refine XL.nil (X.seq (X.region ?_))
    refine XL.mv (.bool ((loopF ar rs ((rs.getD k ([], [])).1) n).2.2.2.2)) rfl ?_
    refine XL.nil ?_
    refine X.cond (t := (loopF ar rs ((rs.getD k ([], [])).1) n).2.2.2.2) rfl (fun h3 => ?_) (fun h3 => ?_)
    ·have hb9 : (loopF ar rs (rs.getD k ([], [])).1 n).2.2.2.2 = true := h3
     refine X.seq (X.region ?_)
     refine XL.cons (XOp.loadN [u1, u2, .int .i64 ((loopF ar rs ((rs.getD k ([], [])).1) n).2.2.1), u3] Tryz.isAgg62 Tryz.sizeOf62 rfl rfl (Rd.ownN [] rfl rfl) ?_)
     refine XL.cons (XOp.storeN (vs := [u1, u2, .int .i64 ((loopF ar rs ((rs.getD k ([], [])).1) n).2.2.1), u3]) [_] _ [u1, u2, .int .i64 ((loopF ar rs ((rs.getD k ([], [])).1) n).2.2.1), u3] Tryz.sizeOf62 rfl rfl rfl (ones_cons (one_sl (IntsF.isSl f8_1hr1)) (ones_cons (one_sl (StepsF.isSl f8_1hr2)) (ones_cons rfl (ones_cons (one_sl (RowsF.isSl f8_1hr3)) ones_nil)))) rfl rfl rfl ?_)
     refine XL.as (.bool (true)) rfl ?_
     refine XL.nil ?_
     refine X.ret (blockQ_ret (thenQ_ret (thenQ_ret (blockQ_ret (thenQ_ret (retEnd (L' := L) [.agg #[u1, u2, .int .i64 ((loopF ar rs ((rs.getD k ([], [])).1) n).2.2.1), u3], .bool (true)] (.tuple #[.agg #[u1, u2, .int .i64 ((loopF ar rs ((rs.getD k ([], [])).1) n).2.2.1), u3], .bool (true)]) (.cell rfl (loadNV [u1, u2, .int .i64 ((loopF ar rs ((rs.getD k ([], [])).1) n).2.2.1), u3] Tryz.isAgg62 Tryz.sizeOf62 rfl (Rd.ownN [_] rfl rfl)) (.tmp rfl .nil)) rfl (FLe.trans leG1 le3) rF (Sub.drop (Sub.drop (Sub.drop sR))) ?_))))))
     have hn20 : 1 ≤ n ∧ n ≤ 20 := Classical.byContradiction fun hc => by rw [loopF_no (fun h => hc h.2)] at hb9; cases hb9
     have e := firstF_at ⟨hsys, hn20⟩ (k := k) (by omega) hb9 hall
     exact ⟨_, _, _, by rw [e, hb9], by rw [e]; exact f8_1hr1, by rw [e]; exact f8_1hr2, by rw [e]; exact f8_1hr3, rfl⟩
    ·have hb9 : (loopF ar rs (rs.getD k ([], [])).1 n).2.2.2.2 = false := h3
     refine X.skip (X.region ?_)
     refine XL.mv (.int .i64 ((k : Int))) rfl ?_
     refine XL.cons (XOp.addR (a := (k : Int)) (b := 1) (((k + 1 : Nat) : Int)) rfl rfl (by omega) (by omega) ?_)
     refine XL.as (.int .i64 (((k + 1 : Nat) : Int))) rfl ?_
     refine XL.nil ?_
     exact ⟨(k + 1, F3), _, (FLe.trans leG1 le3), rF, ⟨rfl, rfl, rfl, rfl, trivial⟩, (Sub.drop (Sub.cons (Sub.cons sR))), ⟨rfl, (FLe.trans leG1 le3), (by (try dsimp only) <;> omega), (fun i hi => (Nat.lt_or_ge i k).elim (fun h => hall i h) (fun h => by obtain rfl : i = k := (by omega); exact hb9))⟩, (by omega)⟩
  ·refine X.exit (thenQ_exit (thenQ_exit (blockQ_exit ?_)))
   refine X.seq (X.region ?_)
   refine XL.cons (XOp.build [(.slice none 0 0), (.slice none 0 0), .int .i64 (0), (.slice none 0 0)] [(.slice none 0 0), (.slice none 0 0), .int .i64 (0), (.slice none 0 0)] [(0, 2), (2, 1), (3, 1)] [] Tryz.runUnderlying62 Tryz.zeroValue62 rfl (.cons rfl Tryz.sizeOf57 (.cons rfl Tryz.sizeOf2 (.cons rfl Tryz.sizeOf60 PlacesAre.nil))) rfl CellsAre.nil ?_)
   refine XL.cons (XOp.storeN (vs := [(.slice none 0 0), (.slice none 0 0), .int .i64 (0), (.slice none 0 0)]) [] _ [(.slice none 0 0), (.slice none 0 0), .int .i64 (0), (.slice none 0 0)] Tryz.sizeOf62 rfl rfl rfl (ones_cons rfl (ones_cons rfl (ones_cons rfl (ones_cons rfl ones_nil)))) rfl rfl rfl ?_)
   refine XL.as (.bool (false)) rfl ?_
   refine XL.nil ?_
   refine X.ret (retEnd (L' := L) [.agg #[(.slice none 0 0), (.slice none 0 0), .int .i64 (0), (.slice none 0 0)], .bool (false)] (.tuple #[.agg #[(.slice none 0 0), (.slice none 0 0), .int .i64 (0), (.slice none 0 0)], .bool (false)]) (.cell rfl (loadNV [(.slice none 0 0), (.slice none 0 0), .int .i64 (0), (.slice none 0 0)] Tryz.isAgg62 Tryz.sizeOf62 rfl (Rd.ownN [] rfl rfl)) (.tmp rfl .nil)) rfl leG1 rF (Sub.drop (Sub.drop sR)) ?_)
   have e : firstF ar rs n = noLoop := firstF_none (fun i hi => hall i (by omega))
   exact ⟨_, _, _, by rw [e], by rw [e]; exact IntsF.nilV, by rw [e]; exact SlOf.nilV, by rw [e]; exact SlOf.nilV, rfl⟩
end Go.Proofs.YtiaanelimbmniaaGreat
set_option linter.unusedSimpArgs false
set_option linter.unusedVariables false
namespace Go.Proofs.YtiaanelimbmniaaGreat
open Go X M

/- laws.markLoop -/
theorem markLoop_spec {F : FH} {L : List HP} {xv : Value} {x : List Int} {yv : Value} {y : List StepT} {i : Int} {uv : Value} {u : List (List Int)} {z : Int} (hz : 0 ≤ z ∧ z + (((x) ++ (y.flatMap flatStep) ++ (u.flatMap flatRow)).length : Int) ≤ 9000000000) (hny : y.length ≤ 4000000) (hnu : u.length ≤ 4000000) :
    Does Tryz.prog 28 [.agg #[xv, yv, .int .i64 (i), uv], .int .i64 (z)] F (intsH 2 xv x :: stepsD 2 116 yv y :: rowsD 2 22 uv u :: L) (fun v F' L' => ∃ x' : List Int, ∃ y' : List StepT, ∃ u' : List (List Int), ((x') ++ (y'.flatMap flatStep) ++ (u'.flatMap flatRow)) = iota z ((x) ++ (y.flatMap flatStep) ++ (u.flatMap flatRow)).length ∧ y'.length = y.length ∧ u'.length = u.length ∧ (.int .i64 (z + (((x) ++ (y.flatMap flatStep) ++ (u.flatMap flatRow)).length : Int)) : Value) = v ∧ F = F' ∧ intsH 2 xv x' :: stepsD 2 116 yv y' :: rowsD 2 22 uv u' :: L = L') := by
 refine Does.of_X Tryz.func28 rfl rfl rfl ?_
 have hlx : (((x) ++ (y.flatMap flatStep)) ++ (u.flatMap flatRow)).length = ((x) ++ (y.flatMap flatStep)).length + (u.flatMap flatRow).length := List.length_append
 have hly : ((x) ++ (y.flatMap flatStep)).length = x.length + (y.flatMap flatStep).length := List.length_append
 refine X.seq (X.region ?_)
 refine XL.cons (XOp.box [xv, yv, .int .i64 (i), uv] rfl rfl ?_)
 intro b1
 refine XL.as (.int .i64 (0)) rfl ?_
 refine XL.nil (X.seq (X.region ?_))
 refine XL.cons (XOp.fieldP (b := b1) (0) Tryz.runUnderlying62 rfl Tryz.sizeOf57 (by decide) rfl rfl ?_)
 refine XL.cons (XOp.loadN [xv, yv] Tryz.isAgg57 Tryz.sizeOf57 rfl rfl (Rd.ownN [] rfl rfl) ?_)
 refine XL.mv (.int .i64 (z)) rfl ?_
 refine XL.weaken (Sub.front (A := [_, _])) ?_
 show XL _ _ _ _ _ _ _ (stepsD 2 116 yv y :: cellsH b1 [xv, yv, .int .i64 (i), uv] 62 :: intsH 2 xv x :: rowsD 2 22 uv u :: L)
 refine XL.weaken (Sub.front (A := [_, _])) ?_
 show XL _ _ _ _ _ _ _ (intsH 2 xv x :: stepsD 2 116 yv y :: cellsH b1 [xv, yv, .int .i64 (i), uv] 62 :: rowsD 2 22 uv u :: L)
 refine XL.cons (XOp.call (args := [.agg #[xv, yv], .int .i64 (z)]) Tryz.call39 rfl (markWalk_spec (by omega) (by omega)) ?_)
 rintro _ _ _ _ ⟨m1, m2, hm1, hk1, rfl, rfl, rfl⟩
 have hml1 := congrArg List.length hm1
 rw [iota_len] at hml1
 try simp only [List.length_append] at hml1
 refine XL.as (.int .i64 (z + (((x) ++ (y.flatMap flatStep)).length : Int))) rfl ?_
 refine XL.nil (X.seq (X.region ?_))
 refine XL.cons (XOp.fieldP (b := b1) (3) Tryz.runUnderlying62 rfl Tryz.sizeOf60 (by decide) rfl rfl ?_)
 refine XL.cons (XOp.loadN [uv] Tryz.isAgg60 Tryz.sizeOf60 rfl rfl (Rd.ownN [_, _] rfl rfl) ?_)
 refine XL.mv (.int .i64 (z + (((x) ++ (y.flatMap flatStep)).length : Int))) rfl ?_
 refine XL.weaken (Sub.front (A := [_, _, _])) ?_
 show XL _ _ _ _ _ _ _ (rowsD 2 22 uv u :: intsH 2 xv m1 :: stepsD 2 116 yv m2 :: cellsH b1 [xv, yv, .int .i64 (i), uv] 62 :: L)
 refine XL.cons (XOp.call (args := [.agg #[uv], .int .i64 (z + (((x) ++ (y.flatMap flatStep)).length : Int))]) Tryz.call81 rfl (markSubst_spec (by omega) (by omega)) ?_)
 rintro _ _ _ _ ⟨m3, hm2, hk2, rfl, rfl, rfl⟩
 have hml2 := congrArg List.length hm2
 rw [iota_len] at hml2
 try simp only [List.length_append] at hml2
 refine XL.as (.int .i64 ((z + (((x) ++ (y.flatMap flatStep)).length : Int)) + (((u.flatMap flatRow)).length : Int))) rfl ?_
 refine XL.nil (X.seq (X.region ?_))
 refine XL.mv (.int .i64 ((z + (((x) ++ (y.flatMap flatStep)).length : Int)) + (((u.flatMap flatRow)).length : Int))) rfl ?_
 refine XL.as (.int .i64 ((z + (((x) ++ (y.flatMap flatStep)).length : Int)) + (((u.flatMap flatRow)).length : Int))) rfl ?_
 refine XL.nil ?_
 refine X.ret (retEnd (L' := intsH 2 xv m1 :: stepsD 2 116 yv m2 :: rowsD 2 22 uv m3 :: L) [.int .i64 ((z + (((x) ++ (y.flatMap flatStep)).length : Int)) + (((u.flatMap flatRow)).length : Int))] (.int .i64 ((z + (((x) ++ (y.flatMap flatStep)).length : Int)) + (((u.flatMap flatRow)).length : Int))) (.tmp rfl .nil) rfl rF rF (Sub.trans (Sub.front (A := [_, _])) (Sub.trans (Sub.front (A := [_, _])) (Sub.cons (Sub.cons (Sub.cons (Sub.drop sR)))))) ?_)
 exact ⟨m1, m2, m3, by rw [List.length_append, iota_add, hm1, hm2], (by assumption), (by assumption), congrArg (Value.int .i64) (by first | rfl | (simp only [List.length_append]; omega)), rfl, rfl⟩

/- laws.heldSubst -/
theorem heldSubst_spec {F : FH} {L : List HP} {uv : Value} {u : List (List Int)} (hu : RowsF F uv u) {z : Int} (hzb : 0 ≤ z ∧ z + ((u.flatMap flatRow).length : Int) ≤ 9000000000) (hul : u.length ≤ 4000000) :
    Does Tryz.prog 82 [.agg #[uv], .int .i64 (z)] F (L) (fun v F' L' => (.int .i64 (heldF (u.flatMap flatRow) z) : Value) = v ∧ F = F' ∧ L = L') := by
 refine Does.of_X Tryz.func82 rfl rfl rfl ?_
 have hh1 := heldF_range (xs := u.flatMap flatRow) hzb.1
 refine X.seq (X.region ?_)
 refine XL.cons (XOp.box [uv] rfl rfl ?_)
 intro b1
 refine XL.as (.int .i64 (0)) rfl ?_
 refine XL.nil (X.seq (X.region ?_))
 refine XL.cons (XOp.fieldP (b := b1) (0) Tryz.runUnderlying60 rfl Tryz.sizeOf58 (by decide) rfl rfl ?_)
 refine XL.cons (XOp.load1 (v := uv) Tryz.isAgg58 rfl (Rd.own [] rfl rfl) ?_)
 refine XL.mv (.int .i64 (z)) rfl ?_
 refine XL.cons (XOp.call (args := [uv, .int .i64 (z)]) Tryz.call138 rfl (heldInt64SS_spec (z := z) hu (hzb := (by first | assumption | rfl | omega | simp)) (hxl := (by first | assumption | rfl | omega | simp))) ?_)
 rintro _ _ _ _ ⟨rfl, rfl, rfl⟩
 refine XL.as (.int .i64 (heldF (u.flatMap flatRow) z)) rfl ?_
 refine XL.nil (X.seq (X.seq (X.region ?_)))
 refine XL.mv (.int .i64 (heldF (u.flatMap flatRow) z)) rfl ?_
 refine XL.cons (XOp.lss (a := heldF (u.flatMap flatRow) z) (b := 0) rfl rfl ?_)
 refine XL.nil ?_
 refine X.condD (p := (heldF (u.flatMap flatRow) z : Int) < 0) rfl (fun h1 => ?_) (fun h1 => ?_)
 ·refine X.seq (X.region ?_)
  refine XL.as (.int .i64 (-1)) rfl ?_
  refine XL.nil ?_
  refine X.ret (thenQ_ret (retEnd (L' := L) [.int .i64 (-1)] (.int .i64 (-1)) (.tmp rfl .nil) rfl rF rF (Sub.drop sR) ?_))
  exact ⟨(vI (by have := hh1.1; omega)), rfl, rfl⟩
 ·refine X.skip (X.seq (X.region ?_))
  refine XL.mv (.int .i64 (heldF (u.flatMap flatRow) z)) rfl ?_
  refine XL.as (.int .i64 (heldF (u.flatMap flatRow) z)) rfl ?_
  refine XL.nil ?_
  refine X.ret (retEnd (L' := L) [.int .i64 (heldF (u.flatMap flatRow) z)] (.int .i64 (heldF (u.flatMap flatRow) z)) (.tmp rfl .nil) rfl rF rF (Sub.drop sR) ?_)
  exact ⟨rfl, rfl, rfl⟩

/- laws.heldLoop -/
theorem heldLoop_spec {F : FH} {L : List HP} {fv : Value} {f : List Int} (hf : IntsF F fv f) {xv : Value} {x : List StepT} (hx : StepsF F xv x) {i : Int} {uv : Value} {u : List (List Int)} (hu : RowsF F uv u) {z : Int} (hzb : 0 ≤ z ∧ z + ((f.length + (x.flatMap flatStep).length + (u.flatMap flatRow).length : Nat) : Int) ≤ 9000000000) (hxl : x.length ≤ 4000000) (hul : u.length ≤ 4000000) :
    Does Tryz.prog 29 [.agg #[fv, xv, .int .i64 (i), uv], .int .i64 (z)] F (L) (fun v F' L' => (.int .i64 (heldF ((f ++ x.flatMap flatStep) ++ u.flatMap flatRow) z) : Value) = v ∧ F = F' ∧ L = L') := by
 refine Does.of_X Tryz.func29 rfl rfl rfl ?_
 have hh1 := heldF_range (xs := f ++ x.flatMap flatStep) hzb.1
 have hly : (f ++ x.flatMap flatStep).length = f.length + (x.flatMap flatStep).length := List.length_append
 refine X.seq (X.region ?_)
 refine XL.cons (XOp.box [fv, xv, .int .i64 (i), uv] rfl rfl ?_)
 intro b1
 refine XL.as (.int .i64 (0)) rfl ?_
 refine XL.nil (X.seq (X.region ?_))
 refine XL.cons (XOp.fieldP (b := b1) (0) Tryz.runUnderlying62 rfl Tryz.sizeOf57 (by decide) rfl rfl ?_)
 refine XL.cons (XOp.loadN [fv, xv] Tryz.isAgg57 Tryz.sizeOf57 rfl rfl (Rd.ownN [] rfl rfl) ?_)
 refine XL.mv (.int .i64 (z)) rfl ?_
 refine XL.cons (XOp.call (args := [.agg #[fv, xv], .int .i64 (z)]) Tryz.call40 rfl (heldWalk_spec (z := z) hf hx (hzb := (by constructor <;> omega)) (hxl := (by first | assumption | rfl | omega | simp))) ?_)
 rintro _ _ _ _ ⟨rfl, rfl, rfl⟩
 refine XL.as (.int .i64 (heldF (f ++ x.flatMap flatStep) z)) rfl ?_
 refine XL.nil (X.seq (X.seq (X.region ?_)))
 refine XL.mv (.int .i64 (heldF (f ++ x.flatMap flatStep) z)) rfl ?_
 refine XL.cons (XOp.lss (a := heldF (f ++ x.flatMap flatStep) z) (b := 0) rfl rfl ?_)
 refine XL.nil ?_
 refine X.condD (p := (heldF (f ++ x.flatMap flatStep) z : Int) < 0) rfl (fun h1 => ?_) (fun h1 => ?_)
 ·refine X.seq (X.region ?_)
  refine XL.as (.int .i64 (-1)) rfl ?_
  refine XL.nil ?_
  refine X.ret (thenQ_ret (retEnd (L' := L) [.int .i64 (-1)] (.int .i64 (-1)) (.tmp rfl .nil) rfl rF rF (Sub.drop sR) ?_))
  exact ⟨(vI (by rw [heldF_append hzb.1, if_pos (by omega)])), rfl, rfl⟩
 ·refine X.skip (X.seq (X.region ?_))
  refine XL.cons (XOp.fieldP (b := b1) (3) Tryz.runUnderlying62 rfl Tryz.sizeOf60 (by decide) rfl rfl ?_)
  refine XL.cons (XOp.loadN [uv] Tryz.isAgg60 Tryz.sizeOf60 rfl rfl (Rd.ownN [] rfl rfl) ?_)
  refine XL.mv (.int .i64 (heldF (f ++ x.flatMap flatStep) z)) rfl ?_
  refine XL.cons (XOp.call (args := [.agg #[uv], .int .i64 (heldF (f ++ x.flatMap flatStep) z)]) Tryz.call82 rfl (heldSubst_spec (z := heldF (f ++ x.flatMap flatStep) z) hu (hzb := (by constructor <;> omega)) (hul := (by first | assumption | rfl | omega | simp))) ?_)
  rintro _ _ _ _ ⟨rfl, rfl, rfl⟩
  refine XL.as (.int .i64 (heldF (u.flatMap flatRow) (heldF (f ++ x.flatMap flatStep) z))) rfl ?_
  refine XL.nil (X.seq (X.seq (X.region ?_)))
  refine XL.mv (.int .i64 (heldF (u.flatMap flatRow) (heldF (f ++ x.flatMap flatStep) z))) rfl ?_
  refine XL.cons (XOp.lss (a := heldF (u.flatMap flatRow) (heldF (f ++ x.flatMap flatStep) z)) (b := 0) rfl rfl ?_)
  refine XL.nil ?_
  refine X.condD (p := (heldF (u.flatMap flatRow) (heldF (f ++ x.flatMap flatStep) z) : Int) < 0) rfl (fun h2 => ?_) (fun h2 => ?_)
  ·refine X.seq (X.region ?_)
   refine XL.as (.int .i64 (-1)) rfl ?_
   refine XL.nil ?_
   refine X.ret (thenQ_ret (retEnd (L' := L) [.int .i64 (-1)] (.int .i64 (-1)) (.tmp rfl .nil) rfl rF rF (Sub.drop sR) ?_))
   exact ⟨(vI (by rw [heldF_append hzb.1, if_neg (by omega)]; have := (heldF_range (xs := u.flatMap flatRow) (k := heldF (f ++ x.flatMap flatStep) z) (by omega)).1; omega)), rfl, rfl⟩
  ·refine X.skip (X.seq (X.region ?_))
   refine XL.mv (.int .i64 (heldF (u.flatMap flatRow) (heldF (f ++ x.flatMap flatStep) z))) rfl ?_
   refine XL.as (.int .i64 (heldF (u.flatMap flatRow) (heldF (f ++ x.flatMap flatStep) z))) rfl ?_
   refine XL.nil ?_
   refine X.ret (retEnd (L' := L) [.int .i64 (heldF (u.flatMap flatRow) (heldF (f ++ x.flatMap flatStep) z))] (.int .i64 (heldF (u.flatMap flatRow) (heldF (f ++ x.flatMap flatStep) z))) (.tmp rfl .nil) rfl rF rF (Sub.drop sR) ?_)
   exact ⟨(vI (by rw [heldF_append hzb.1, if_neg (by omega)])), rfl, rfl⟩

/- laws.FnExactFirstLoop -/
set_option maxRecDepth 20000 in
theorem FnExactFirstLoop_does {F : FH} {L : List HP} {arv : Value} {ar : List Int} (har : IntsF F arv ar) {rsv : Value} {rs : List (List Int × List Int)} (hrs : PairsF F rsv rs) {n : Int} (hlar : ar.length ≤ 9223372036854775807) (hlrs : rs.length ≤ 9223372036854775807) (hbrs : ∀ i, i < rs.length → (rs.getD i ([], [])).1.length ≤ 9223372036854775807 ∧ (rs.getD i ([], [])).2.length ≤ 9223372036854775807) :
    Does Tryz.prog 6 [.agg #[arv, rsv], .int .i64 (n)] F (L) (fun v F' L' => (.bool (true) : Value) = v ∧ F = F' ∧ L = L') := by
 refine Does.of_X Tryz.func6 rfl rfl rfl ?_
 have hnb : LoopB (firstF ar rs n) := firstF_bound
 have hnc := hnb.1.1
 have hnd := hnb.1.2.1
 have hne := hnb.1.2.2.1
 have hnf := hnb.1.2.2.2
 have hng := hnb.2.1
 have hnh := hnb.2.2.1
 have hni := hnb.2.2.2
 refine X.seq (X.region ?_)
 refine XL.cons (XOp.box [arv, rsv] rfl rfl ?_)
 intro b1
 refine XL.as (.bool (false)) rfl ?_
 refine XL.nil (X.seq (X.region ?_))
 refine XL.as (.int .i64 (1048576)) rfl ?_
 refine XL.nil (X.seq (X.region ?_))
 refine XL.cons (XOp.loadN [arv, rsv] Tryz.isAgg27 Tryz.sizeOf27 rfl rfl (Rd.ownN [] rfl rfl) ?_)
 refine XL.mv (.int .i64 (1048576)) rfl ?_
 refine XL.cons (XOp.call (args := [.agg #[arv, rsv], .int .i64 (1048576)]) Tryz.call8 rfl (szSystem_spec (z := 1048576) har hrs (hz := (by first | assumption | rfl | omega | simp)) (hal := (by first | assumption | rfl | omega | simp)) (hrl := (by first | assumption | rfl | omega | simp)) (hrb := (by first | assumption | rfl | omega | simp))) ?_)
 rintro _ _ _ _ ⟨rfl, rfl, rfl⟩
 refine XL.as (.int .i64 (dec 1048576 (ar.length + szR rs))) rfl ?_
 refine XL.nil (X.seq (X.seq (X.region ?_)))
 refine XL.mv (.int .i64 (dec 1048576 (ar.length + szR rs))) rfl ?_
 refine XL.cons (XOp.lss (a := dec 1048576 (ar.length + szR rs)) (b := 0) rfl rfl ?_)
 refine XL.nil ?_
 refine X.condD (p := (dec 1048576 (ar.length + szR rs) : Int) < 0) rfl (fun h1 => ?_) (fun h1 => ?_)
 ·refine X.seq (X.region ?_)
  refine XL.as (.bool (true)) rfl ?_
  refine XL.nil ?_
  refine X.ret (thenQ_ret (retEnd (L' := L) [.bool (true)] (.bool (true)) (.tmp rfl .nil) rfl rF rF (Sub.drop sR) ?_))
  exact ⟨rfl, rfl, rfl⟩
 ·have hd1 := dec_le2 h1 (by omega)
  have hzrs := szR_le (rs := rs)
  have hirs := hzrs.2
  have hcrs : ∀ i, i < rs.length → (rs.getD i ([], [])).1.length ≤ 4000000 ∧ (rs.getD i ([], [])).2.length ≤ 4000000 := fun i hi => by have := hirs i hi; omega
  have hfrs := flatPair_len rs
  refine X.skip (X.seq (X.region ?_))
  refine XL.cons (XOp.loadN [arv, rsv] Tryz.isAgg27 Tryz.sizeOf27 rfl rfl (Rd.ownN [] rfl rfl) ?_)
  refine XL.cons (XOp.thawL ?_)
  refine id (XOp.call (args := [.agg #[arv, rsv]]) Tryz.call10 rfl (toSystem_spec har hrs (hla := (by first | assumption | rfl | omega | simp)) (hrl := (by first | assumption | rfl | omega | simp)) (hrb := (by first | assumption | rfl | omega | simp))) ?_)
  rintro _ F1 _ le1 ⟨x1, x2, rfl, hr1, hr2, hr3, rfl⟩
  refine ⟨[intsH 2 x1 ar, pairsD 2 121 x2 rs], hr3, ?_⟩
  show XL _ _ _ _ _ _ _ (intsH 2 x1 ar :: pairsD 2 121 x2 rs :: cellsH b1 [arv, rsv] 27 :: L)
  refine XL.mv (.int .i64 (n)) rfl ?_
  refine XL.freezeF [] _ _ rfl (fun F2 le2 hz1 => ?_)
  replace har := har.mono le2
  replace hrs := hrs.mono le2
  have hf1 : IntsF F2 x1 ar := intsH.fz (xs := ar) hz1.fz
  refine XL.freezeF [] _ _ rfl (fun F3 le3 hz2 => ?_)
  replace har := har.mono le3
  replace hrs := hrs.mono le3
  replace hf1 := hf1.mono le3
  have hf2 : PairsF F3 x2 rs := pairsD.fz hz2.fz
  refine XL.cons (XOp.call (args := [.agg #[x1, x2], .int .i64 (n)]) Tryz.call30 rfl (sFirstLoop_spec (n := n) hf1 hf2 (hla := (by first | assumption | rfl | omega | simp)) (hlr := (by first | assumption | rfl | omega | simp)) (hrb := (by first | assumption | rfl | omega | simp))) ?_)
  rintro _ F4 _ le4 ⟨x3, x4, x5, rfl, hr4, hr5, hr6, rfl⟩
  replace har := har.mono le4
  replace hrs := hrs.mono le4
  replace hf1 := hf1.mono le4
  replace hf2 := hf2.mono le4
  refine XL.mv (.tuple #[.agg #[x3, x4, .int .i64 ((firstF ar rs n).2.2.1), x5], .bool ((firstF ar rs n).2.2.2.2)]) rfl ?_
  refine XL.cons (XOp.extract (.agg #[x3, x4, .int .i64 ((firstF ar rs n).2.2.1), x5]) rfl rfl ?_)
  refine XL.cons (XOp.extract (.bool ((firstF ar rs n).2.2.2.2)) rfl rfl ?_)
  refine XL.cons (XOp.alloc [(.slice none 0 0), (.slice none 0 0), .int .i64 (0), (.slice none 0 0)] Tryz.zeroValue62 rfl ?_)
  intro b2
  refine XL.cons (XOp.storeN (vs := [x3, x4, .int .i64 ((firstF ar rs n).2.2.1), x5]) [] _ [x3, x4, .int .i64 ((firstF ar rs n).2.2.1), x5] Tryz.sizeOf62 rfl rfl rfl (ones_cons (one_sl (IntsF.isSl hr4)) (ones_cons (one_sl (StepsF.isSl hr5)) (ones_cons rfl (ones_cons (one_sl (RowsF.isSl hr6)) ones_nil)))) rfl rfl rfl ?_)
  refine XL.as (.bool ((firstF ar rs n).2.2.2.2)) rfl ?_
  refine XL.nil (X.seq (X.region ?_))
  refine XL.cons (XOp.loadN [arv, rsv] Tryz.isAgg27 Tryz.sizeOf27 rfl rfl (Rd.ownN [_] rfl rfl) ?_)
  refine XL.cons (XOp.thawL ?_)
  refine id (XOp.call (args := [.agg #[arv, rsv]]) Tryz.call10 rfl (toSystem_spec har hrs (hla := (by first | assumption | rfl | omega | simp)) (hrl := (by first | assumption | rfl | omega | simp)) (hrb := (by first | assumption | rfl | omega | simp))) ?_)
  rintro _ F5 _ le5 ⟨x6, x7, rfl, hr7, hr8, hr9, rfl⟩
  refine ⟨[intsH 2 x6 ar, pairsD 2 121 x7 rs], hr9, ?_⟩
  show XL _ _ _ _ _ _ _ (intsH 2 x6 ar :: pairsD 2 121 x7 rs :: cellsH b2 [x3, x4, .int .i64 ((firstF ar rs n).2.2.1), x5] 62 :: cellsH b1 [arv, rsv] 27 :: L)
  refine XL.cons (XOp.alloc [(.slice none 0 0), (.slice none 0 0)] Tryz.zeroValue37 rfl ?_)
  intro b3
  refine XL.cons (XOp.storeN (vs := [x6, x7]) [] _ [x6, x7] Tryz.sizeOf37 rfl rfl rfl (ones_cons (one_sl (IntsF.isSl hr7)) (ones_cons (one_sl (PairsF.isSl hr8)) ones_nil)) rfl rfl rfl ?_)
  refine XL.nil (X.seq (X.region ?_))
  refine XL.cons (XOp.loadN [x6, x7] Tryz.isAgg37 Tryz.sizeOf37 rfl rfl (Rd.ownN [] rfl rfl) ?_)
  refine XL.mv (.int .i64 (n)) rfl ?_
  refine XL.cons (XOp.lend [_] _ _ rfl (fun F6 le6 hz3 => ?_))
  refine id (XOp.lend [_] _ _ rfl (fun F7 le7 hz4 => ?_))
  have hf3 : IntsF _ x6 ar := (intsH.fz (xs := ar) hz3).mono le7
  have hf4 : PairsF _ x7 rs := pairsD.fz hz4
  refine id (XOp.thawL ?_)
  refine id (XOp.call (args := [.agg #[x6, x7], .int .i64 (n)]) Tryz.call31 rfl (FirstLoop_spec (n := n) hf3 hf4) ?_)
  rintro _ F8 _ le8 ⟨x8, x9, x10, rfl, hr10, hr11, hr12, hr13, rfl⟩
  refine ⟨[intsH 2 x8 ((firstF ar rs n).1), stepsD 2 116 x9 ((firstF ar rs n).2.1), rowsD 2 22 x10 ((firstF ar rs n).2.2.2.1)], hr13, ?_⟩
  show XL _ _ _ _ _ _ _ (intsH 2 x6 ar :: pairsD 2 121 x7 rs :: intsH 2 x8 ((firstF ar rs n).1) :: stepsD 2 116 x9 ((firstF ar rs n).2.1) :: rowsD 2 22 x10 ((firstF ar rs n).2.2.2.1) :: cellsH b3 [x6, x7] 37 :: cellsH b2 [x3, x4, .int .i64 ((firstF ar rs n).2.2.1), x5] 62 :: cellsH b1 [arv, rsv] 27 :: L)
  refine XL.mv (.tuple #[.agg #[x8, x9, .int .i64 ((firstF ar rs n).2.2.1), x10], .bool ((firstF ar rs n).2.2.2.2)]) rfl ?_
  refine XL.cons (XOp.extract (.agg #[x8, x9, .int .i64 ((firstF ar rs n).2.2.1), x10]) rfl rfl ?_)
  refine XL.cons (XOp.extract (.bool ((firstF ar rs n).2.2.2.2)) rfl rfl ?_)
  refine XL.cons (XOp.alloc [(.slice none 0 0), (.slice none 0 0), .int .i64 (0), (.slice none 0 0)] Tryz.zeroValue62 rfl ?_)
  intro b4
  refine XL.cons (XOp.storeN (vs := [x8, x9, .int .i64 ((firstF ar rs n).2.2.1), x10]) [] _ [x8, x9, .int .i64 ((firstF ar rs n).2.2.1), x10] Tryz.sizeOf62 rfl rfl rfl (ones_cons (one_sl (IntsF.isSl hr10)) (ones_cons (one_sl (StepsF.isSl hr11)) (ones_cons rfl (ones_cons (one_sl (RowsF.isSl hr12)) ones_nil)))) rfl rfl rfl ?_)
  refine XL.as (.bool ((firstF ar rs n).2.2.2.2)) rfl ?_
  refine XL.nil (X.seq (X.seq (X.region ?_)))
  refine XL.cons (XOp.loadN [x8, x9, .int .i64 ((firstF ar rs n).2.2.1), x10] Tryz.isAgg62 Tryz.sizeOf62 rfl rfl (Rd.ownN [] rfl rfl) ?_)
  refine XL.cons (XOp.loadN [x3, x4, .int .i64 ((firstF ar rs n).2.2.1), x5] Tryz.isAgg62 Tryz.sizeOf62 rfl rfl (Rd.ownN [_, _, _, _, _, _, _] rfl rfl) ?_)
  refine XL.cons (XOp.lend [_, _, _] _ _ rfl (fun F9 le9 hz5 => ?_))
  refine id (XOp.lend [_, _, _] _ _ rfl (fun F10 le10 hz6 => ?_))
  refine id (XOp.lend [_, _, _] _ _ rfl (fun F11 le11 hz7 => ?_))
  have hf5 : IntsF _ x8 ((firstF ar rs n).1) := (intsH.fz (xs := (firstF ar rs n).1) hz5).mono (FLe.trans le10 le11)
  have hf6 : StepsF _ x9 ((firstF ar rs n).2.1) := (stepsD.fz hz6).mono le11
  have hf7 : RowsF _ x10 ((firstF ar rs n).2.2.2.1) := rowsD.fz hz7
  refine id (XOp.call (args := [.agg #[x8, x9, .int .i64 ((firstF ar rs n).2.2.1), x10], .agg #[x3, x4, .int .i64 ((firstF ar rs n).2.2.1), x5]]) Tryz.call27 rfl (eqLoop_spec hf5 hf6 hf7 ((hr4.mono (FLe.trans (FLe.trans le9 le10) le11))) ((hr5.mono (FLe.trans (FLe.trans le9 le10) le11))) ((hr6.mono (FLe.trans (FLe.trans le9 le10) le11))) (hfl := (by first | assumption | rfl | omega | simp)) (hal := (by first | assumption | rfl | omega | simp)) (hbd := (by first | assumption | exact fun i hi => by have := hne i hi; omega)) (hsl := (by first | assumption | rfl | omega | simp)) (hsb := (by first | assumption | exact fun i hi => by have := hnh i; omega))) ?_)
  rintro _ _ _ _ ⟨rfl, rfl, rfl⟩
  show XL _ _ _ _ _ _ _ (intsH 2 x8 ((firstF ar rs n).1) :: stepsD 2 116 x9 ((firstF ar rs n).2.1) :: rowsD 2 22 x10 ((firstF ar rs n).2.2.2.1) :: cellsH b4 [x8, x9, .int .i64 ((firstF ar rs n).2.2.1), x10] 62 :: intsH 2 x6 ar :: pairsD 2 121 x7 rs :: cellsH b3 [x6, x7] 37 :: cellsH b2 [x3, x4, .int .i64 ((firstF ar rs n).2.2.1), x5] 62 :: cellsH b1 [arv, rsv] 27 :: L)
  refine XL.cons (XOp.notD (p := (((firstF ar rs n).1) = ((firstF ar rs n).1) ∧ ((firstF ar rs n).2.1) = ((firstF ar rs n).2.1)) ∧ ((firstF ar rs n).2.2.1) = ((firstF ar rs n).2.2.1) ∧ ((firstF ar rs n).2.2.2.1) = ((firstF ar rs n).2.2.2.1)) rfl ?_)
  refine XL.mv (.bool (decide (¬((((firstF ar rs n).1) = ((firstF ar rs n).1) ∧ ((firstF ar rs n).2.1) = ((firstF ar rs n).2.1)) ∧ ((firstF ar rs n).2.2.1) = ((firstF ar rs n).2.2.1) ∧ ((firstF ar rs n).2.2.2.1) = ((firstF ar rs n).2.2.2.1))))) rfl ?_
  by_cases h2 : ¬((((firstF ar rs n).1) = ((firstF ar rs n).1) ∧ ((firstF ar rs n).2.1) = ((firstF ar rs n).2.1)) ∧ ((firstF ar rs n).2.2.1) = ((firstF ar rs n).2.2.1) ∧ ((firstF ar rs n).2.2.2.1) = ((firstF ar rs n).2.2.2.1))
  ·exact absurd (by first | rfl | exact ⟨rfl, rfl⟩ | exact ⟨⟨rfl, rfl⟩, rfl, rfl⟩ | simp) h2
  ·refine XL.yes (t := 40) rfl (vF h2) (XOp.move (.bool ((firstF ar rs n).2.2.2.2)) rfl ?_)
   refine XL.yes (t := 40) rfl (vF h2) (XOp.move (.bool ((firstF ar rs n).2.2.2.2)) rfl ?_)
   refine XL.yes (t := 40) rfl (vF h2) (XOp.neB (a := (firstF ar rs n).2.2.2.2) (b := (firstF ar rs n).2.2.2.2) Tryz.runUnderlying4 rfl rfl ?_)
   refine XL.cons (XOp.pickF (.bool (decide (((firstF ar rs n).2.2.2.2) ≠ ((firstF ar rs n).2.2.2.2)))) (vF h2) rfl ?_)
   refine XL.nil ?_
   refine X.condD (p := ((firstF ar rs n).2.2.2.2) ≠ ((firstF ar rs n).2.2.2.2)) rfl (fun h3 => ?_) (fun h3 => ?_)
   ·exact absurd rfl h3
   ·refine X.skip (X.seq (X.seq ?_))
    refine X.drawG [intsH 2 x8 ((firstF ar rs n).1), stepsD 2 116 x9 ((firstF ar rs n).2.1), rowsD 2 22 x10 ((firstF ar rs n).2.2.2.1), cellsH b4 [x8, x9, .int .i64 ((firstF ar rs n).2.2.1), x10] 62, intsH 2 x6 ar, pairsD 2 121 x7 rs, cellsH b3 [x6, x7] 37, cellsH b2 [x3, x4, .int .i64 ((firstF ar rs n).2.2.1), x5] 62, cellsH b1 [arv, rsv] 27] L 3 [[], [], []] [[], [], [1]] [[], [], []] (phiG [fun FF us v => v = (.agg #[x6, x7] : Value), fun FF us v => v = (.agg #[arv, rsv] : Value), fun FF us v => (.agg #[((aggAt v 0)), ((aggAt v 1))] : Value) = v ∧ (IntsF FF ((aggAt v 0)) ar) ∧ (PairsF FF ((aggAt v 1)) rs)]) (ownL [fun us v => [], fun us v => [], fun us v => []]) mixed rfl rfl (by kernel_rfl) (by kernel_rfl) (MonoG.get (MonoG.cons (fun le h => h) (MonoG.cons (fun le h => h) (MonoG.cons (fun le h => ⟨h.1, h.2.1.mono le, h.2.2.mono le⟩) MonoG.nil)))) ?_ ?_
    ·refine stepsG.cons (fun vals Fs R leFs hpZ => ?_) ?_
     ·replace har := har.mono leFs
      replace hrs := hrs.mono leFs
      replace hf1 := hf1.mono leFs
      replace hf2 := hf2.mono leFs
      replace hr4 := hr4.mono leFs
      replace hr5 := hr5.mono leFs
      replace hr6 := hr6.mono leFs
      refine XG.op (XOp.loadN [x6, x7] Tryz.isAgg37 Tryz.sizeOf37 rfl rfl (Rd.ownN [_, _, _, _, _, _] rfl rfl) ?_)
      exact ⟨rfl, rfl⟩
     refine stepsG.cons (fun vals Fs R leFs hpZ => ?_) ?_
     ·replace har := har.mono leFs
      replace hrs := hrs.mono leFs
      replace hf1 := hf1.mono leFs
      replace hf2 := hf2.mono leFs
      replace hr4 := hr4.mono leFs
      replace hr5 := hr5.mono leFs
      replace hr6 := hr6.mono leFs
      refine XG.op (XOp.loadN [arv, rsv] Tryz.isAgg27 Tryz.sizeOf27 rfl rfl (Rd.ownN [_, _, _, _, _, _, _, _] rfl rfl) ?_)
      exact ⟨rfl, rfl⟩
     refine stepsG.cons (fun vals Fs R leFs hpZ => ?_) ?_
     ·replace har := har.mono leFs
      replace hrs := hrs.mono leFs
      replace hf1 := hf1.mono leFs
      replace hf2 := hf2.mono leFs
      replace hr4 := hr4.mono leFs
      replace hr5 := hr5.mono leFs
      replace hr6 := hr6.mono leFs
      rw [eS (l := [(1, (.agg #[arv, rsv] : Value))]) ⟨(hpZ 1 (by decide)), trivial⟩]
      refine XG.op (XOp.call (args := [.agg #[arv, rsv]]) Tryz.call10 rfl (toSystem_spec har hrs (hla := (by first | assumption | rfl | omega | simp)) (hrl := (by first | assumption | rfl | omega | simp)) (hrb := (by first | assumption | rfl | omega | simp))) ?_)
      rintro _ F13 _ le13 ⟨x13, x14, rfl, hr17, hr18, hr19, rfl⟩
      replace har := har.mono le13
      replace hrs := hrs.mono le13
      replace hf1 := hf1.mono le13
      replace hf2 := hf2.mono le13
      replace hr4 := hr4.mono le13
      replace hr5 := hr5.mono le13
      replace hr6 := hr6.mono le13
      exact ⟨⟨rfl, hr17, hr18⟩, rfl⟩
     exact stepsG.nil
    ·intro vals F14 le14 hphi
     obtain ⟨e2, f2_1hr1, f2_1hr2⟩ := hphi 2 (by decide)
     generalize hu1 : ((aggAt (vals 2) 0)) = u1 at e2 f2_1hr1 f2_1hr2
     generalize hu2 : ((aggAt (vals 2) 1)) = u2 at e2 f2_1hr1 f2_1hr2
     rw [eS (l := [(0, (.agg #[x6, x7] : Value)), (1, (.agg #[arv, rsv] : Value)), (2, (.agg #[u1, u2] : Value))]) ⟨(hphi 0 (by decide)), (hphi 1 (by decide)), (e2).symm, trivial⟩]
     replace har := har.mono le14
     replace hrs := hrs.mono le14
     replace hf1 := hf1.mono le14
     replace hf2 := hf2.mono le14
     replace hr4 := hr4.mono le14
     replace hr5 := hr5.mono le14
     replace hr6 := hr6.mono le14
     show XL _ _ _ _ _ _ _ (intsH 2 x8 ((firstF ar rs n).1) :: stepsD 2 116 x9 ((firstF ar rs n).2.1) :: rowsD 2 22 x10 ((firstF ar rs n).2.2.2.1) :: cellsH b4 [x8, x9, .int .i64 ((firstF ar rs n).2.2.1), x10] 62 :: intsH 2 x6 ar :: pairsD 2 121 x7 rs :: cellsH b3 [x6, x7] 37 :: cellsH b2 [x3, x4, .int .i64 ((firstF ar rs n).2.2.1), x5] 62 :: cellsH b1 [arv, rsv] 27 :: L)
     refine XL.cons (XOp.lend [_, _, _, _] _ _ rfl (fun F15 le15 hz8 => ?_))
     refine id (XOp.lend [_, _, _, _] _ _ rfl (fun F16 le16 hz9 => ?_))
     have hf8 : IntsF _ x6 ar := (intsH.fz (xs := ar) hz8).mono le16
     have hf9 : PairsF _ x7 rs := pairsD.fz hz9
     refine id (XOp.call (args := [.agg #[x6, x7], .agg #[u1, u2]]) Tryz.call14 rfl (eqSystem_spec hf8 hf9 ((f2_1hr1.mono (FLe.trans le15 le16))) ((f2_1hr2.mono (FLe.trans le15 le16))) (hcl := (by first | assumption | rfl | omega | simp)) (hal := (by first | assumption | rfl | omega | simp)) (hbd := (by first | assumption | rfl | omega | simp))) ?_)
     rintro _ _ _ _ ⟨rfl, rfl, rfl⟩
     show XL _ _ _ _ _ _ _ (intsH 2 x6 ar :: pairsD 2 121 x7 rs :: intsH 2 x8 ((firstF ar rs n).1) :: stepsD 2 116 x9 ((firstF ar rs n).2.1) :: rowsD 2 22 x10 ((firstF ar rs n).2.2.2.1) :: cellsH b4 [x8, x9, .int .i64 ((firstF ar rs n).2.2.1), x10] 62 :: cellsH b3 [x6, x7] 37 :: cellsH b2 [x3, x4, .int .i64 ((firstF ar rs n).2.2.1), x5] 62 :: cellsH b1 [arv, rsv] 27 :: L)
     refine XL.cons (XOp.notD (p := ar = ar ∧ rs = rs) rfl ?_)
     refine XL.nil ?_
     refine X.condD (p := ¬(ar = ar ∧ rs = rs)) rfl (fun h4 => ?_) (fun h4 => ?_)
     ·exact absurd (by first | rfl | exact ⟨rfl, rfl⟩ | exact ⟨⟨rfl, rfl⟩, rfl, rfl⟩ | simp) h4
     ·refine X.skip (X.seq (X.region ?_))
      refine XL.as (.int .i64 (1)) rfl ?_
      refine XL.nil (X.seq (X.region ?_))
      refine XL.cons (XOp.loadN [x6, x7] Tryz.isAgg37 Tryz.sizeOf37 rfl rfl (Rd.ownN [_, _, _, _, _, _] rfl rfl) ?_)
      refine XL.mv (.int .i64 (1)) rfl ?_
      refine XL.weaken (Sub.front (A := [_])) ?_
      show XL _ _ _ _ _ _ _ (pairsD 2 121 x7 rs :: intsH 2 x6 ar :: intsH 2 x8 ((firstF ar rs n).1) :: stepsD 2 116 x9 ((firstF ar rs n).2.1) :: rowsD 2 22 x10 ((firstF ar rs n).2.2.2.1) :: cellsH b4 [x8, x9, .int .i64 ((firstF ar rs n).2.2.1), x10] 62 :: cellsH b3 [x6, x7] 37 :: cellsH b2 [x3, x4, .int .i64 ((firstF ar rs n).2.2.1), x5] 62 :: cellsH b1 [arv, rsv] 27 :: L)
      refine XL.weaken (Sub.front (A := [_])) ?_
      show XL _ _ _ _ _ _ _ (intsH 2 x6 ar :: pairsD 2 121 x7 rs :: intsH 2 x8 ((firstF ar rs n).1) :: stepsD 2 116 x9 ((firstF ar rs n).2.1) :: rowsD 2 22 x10 ((firstF ar rs n).2.2.2.1) :: cellsH b4 [x8, x9, .int .i64 ((firstF ar rs n).2.2.1), x10] 62 :: cellsH b3 [x6, x7] 37 :: cellsH b2 [x3, x4, .int .i64 ((firstF ar rs n).2.2.1), x5] 62 :: cellsH b1 [arv, rsv] 27 :: L)
      refine XL.cons (XOp.call (args := [.agg #[x6, x7], .int .i64 (1)]) Tryz.call16 rfl (markSystem_spec (by (try simp only [List.length_append]); omega) (by omega)) ?_)
      rintro _ _ _ _ ⟨m1, m2, hm1, hk1, rfl, rfl, rfl⟩
      have hml1 := congrArg List.length hm1
      rw [iota_len] at hml1
      try simp only [List.length_append] at hml1
      refine XL.as (.int .i64 (1 + (((ar) ++ (rs.flatMap flatPair)).length : Int))) rfl ?_
      refine XL.nil (X.seq (X.seq (X.region ?_)))
      refine XL.mv (.int .i64 (1 + (((ar) ++ (rs.flatMap flatPair)).length : Int))) rfl ?_
      refine XL.cons (XOp.lss (a := 1 + (((ar) ++ (rs.flatMap flatPair)).length : Int)) (b := 0) rfl rfl ?_)
      refine XL.mv (.bool (decide ((1 + (((ar) ++ (rs.flatMap flatPair)).length : Int) : Int) < 0))) rfl ?_
      by_cases h5 : (1 + (((ar) ++ (rs.flatMap flatPair)).length : Int) : Int) < 0
      ·exact absurd h5 (by omega)
      ·refine XL.yes (t := 55) rfl (vF h5) (XOp.loadN [x8, x9, .int .i64 ((firstF ar rs n).2.2.1), x10] Tryz.isAgg62 Tryz.sizeOf62 rfl rfl (Rd.ownN [_, _, _, _, _] rfl rfl) ?_)
       refine XL.yes (t := 55) rfl (vF h5) (XOp.loadN [x3, x4, .int .i64 ((firstF ar rs n).2.2.1), x5] Tryz.isAgg62 Tryz.sizeOf62 rfl rfl (Rd.ownN [_, _, _, _, _, _, _] rfl rfl) ?_)
       refine XL.yes (t := 55) rfl (vF h5) (XOp.lend [_, _] _ _ rfl (fun F17 le17 hz10 => ?_))
       refine id (XOp.lend [_, _] _ _ rfl (fun F18 le18 hz11 => ?_))
       refine id (XOp.lend [_, _] _ _ rfl (fun F19 le19 hz12 => ?_))
       have hf10 : IntsF _ x8 ((firstF ar rs n).1) := (intsH.fz (xs := (firstF ar rs n).1) hz10).mono (FLe.trans le18 le19)
       have hf11 : StepsF _ x9 ((firstF ar rs n).2.1) := (stepsD.fz hz11).mono le19
       have hf12 : RowsF _ x10 ((firstF ar rs n).2.2.2.1) := rowsD.fz hz12
       refine id (XOp.call (args := [.agg #[x8, x9, .int .i64 ((firstF ar rs n).2.2.1), x10], .agg #[x3, x4, .int .i64 ((firstF ar rs n).2.2.1), x5]]) Tryz.call27 rfl (eqLoop_spec hf10 hf11 hf12 ((hr4.mono (FLe.trans (FLe.trans le17 le18) le19))) ((hr5.mono (FLe.trans (FLe.trans le17 le18) le19))) ((hr6.mono (FLe.trans (FLe.trans le17 le18) le19))) (hfl := (by first | assumption | rfl | omega | simp)) (hal := (by first | assumption | rfl | omega | simp)) (hbd := (by first | assumption | exact fun i hi => by have := hne i hi; omega)) (hsl := (by first | assumption | rfl | omega | simp)) (hsb := (by first | assumption | exact fun i hi => by have := hnh i; omega))) ?_)
       rintro _ _ _ _ ⟨rfl, rfl, rfl⟩
       show XL _ _ _ _ _ _ _ (intsH 2 x8 ((firstF ar rs n).1) :: stepsD 2 116 x9 ((firstF ar rs n).2.1) :: rowsD 2 22 x10 ((firstF ar rs n).2.2.2.1) :: intsH 2 x6 m1 :: pairsD 2 121 x7 m2 :: cellsH b4 [x8, x9, .int .i64 ((firstF ar rs n).2.2.1), x10] 62 :: cellsH b3 [x6, x7] 37 :: cellsH b2 [x3, x4, .int .i64 ((firstF ar rs n).2.2.1), x5] 62 :: cellsH b1 [arv, rsv] 27 :: L)
       refine XL.yes (t := 55) rfl (vF h5) (XOp.notD (p := (((firstF ar rs n).1) = ((firstF ar rs n).1) ∧ ((firstF ar rs n).2.1) = ((firstF ar rs n).2.1)) ∧ ((firstF ar rs n).2.2.1) = ((firstF ar rs n).2.2.1) ∧ ((firstF ar rs n).2.2.2.1) = ((firstF ar rs n).2.2.2.1)) rfl ?_)
       refine XL.cons (XOp.pickF (.bool (decide (¬((((firstF ar rs n).1) = ((firstF ar rs n).1) ∧ ((firstF ar rs n).2.1) = ((firstF ar rs n).2.1)) ∧ ((firstF ar rs n).2.2.1) = ((firstF ar rs n).2.2.1) ∧ ((firstF ar rs n).2.2.2.1) = ((firstF ar rs n).2.2.2.1))))) (vF h5) rfl ?_)
       refine XL.mv (.bool (decide (¬((((firstF ar rs n).1) = ((firstF ar rs n).1) ∧ ((firstF ar rs n).2.1) = ((firstF ar rs n).2.1)) ∧ ((firstF ar rs n).2.2.1) = ((firstF ar rs n).2.2.1) ∧ ((firstF ar rs n).2.2.2.1) = ((firstF ar rs n).2.2.2.1))))) rfl ?_
       refine XL.yes (t := 61) rfl (vF h2) (XOp.move (.bool ((firstF ar rs n).2.2.2.2)) rfl ?_)
       refine XL.yes (t := 61) rfl (vF h2) (XOp.move (.bool ((firstF ar rs n).2.2.2.2)) rfl ?_)
       refine XL.yes (t := 61) rfl (vF h2) (XOp.neB (a := (firstF ar rs n).2.2.2.2) (b := (firstF ar rs n).2.2.2.2) Tryz.runUnderlying4 rfl rfl ?_)
       refine XL.cons (XOp.pickF (.bool (decide (((firstF ar rs n).2.2.2.2) ≠ ((firstF ar rs n).2.2.2.2)))) (vF h2) rfl ?_)
       refine XL.nil ?_
       refine X.condF (vF h3) ?_
       refine X.skip (X.seq (X.region ?_))
       refine XL.as (.int .i64 (1)) rfl ?_
       refine XL.nil (X.seq (X.region ?_))
       refine XL.cons (XOp.loadN [x8, x9, .int .i64 ((firstF ar rs n).2.2.1), x10] Tryz.isAgg62 Tryz.sizeOf62 rfl rfl (Rd.ownN [_, _, _, _, _] rfl rfl) ?_)
       refine XL.mv (.int .i64 (1)) rfl ?_
       refine XL.weaken (Sub.front (A := [_, _])) ?_
       show XL _ _ _ _ _ _ _ (rowsD 2 22 x10 ((firstF ar rs n).2.2.2.1) :: intsH 2 x8 ((firstF ar rs n).1) :: stepsD 2 116 x9 ((firstF ar rs n).2.1) :: intsH 2 x6 m1 :: pairsD 2 121 x7 m2 :: cellsH b4 [x8, x9, .int .i64 ((firstF ar rs n).2.2.1), x10] 62 :: cellsH b3 [x6, x7] 37 :: cellsH b2 [x3, x4, .int .i64 ((firstF ar rs n).2.2.1), x5] 62 :: cellsH b1 [arv, rsv] 27 :: L)
       refine XL.weaken (Sub.front (A := [_, _])) ?_
       show XL _ _ _ _ _ _ _ (stepsD 2 116 x9 ((firstF ar rs n).2.1) :: rowsD 2 22 x10 ((firstF ar rs n).2.2.2.1) :: intsH 2 x8 ((firstF ar rs n).1) :: intsH 2 x6 m1 :: pairsD 2 121 x7 m2 :: cellsH b4 [x8, x9, .int .i64 ((firstF ar rs n).2.2.1), x10] 62 :: cellsH b3 [x6, x7] 37 :: cellsH b2 [x3, x4, .int .i64 ((firstF ar rs n).2.2.1), x5] 62 :: cellsH b1 [arv, rsv] 27 :: L)
       refine XL.weaken (Sub.front (A := [_, _])) ?_
       show XL _ _ _ _ _ _ _ (intsH 2 x8 ((firstF ar rs n).1) :: stepsD 2 116 x9 ((firstF ar rs n).2.1) :: rowsD 2 22 x10 ((firstF ar rs n).2.2.2.1) :: intsH 2 x6 m1 :: pairsD 2 121 x7 m2 :: cellsH b4 [x8, x9, .int .i64 ((firstF ar rs n).2.2.1), x10] 62 :: cellsH b3 [x6, x7] 37 :: cellsH b2 [x3, x4, .int .i64 ((firstF ar rs n).2.2.1), x5] 62 :: cellsH b1 [arv, rsv] 27 :: L)
       refine XL.cons (XOp.call (args := [.agg #[x8, x9, .int .i64 ((firstF ar rs n).2.2.1), x10], .int .i64 (1)]) Tryz.call28 rfl (markLoop_spec (by (try simp only [List.length_append]); omega) (by omega) (by omega)) ?_)
       rintro _ _ _ _ ⟨m3, m4, m5, hm2, hk2, hk3, rfl, rfl, rfl⟩
       have hml2 := congrArg List.length hm2
       rw [iota_len] at hml2
       try simp only [List.length_append] at hml2
       refine XL.as (.int .i64 (1 + (((((firstF ar rs n).1)) ++ (((firstF ar rs n).2.1).flatMap flatStep) ++ (((firstF ar rs n).2.2.2.1).flatMap flatRow)).length : Int))) rfl ?_
       refine XL.nil (X.seq (X.region ?_))
       refine XL.as (.int .i64 (1)) rfl ?_
       refine XL.nil (X.seq (X.region ?_))
       refine XL.cons (XOp.loadN [x8, x9, .int .i64 ((firstF ar rs n).2.2.1), x10] Tryz.isAgg62 Tryz.sizeOf62 rfl rfl (Rd.ownN [_, _, _, _, _] rfl rfl) ?_)
       refine XL.mv (.int .i64 (1)) rfl ?_
       refine XL.cons (XOp.lend [] _ _ rfl (fun F20 le20 hz13 => ?_))
       refine id (XOp.lend [] _ _ rfl (fun F21 le21 hz14 => ?_))
       refine id (XOp.lend [] _ _ rfl (fun F22 le22 hz15 => ?_))
       have hf13 : IntsF _ x8 m3 := (intsH.fz (xs := m3) hz13).mono (FLe.trans le21 le22)
       have hf14 : StepsF _ x9 m4 := (stepsD.fz hz14).mono le22
       have hf15 : RowsF _ x10 m5 := rowsD.fz hz15
       refine id (XOp.call (args := [.agg #[x8, x9, .int .i64 ((firstF ar rs n).2.2.1), x10], .int .i64 (1)]) Tryz.call29 rfl (heldLoop_spec (z := 1) hf13 hf14 hf15 (hzb := (by constructor <;> omega)) (hxl := (by first | assumption | rfl | omega | simp)) (hul := (by first | assumption | rfl | omega | simp))) ?_)
       rintro _ _ _ _ ⟨rfl, rfl, rfl⟩
       show XL _ _ _ _ _ _ _ (intsH 2 x8 m3 :: stepsD 2 116 x9 m4 :: rowsD 2 22 x10 m5 :: intsH 2 x6 m1 :: pairsD 2 121 x7 m2 :: cellsH b4 [x8, x9, .int .i64 ((firstF ar rs n).2.2.1), x10] 62 :: cellsH b3 [x6, x7] 37 :: cellsH b2 [x3, x4, .int .i64 ((firstF ar rs n).2.2.1), x5] 62 :: cellsH b1 [arv, rsv] 27 :: L)
       refine XL.as (.int .i64 (heldF ((m3 ++ m4.flatMap flatStep) ++ m5.flatMap flatRow) 1)) rfl ?_
       refine XL.nil (X.seq (X.seq (X.region ?_)))
       refine XL.mv (.int .i64 (heldF ((m3 ++ m4.flatMap flatStep) ++ m5.flatMap flatRow) 1)) rfl ?_
       refine XL.cons (XOp.lss (a := heldF ((m3 ++ m4.flatMap flatStep) ++ m5.flatMap flatRow) 1) (b := 0) rfl rfl ?_)
       refine XL.nil ?_
       refine X.condD (p := (heldF ((m3 ++ m4.flatMap flatStep) ++ m5.flatMap flatRow) 1 : Int) < 0) rfl (fun h6 => ?_) (fun h6 => ?_)
       ·rw [hm2, heldF_iota] at h6
        exact absurd h6 (by omega)
       ·have hh2 := (fun (l : List Int) (k k2 : Int) (n : Nat) (h : l = iota k n) (hk : k2 = k) => show heldF l k2 = k + n from (by subst hk; rw [h, heldF_iota])) _ _ (1) _ hm2 (by first | rfl | omega)
        have hh2l := hh2
        try simp only [List.length_append] at hh2l
        refine X.skip (X.seq (X.seq (X.region ?_)))
        refine XL.mv (.int .i64 (heldF ((m3 ++ m4.flatMap flatStep) ++ m5.flatMap flatRow) 1)) rfl ?_
        refine XL.mv (.int .i64 (1 + (((((firstF ar rs n).1)) ++ (((firstF ar rs n).2.1).flatMap flatStep) ++ (((firstF ar rs n).2.2.2.1).flatMap flatRow)).length : Int))) rfl ?_
        refine XL.cons (XOp.neq (a := heldF ((m3 ++ m4.flatMap flatStep) ++ m5.flatMap flatRow) 1) (b := 1 + (((((firstF ar rs n).1)) ++ (((firstF ar rs n).2.1).flatMap flatStep) ++ (((firstF ar rs n).2.2.2.1).flatMap flatRow)).length : Int)) rfl rfl ?_)
        refine XL.nil ?_
        refine X.condD (p := (heldF ((m3 ++ m4.flatMap flatStep) ++ m5.flatMap flatRow) 1 : Int) ≠ 1 + (((((firstF ar rs n).1)) ++ (((firstF ar rs n).2.1).flatMap flatStep) ++ (((firstF ar rs n).2.2.2.1).flatMap flatRow)).length : Int)) rfl (fun h7 => ?_) (fun h7 => ?_)
        ·exact absurd (by rw [hm2, heldF_iota]) h7
        ·refine X.skip (X.seq (X.region ?_))
         refine XL.cons (XOp.loadN [arv, rsv] Tryz.isAgg27 Tryz.sizeOf27 rfl rfl (Rd.ownN [_, _, _, _, _, _, _, _] rfl rfl) ?_)
         refine XL.cons (XOp.thawL ?_)
         refine id (XOp.call (args := [.agg #[arv, rsv]]) Tryz.call10 rfl (toSystem_spec har hrs (hla := (by first | assumption | rfl | omega | simp)) (hrl := (by first | assumption | rfl | omega | simp)) (hrb := (by first | assumption | rfl | omega | simp))) ?_)
         rintro _ F23 _ le23 ⟨x15, x16, rfl, hr20, hr21, hr22, rfl⟩
         refine ⟨[intsH 2 x15 ar, pairsD 2 121 x16 rs], hr22, ?_⟩
         show XL _ _ _ _ _ _ _ (intsH 2 x15 ar :: pairsD 2 121 x16 rs :: intsH 2 x8 m3 :: stepsD 2 116 x9 m4 :: rowsD 2 22 x10 m5 :: intsH 2 x6 m1 :: pairsD 2 121 x7 m2 :: cellsH b4 [x8, x9, .int .i64 ((firstF ar rs n).2.2.1), x10] 62 :: cellsH b3 [x6, x7] 37 :: cellsH b2 [x3, x4, .int .i64 ((firstF ar rs n).2.2.1), x5] 62 :: cellsH b1 [arv, rsv] 27 :: L)
         refine XL.mv (.int .i64 (n)) rfl ?_
         refine XL.cons (XOp.lend [] _ _ rfl (fun F24 le24 hz16 => ?_))
         refine id (XOp.lend [] _ _ rfl (fun F25 le25 hz17 => ?_))
         have hf16 : IntsF _ x15 ar := (intsH.fz (xs := ar) hz16).mono le25
         have hf17 : PairsF _ x16 rs := pairsD.fz hz17
         refine id (XOp.thawL ?_)
         refine id (XOp.call (args := [.agg #[x15, x16], .int .i64 (n)]) Tryz.call31 rfl (FirstLoop_spec (n := n) hf16 hf17) ?_)
         rintro _ F26 _ le26 ⟨x17, x18, x19, rfl, hr23, hr24, hr25, hr26, rfl⟩
         refine ⟨[intsH 2 x17 ((firstF ar rs n).1), stepsD 2 116 x18 ((firstF ar rs n).2.1), rowsD 2 22 x19 ((firstF ar rs n).2.2.2.1)], hr26, ?_⟩
         show XL _ _ _ _ _ _ _ (intsH 2 x15 ar :: pairsD 2 121 x16 rs :: intsH 2 x17 ((firstF ar rs n).1) :: stepsD 2 116 x18 ((firstF ar rs n).2.1) :: rowsD 2 22 x19 ((firstF ar rs n).2.2.2.1) :: intsH 2 x8 m3 :: stepsD 2 116 x9 m4 :: rowsD 2 22 x10 m5 :: intsH 2 x6 m1 :: pairsD 2 121 x7 m2 :: cellsH b4 [x8, x9, .int .i64 ((firstF ar rs n).2.2.1), x10] 62 :: cellsH b3 [x6, x7] 37 :: cellsH b2 [x3, x4, .int .i64 ((firstF ar rs n).2.2.1), x5] 62 :: cellsH b1 [arv, rsv] 27 :: L)
         refine XL.mv (.tuple #[.agg #[x17, x18, .int .i64 ((firstF ar rs n).2.2.1), x19], .bool ((firstF ar rs n).2.2.2.2)]) rfl ?_
         refine XL.cons (XOp.extract (.agg #[x17, x18, .int .i64 ((firstF ar rs n).2.2.1), x19]) rfl rfl ?_)
         refine XL.cons (XOp.extract (.bool ((firstF ar rs n).2.2.2.2)) rfl rfl ?_)
         refine XL.cons (XOp.alloc [(.slice none 0 0), (.slice none 0 0), .int .i64 (0), (.slice none 0 0)] Tryz.zeroValue62 rfl ?_)
         intro b5
         refine XL.cons (XOp.storeN (vs := [x17, x18, .int .i64 ((firstF ar rs n).2.2.1), x19]) [] _ [x17, x18, .int .i64 ((firstF ar rs n).2.2.1), x19] Tryz.sizeOf62 rfl rfl rfl (ones_cons (one_sl (IntsF.isSl hr23)) (ones_cons (one_sl (StepsF.isSl hr24)) (ones_cons rfl (ones_cons (one_sl (RowsF.isSl hr25)) ones_nil)))) rfl rfl rfl ?_)
         refine XL.as (.bool ((firstF ar rs n).2.2.2.2)) rfl ?_
         refine XL.nil (X.seq (X.seq (X.region ?_)))
         refine XL.cons (XOp.loadN [x17, x18, .int .i64 ((firstF ar rs n).2.2.1), x19] Tryz.isAgg62 Tryz.sizeOf62 rfl rfl (Rd.ownN [] rfl rfl) ?_)
         refine XL.cons (XOp.loadN [x3, x4, .int .i64 ((firstF ar rs n).2.2.1), x5] Tryz.isAgg62 Tryz.sizeOf62 rfl rfl (Rd.ownN [_, _, _, _, _, _, _, _, _, _, _, _, _] rfl rfl) ?_)
         refine XL.cons (XOp.lend [_, _, _] _ _ rfl (fun F27 le27 hz18 => ?_))
         refine id (XOp.lend [_, _, _] _ _ rfl (fun F28 le28 hz19 => ?_))
         refine id (XOp.lend [_, _, _] _ _ rfl (fun F29 le29 hz20 => ?_))
         have hf18 : IntsF _ x17 ((firstF ar rs n).1) := (intsH.fz (xs := (firstF ar rs n).1) hz18).mono (FLe.trans le28 le29)
         have hf19 : StepsF _ x18 ((firstF ar rs n).2.1) := (stepsD.fz hz19).mono le29
         have hf20 : RowsF _ x19 ((firstF ar rs n).2.2.2.1) := rowsD.fz hz20
         refine id (XOp.call (args := [.agg #[x17, x18, .int .i64 ((firstF ar rs n).2.2.1), x19], .agg #[x3, x4, .int .i64 ((firstF ar rs n).2.2.1), x5]]) Tryz.call27 rfl (eqLoop_spec hf18 hf19 hf20 ((hr4.mono (FLe.trans (FLe.trans le27 le28) le29))) ((hr5.mono (FLe.trans (FLe.trans le27 le28) le29))) ((hr6.mono (FLe.trans (FLe.trans le27 le28) le29))) (hfl := (by first | assumption | rfl | omega | simp)) (hal := (by first | assumption | rfl | omega | simp)) (hbd := (by first | assumption | exact fun i hi => by have := hne i hi; omega)) (hsl := (by first | assumption | rfl | omega | simp)) (hsb := (by first | assumption | exact fun i hi => by have := hnh i; omega))) ?_)
         rintro _ _ _ _ ⟨rfl, rfl, rfl⟩
         show XL _ _ _ _ _ _ _ (intsH 2 x17 ((firstF ar rs n).1) :: stepsD 2 116 x18 ((firstF ar rs n).2.1) :: rowsD 2 22 x19 ((firstF ar rs n).2.2.2.1) :: cellsH b5 [x17, x18, .int .i64 ((firstF ar rs n).2.2.1), x19] 62 :: intsH 2 x15 ar :: pairsD 2 121 x16 rs :: intsH 2 x8 m3 :: stepsD 2 116 x9 m4 :: rowsD 2 22 x10 m5 :: intsH 2 x6 m1 :: pairsD 2 121 x7 m2 :: cellsH b4 [x8, x9, .int .i64 ((firstF ar rs n).2.2.1), x10] 62 :: cellsH b3 [x6, x7] 37 :: cellsH b2 [x3, x4, .int .i64 ((firstF ar rs n).2.2.1), x5] 62 :: cellsH b1 [arv, rsv] 27 :: L)
         refine XL.cons (XOp.notD (p := (((firstF ar rs n).1) = ((firstF ar rs n).1) ∧ ((firstF ar rs n).2.1) = ((firstF ar rs n).2.1)) ∧ ((firstF ar rs n).2.2.1) = ((firstF ar rs n).2.2.1) ∧ ((firstF ar rs n).2.2.2.1) = ((firstF ar rs n).2.2.2.1)) rfl ?_)
         refine XL.mv (.bool (decide (¬((((firstF ar rs n).1) = ((firstF ar rs n).1) ∧ ((firstF ar rs n).2.1) = ((firstF ar rs n).2.1)) ∧ ((firstF ar rs n).2.2.1) = ((firstF ar rs n).2.2.1) ∧ ((firstF ar rs n).2.2.2.1) = ((firstF ar rs n).2.2.2.1))))) rfl ?_
         refine XL.yes (t := 88) rfl (vF h2) (XOp.move (.bool ((firstF ar rs n).2.2.2.2)) rfl ?_)
         refine XL.yes (t := 88) rfl (vF h2) (XOp.move (.bool ((firstF ar rs n).2.2.2.2)) rfl ?_)
         refine XL.yes (t := 88) rfl (vF h2) (XOp.neB (a := (firstF ar rs n).2.2.2.2) (b := (firstF ar rs n).2.2.2.2) Tryz.runUnderlying4 rfl rfl ?_)
         refine XL.cons (XOp.pickF (.bool (decide (((firstF ar rs n).2.2.2.2) ≠ ((firstF ar rs n).2.2.2.2)))) (vF h2) rfl ?_)
         refine XL.nil ?_
         refine X.condF (vF h3) ?_
         refine X.skip (X.seq (X.region ?_))
         refine XL.as (.int .i64 (1)) rfl ?_
         refine XL.nil (X.seq (X.region ?_))
         refine XL.cons (XOp.loadN [x8, x9, .int .i64 ((firstF ar rs n).2.2.1), x10] Tryz.isAgg62 Tryz.sizeOf62 rfl rfl (Rd.ownN [_, _, _, _, _, _, _, _, _, _, _] rfl rfl) ?_)
         refine XL.mv (.int .i64 (1)) rfl ?_
         refine XL.cons (XOp.lend [_, _, _, _, _, _] _ _ rfl (fun F30 le30 hz21 => ?_))
         refine id (XOp.lend [_, _, _, _, _, _] _ _ rfl (fun F31 le31 hz22 => ?_))
         refine id (XOp.lend [_, _, _, _, _, _] _ _ rfl (fun F32 le32 hz23 => ?_))
         have hf21 : IntsF _ x8 m3 := (intsH.fz (xs := m3) hz21).mono (FLe.trans le31 le32)
         have hf22 : StepsF _ x9 m4 := (stepsD.fz hz22).mono le32
         have hf23 : RowsF _ x10 m5 := rowsD.fz hz23
         refine id (XOp.call (args := [.agg #[x8, x9, .int .i64 ((firstF ar rs n).2.2.1), x10], .int .i64 (1)]) Tryz.call29 rfl (heldLoop_spec (z := 1) hf21 hf22 hf23 (hzb := (by constructor <;> omega)) (hxl := (by first | assumption | rfl | omega | simp)) (hul := (by first | assumption | rfl | omega | simp))) ?_)
         rintro _ _ _ _ ⟨rfl, rfl, rfl⟩
         show XL _ _ _ _ _ _ _ (intsH 2 x8 m3 :: stepsD 2 116 x9 m4 :: rowsD 2 22 x10 m5 :: intsH 2 x17 ((firstF ar rs n).1) :: stepsD 2 116 x18 ((firstF ar rs n).2.1) :: rowsD 2 22 x19 ((firstF ar rs n).2.2.2.1) :: cellsH b5 [x17, x18, .int .i64 ((firstF ar rs n).2.2.1), x19] 62 :: intsH 2 x15 ar :: pairsD 2 121 x16 rs :: intsH 2 x6 m1 :: pairsD 2 121 x7 m2 :: cellsH b4 [x8, x9, .int .i64 ((firstF ar rs n).2.2.1), x10] 62 :: cellsH b3 [x6, x7] 37 :: cellsH b2 [x3, x4, .int .i64 ((firstF ar rs n).2.2.1), x5] 62 :: cellsH b1 [arv, rsv] 27 :: L)
         refine XL.as (.int .i64 (heldF ((m3 ++ m4.flatMap flatStep) ++ m5.flatMap flatRow) 1)) rfl ?_
         refine XL.nil (X.seq (X.seq (X.region ?_)))
         refine XL.mv (.int .i64 (heldF ((m3 ++ m4.flatMap flatStep) ++ m5.flatMap flatRow) 1)) rfl ?_
         refine XL.cons (XOp.lss (a := heldF ((m3 ++ m4.flatMap flatStep) ++ m5.flatMap flatRow) 1) (b := 0) rfl rfl ?_)
         refine XL.nil ?_
         refine X.condF (vF h6) ?_
         refine X.skip (X.seq (X.seq (X.region ?_)))
         refine XL.mv (.int .i64 (heldF ((m3 ++ m4.flatMap flatStep) ++ m5.flatMap flatRow) 1)) rfl ?_
         refine XL.mv (.int .i64 (1 + (((((firstF ar rs n).1)) ++ (((firstF ar rs n).2.1).flatMap flatStep) ++ (((firstF ar rs n).2.2.2.1).flatMap flatRow)).length : Int))) rfl ?_
         refine XL.cons (XOp.neq (a := heldF ((m3 ++ m4.flatMap flatStep) ++ m5.flatMap flatRow) 1) (b := 1 + (((((firstF ar rs n).1)) ++ (((firstF ar rs n).2.1).flatMap flatStep) ++ (((firstF ar rs n).2.2.2.1).flatMap flatRow)).length : Int)) rfl rfl ?_)
         refine XL.nil ?_
         refine X.condF (vF h7) ?_
         refine X.skip (X.seq (X.region ?_))
         refine XL.as (.bool (true)) rfl ?_
         refine XL.nil ?_
         refine X.ret (retEnd (L' := L) [.bool (true)] (.bool (true)) (.tmp rfl .nil) rfl rF (FLe.trans (FLe.trans (FLe.trans le2 le3) le4) le14) (Sub.drop (Sub.drop (Sub.drop (Sub.drop (Sub.drop (Sub.drop (Sub.drop (Sub.drop (Sub.drop (Sub.drop (Sub.drop (Sub.drop (Sub.drop (Sub.drop (Sub.drop sR))))))))))))))) ?_)
         exact ⟨rfl, rfl, rfl⟩
end Go.Proofs.YtiaanelimbmniaaGreat
