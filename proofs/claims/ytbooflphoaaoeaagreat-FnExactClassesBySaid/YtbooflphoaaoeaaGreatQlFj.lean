/-
  Walks: the reference's redexes.
-/
import Derived.Test.YtbooflphoaaoeaaGreatQlFi
set_option linter.unusedSimpArgs false
set_option linter.unusedVariables false
namespace Go.Proofs.YtbooflphoaaoeaaGreat
open Go X M

/- spec.l7Right -/
theorem l7Right_spec {F : FH} {L : List HP} {arv : Value} {ar : List Int} (har : IntsF F arv ar) {rsv : Value} {rs : List (List Int × List Int)} (hrs : PairsF F rsv rs) {tv : Value} {t : List Int} (ht : IntsF F tv t) (hla : ar.length ≤ 4000000) (hlr : rs.length ≤ 4000000) (hrb : ∀ i, i < rs.length → (rs.getD i ([], [])).1.length ≤ 4000000 ∧ (rs.getD i ([], [])).2.length ≤ 4000000) (hlt : t.length ≤ 4000000) :
    Does Tryz.prog 140 [.agg #[arv, rsv], tv] F (L) (fun v F' L' => (.bool (rightB ar rs t) : Value) = v ∧ F = F' ∧ L = L') := by
  refine Does.of_X Tryz.func140 rfl rfl rfl ?_
  refine X.seq ?_
  refine X.region ?_
  refine XL.cons (XOp.box [arv, rsv] rfl rfl ?_)
  intro b1
  refine XL.cons (XOp.assign (.bool (false)) rfl ?_)
  refine XL.nil ?_
  refine X.seq ?_
  refine X.region ?_
  refine XL.cons (XOp.loadN [arv, rsv] Tryz.isAgg37 Tryz.sizeOf37 rfl rfl (Rd.ownN [] rfl rfl) ?_)
  refine XL.cons (XOp.call (args := [.agg #[arv, rsv]]) Tryz.call68 rfl (sSystemOk_spec har hrs (hla := (by first | assumption | rfl | omega | (left; simp; done) | (right; simp; done))) (hlr := (by first | assumption | rfl | omega | (left; simp; done) | (right; simp; done))) (hrb := (by first | assumption | rfl | omega | (left; simp; done) | (right; simp; done)))) ?_)
  rintro _ _ _ _ ⟨rfl, rfl, rfl⟩
  refine XL.cons (XOp.move (.bool (sysOk ar rs)) rfl ?_)
  by_cases h1 : (sysOk ar rs) = true
  · refine XL.yes (t := 7) rfl (congrArg Value.bool h1) (XOp.fieldP (b := b1) (0) Tryz.runUnderlying37 rfl Tryz.sizeOf34 (by decide) rfl rfl ?_)
    refine XL.yes (t := 7) rfl (congrArg Value.bool h1) (XOp.loadN [arv] Tryz.isAgg34 Tryz.sizeOf34 rfl rfl (Rd.ownN [] rfl rfl) ?_)
    refine XL.yes (t := 7) rfl (congrArg Value.bool h1) (XOp.move (tv) rfl ?_)
    refine XL.yes (t := 7) rfl (congrArg Value.bool h1) (XOp.call (args := [.agg #[arv], tv]) Tryz.call87 rfl (sTermOk_spec har ht (hla := (by first | assumption | rfl | omega | (left; simp; done) | (right; simp; done))) (hlt := (by first | assumption | rfl | omega | (left; simp; done) | (right; simp; done)))) ?_)
    rintro _ _ _ _ ⟨rfl, rfl, rfl⟩
    refine XL.cons (XOp.pickT (.bool (termOk ar t)) (congrArg Value.bool h1) rfl ?_)
    refine XL.cons (XOp.assign (.bool (termOk ar t)) rfl ?_)
    refine XL.nil ?_
    refine X.ret (retEnd (L' := L) [.bool (termOk ar t)] (.bool (termOk ar t)) (.tmp rfl .nil) rfl (FLe.refl _) (FLe.refl _) (Sub.drop (Sub.refl _)) ?_)
    exact ⟨(congrArg Value.bool (by rw [rightB]; simp_all)), rfl, rfl⟩
  · rw [Bool.not_eq_true] at h1
    refine XL.no (t := 7) rfl (congrArg Value.bool h1) ?_
    refine XL.no (t := 7) rfl (congrArg Value.bool h1) ?_
    refine XL.no (t := 7) rfl (congrArg Value.bool h1) ?_
    refine XL.no (t := 7) rfl (congrArg Value.bool h1) ?_
    refine XL.cons (XOp.pickF (.bool (false)) (congrArg Value.bool h1) rfl ?_)
    refine XL.cons (XOp.assign (.bool (false)) rfl ?_)
    refine XL.nil ?_
    refine X.ret (retEnd (L' := L) [.bool (false)] (.bool (false)) (.tmp rfl .nil) rfl (FLe.refl _) (FLe.refl _) (Sub.drop (Sub.refl _)) ?_)
    exact ⟨(congrArg Value.bool (by rw [rightB]; simp_all)), rfl, rfl⟩

/- spec.l8Redex -/
theorem l8Redex_spec {F : FH} {L : List HP} {arv : Value} {ar : List Int} (har : IntsF F arv ar) {rsv : Value} {rs : List (List Int × List Int)} (hrs : PairsF F rsv rs) {tv : Value} {t : List Int} (ht : IntsF F tv t) {p : Nat} (hsys : sysOk ar rs = true) (ho : termOk ar t = true) (hp : p < t.length) :
    Does Tryz.prog 147 [.agg #[arv, rsv], tv, .int .i64 (((p : Nat) : Int))] F (L) (fun v F' L' => (.int .i64 (ruleAtL ar rs t p) : Value) = v ∧ F = F' ∧ L = L') := by
  refine Does.of_X Tryz.func147 rfl rfl rfl ?_
  have hnn := notNil_of_pos ht (by have := termOk_len ho; omega)
  have htl := termOk_len ho
  have hrl := (sysOk_iff.1 hsys).2.1
  have hsig := (sysOk_iff.1 hsys).1
  have hsl := sigOk_spec hsig
  have hso := sub_ok ho hp
  refine X.seq ?_
  refine X.region ?_
  refine XL.cons (XOp.box [arv, rsv] rfl rfl ?_)
  intro b1
  refine XL.cons (XOp.assign (.int .i64 (0)) rfl ?_)
  refine XL.nil ?_
  refine X.seq ?_
  refine X.region ?_
  refine XL.cons (XOp.fieldP (b := b1) (0) Tryz.runUnderlying37 rfl Tryz.sizeOf34 (by decide) rfl rfl ?_)
  refine XL.cons (XOp.loadN [arv] Tryz.isAgg34 Tryz.sizeOf34 rfl rfl (Rd.ownN [] rfl rfl) ?_)
  refine XL.cons (XOp.move (tv) rfl ?_)
  refine XL.cons (XOp.move (.int .i64 (((p : Nat) : Int))) rfl ?_)
  refine XL.cons (XOp.frzF <| XOp.call (args := [.agg #[arv], tv, .int .i64 ((p : Nat) : Int)]) Tryz.call149 rfl (l1Sub_spec (p := p) har ht (ho := (by first | assumption | rfl | omega | (left; simp; done) | (right; simp; done))) (hp := (by first | assumption | rfl | omega | (left; simp; done) | (right; simp; done)))) ?_)
  rintro v1 _ _ _ ⟨rfl, hs1, rfl⟩
  refine ⟨_, _, rfl, fun F1 le1 hz1 => ?_⟩
  replace har := har.mono le1
  replace hrs := hrs.mono le1
  replace ht := ht.mono le1
  have hf1 : IntsF F1 v1 ((sub ar t p)) := intsH.fz (xs := (sub ar t p)) hz1.fz
  refine XL.cons (XOp.assign (v1) rfl ?_)
  refine XL.nil ?_
  refine X.seq ?_
  refine X.seq ?_
  refine X.region ?_
  refine XL.cons (XOp.assign (.int .i64 (0)) rfl ?_)
  refine XL.nil ?_
  refine X.block ?_
  refine X.loop (α := Nat) (fun r => [(3, ptr b1 0), (7, v1), (8, .int .i64 (((r : Nat) : Int)))]) (fun r => cellsH b1 [arv, rsv] 37 :: L) (fun r F' => F1 = F' ∧ (r ≤ rs.length) ∧ (ruleAtL ar rs t p = ruleAtGo ar rs t p (rs.length - r) r)) (fun r => rs.length - r) 0 ⟨rfl, rfl, rfl, trivial⟩ (Sub.cons (Sub.refl _)) ⟨rfl, (by (try dsimp only) <;> omega), (rfl)⟩ ?_
  rintro r rE _ _ ⟨rfl, hr, hm⟩
  show X _ _ _ _ (envs [(3, ptr b1 0), (7, v1), (8, .int .i64 (((r : Nat) : Int)))] rE) _ (cellsH b1 [arv, rsv] 37 :: L)
  refine X.seq ?_
  refine X.seq ?_
  refine X.region ?_
  refine XL.cons (XOp.move (.int .i64 (((r : Nat) : Int))) rfl ?_)
  refine XL.cons (XOp.fieldP (b := b1) (1) Tryz.runUnderlying37 rfl Tryz.sizeOf35 (by decide) rfl rfl ?_)
  refine XL.cons (XOp.load1 (v := rsv) Tryz.isAgg35 rfl (Rd.own [] rfl rfl) ?_)
  refine XL.cons (XOp.lenS (v := rsv) (n := (rs).length) Tryz.runUnderlying35 rfl hrs.slv ?_)
  refine XL.cons (XOp.lss (a := ((r : Nat) : Int)) (b := (((rs).length : Nat) : Int)) rfl rfl ?_)
  refine XL.nil ?_
  refine X.condD (p := (((r : Nat) : Int) : Int) < (((rs).length : Nat) : Int)) rfl (fun h1 => ?_) (fun h1 => ?_)
  · refine X.skip ?_
    refine X.seq ?_
    refine X.block ?_
    refine X.seq ?_
    obtain ⟨a1, a2, ha1, ha2, hr1, hr2⟩ := hrs.rd (i := r) (by omega)
    refine X.drawG [cellsH b1 [arv, rsv] 37] L 15 [[], [], [], [], [], [], [], [], [], [], [9], [9], [], [], [9, 13]] [[], [0], [], [2], [], [3, 4], [5], [6], [], [1, 7, 8], [9], [9, 10], [9, 10], [], [9, 11, 13]] [[], [], [], [], [], [], [], [], [], [], [], [], [], [], [13]] (phiG [fun FF us v => v = ptr b1 0, fun FF us v => v = (.agg #[arv] : Value), fun FF us v => v = ptr b1 1, fun FF us v => v = rsv, fun FF us v => v = (.int .i64 (((r : Nat) : Int)) : Value), fun FF us v => v = (.pointer (some (elemA rsv (r * 2))) : Value), fun FF us v => v = (.pointer (some (elemA rsv (r * 2))) : Value), fun FF us v => v = a1, fun FF us v => v = v1, fun FF us v => (.tuple #[.agg #[((aggAt (tupAt v 0) 0))], .bool ((matchB ar ((rs.getD r ([], [])).1) ((sub ar t p))).isSome)] : Value) = v ∧ (RowsF FF ((aggAt (tupAt v 0) 0)) (matchP ar ((rs.getD r ([], [])).1) ((sub ar t p)))), fun FF us v => v = (.tuple #[.agg #[((aggAt (tupAt (us.getD 0 undef) 0) 0))], .bool ((matchB ar ((rs.getD r ([], [])).1) ((sub ar t p))).isSome)] : Value), fun FF us v => v = (.agg #[((aggAt (tupAt (us.getD 0 undef) 0) 0))] : Value), fun FF us v => v = (.bool ((matchB ar ((rs.getD r ([], [])).1) ((sub ar t p))).isSome) : Value), fun FF us v => v = ptr (blk v) 0, fun FF us v => True]) (ownL [fun us v => [], fun us v => [], fun us v => [], fun us v => [], fun us v => [], fun us v => [], fun us v => [], fun us v => [], fun us v => [], fun us v => [], fun us v => [], fun us v => [], fun us v => [], fun us v => [cellsH (blk v) [(.slice none 0 0)] 118], fun us v => [cellsH (blk (us.getD 1 undef)) [((aggAt (tupAt (us.getD 0 undef) 0) 0))] 118]]) mixed rfl rfl (by kernel_rfl) (by kernel_rfl) (MonoG.get (MonoG.cons (fun le h => h) (MonoG.cons (fun le h => h) (MonoG.cons (fun le h => h) (MonoG.cons (fun le h => h) (MonoG.cons (fun le h => h) (MonoG.cons (fun le h => h) (MonoG.cons (fun le h => h) (MonoG.cons (fun le h => h) (MonoG.cons (fun le h => h) (MonoG.cons (fun le h => ⟨h.1, h.2.mono le⟩) (MonoG.cons (fun le h => h) (MonoG.cons (fun le h => h) (MonoG.cons (fun le h => h) (MonoG.cons (fun le h => h) (MonoG.cons (fun le h => h) MonoG.nil)))))))))))))))) ?_ ?_
    · refine stepsG.cons (fun vals Fs R leFs hpZ => ?_) ?_
      · refine XG.op (XOp.fieldP (b := b1) (0) Tryz.runUnderlying37 rfl Tryz.sizeOf34 (by decide) rfl rfl ?_)
        exact ⟨rfl, rfl⟩
      refine stepsG.cons (fun vals Fs R leFs hpZ => ?_) ?_
      · have e0 : vals 0 = ptr b1 0 := hpZ 0 (by decide)
        replace har := har.mono leFs
        replace hrs := hrs.mono leFs
        replace ht := ht.mono leFs
        replace hf1 := hf1.mono leFs
        replace ha1 := ha1.mono leFs
        replace ha2 := ha2.mono leFs
        replace hr1 := Rd.monoA hr1 leFs
        replace hr2 := Rd.monoA hr2 leFs
        rw [(envs_of_sat (l := [(0, ptr b1 0)]) ⟨e0, trivial⟩).symm]
        refine XG.op (XOp.loadN [arv] Tryz.isAgg34 Tryz.sizeOf34 rfl rfl (Rd.ownN [] rfl rfl) ?_)
        exact ⟨rfl, rfl⟩
      refine stepsG.cons (fun vals Fs R leFs hpZ => ?_) ?_
      · refine XG.op (XOp.fieldP (b := b1) (1) Tryz.runUnderlying37 rfl Tryz.sizeOf35 (by decide) rfl rfl ?_)
        exact ⟨rfl, rfl⟩
      refine stepsG.cons (fun vals Fs R leFs hpZ => ?_) ?_
      · have e2 : vals 2 = ptr b1 1 := hpZ 2 (by decide)
        replace har := har.mono leFs
        replace hrs := hrs.mono leFs
        replace ht := ht.mono leFs
        replace hf1 := hf1.mono leFs
        replace ha1 := ha1.mono leFs
        replace ha2 := ha2.mono leFs
        replace hr1 := Rd.monoA hr1 leFs
        replace hr2 := Rd.monoA hr2 leFs
        rw [(envs_of_sat (l := [(2, ptr b1 1)]) ⟨e2, trivial⟩).symm]
        refine XG.op (XOp.load1 (v := rsv) Tryz.isAgg35 rfl (Rd.own [] rfl rfl) ?_)
        exact ⟨rfl, rfl⟩
      refine stepsG.cons (fun vals Fs R leFs hpZ => ?_) ?_
      · refine XG.op (XOp.move (.int .i64 (((r : Nat) : Int))) rfl ?_)
        exact ⟨rfl, rfl⟩
      refine stepsG.cons (fun vals Fs R leFs hpZ => ?_) ?_
      · have e3 : vals 3 = rsv := hpZ 3 (by decide)
        have e4 : vals 4 = (.int .i64 (((r : Nat) : Int)) : Value) := hpZ 4 (by decide)
        replace har := har.mono leFs
        replace hrs := hrs.mono leFs
        replace ht := ht.mono leFs
        replace hf1 := hf1.mono leFs
        replace ha1 := ha1.mono leFs
        replace ha2 := ha2.mono leFs
        replace hr1 := Rd.monoA hr1 leFs
        replace hr2 := Rd.monoA hr2 leFs
        rw [(envs_of_sat (l := [(3, rsv), (4, (.int .i64 (((r : Nat) : Int)) : Value))]) ⟨e3, e4, trivial⟩).symm]
        refine XG.op (XOp.indexS (v := rsv) (i := ((r : Nat) : Int)) (n := (rs).length) r Tryz.runUnderlying35 Tryz.sizeOf135 rfl rfl rfl hrs.slv (by omega) rfl ?_)
        exact ⟨rfl, rfl⟩
      refine stepsG.cons (fun vals Fs R leFs hpZ => ?_) ?_
      · have e5 : vals 5 = (.pointer (some (elemA rsv (r * 2))) : Value) := hpZ 5 (by decide)
        rw [(envs_of_sat (l := [(5, (.pointer (some (elemA rsv (r * 2))) : Value))]) ⟨e5, trivial⟩).symm]
        refine XG.op (XOp.fieldE (v := rsv) (r * 2) Tryz.runUnderlying135 rfl Tryz.sizeOf22 (by decide) rfl rfl ?_)
        exact ⟨rfl, rfl⟩
      refine stepsG.cons (fun vals Fs R leFs hpZ => ?_) ?_
      · have e6 : vals 6 = (.pointer (some (elemA rsv (r * 2))) : Value) := hpZ 6 (by decide)
        replace har := har.mono leFs
        replace hrs := hrs.mono leFs
        replace ht := ht.mono leFs
        replace hf1 := hf1.mono leFs
        replace ha1 := ha1.mono leFs
        replace ha2 := ha2.mono leFs
        replace hr1 := Rd.monoA hr1 leFs
        replace hr2 := Rd.monoA hr2 leFs
        rw [(envs_of_sat (l := [(6, (.pointer (some (elemA rsv (r * 2))) : Value))]) ⟨e6, trivial⟩).symm]
        refine XG.op (XOp.load1 (v := a1) Tryz.isAgg22 rfl (hr1 _) ?_)
        exact ⟨rfl, rfl⟩
      refine stepsG.cons (fun vals Fs R leFs hpZ => ?_) ?_
      · refine XG.op (XOp.move (v1) rfl ?_)
        exact ⟨rfl, rfl⟩
      refine stepsG.cons (fun vals Fs R leFs hpZ => ?_) ?_
      · have e1 : vals 1 = (.agg #[arv] : Value) := hpZ 1 (by decide)
        have e7 : vals 7 = a1 := hpZ 7 (by decide)
        have e8 : vals 8 = v1 := hpZ 8 (by decide)
        replace har := har.mono leFs
        replace hrs := hrs.mono leFs
        replace ht := ht.mono leFs
        replace hf1 := hf1.mono leFs
        replace ha1 := ha1.mono leFs
        replace ha2 := ha2.mono leFs
        replace hr1 := Rd.monoA hr1 leFs
        replace hr2 := Rd.monoA hr2 leFs
        rw [(envs_of_sat (l := [(1, (.agg #[arv] : Value)), (7, a1), (8, v1)]) ⟨e1, e7, e8, trivial⟩).symm]
        refine XG.op (XOp.call (args := [.agg #[arv], a1, v1]) Tryz.call148 rfl (l4Match_spec har ha1 hf1 (ho := (by first | assumption | rfl | omega | (left; simp; done) | (right; simp; done))) (hpo := ((ruleOk_iff.1 ((sysOk_iff.1 hsys).2.2 r (by omega))).left))) ?_)
        rintro _ F3 _ le3 ⟨x2, rfl, hr4, rfl⟩
        replace har := har.mono le3
        replace hrs := hrs.mono le3
        replace ht := ht.mono le3
        replace hf1 := hf1.mono le3
        replace ha1 := ha1.mono le3
        replace ha2 := ha2.mono le3
        replace hr1 := Rd.monoA hr1 le3
        replace hr2 := Rd.monoA hr2 le3
        exact ⟨⟨rfl, hr4⟩, rfl⟩
      refine stepsG.cons (fun vals Fs R leFs hpZ => ?_) ?_
      · obtain ⟨e9, f9_1hr⟩ := hpZ 9 (by decide)
        rw [(envs_of_sat (l := [(9, (.tuple #[.agg #[((aggAt (tupAt (vals 9) 0) 0))], .bool ((matchB ar ((rs.getD r ([], [])).1) ((sub ar t p))).isSome)] : Value))]) ⟨(e9).symm, trivial⟩).symm]
        refine XG.op (XOp.move (.tuple #[.agg #[((aggAt (tupAt (vals 9) 0) 0))], .bool ((matchB ar ((rs.getD r ([], [])).1) ((sub ar t p))).isSome)]) rfl ?_)
        exact ⟨rfl, rfl⟩
      refine stepsG.cons (fun vals Fs R leFs hpZ => ?_) ?_
      · obtain ⟨e9, f9_1hr⟩ := hpZ 9 (by decide)
        have e10 : vals 10 = (.tuple #[.agg #[((aggAt (tupAt (vals 9) 0) 0))], .bool ((matchB ar ((rs.getD r ([], [])).1) ((sub ar t p))).isSome)] : Value) := hpZ 10 (by decide)
        rw [(envs_of_sat (l := [(9, (.tuple #[.agg #[((aggAt (tupAt (vals 9) 0) 0))], .bool ((matchB ar ((rs.getD r ([], [])).1) ((sub ar t p))).isSome)] : Value)), (10, (.tuple #[.agg #[((aggAt (tupAt (vals 9) 0) 0))], .bool ((matchB ar ((rs.getD r ([], [])).1) ((sub ar t p))).isSome)] : Value))]) ⟨(e9).symm, e10, trivial⟩).symm]
        refine XG.op (XOp.extract (.agg #[((aggAt (tupAt (vals 9) 0) 0))]) rfl rfl ?_)
        exact ⟨rfl, rfl⟩
      refine stepsG.cons (fun vals Fs R leFs hpZ => ?_) ?_
      · obtain ⟨e9, f9_1hr⟩ := hpZ 9 (by decide)
        have e10 : vals 10 = (.tuple #[.agg #[((aggAt (tupAt (vals 9) 0) 0))], .bool ((matchB ar ((rs.getD r ([], [])).1) ((sub ar t p))).isSome)] : Value) := hpZ 10 (by decide)
        rw [(envs_of_sat (l := [(9, (.tuple #[.agg #[((aggAt (tupAt (vals 9) 0) 0))], .bool ((matchB ar ((rs.getD r ([], [])).1) ((sub ar t p))).isSome)] : Value)), (10, (.tuple #[.agg #[((aggAt (tupAt (vals 9) 0) 0))], .bool ((matchB ar ((rs.getD r ([], [])).1) ((sub ar t p))).isSome)] : Value))]) ⟨(e9).symm, e10, trivial⟩).symm]
        refine XG.op (XOp.extract (.bool ((matchB ar ((rs.getD r ([], [])).1) ((sub ar t p))).isSome)) rfl rfl ?_)
        exact ⟨rfl, rfl⟩
      refine stepsG.cons (fun vals Fs R leFs hpZ => ?_) ?_
      · replace har := har.mono leFs
        replace hrs := hrs.mono leFs
        replace ht := ht.mono leFs
        replace hf1 := hf1.mono leFs
        replace ha1 := ha1.mono leFs
        replace ha2 := ha2.mono leFs
        replace hr1 := Rd.monoA hr1 leFs
        replace hr2 := Rd.monoA hr2 leFs
        refine XG.op (XOp.alloc [(.slice none 0 0)] Tryz.zeroValue118 rfl ?_)
        intro b3
        exact ⟨rfl, rfl⟩
      refine stepsG.cons (fun vals Fs R leFs hpZ => ?_) ?_
      · obtain ⟨e9, f9_1hr⟩ := hpZ 9 (by decide)
        have e11 : vals 11 = (.agg #[((aggAt (tupAt (vals 9) 0) 0))] : Value) := hpZ 11 (by decide)
        have e13 : vals 13 = ptr (blk (vals 13)) 0 := hpZ 13 (by decide)
        replace har := har.mono leFs
        replace hrs := hrs.mono leFs
        replace ht := ht.mono leFs
        replace hf1 := hf1.mono leFs
        replace ha1 := ha1.mono leFs
        replace ha2 := ha2.mono leFs
        replace hr1 := Rd.monoA hr1 leFs
        replace hr2 := Rd.monoA hr2 leFs
        rw [(envs_of_sat (l := [(9, (.tuple #[.agg #[((aggAt (tupAt (vals 9) 0) 0))], .bool ((matchB ar ((rs.getD r ([], [])).1) ((sub ar t p))).isSome)] : Value)), (11, (.agg #[((aggAt (tupAt (vals 9) 0) 0))] : Value)), (13, ptr (blk (vals 13)) 0)]) ⟨(e9).symm, e11, e13, trivial⟩).symm]
        show XG _ _ _ _ _ (cellsH (blk (vals 13)) [(.slice none 0 0)] 118 :: ([cellsH b1 [arv, rsv] 37] ++ R)) _
        refine XG.op (XOp.storeN (vs := [((aggAt (tupAt (vals 9) 0) 0))]) [] _ [((aggAt (tupAt (vals 9) 0) 0))] Tryz.sizeOf118 rfl rfl rfl (ones_cons (one_sl (RowsF.isSl f9_1hr)) ones_nil) rfl rfl rfl ?_)
        exact ⟨trivial, rfl⟩
      exact stepsG.nil
    · intro vals F4 le4 hphi
      have e0 : vals 0 = ptr b1 0 := hphi 0 (by decide)
      have e1 : vals 1 = (.agg #[arv] : Value) := hphi 1 (by decide)
      have e2 : vals 2 = ptr b1 1 := hphi 2 (by decide)
      have e3 : vals 3 = rsv := hphi 3 (by decide)
      have e4 : vals 4 = (.int .i64 (((r : Nat) : Int)) : Value) := hphi 4 (by decide)
      have e5 : vals 5 = (.pointer (some (elemA rsv (r * 2))) : Value) := hphi 5 (by decide)
      have e6 : vals 6 = (.pointer (some (elemA rsv (r * 2))) : Value) := hphi 6 (by decide)
      have e7 : vals 7 = a1 := hphi 7 (by decide)
      have e8 : vals 8 = v1 := hphi 8 (by decide)
      obtain ⟨e9, f9_1hr⟩ := hphi 9 (by decide)
      have e10 : vals 10 = (.tuple #[.agg #[((aggAt (tupAt (vals 9) 0) 0))], .bool ((matchB ar ((rs.getD r ([], [])).1) ((sub ar t p))).isSome)] : Value) := hphi 10 (by decide)
      have e11 : vals 11 = (.agg #[((aggAt (tupAt (vals 9) 0) 0))] : Value) := hphi 11 (by decide)
      have e12 : vals 12 = (.bool ((matchB ar ((rs.getD r ([], [])).1) ((sub ar t p))).isSome) : Value) := hphi 12 (by decide)
      have e13 : vals 13 = ptr (blk (vals 13)) 0 := hphi 13 (by decide)
      generalize hu1 : ((aggAt (tupAt (vals 9) 0) 0)) = u1 at e0 e1 e2 e3 e4 e5 e6 e7 e8 e9 f9_1hr e10 e11 e12 e13
      generalize hu2 : blk (vals 13) = b4 at e0 e1 e2 e3 e4 e5 e6 e7 e8 e9 f9_1hr e10 e11 e12 e13
      rw [(envs_of_sat (l := [(0, ptr b1 0), (1, (.agg #[arv] : Value)), (2, ptr b1 1), (3, rsv), (4, (.int .i64 (((r : Nat) : Int)) : Value)), (5, (.pointer (some (elemA rsv (r * 2))) : Value)), (6, (.pointer (some (elemA rsv (r * 2))) : Value)), (7, a1), (8, v1), (9, (.tuple #[.agg #[u1], .bool ((matchB ar ((rs.getD r ([], [])).1) ((sub ar t p))).isSome)] : Value)), (10, (.tuple #[.agg #[u1], .bool ((matchB ar ((rs.getD r ([], [])).1) ((sub ar t p))).isSome)] : Value)), (11, (.agg #[u1] : Value)), (12, (.bool ((matchB ar ((rs.getD r ([], [])).1) ((sub ar t p))).isSome) : Value)), (13, ptr b4 0)]) ⟨e0, e1, e2, e3, e4, e5, e6, e7, e8, (e9).symm, e10, e11, e12, e13, trivial⟩).symm]
      replace har := har.mono le4
      replace hrs := hrs.mono le4
      replace ht := ht.mono le4
      replace hf1 := hf1.mono le4
      replace ha1 := ha1.mono le4
      replace ha2 := ha2.mono le4
      replace hr1 := Rd.monoA hr1 le4
      replace hr2 := Rd.monoA hr2 le4
      show XL _ _ _ _ _ _ _ (cellsH b4 [u1] 118 :: cellsH b1 [arv, rsv] 37 :: L)
      refine XL.cons (XOp.assign (.bool ((matchB ar ((rs.getD r ([], [])).1) ((sub ar t p))).isSome)) rfl ?_)
      refine XL.nil ?_
      refine X.seq ?_
      refine X.region ?_
      refine XL.cons (XOp.move (.bool ((matchB ar ((rs.getD r ([], [])).1) ((sub ar t p))).isSome)) rfl ?_)
      refine XL.nil ?_
      refine X.cond (t := (matchB ar ((rs.getD r ([], [])).1) ((sub ar t p))).isSome) rfl (fun h2 => ?_) (fun h2 => ?_)
      · refine X.seq ?_
        refine X.region ?_
        refine XL.cons (XOp.move (.int .i64 (((r : Nat) : Int))) rfl ?_)
        refine XL.cons (XOp.assign (.int .i64 (((r : Nat) : Int))) rfl ?_)
        refine XL.nil ?_
        refine X.ret (blockQ_ret (thenQ_ret (thenQ_ret (blockQ_ret (thenQ_ret (retEnd (L' := L) [.int .i64 (((r : Nat) : Int))] (.int .i64 (((r : Nat) : Int))) (.tmp rfl .nil) rfl (FLe.refl _) (FLe.trans le1 le4) (Sub.drop (Sub.drop (Sub.refl _))) ?_))))))
        exact ⟨(congrArg (Value.int .i64) (hm.trans (ruleAt_hit (by omega) (by unfold isRedex; assumption)))), rfl, rfl⟩
      · refine X.skip ?_
        refine X.region ?_
        refine XL.cons (XOp.move (.int .i64 (((r : Nat) : Int))) rfl ?_)
        refine XL.cons (XOp.addR (a := ((r : Nat) : Int)) (b := 1) (((r + 1 : Nat) : Int)) rfl rfl (by omega) (by omega) ?_)
        refine XL.cons (XOp.assign (.int .i64 (((r + 1 : Nat) : Int))) rfl ?_)
        refine XL.nil ?_
        exact ⟨r + 1, _, FLe.refl _, le4, ⟨rfl, rfl, rfl, trivial⟩, (Sub.drop (Sub.cons (Sub.refl _))), ⟨rfl, (by (try dsimp only) <;> omega), (hm.trans (ruleAt_miss (by omega) (by unfold isRedex; assumption)))⟩, (by omega)⟩
  · refine X.exit (thenQ_exit (thenQ_exit (blockQ_exit ?_)))
    refine X.seq ?_
    refine X.region ?_
    refine XL.cons (XOp.assign (.int .i64 (-1)) rfl ?_)
    refine XL.nil ?_
    refine X.ret (retEnd (L' := L) [.int .i64 (-1)] (.int .i64 (-1)) (.tmp rfl .nil) rfl (FLe.refl _) le1 (Sub.drop (Sub.refl _)) ?_)
    exact ⟨(congrArg (Value.int .i64) (hm.trans (ruleAt_end (by omega)))), rfl, rfl⟩

/- spec.RedexesIn -/
theorem sRedexesIn_spec {F : FH} {L : List HP} {arv : Value} {ar : List Int} (har : IntsF F arv ar) {rsv : Value} {rs : List (List Int × List Int)} (hrs : PairsF F rsv rs) {tv : Value} {t : List Int} (ht : IntsF F tv t) (hla : ar.length ≤ 4000000) (hlr : rs.length ≤ 4000000) (hrb : ∀ i, i < rs.length → (rs.getD i ([], [])).1.length ≤ 4000000 ∧ (rs.getD i ([], [])).2.length ≤ 4000000) (hlt : t.length ≤ 4000000) :
    Does Tryz.prog 172 [.agg #[arv, rsv], tv] F (L) (fun v F' L' => F = F' ∧ IsSl v ∧ intsH 2 v (redS ar rs t) :: L = L') := by
  refine Does.of_X Tryz.func172 rfl rfl rfl ?_
  refine X.seq ?_
  refine X.region ?_
  refine XL.cons (XOp.box [arv, rsv] rfl rfl ?_)
  intro b1
  refine XL.cons (XOp.assign ((.slice none 0 0)) rfl ?_)
  refine XL.nil ?_
  refine X.seq ?_
  refine X.region ?_
  refine XL.cons (XOp.buildSlice (s := 1) [] [.int .i64 (0)] [] Tryz.runUnderlying22 Tryz.sizeOf2 Tryz.zeroValue2 rfl (by decide) rfl CellsAre.nil rfl ?_)
  intro v1 hv1
  refine XL.cons (XOp.assign (v1) rfl ?_)
  refine XL.nil ?_
  refine X.seq ?_
  refine X.seq ?_
  refine X.region ?_
  refine XL.cons (XOp.assign (.int .i64 (0)) rfl ?_)
  refine XL.nil ?_
  refine X.block ?_
  refine X.loop (α := Nat × Value × List Int) (fun xQ => [(1, tv), (2, ptr b1 0), (5, xQ.2.1), (6, .int .i64 (((xQ.1 : Nat) : Int)))]) (fun xQ => intsH 2 xQ.2.1 xQ.2.2 :: cellsH b1 [arv, rsv] 37 :: L) (fun xQ F' => F = F' ∧ (IsSl xQ.2.1) ∧ (xQ.1 ≤ t.length) ∧ (xQ.2.2 = if rightB ar rs t = true then redTo ar rs t xQ.1 else [])) (fun xQ => t.length - xQ.1) (0, v1, []) ⟨rfl, rfl, rfl, rfl, trivial⟩ (Sub.cons (Sub.cons (Sub.refl _))) ⟨rfl, ((isSl_lit hv1)), (by (try dsimp only) <;> omega), (by dsimp only; split <;> rfl)⟩ ?_
  rintro ⟨k, ov, os⟩ rE _ _ ⟨rfl, hov, hk, hos⟩
  show X _ _ _ _ (envs [(1, tv), (2, ptr b1 0), (5, ov), (6, .int .i64 (((k : Nat) : Int)))] rE) _ (intsH 2 ov os :: cellsH b1 [arv, rsv] 37 :: L)
  dsimp only at hov hk hos
  have hol : os.length ≤ k := by rw [hos]; split; exact redTo_len; simp
  refine X.seq ?_
  refine X.seq ?_
  refine X.region ?_
  refine XL.cons (XOp.move (.int .i64 (((k : Nat) : Int))) rfl ?_)
  refine XL.cons (XOp.move (tv) rfl ?_)
  refine XL.cons (XOp.lenS (v := tv) (n := (t).length) Tryz.runUnderlying22 rfl ht.slv ?_)
  refine XL.cons (XOp.lss (a := ((k : Nat) : Int)) (b := (((t).length : Nat) : Int)) rfl rfl ?_)
  refine XL.cons (XOp.move (.bool (decide ((((k : Nat) : Int) : Int) < (((t).length : Nat) : Int)))) rfl ?_)
  by_cases h1 : (((k : Nat) : Int) : Int) < (((t).length : Nat) : Int)
  · refine XL.yes (t := 12) rfl (congrArg Value.bool (decide_eq_true h1)) (XOp.loadN [arv, rsv] Tryz.isAgg37 Tryz.sizeOf37 rfl rfl (Rd.ownN [_] rfl rfl) ?_)
    refine XL.yes (t := 12) rfl (congrArg Value.bool (decide_eq_true h1)) (XOp.move (tv) rfl ?_)
    refine XL.yes (t := 12) rfl (congrArg Value.bool (decide_eq_true h1)) (XOp.call (args := [.agg #[arv, rsv], tv]) Tryz.call140 rfl (l7Right_spec har hrs ht (hla := (by first | assumption | rfl | omega | (left; simp; done) | (right; simp; done))) (hlr := (by first | assumption | rfl | omega | (left; simp; done) | (right; simp; done))) (hrb := (by first | assumption | rfl | omega | (left; simp; done) | (right; simp; done))) (hlt := (by first | assumption | rfl | omega | (left; simp; done) | (right; simp; done)))) ?_)
    rintro _ _ _ _ ⟨rfl, rfl, rfl⟩
    refine XL.cons (XOp.pickT (.bool (rightB ar rs t)) (congrArg Value.bool (decide_eq_true h1)) rfl ?_)
    refine XL.nil ?_
    refine X.cond (t := rightB ar rs t) rfl (fun h2 => ?_) (fun h2 => ?_)
    · have hsys := (right_iff.1 h2).1
      have ho := (right_iff.1 h2).2
      refine X.skip ?_
      refine X.seq ?_
      refine X.block ?_
      refine X.seq ?_
      refine X.region ?_
      refine XL.cons (XOp.loadN [arv, rsv] Tryz.isAgg37 Tryz.sizeOf37 rfl rfl (Rd.ownN [_] rfl rfl) ?_)
      refine XL.cons (XOp.move (tv) rfl ?_)
      refine XL.cons (XOp.move (.int .i64 (((k : Nat) : Int))) rfl ?_)
      refine XL.cons (XOp.call (args := [.agg #[arv, rsv], tv, .int .i64 ((k : Nat) : Int)]) Tryz.call147 rfl (l8Redex_spec (p := k) har hrs ht (hsys := (by first | assumption | rfl | omega | (left; simp; done) | (right; simp; done))) (ho := (by first | assumption | rfl | omega | (left; simp; done) | (right; simp; done))) (hp := (by first | assumption | rfl | omega | (left; simp; done) | (right; simp; done)))) ?_)
      rintro _ _ _ _ ⟨rfl, rfl, rfl⟩
      refine XL.cons (XOp.geq (a := ruleAtL ar rs t k) (b := 0) rfl rfl ?_)
      refine XL.nil ?_
      refine X.condD (p := (ruleAtL ar rs t k : Int) ≥ 0) rfl (fun h3 => ?_) (fun h3 => ?_)
      · refine X.region ?_
        refine XL.cons (XOp.move (ov) rfl ?_)
        refine XL.cons (XOp.move (.int .i64 (((k : Nat) : Int))) rfl ?_)
        refine XL.cons (XOp.buildSlice (s := 1) [.int .i64 (((k : Nat) : Int))] [.int .i64 (0)] [(0, [.int .i64 (((k : Nat) : Int))])] Tryz.runUnderlying22 Tryz.sizeOf2 Tryz.zeroValue2 rfl (by decide) rfl (.cons rfl CellsAre.nil) rfl ?_)
        intro v2 hv2
        refine XL.cons (XOp.append1 (u := ((k : Nat) : Int)) [_] _ Tryz.runUnderlying22 Tryz.typeInfo2 rfl rfl rfl rfl rfl rfl (SlV.own [] rfl) (Rd.sl [] rfl rfl) (by (try simp only [List.length_append, List.length_nil, List.length_cons, List.length_singleton, List.length_take, List.length_drop]); omega) ?_)
        intro v3 hs1 hn1
        refine XL.cons (XOp.assign (v3) rfl ?_)
        refine XL.nil ?_
        refine X.region ?_
        refine XL.cons (XOp.move (.int .i64 (((k : Nat) : Int))) rfl ?_)
        refine XL.cons (XOp.addR (a := ((k : Nat) : Int)) (b := 1) (((k + 1 : Nat) : Int)) rfl rfl (by omega) (by omega) ?_)
        refine XL.cons (XOp.assign (.int .i64 (((k + 1 : Nat) : Int))) rfl ?_)
        refine XL.nil ?_
        exact ⟨(k + 1, v3, os ++ [((k : Nat) : Int)]), _, FLe.refl _, (FLe.refl _), ⟨rfl, rfl, rfl, rfl, trivial⟩, (Sub.drop (Sub.cons (Sub.cons (Sub.refl _)))), ⟨rfl, (hs1), (by (try dsimp only) <;> omega), ((by dsimp only; rw [hos, if_pos (by assumption), if_pos (by assumption)]; first | exact (redTo_yes (by omega)).symm | exact (redTo_no (by omega)).symm))⟩, (by omega)⟩
      · refine X.skip ?_
        refine X.region ?_
        refine XL.cons (XOp.move (.int .i64 (((k : Nat) : Int))) rfl ?_)
        refine XL.cons (XOp.addR (a := ((k : Nat) : Int)) (b := 1) (((k + 1 : Nat) : Int)) rfl rfl (by omega) (by omega) ?_)
        refine XL.cons (XOp.assign (.int .i64 (((k + 1 : Nat) : Int))) rfl ?_)
        refine XL.nil ?_
        exact ⟨(k + 1, ov, os), _, FLe.refl _, (FLe.refl _), ⟨rfl, rfl, rfl, rfl, trivial⟩, (Sub.cons (Sub.cons (Sub.refl _))), ⟨rfl, (hov), (by (try dsimp only) <;> omega), ((by dsimp only; rw [hos, if_pos (by assumption), if_pos (by assumption)]; first | exact (redTo_yes (by omega)).symm | exact (redTo_no (by omega)).symm))⟩, (by omega)⟩
    · refine X.exit (thenQ_exit (thenQ_exit (blockQ_exit ?_)))
      refine X.seq ?_
      refine X.region ?_
      refine XL.cons (XOp.move (ov) rfl ?_)
      refine XL.cons (XOp.assign (ov) rfl ?_)
      refine XL.nil ?_
      refine X.ret (retEnd (L' := intsH 2 ov os :: L) [ov] (ov) (.tmp rfl .nil) rfl (FLe.refl _) (FLe.refl _) (Sub.cons (Sub.drop (Sub.refl _))) ?_)
      refine ⟨rfl, hov, ?_⟩
      have hxs : (redS ar rs t : List Int) = os := by rw [hos, redS]; split <;> first | rfl | (rw [redL, show k = t.length from by omega]) | simp_all
      exact congrArg (fun z => intsH 2 _ z :: L) hxs
  · refine XL.no (t := 12) rfl (congrArg Value.bool (decide_eq_false h1)) ?_
    refine XL.no (t := 12) rfl (congrArg Value.bool (decide_eq_false h1)) ?_
    refine XL.no (t := 12) rfl (congrArg Value.bool (decide_eq_false h1)) ?_
    refine XL.cons (XOp.pickF (.bool (false)) (congrArg Value.bool (decide_eq_false h1)) rfl ?_)
    refine XL.nil ?_
    refine X.condF rfl ?_
    refine X.exit (thenQ_exit (thenQ_exit (blockQ_exit ?_)))
    refine X.seq ?_
    refine X.region ?_
    refine XL.cons (XOp.move (ov) rfl ?_)
    refine XL.cons (XOp.assign (ov) rfl ?_)
    refine XL.nil ?_
    refine X.ret (retEnd (L' := intsH 2 ov os :: L) [ov] (ov) (.tmp rfl .nil) rfl (FLe.refl _) (FLe.refl _) (Sub.cons (Sub.drop (Sub.refl _))) ?_)
    refine ⟨rfl, hov, ?_⟩
    have hxs : (redS ar rs t : List Int) = os := by rw [hos, redS]; split <;> first | rfl | (rw [redL, show k = t.length from by omega]) | simp_all
    exact congrArg (fun z => intsH 2 _ z :: L) hxs

/- spec.InmostIn -/
theorem sInmostIn_spec {F : FH} {L : List HP} {arv : Value} {ar : List Int} (har : IntsF F arv ar) {rsv : Value} {rs : List (List Int × List Int)} (hrs : PairsF F rsv rs) {tv : Value} {t : List Int} (ht : IntsF F tv t) (hla : ar.length ≤ 4000000) (hlr : rs.length ≤ 4000000) (hrb : ∀ i, i < rs.length → (rs.getD i ([], [])).1.length ≤ 4000000 ∧ (rs.getD i ([], [])).2.length ≤ 4000000) (hlt : t.length ≤ 4000000) :
    Does Tryz.prog 171 [.agg #[arv, rsv], tv] F (L) (fun v F' L' => F = F' ∧ IsSl v ∧ intsH 2 v (inS ar rs t) :: L = L') := by
  refine Does.of_X Tryz.func171 rfl rfl rfl ?_
  have hrS := redS_len (ar := ar) (rs := rs) hlt
  refine X.seq ?_
  refine X.region ?_
  refine XL.cons (XOp.box [arv, rsv] rfl rfl ?_)
  intro b1
  refine XL.cons (XOp.assign ((.slice none 0 0)) rfl ?_)
  refine XL.nil ?_
  refine X.seq ?_
  refine X.region ?_
  refine XL.cons (XOp.buildSlice (s := 1) [] [.int .i64 (0)] [] Tryz.runUnderlying22 Tryz.sizeOf2 Tryz.zeroValue2 rfl (by decide) rfl CellsAre.nil rfl ?_)
  intro v1 hv1
  refine XL.cons (XOp.assign (v1) rfl ?_)
  refine XL.nil ?_
  refine X.seq ?_
  refine X.region ?_
  refine XL.cons (XOp.loadN [arv, rsv] Tryz.isAgg37 Tryz.sizeOf37 rfl rfl (Rd.ownN [_] rfl rfl) ?_)
  refine XL.cons (XOp.move (tv) rfl ?_)
  refine XL.cons (XOp.frzF <| XOp.call (args := [.agg #[arv, rsv], tv]) Tryz.call172 rfl (sRedexesIn_spec har hrs ht (hla := (by first | assumption | rfl | omega | (left; simp; done) | (right; simp; done))) (hlr := (by first | assumption | rfl | omega | (left; simp; done) | (right; simp; done))) (hrb := (by first | assumption | rfl | omega | (left; simp; done) | (right; simp; done))) (hlt := (by first | assumption | rfl | omega | (left; simp; done) | (right; simp; done)))) ?_)
  rintro v2 _ _ _ ⟨rfl, hs1, rfl⟩
  refine ⟨_, _, rfl, fun F1 le1 hz1 => ?_⟩
  replace har := har.mono le1
  replace hrs := hrs.mono le1
  replace ht := ht.mono le1
  have hf1 : IntsF F1 v2 ((redS ar rs t)) := intsH.fz (xs := (redS ar rs t)) hz1.fz
  refine XL.cons (XOp.assign (v2) rfl ?_)
  refine XL.nil ?_
  refine X.seq ?_
  refine X.seq ?_
  refine X.region ?_
  refine XL.cons (XOp.assign (.int .i64 (0)) rfl ?_)
  refine XL.nil ?_
  refine X.block ?_
  refine X.loop (α := Nat × Value × List Int) (fun xQ => [(1, tv), (2, ptr b1 0), (5, xQ.2.1), (6, v2), (7, .int .i64 (((xQ.1 : Nat) : Int)))]) (fun xQ => intsH 2 xQ.2.1 xQ.2.2 :: cellsH b1 [arv, rsv] 37 :: L) (fun xQ F' => F1 = F' ∧ (IsSl xQ.2.1) ∧ (xQ.1 ≤ (redS ar rs t).length) ∧ (xQ.2.2 = inTo ar t (redS ar rs t) xQ.1)) (fun xQ => (redS ar rs t).length - xQ.1) (0, v1, []) ⟨rfl, rfl, rfl, rfl, rfl, trivial⟩ (Sub.cons (Sub.cons (Sub.refl _))) ⟨rfl, ((isSl_lit hv1)), (by (try dsimp only) <;> omega), (rfl)⟩ ?_
  rintro ⟨k, ov, os⟩ rE _ _ ⟨rfl, hov, hk, hos⟩
  show X _ _ _ _ (envs [(1, tv), (2, ptr b1 0), (5, ov), (6, v2), (7, .int .i64 (((k : Nat) : Int)))] rE) _ (intsH 2 ov os :: cellsH b1 [arv, rsv] 37 :: L)
  dsimp only at hov hk hos
  have hrf := fun (h : k < (redS ar rs t).length) => redS_facts h
  have hrS := redS_len (ar := ar) (rs := rs) hlt
  have hol : os.length ≤ k := by rw [hos]; exact inTo_len
  refine X.seq ?_
  refine X.seq ?_
  refine X.region ?_
  refine XL.cons (XOp.move (.int .i64 (((k : Nat) : Int))) rfl ?_)
  refine XL.cons (XOp.move (v2) rfl ?_)
  refine XL.cons (XOp.lenS (v := v2) (n := ((redS ar rs t)).length) Tryz.runUnderlying22 rfl hf1.slv ?_)
  refine XL.cons (XOp.lss (a := ((k : Nat) : Int)) (b := ((((redS ar rs t)).length : Nat) : Int)) rfl rfl ?_)
  refine XL.nil ?_
  refine X.condD (p := (((k : Nat) : Int) : Int) < ((((redS ar rs t)).length : Nat) : Int)) rfl (fun h1 => ?_) (fun h1 => ?_)
  · obtain ⟨hsys, ho, q, hq1, hq2, hq3⟩ := hrf (by omega)
    have htl := termOk_len ho
    have hle := endN_spec ho hq2
    refine X.skip ?_
    refine X.seq ?_
    refine X.block ?_
    refine X.seq ?_
    refine X.draw [intsH 2 ov os, cellsH b1 [arv, rsv] 37] L 7 [[], [], [], [], [], [], []] [[], [0], [], [], [], [3, 4], [5]] (phiL [fun us v => v = ptr b1 0, fun us v => v = (.agg #[arv] : Value), fun us v => v = tv, fun us v => v = v2, fun us v => v = (.int .i64 (((k : Nat) : Int)) : Value), fun us v => v = (.pointer (some (elemA v2 (k))) : Value), fun us v => v = (.int .i64 (((redS ar rs t)).getD k 0) : Value)]) (ownL [fun us v => [], fun us v => [], fun us v => [], fun us v => [], fun us v => [], fun us v => [], fun us v => []]) mixed rfl rfl (by kernel_rfl) ?_ ?_
    · refine stepsP.cons (fun vals R hpZ => ?_) ?_
      · refine XG.op (XOp.fieldP (b := b1) (0) Tryz.runUnderlying37 rfl Tryz.sizeOf34 (by decide) rfl rfl ?_)
        exact ⟨rfl, rfl, rfl⟩
      refine stepsP.cons (fun vals R hpZ => ?_) ?_
      · rw [(envs_of_sat (l := [(0, ptr b1 0)]) ⟨hpZ 0 (by decide), trivial⟩).symm]
        refine XG.op (XOp.loadN [arv] Tryz.isAgg34 Tryz.sizeOf34 rfl rfl (Rd.ownN [_] rfl rfl) ?_)
        exact ⟨rfl, rfl, rfl⟩
      refine stepsP.cons (fun vals R hpZ => ?_) ?_
      · refine XG.op (XOp.move (tv) rfl ?_)
        exact ⟨rfl, rfl, rfl⟩
      refine stepsP.cons (fun vals R hpZ => ?_) ?_
      · refine XG.op (XOp.move (v2) rfl ?_)
        exact ⟨rfl, rfl, rfl⟩
      refine stepsP.cons (fun vals R hpZ => ?_) ?_
      · refine XG.op (XOp.move (.int .i64 (((k : Nat) : Int))) rfl ?_)
        exact ⟨rfl, rfl, rfl⟩
      refine stepsP.cons (fun vals R hpZ => ?_) ?_
      · rw [(envs_of_sat (l := [(3, v2), (4, (.int .i64 (((k : Nat) : Int)) : Value))]) ⟨hpZ 3 (by decide), hpZ 4 (by decide), trivial⟩).symm]
        refine XG.op (XOp.indexS (v := v2) (i := ((k : Nat) : Int)) (n := ((redS ar rs t)).length) k Tryz.runUnderlying22 Tryz.sizeOf2 rfl rfl rfl hf1.slv (by omega) (Nat.mul_one _) ?_)
        exact ⟨rfl, rfl, rfl⟩
      refine stepsP.cons (fun vals R hpZ => ?_) ?_
      · rw [(envs_of_sat (l := [(5, (.pointer (some (elemA v2 (k))) : Value))]) ⟨hpZ 5 (by decide), trivial⟩).symm]
        refine XG.op (XOp.load1 (v := .int .i64 (((redS ar rs t)).getD k 0)) Tryz.isAgg2 rfl (hf1.rd (by omega)) ?_)
        exact ⟨rfl, rfl, rfl⟩
      exact stepsP.nil
    · intro vals hphi
      have e0 : vals 0 = ptr b1 0 := hphi 0 (by decide)
      have e1 : vals 1 = (.agg #[arv] : Value) := hphi 1 (by decide)
      have e2 : vals 2 = tv := hphi 2 (by decide)
      have e3 : vals 3 = v2 := hphi 3 (by decide)
      have e4 : vals 4 = (.int .i64 (((k : Nat) : Int)) : Value) := hphi 4 (by decide)
      have e5 : vals 5 = (.pointer (some (elemA v2 (k))) : Value) := hphi 5 (by decide)
      have e6 : vals 6 = (.int .i64 (((redS ar rs t)).getD k 0) : Value) := hphi 6 (by decide)
      rw [(envs_of_sat (l := [(0, ptr b1 0), (1, (.agg #[arv] : Value)), (2, tv), (3, v2), (4, (.int .i64 (((k : Nat) : Int)) : Value)), (5, (.pointer (some (elemA v2 (k))) : Value)), (6, (.int .i64 (((redS ar rs t)).getD k 0) : Value))]) ⟨e0, e1, e2, e3, e4, e5, e6, trivial⟩).symm]
      show XL _ _ _ _ _ _ _ (intsH 2 ov os :: cellsH b1 [arv, rsv] 37 :: L)
      refine XL.cons (XOp.call (args := [.agg #[arv], tv, .int .i64 (((((redS ar rs t)).getD k 0).toNat : Nat) : Int)]) Tryz.call135 (by rw [show (((((redS ar rs t)).getD k 0).toNat : Nat) : Int) = ((redS ar rs t)).getD k 0 from by omega]; rfl) (l1End_ok (p := (((redS ar rs t)).getD k 0).toNat) har ht (ho := (by first | assumption | rfl | omega | (left; simp; done) | (right; simp; done))) (hp := (by first | assumption | rfl | omega | (left; simp; done) | (right; simp; done)))) ?_)
      rintro _ _ _ _ ⟨rfl, rfl, rfl⟩
      refine XL.cons (XOp.assign (.int .i64 (((endN ar t ((((redS ar rs t)).getD k 0).toNat) : Nat) : Int))) rfl ?_)
      refine XL.nil ?_
      refine X.seq ?_
      refine X.region ?_
      refine XL.cons (XOp.move (.int .i64 (((k : Nat) : Int))) rfl ?_)
      refine XL.cons (XOp.addR (a := ((k : Nat) : Int)) (b := 1) (((k + 1 : Nat) : Int)) rfl rfl (by omega) (by omega) ?_)
      refine XL.cons (XOp.move (v2) rfl ?_)
      refine XL.cons (XOp.lenS (v := v2) (n := ((redS ar rs t)).length) Tryz.runUnderlying22 rfl hf1.slv ?_)
      refine XL.cons (XOp.eql (a := ((k + 1 : Nat) : Int)) (b := ((((redS ar rs t)).length : Nat) : Int)) rfl rfl ?_)
      refine XL.cons (XOp.move (.bool (decide ((((k + 1 : Nat) : Int) : Int) = ((((redS ar rs t)).length : Nat) : Int)))) rfl ?_)
      by_cases h2 : (((k + 1 : Nat) : Int) : Int) = ((((redS ar rs t)).length : Nat) : Int)
      · refine XL.no (t := 32) rfl (congrArg Value.bool (decide_eq_true h2)) ?_
        refine XL.no (t := 32) rfl (congrArg Value.bool (decide_eq_true h2)) ?_
        refine XL.no (t := 32) rfl (congrArg Value.bool (decide_eq_true h2)) ?_
        refine XL.no (t := 32) rfl (congrArg Value.bool (decide_eq_true h2)) ?_
        refine XL.no (t := 32) rfl (congrArg Value.bool (decide_eq_true h2)) ?_
        refine XL.no (t := 32) rfl (congrArg Value.bool (decide_eq_true h2)) ?_
        refine XL.no (t := 32) rfl (congrArg Value.bool (decide_eq_true h2)) ?_
        refine XL.cons (XOp.pickT (.bool (true)) (congrArg Value.bool (decide_eq_true h2)) rfl ?_)
        refine XL.nil ?_
        refine X.condT rfl ?_
        refine X.region ?_
        refine XL.cons (XOp.move (ov) rfl ?_)
        refine XL.cons (XOp.move (v2) rfl ?_)
        refine XL.cons (XOp.move (.int .i64 (((k : Nat) : Int))) rfl ?_)
        refine XL.cons (XOp.indexS (v := v2) (i := ((k : Nat) : Int)) (n := ((redS ar rs t)).length) k Tryz.runUnderlying22 Tryz.sizeOf2 rfl rfl rfl hf1.slv (by omega) (Nat.mul_one _) ?_)
        refine XL.cons (XOp.load1 (v := .int .i64 (((redS ar rs t)).getD k 0)) Tryz.isAgg2 rfl (hf1.rd (by omega)) ?_)
        refine XL.cons (XOp.buildSlice (s := 1) [.int .i64 (((redS ar rs t)).getD k 0)] [.int .i64 (0)] [(0, [.int .i64 (((redS ar rs t)).getD k 0)])] Tryz.runUnderlying22 Tryz.sizeOf2 Tryz.zeroValue2 rfl (by decide) rfl (.cons rfl CellsAre.nil) rfl ?_)
        intro v3 hv2
        refine XL.cons (XOp.append1 (u := ((redS ar rs t)).getD k 0) [_] _ Tryz.runUnderlying22 Tryz.typeInfo2 rfl rfl rfl rfl rfl rfl (SlV.own [] rfl) (Rd.sl [] rfl rfl) (by (try simp only [List.length_append, List.length_nil, List.length_cons, List.length_singleton, List.length_take, List.length_drop]); omega) ?_)
        intro v4 hs2 hn1
        refine XL.cons (XOp.assign (v4) rfl ?_)
        refine XL.nil ?_
        refine X.region ?_
        refine XL.cons (XOp.move (.int .i64 (((k : Nat) : Int))) rfl ?_)
        refine XL.cons (XOp.addR (a := ((k : Nat) : Int)) (b := 1) (((k + 1 : Nat) : Int)) rfl rfl (by omega) (by omega) ?_)
        refine XL.cons (XOp.assign (.int .i64 (((k + 1 : Nat) : Int))) rfl ?_)
        refine XL.nil ?_
        exact ⟨(k + 1, v4, os ++ [((redS ar rs t)).getD k 0]), _, FLe.refl _, (FLe.refl _), ⟨rfl, rfl, rfl, rfl, rfl, trivial⟩, (Sub.drop (Sub.cons (Sub.cons (Sub.refl _)))), ⟨rfl, (hs2), (by (try dsimp only) <;> omega), ((by dsimp only; rw [hos]; first | exact (inTo_yes (by simp only [inOk, decide_eq_true_eq]; omega)).symm | exact (inTo_no (by simp only [inOk, decide_eq_false_iff_not]; omega)).symm))⟩, (by omega)⟩
      · refine XL.yes (t := 32) rfl (congrArg Value.bool (decide_eq_false h2)) (XOp.move (v2) rfl ?_)
        refine XL.yes (t := 32) rfl (congrArg Value.bool (decide_eq_false h2)) (XOp.move (.int .i64 (((k : Nat) : Int))) rfl ?_)
        refine XL.yes (t := 32) rfl (congrArg Value.bool (decide_eq_false h2)) (XOp.addR (a := ((k : Nat) : Int)) (b := 1) (((k + 1 : Nat) : Int)) rfl rfl (by omega) (by omega) ?_)
        refine XL.yes (t := 32) rfl (congrArg Value.bool (decide_eq_false h2)) (XOp.indexS (v := v2) (i := ((k + 1 : Nat) : Int)) (n := ((redS ar rs t)).length) (k + 1) Tryz.runUnderlying22 Tryz.sizeOf2 rfl rfl rfl hf1.slv (by omega) (Nat.mul_one _) ?_)
        refine XL.yes (t := 32) rfl (congrArg Value.bool (decide_eq_false h2)) (XOp.load1 (v := .int .i64 (((redS ar rs t)).getD (k + 1) 0)) Tryz.isAgg2 rfl (hf1.rd (by omega)) ?_)
        refine XL.yes (t := 32) rfl (congrArg Value.bool (decide_eq_false h2)) (XOp.move (.int .i64 (((endN ar t ((((redS ar rs t)).getD k 0).toNat) : Nat) : Int))) rfl ?_)
        refine XL.yes (t := 32) rfl (congrArg Value.bool (decide_eq_false h2)) (XOp.geq (a := ((redS ar rs t)).getD (k + 1) 0) (b := ((endN ar t ((((redS ar rs t)).getD k 0).toNat) : Nat) : Int)) rfl rfl ?_)
        refine XL.cons (XOp.pickF (.bool (decide ((((redS ar rs t)).getD (k + 1) 0 : Int) ≥ ((endN ar t ((((redS ar rs t)).getD k 0).toNat) : Nat) : Int)))) (congrArg Value.bool (decide_eq_false h2)) rfl ?_)
        refine XL.nil ?_
        refine X.condD (p := (((redS ar rs t)).getD (k + 1) 0 : Int) ≥ ((endN ar t ((((redS ar rs t)).getD k 0).toNat) : Nat) : Int)) rfl (fun h3 => ?_) (fun h3 => ?_)
        · refine X.region ?_
          refine XL.cons (XOp.move (ov) rfl ?_)
          refine XL.cons (XOp.move (v2) rfl ?_)
          refine XL.cons (XOp.move (.int .i64 (((k : Nat) : Int))) rfl ?_)
          refine XL.cons (XOp.indexS (v := v2) (i := ((k : Nat) : Int)) (n := ((redS ar rs t)).length) k Tryz.runUnderlying22 Tryz.sizeOf2 rfl rfl rfl hf1.slv (by omega) (Nat.mul_one _) ?_)
          refine XL.cons (XOp.load1 (v := .int .i64 (((redS ar rs t)).getD k 0)) Tryz.isAgg2 rfl (hf1.rd (by omega)) ?_)
          refine XL.cons (XOp.buildSlice (s := 1) [.int .i64 (((redS ar rs t)).getD k 0)] [.int .i64 (0)] [(0, [.int .i64 (((redS ar rs t)).getD k 0)])] Tryz.runUnderlying22 Tryz.sizeOf2 Tryz.zeroValue2 rfl (by decide) rfl (.cons rfl CellsAre.nil) rfl ?_)
          intro v5 hv3
          refine XL.cons (XOp.append1 (u := ((redS ar rs t)).getD k 0) [_] _ Tryz.runUnderlying22 Tryz.typeInfo2 rfl rfl rfl rfl rfl rfl (SlV.own [] rfl) (Rd.sl [] rfl rfl) (by (try simp only [List.length_append, List.length_nil, List.length_cons, List.length_singleton, List.length_take, List.length_drop]); omega) ?_)
          intro v6 hs3 hn2
          refine XL.cons (XOp.assign (v6) rfl ?_)
          refine XL.nil ?_
          refine X.region ?_
          refine XL.cons (XOp.move (.int .i64 (((k : Nat) : Int))) rfl ?_)
          refine XL.cons (XOp.addR (a := ((k : Nat) : Int)) (b := 1) (((k + 1 : Nat) : Int)) rfl rfl (by omega) (by omega) ?_)
          refine XL.cons (XOp.assign (.int .i64 (((k + 1 : Nat) : Int))) rfl ?_)
          refine XL.nil ?_
          exact ⟨(k + 1, v6, os ++ [((redS ar rs t)).getD k 0]), _, FLe.refl _, (FLe.refl _), ⟨rfl, rfl, rfl, rfl, rfl, trivial⟩, (Sub.drop (Sub.cons (Sub.cons (Sub.refl _)))), ⟨rfl, (hs3), (by (try dsimp only) <;> omega), ((by dsimp only; rw [hos]; first | exact (inTo_yes (by simp only [inOk, decide_eq_true_eq]; omega)).symm | exact (inTo_no (by simp only [inOk, decide_eq_false_iff_not]; omega)).symm))⟩, (by omega)⟩
        · refine X.skip ?_
          refine X.region ?_
          refine XL.cons (XOp.move (.int .i64 (((k : Nat) : Int))) rfl ?_)
          refine XL.cons (XOp.addR (a := ((k : Nat) : Int)) (b := 1) (((k + 1 : Nat) : Int)) rfl rfl (by omega) (by omega) ?_)
          refine XL.cons (XOp.assign (.int .i64 (((k + 1 : Nat) : Int))) rfl ?_)
          refine XL.nil ?_
          exact ⟨(k + 1, ov, os), _, FLe.refl _, (FLe.refl _), ⟨rfl, rfl, rfl, rfl, rfl, trivial⟩, (Sub.cons (Sub.cons (Sub.refl _))), ⟨rfl, (hov), (by (try dsimp only) <;> omega), ((by dsimp only; rw [hos]; first | exact (inTo_yes (by simp only [inOk, decide_eq_true_eq]; omega)).symm | exact (inTo_no (by simp only [inOk, decide_eq_false_iff_not]; omega)).symm))⟩, (by omega)⟩
  · refine X.exit (thenQ_exit (thenQ_exit (blockQ_exit ?_)))
    refine X.seq ?_
    refine X.region ?_
    refine XL.cons (XOp.move (ov) rfl ?_)
    refine XL.cons (XOp.assign (ov) rfl ?_)
    refine XL.nil ?_
    refine X.ret (retEnd (L' := intsH 2 ov os :: L) [ov] (ov) (.tmp rfl .nil) rfl (FLe.refl _) le1 (Sub.cons (Sub.drop (Sub.refl _))) ?_)
    refine ⟨rfl, hov, ?_⟩
    have hxs : (inS ar rs t : List Int) = os := by rw [hos, inS_eq, show k = (redS ar rs t).length from by omega]
    exact congrArg (fun z => intsH 2 _ z :: L) hxs

/- spec.l8Places -/
theorem l8Places_spec {F : FH} {L : List HP} {arv : Value} {ar : List Int} (har : IntsF F arv ar) {rsv : Value} {rs : List (List Int × List Int)} (hrs : PairsF F rsv rs) {tv : Value} {t : List Int} (ht : IntsF F tv t) {st : Int} (hla : ar.length ≤ 4000000) (hlr : rs.length ≤ 4000000) (hrb : ∀ i, i < rs.length → (rs.getD i ([], [])).1.length ≤ 4000000 ∧ (rs.getD i ([], [])).2.length ≤ 4000000) (hlt : t.length ≤ 4000000) :
    Does Tryz.prog 146 [.agg #[arv, rsv], tv, .int .i64 (st)] F (L) (fun v F' L' => ∃ (a : Value), (a : Value) = v ∧ (IntsF F' a (placesL ar rs t st)) ∧ L = L') := by
  refine Does.of_X Tryz.func146 rfl rfl rfl ?_
  have hrS := redS_len (ar := ar) (rs := rs) hlt
  refine X.seq ?_
  refine X.region ?_
  refine XL.cons (XOp.box [arv, rsv] rfl rfl ?_)
  intro b1
  refine XL.cons (XOp.assign ((.slice none 0 0)) rfl ?_)
  refine XL.nil ?_
  refine X.seq ?_
  refine X.seq ?_
  refine X.region ?_
  refine XL.cons (XOp.move (.int .i64 (st)) rfl ?_)
  refine XL.nil ?_
  refine X.block ?_
  refine X.seq ?_
  refine X.region ?_
  refine XL.cons (XOp.eql (a := st) (b := 1) rfl rfl ?_)
  refine XL.cons (XOp.assign (.bool (decide ((st : Int) = 1))) rfl ?_)
  refine XL.nil ?_
  refine X.condD (p := (st : Int) = 1) rfl (fun h1 => ?_) (fun h1 => ?_)
  · refine X.seq ?_
    refine X.region ?_
    refine XL.cons (XOp.loadN [arv, rsv] Tryz.isAgg37 Tryz.sizeOf37 rfl rfl (Rd.ownN [] rfl rfl) ?_)
    refine XL.cons (XOp.move (tv) rfl ?_)
    refine XL.cons (XOp.frzF <| XOp.call (args := [.agg #[arv, rsv], tv]) Tryz.call171 rfl (sInmostIn_spec har hrs ht (hla := (by first | assumption | rfl | omega | (left; simp; done) | (right; simp; done))) (hlr := (by first | assumption | rfl | omega | (left; simp; done) | (right; simp; done))) (hrb := (by first | assumption | rfl | omega | (left; simp; done) | (right; simp; done))) (hlt := (by first | assumption | rfl | omega | (left; simp; done) | (right; simp; done)))) ?_)
    rintro v1 _ _ _ ⟨rfl, hs1, rfl⟩
    refine ⟨_, _, rfl, fun F1 le1 hz1 => ?_⟩
    replace har := har.mono le1
    replace hrs := hrs.mono le1
    replace ht := ht.mono le1
    have hf1 : IntsF F1 v1 ((inS ar rs t)) := intsH.fz (xs := (inS ar rs t)) hz1.fz
    refine XL.cons (XOp.assign (v1) rfl ?_)
    refine XL.nil ?_
    refine X.ret (blockQ_ret (thenQ_ret (retEnd (L' := L) [v1] (v1) (.tmp rfl .nil) rfl le1 (FLe.refl _) (Sub.drop (Sub.refl _)) ?_)))
    exact ⟨_, rfl, by rw [placesL, if_pos (by assumption)]; exact hf1, rfl⟩
  · refine X.seq ?_
    refine X.region ?_
    refine XL.cons (XOp.eql (a := st) (b := 2) rfl rfl ?_)
    refine XL.cons (XOp.assign (.bool (decide ((st : Int) = 2))) rfl ?_)
    refine XL.nil ?_
    refine X.condD (p := (st : Int) = 2) rfl (fun h2 => ?_) (fun h2 => ?_)
    · refine X.seq ?_
      refine X.region ?_
      refine XL.cons (XOp.loadN [arv, rsv] Tryz.isAgg37 Tryz.sizeOf37 rfl rfl (Rd.ownN [] rfl rfl) ?_)
      refine XL.cons (XOp.move (tv) rfl ?_)
      refine XL.cons (XOp.frzF <| XOp.call (args := [.agg #[arv, rsv], tv]) Tryz.call172 rfl (sRedexesIn_spec har hrs ht (hla := (by first | assumption | rfl | omega | (left; simp; done) | (right; simp; done))) (hlr := (by first | assumption | rfl | omega | (left; simp; done) | (right; simp; done))) (hrb := (by first | assumption | rfl | omega | (left; simp; done) | (right; simp; done))) (hlt := (by first | assumption | rfl | omega | (left; simp; done) | (right; simp; done)))) ?_)
      rintro v2 _ _ _ ⟨rfl, hs2, rfl⟩
      refine ⟨_, _, rfl, fun F2 le2 hz2 => ?_⟩
      replace har := har.mono le2
      replace hrs := hrs.mono le2
      replace ht := ht.mono le2
      have hf2 : IntsF F2 v2 ((redS ar rs t)) := intsH.fz (xs := (redS ar rs t)) hz2.fz
      refine XL.cons (XOp.assign (v2) rfl ?_)
      refine XL.nil ?_
      refine X.ret (blockQ_ret (thenQ_ret (retEnd (L' := L) [v2] (v2) (.tmp rfl .nil) rfl le2 (FLe.refl _) (Sub.drop (Sub.refl _)) ?_)))
      exact ⟨_, rfl, by rw [placesL, if_neg (by assumption), if_pos (by assumption)]; exact hf2, rfl⟩
    · refine X.skip ?_
      refine X.seq ?_
      refine X.region ?_
      refine XL.cons (XOp.loadN [arv, rsv] Tryz.isAgg37 Tryz.sizeOf37 rfl rfl (Rd.ownN [] rfl rfl) ?_)
      refine XL.cons (XOp.move (tv) rfl ?_)
      refine XL.cons (XOp.frzF <| XOp.call (args := [.agg #[arv, rsv], tv]) Tryz.call172 rfl (sRedexesIn_spec har hrs ht (hla := (by first | assumption | rfl | omega | (left; simp; done) | (right; simp; done))) (hlr := (by first | assumption | rfl | omega | (left; simp; done) | (right; simp; done))) (hrb := (by first | assumption | rfl | omega | (left; simp; done) | (right; simp; done))) (hlt := (by first | assumption | rfl | omega | (left; simp; done) | (right; simp; done)))) ?_)
      rintro v3 _ _ _ ⟨rfl, hs3, rfl⟩
      refine ⟨_, _, rfl, fun F3 le3 hz3 => ?_⟩
      replace har := har.mono le3
      replace hrs := hrs.mono le3
      replace ht := ht.mono le3
      have hf3 : IntsF F3 v3 ((redS ar rs t)) := intsH.fz (xs := (redS ar rs t)) hz3.fz
      refine XL.cons (XOp.assign (v3) rfl ?_)
      refine XL.nil ?_
      refine X.seq ?_
      refine X.seq ?_
      refine X.region ?_
      refine XL.cons (XOp.move (v3) rfl ?_)
      refine XL.cons (XOp.lenS (v := v3) (n := ((redS ar rs t)).length) Tryz.runUnderlying22 rfl hf3.slv ?_)
      refine XL.cons (XOp.gtr (a := ((((redS ar rs t)).length : Nat) : Int)) (b := 0) rfl rfl ?_)
      refine XL.nil ?_
      refine X.condD (p := (((((redS ar rs t)).length : Nat) : Int) : Int) > 0) rfl (fun h3 => ?_) (fun h3 => ?_)
      · refine X.region ?_
        refine XL.cons (XOp.move (v3) rfl ?_)
        refine XL.cons (XOp.move (v3) rfl ?_)
        refine XL.cons (XOp.lenS (v := v3) (n := ((redS ar rs t)).length) Tryz.runUnderlying22 rfl hf3.slv ?_)
        refine XL.cons (XOp.subR (a := ((((redS ar rs t)).length : Nat) : Int)) (b := 1) ((((((redS ar rs t)).length) - 1 : Nat) : Int)) rfl rfl (by omega) (by omega) ?_)
        refine XL.cons (XOp.sliceI ((((redS ar rs t)).length) - 1) (((redS ar rs t)).length) Tryz.runUnderlying22 Tryz.sizeOf2 rfl hf3 ⟨_, rfl⟩ rfl (by omega) (by omega) ?_)
        intro v4 hv1 hn1
        refine XL.cons (XOp.assign (v4) rfl ?_)
        refine XL.nil ?_
        refine X.seq ?_
        refine X.region ?_
        refine XL.cons (XOp.move (v4) rfl ?_)
        refine XL.cons (XOp.assign (v4) rfl ?_)
        refine XL.nil ?_
        refine X.ret (retEnd (L' := L) [v4] (v4) (.tmp rfl .nil) rfl le3 (FLe.refl _) (Sub.drop (Sub.refl _)) ?_)
        exact ⟨_, rfl, by rw [placesL, if_neg (by assumption), if_neg (by assumption)]; exact hv1, rfl⟩
      · refine X.skip ?_
        refine X.seq ?_
        refine X.region ?_
        refine XL.cons (XOp.move (v3) rfl ?_)
        refine XL.cons (XOp.assign (v3) rfl ?_)
        refine XL.nil ?_
        refine X.ret (retEnd (L' := L) [v3] (v3) (.tmp rfl .nil) rfl le3 (FLe.refl _) (Sub.drop (Sub.refl _)) ?_)
        exact ⟨_, rfl, by rw [placesL, if_neg (by assumption), if_neg (by assumption)]; rw [lastL_nil (l := redS ar rs t) (by omega)]; exact hf3, rfl⟩

/- spec.l8Right -/
theorem l8Right_spec {F : FH} {L : List HP} {arv : Value} {ar : List Int} (har : IntsF F arv ar) {rsv : Value} {rs : List (List Int × List Int)} (hrs : PairsF F rsv rs) {tv : Value} {t : List Int} (ht : IntsF F tv t) {st : Int} (hla : ar.length ≤ 4000000) (hlr : rs.length ≤ 4000000) (hrb : ∀ i, i < rs.length → (rs.getD i ([], [])).1.length ≤ 4000000 ∧ (rs.getD i ([], [])).2.length ≤ 4000000) (hlt : t.length ≤ 4000000) :
    Does Tryz.prog 105 [.agg #[arv, rsv], tv, .int .i64 (st)] F (L) (fun v F' L' => (.bool ((rightB ar rs t && decide (1 ≤ st ∧ st ≤ 3))) : Value) = v ∧ F = F' ∧ L = L') := by
  refine Does.of_X Tryz.func105 rfl rfl rfl ?_
  refine X.seq ?_
  refine X.region ?_
  refine XL.cons (XOp.box [arv, rsv] rfl rfl ?_)
  intro b1
  refine XL.cons (XOp.assign (.bool (false)) rfl ?_)
  refine XL.nil ?_
  refine X.seq ?_
  refine X.region ?_
  refine XL.cons (XOp.loadN [arv, rsv] Tryz.isAgg37 Tryz.sizeOf37 rfl rfl (Rd.ownN [] rfl rfl) ?_)
  refine XL.cons (XOp.move (tv) rfl ?_)
  refine XL.cons (XOp.call (args := [.agg #[arv, rsv], tv]) Tryz.call140 rfl (l7Right_spec har hrs ht (hla := (by first | assumption | rfl | omega | (left; simp; done) | (right; simp; done))) (hlr := (by first | assumption | rfl | omega | (left; simp; done) | (right; simp; done))) (hrb := (by first | assumption | rfl | omega | (left; simp; done) | (right; simp; done))) (hlt := (by first | assumption | rfl | omega | (left; simp; done) | (right; simp; done)))) ?_)
  rintro _ _ _ _ ⟨rfl, rfl, rfl⟩
  refine XL.cons (XOp.move (.bool (rightB ar rs t)) rfl ?_)
  by_cases h1 : (rightB ar rs t) = true
  · refine XL.yes (t := 10) rfl (congrArg Value.bool h1) (XOp.move (.int .i64 (st)) rfl ?_)
    refine XL.yes (t := 10) rfl (congrArg Value.bool h1) (XOp.call (args := [.int .i64 (st), .int .i64 (1), .int .i64 (3)]) Tryz.call86 rfl (l1In_spec (n := st) (a := 1) (b := 3)) ?_)
    rintro _ _ _ _ ⟨rfl, rfl, rfl⟩
    refine XL.cons (XOp.pickT (.bool (decide (1 ≤ st ∧ st ≤ 3))) (congrArg Value.bool h1) rfl ?_)
    refine XL.cons (XOp.assign (.bool (decide (1 ≤ st ∧ st ≤ 3))) rfl ?_)
    refine XL.nil ?_
    refine X.ret (retEnd (L' := L) [.bool (decide (1 ≤ st ∧ st ≤ 3))] (.bool (decide (1 ≤ st ∧ st ≤ 3))) (.tmp rfl .nil) rfl (FLe.refl _) (FLe.refl _) (Sub.drop (Sub.refl _)) ?_)
    exact ⟨(congrArg Value.bool (by simp_all)), rfl, rfl⟩
  · rw [Bool.not_eq_true] at h1
    refine XL.no (t := 10) rfl (congrArg Value.bool h1) ?_
    refine XL.no (t := 10) rfl (congrArg Value.bool h1) ?_
    refine XL.cons (XOp.pickF (.bool (false)) (congrArg Value.bool h1) rfl ?_)
    refine XL.cons (XOp.assign (.bool (false)) rfl ?_)
    refine XL.nil ?_
    refine X.ret (retEnd (L' := L) [.bool (false)] (.bool (false)) (.tmp rfl .nil) rfl (FLe.refl _) (FLe.refl _) (Sub.drop (Sub.refl _)) ?_)
    exact ⟨(congrArg Value.bool (by simp_all)), rfl, rfl⟩
end Go.Proofs.YtbooflphoaaoeaaGreat
