/-
  Walks: the reference's strategies.
-/
import Derived.Test.YtbooflphoaaoeaaGreatQlFm
import Derived.Test.YtbooflphoaaoeaaGreatP6
set_option linter.unusedSimpArgs false
set_option linter.unusedVariables false
namespace Go.Proofs.YtbooflphoaaoeaaGreat
open Go X M

/- spec.l7Redexes -/
theorem l7Redexes_spec {F : FH} {L : List HP} {arv : Value} {ar : List Int} (har : IntsF F arv ar) {rsv : Value} {rs : List (List Int × List Int)} (hrs : PairsF F rsv rs) {tv : Value} {t : List Int} (ht : IntsF F tv t) (hsys : sysOk ar rs = true) (ho : termOk ar t = true) :
    Does Tryz.prog 151 [.agg #[arv, rsv], tv] F (L) (fun v F' L' => (.int .i64 (((cntP ar rs t t.length : Nat) : Int)) : Value) = v ∧ F = F' ∧ L = L') := by
  refine Does.of_X Tryz.func151 rfl rfl rfl ?_
  have hnn := notNil_of_pos ht (by have := termOk_len ho; omega)
  have htl := termOk_len ho
  have hrl := (sysOk_iff.1 hsys).2.1
  have hsig := (sysOk_iff.1 hsys).1
  have hsl := sigOk_spec hsig
  refine X.seq ?_
  refine X.region ?_
  refine XL.cons (XOp.box [arv, rsv] rfl rfl ?_)
  intro b1
  refine XL.cons (XOp.assign (.int .i64 (0)) rfl ?_)
  refine XL.nil ?_
  refine X.seq ?_
  refine X.region ?_
  refine XL.cons (XOp.assign (.int .i64 (0)) rfl ?_)
  refine XL.nil ?_
  refine X.seq ?_
  refine X.seq ?_
  refine X.region ?_
  refine XL.cons (XOp.assign (.int .i64 (0)) rfl ?_)
  refine XL.nil ?_
  refine X.block ?_
  refine X.loop (α := Nat) (fun k => [(1, tv), (2, ptr b1 0), (5, .int .i64 (((cntP ar rs t k : Nat) : Int))), (6, .int .i64 (((k : Nat) : Int)))]) (fun k => cellsH b1 [arv, rsv] 37 :: L) (fun k F' => F = F' ∧ (k ≤ t.length)) (fun k => t.length - k) 0 ⟨rfl, rfl, rfl, rfl, trivial⟩ (Sub.cons (Sub.refl _)) ⟨rfl, (by (try dsimp only) <;> omega)⟩ ?_
  rintro k rE _ _ ⟨rfl, hk⟩
  show X _ _ _ _ (envs [(1, tv), (2, ptr b1 0), (5, .int .i64 (((cntP ar rs t k : Nat) : Int))), (6, .int .i64 (((k : Nat) : Int)))] rE) _ (cellsH b1 [arv, rsv] 37 :: L)
  have hcp := cntP_le (ar := ar) (rs := rs) (t := t) hrl k
  refine X.seq ?_
  refine X.seq ?_
  refine X.region ?_
  refine XL.cons (XOp.move (.int .i64 (((k : Nat) : Int))) rfl ?_)
  refine XL.cons (XOp.move (tv) rfl ?_)
  refine XL.cons (XOp.lenS (v := tv) (n := (t).length) Tryz.runUnderlying22 rfl ht.slv ?_)
  refine XL.cons (XOp.lss (a := ((k : Nat) : Int)) (b := (((t).length : Nat) : Int)) rfl rfl ?_)
  refine XL.nil ?_
  refine X.condD (p := (((k : Nat) : Int) : Int) < (((t).length : Nat) : Int)) rfl (fun h1 => ?_) (fun h1 => ?_)
  · refine X.skip ?_
    refine X.seq ?_
    refine X.block ?_
    refine X.seq ?_
    refine X.region ?_
    refine XL.cons (XOp.assign (.int .i64 (0)) rfl ?_)
    refine XL.nil ?_
    refine X.block ?_
    refine X.loop (α := Nat) (fun j => [(1, tv), (2, ptr b1 0), (5, .int .i64 (((cntP ar rs t k + cntR ar rs t k j : Nat) : Int))), (6, .int .i64 (((k : Nat) : Int))), (7, .int .i64 (((j : Nat) : Int)))]) (fun j => cellsH b1 [arv, rsv] 37 :: L) (fun j F' => F = F' ∧ (j ≤ rs.length)) (fun j => rs.length - j) 0 ⟨rfl, rfl, rfl, rfl, rfl, trivial⟩ (Sub.cons (Sub.refl _)) ⟨rfl, (by (try dsimp only) <;> omega)⟩ ?_
    rintro j rE _ _ ⟨rfl, hj⟩
    show X _ _ _ _ (envs [(1, tv), (2, ptr b1 0), (5, .int .i64 (((cntP ar rs t k + cntR ar rs t k j : Nat) : Int))), (6, .int .i64 (((k : Nat) : Int))), (7, .int .i64 (((j : Nat) : Int)))] rE) _ (cellsH b1 [arv, rsv] 37 :: L)
    have hcr := cntR_le (ar := ar) (rs := rs) (t := t) (p := k) (k := j)
    refine X.seq ?_
    refine X.seq ?_
    refine X.region ?_
    refine XL.cons (XOp.move (.int .i64 (((j : Nat) : Int))) rfl ?_)
    refine XL.cons (XOp.fieldP (b := b1) (1) Tryz.runUnderlying37 rfl Tryz.sizeOf35 (by decide) rfl rfl ?_)
    refine XL.cons (XOp.load1 (v := rsv) Tryz.isAgg35 rfl (Rd.own [] rfl rfl) ?_)
    refine XL.cons (XOp.lenS (v := rsv) (n := (rs).length) Tryz.runUnderlying35 rfl hrs.slv ?_)
    refine XL.cons (XOp.lss (a := ((j : Nat) : Int)) (b := (((rs).length : Nat) : Int)) rfl rfl ?_)
    refine XL.nil ?_
    refine X.condD (p := (((j : Nat) : Int) : Int) < (((rs).length : Nat) : Int)) rfl (fun h2 => ?_) (fun h2 => ?_)
    · refine X.skip ?_
      refine X.seq ?_
      refine X.block ?_
      refine X.seq ?_
      obtain ⟨a1, a2, ha1, ha2, hr1, hr2⟩ := hrs.rd (i := j) (by omega)
      refine X.drawG [cellsH b1 [arv, rsv] 37] L 19 [[], [], [], [], [], [], [], [], [], [], [], [], [], [], [13], [13], [], [], [13, 17]] [[], [0], [], [2], [], [3, 4], [5], [6], [], [8], [], [], [9, 10, 11], [1, 7, 12], [13], [13, 14], [13, 14], [], [13, 15, 17]] [[], [], [], [], [], [], [], [], [], [], [], [], [], [], [], [], [], [], [17]] (phiG [fun FF us v => v = ptr b1 0, fun FF us v => v = (.agg #[arv] : Value), fun FF us v => v = ptr b1 1, fun FF us v => v = rsv, fun FF us v => v = (.int .i64 (((j : Nat) : Int)) : Value), fun FF us v => v = (.pointer (some (elemA rsv (j * 2))) : Value), fun FF us v => v = (.pointer (some (elemA rsv (j * 2))) : Value), fun FF us v => v = a1, fun FF us v => v = ptr b1 0, fun FF us v => v = (.agg #[arv] : Value), fun FF us v => v = tv, fun FF us v => v = (.int .i64 (((k : Nat) : Int)) : Value), fun FF us v => ((v) : Value) = v ∧ (IntsF FF (v) (sub ar t k)), fun FF us v => (.tuple #[.agg #[((aggAt (tupAt v 0) 0))], .bool ((matchB ar ((rs.getD j ([], [])).1) ((sub ar t k))).isSome)] : Value) = v ∧ (RowsF FF ((aggAt (tupAt v 0) 0)) (matchP ar ((rs.getD j ([], [])).1) ((sub ar t k)))), fun FF us v => v = (.tuple #[.agg #[((aggAt (tupAt (us.getD 0 undef) 0) 0))], .bool ((matchB ar ((rs.getD j ([], [])).1) ((sub ar t k))).isSome)] : Value), fun FF us v => v = (.agg #[((aggAt (tupAt (us.getD 0 undef) 0) 0))] : Value), fun FF us v => v = (.bool ((matchB ar ((rs.getD j ([], [])).1) ((sub ar t k))).isSome) : Value), fun FF us v => v = ptr (blk v) 0, fun FF us v => True]) (ownL [fun us v => [], fun us v => [], fun us v => [], fun us v => [], fun us v => [], fun us v => [], fun us v => [], fun us v => [], fun us v => [], fun us v => [], fun us v => [], fun us v => [], fun us v => [], fun us v => [], fun us v => [], fun us v => [], fun us v => [], fun us v => [cellsH (blk v) [(.slice none 0 0)] 118], fun us v => [cellsH (blk (us.getD 1 undef)) [((aggAt (tupAt (us.getD 0 undef) 0) 0))] 118]]) mixed rfl rfl (by kernel_rfl) (by kernel_rfl) (MonoG.get (MonoG.cons (fun le h => h) (MonoG.cons (fun le h => h) (MonoG.cons (fun le h => h) (MonoG.cons (fun le h => h) (MonoG.cons (fun le h => h) (MonoG.cons (fun le h => h) (MonoG.cons (fun le h => h) (MonoG.cons (fun le h => h) (MonoG.cons (fun le h => h) (MonoG.cons (fun le h => h) (MonoG.cons (fun le h => h) (MonoG.cons (fun le h => h) (MonoG.cons (fun le h => ⟨h.1, h.2.mono le⟩) (MonoG.cons (fun le h => ⟨h.1, h.2.mono le⟩) (MonoG.cons (fun le h => h) (MonoG.cons (fun le h => h) (MonoG.cons (fun le h => h) (MonoG.cons (fun le h => h) (MonoG.cons (fun le h => h) MonoG.nil)))))))))))))))))))) ?_ ?_
      · refine stepsG.cons (fun vals Fs R leFs hpZ => ?_) ?_
        · refine XG.op (XOp.fieldP (b := b1) (0) Tryz.runUnderlying37 rfl Tryz.sizeOf34 (by decide) rfl rfl ?_)
          exact ⟨rfl, rfl⟩
        refine stepsG.cons (fun vals Fs R leFs hpZ => ?_) ?_
        · have e0 : vals 0 = ptr b1 0 := hpZ 0 (by decide)
          replace har := har.mono leFs
          replace hrs := hrs.mono leFs
          replace ht := ht.mono leFs
          replace ha1 := ha1.mono leFs
          replace ha2 := ha2.mono leFs
          replace hr1 := Rd.monoA hr1 leFs
          replace hr2 := Rd.monoA hr2 leFs
          rw [(envs_of_sat (l := [(0, ptr b1 0)]) ⟨e0, trivial⟩).symm]
          refine XG.op (XOp.loadN [arv] Tryz.isAgg34 Tryz.sizeOf34 rfl rfl (Rd.ownN [] rfl rfl) ?_)
          exact ⟨rfl, rfl⟩
        refine stepsG.cons (fun vals Fs R leFs hpZ => ?_) ?_
        · refine XG.op (XOp.fieldP (b := b1) (1) Tryz.runUnderlying37 rfl Tryz.sizeOf35 (by decide) rfl rfl ?_)
          exact ⟨rfl, rfl⟩
        refine stepsG.cons (fun vals Fs R leFs hpZ => ?_) ?_
        · have e2 : vals 2 = ptr b1 1 := hpZ 2 (by decide)
          replace har := har.mono leFs
          replace hrs := hrs.mono leFs
          replace ht := ht.mono leFs
          replace ha1 := ha1.mono leFs
          replace ha2 := ha2.mono leFs
          replace hr1 := Rd.monoA hr1 leFs
          replace hr2 := Rd.monoA hr2 leFs
          rw [(envs_of_sat (l := [(2, ptr b1 1)]) ⟨e2, trivial⟩).symm]
          refine XG.op (XOp.load1 (v := rsv) Tryz.isAgg35 rfl (Rd.own [] rfl rfl) ?_)
          exact ⟨rfl, rfl⟩
        refine stepsG.cons (fun vals Fs R leFs hpZ => ?_) ?_
        · refine XG.op (XOp.move (.int .i64 (((j : Nat) : Int))) rfl ?_)
          exact ⟨rfl, rfl⟩
        refine stepsG.cons (fun vals Fs R leFs hpZ => ?_) ?_
        · have e3 : vals 3 = rsv := hpZ 3 (by decide)
          have e4 : vals 4 = (.int .i64 (((j : Nat) : Int)) : Value) := hpZ 4 (by decide)
          replace har := har.mono leFs
          replace hrs := hrs.mono leFs
          replace ht := ht.mono leFs
          replace ha1 := ha1.mono leFs
          replace ha2 := ha2.mono leFs
          replace hr1 := Rd.monoA hr1 leFs
          replace hr2 := Rd.monoA hr2 leFs
          rw [(envs_of_sat (l := [(3, rsv), (4, (.int .i64 (((j : Nat) : Int)) : Value))]) ⟨e3, e4, trivial⟩).symm]
          refine XG.op (XOp.indexS (v := rsv) (i := ((j : Nat) : Int)) (n := (rs).length) j Tryz.runUnderlying35 Tryz.sizeOf135 rfl rfl rfl hrs.slv (by omega) rfl ?_)
          exact ⟨rfl, rfl⟩
        refine stepsG.cons (fun vals Fs R leFs hpZ => ?_) ?_
        · have e5 : vals 5 = (.pointer (some (elemA rsv (j * 2))) : Value) := hpZ 5 (by decide)
          rw [(envs_of_sat (l := [(5, (.pointer (some (elemA rsv (j * 2))) : Value))]) ⟨e5, trivial⟩).symm]
          refine XG.op (XOp.fieldE (v := rsv) (j * 2) Tryz.runUnderlying135 rfl Tryz.sizeOf22 (by decide) rfl rfl ?_)
          exact ⟨rfl, rfl⟩
        refine stepsG.cons (fun vals Fs R leFs hpZ => ?_) ?_
        · have e6 : vals 6 = (.pointer (some (elemA rsv (j * 2))) : Value) := hpZ 6 (by decide)
          replace har := har.mono leFs
          replace hrs := hrs.mono leFs
          replace ht := ht.mono leFs
          replace ha1 := ha1.mono leFs
          replace ha2 := ha2.mono leFs
          replace hr1 := Rd.monoA hr1 leFs
          replace hr2 := Rd.monoA hr2 leFs
          rw [(envs_of_sat (l := [(6, (.pointer (some (elemA rsv (j * 2))) : Value))]) ⟨e6, trivial⟩).symm]
          refine XG.op (XOp.load1 (v := a1) Tryz.isAgg22 rfl (hr1 _) ?_)
          exact ⟨rfl, rfl⟩
        refine stepsG.cons (fun vals Fs R leFs hpZ => ?_) ?_
        · refine XG.op (XOp.fieldP (b := b1) (0) Tryz.runUnderlying37 rfl Tryz.sizeOf34 (by decide) rfl rfl ?_)
          exact ⟨rfl, rfl⟩
        refine stepsG.cons (fun vals Fs R leFs hpZ => ?_) ?_
        · have e8 : vals 8 = ptr b1 0 := hpZ 8 (by decide)
          replace har := har.mono leFs
          replace hrs := hrs.mono leFs
          replace ht := ht.mono leFs
          replace ha1 := ha1.mono leFs
          replace ha2 := ha2.mono leFs
          replace hr1 := Rd.monoA hr1 leFs
          replace hr2 := Rd.monoA hr2 leFs
          rw [(envs_of_sat (l := [(8, ptr b1 0)]) ⟨e8, trivial⟩).symm]
          refine XG.op (XOp.loadN [arv] Tryz.isAgg34 Tryz.sizeOf34 rfl rfl (Rd.ownN [] rfl rfl) ?_)
          exact ⟨rfl, rfl⟩
        refine stepsG.cons (fun vals Fs R leFs hpZ => ?_) ?_
        · refine XG.op (XOp.move (tv) rfl ?_)
          exact ⟨rfl, rfl⟩
        refine stepsG.cons (fun vals Fs R leFs hpZ => ?_) ?_
        · refine XG.op (XOp.move (.int .i64 (((k : Nat) : Int))) rfl ?_)
          exact ⟨rfl, rfl⟩
        refine stepsG.cons (fun vals Fs R leFs hpZ => ?_) ?_
        · have e9 : vals 9 = (.agg #[arv] : Value) := hpZ 9 (by decide)
          have e10 : vals 10 = tv := hpZ 10 (by decide)
          have e11 : vals 11 = (.int .i64 (((k : Nat) : Int)) : Value) := hpZ 11 (by decide)
          replace har := har.mono leFs
          replace hrs := hrs.mono leFs
          replace ht := ht.mono leFs
          replace ha1 := ha1.mono leFs
          replace ha2 := ha2.mono leFs
          replace hr1 := Rd.monoA hr1 leFs
          replace hr2 := Rd.monoA hr2 leFs
          rw [(envs_of_sat (l := [(9, (.agg #[arv] : Value)), (10, tv), (11, (.int .i64 (((k : Nat) : Int)) : Value))]) ⟨e9, e10, e11, trivial⟩).symm]
          refine XG.op (XOp.frzF <| XOp.call (args := [.agg #[arv], tv, .int .i64 ((k : Nat) : Int)]) Tryz.call149 rfl (l1Sub_spec (p := k) har ht (ho := (by first | assumption | rfl | omega | (left; simp; done) | (right; simp; done))) (hp := (by first | assumption | rfl | omega | (left; simp; done) | (right; simp; done)))) ?_)
          rintro v2 _ _ _ ⟨rfl, hs2, rfl⟩
          refine ⟨_, _, rfl, fun F2 le2 hz1 => ?_⟩
          replace har := har.mono le2
          replace hrs := hrs.mono le2
          replace ht := ht.mono le2
          replace ha1 := ha1.mono le2
          replace ha2 := ha2.mono le2
          replace hr1 := Rd.monoA hr1 le2
          replace hr2 := Rd.monoA hr2 le2
          have hf1 : IntsF F2 v2 ((sub ar t k)) := intsH.fz (xs := (sub ar t k)) hz1.fz
          exact ⟨⟨rfl, hf1⟩, rfl⟩
        refine stepsG.cons (fun vals Fs R leFs hpZ => ?_) ?_
        · have e1 : vals 1 = (.agg #[arv] : Value) := hpZ 1 (by decide)
          have e7 : vals 7 = a1 := hpZ 7 (by decide)
          obtain ⟨e12, f12_1ha⟩ := hpZ 12 (by decide)
          replace har := har.mono leFs
          replace hrs := hrs.mono leFs
          replace ht := ht.mono leFs
          replace ha1 := ha1.mono leFs
          replace ha2 := ha2.mono leFs
          replace hr1 := Rd.monoA hr1 leFs
          replace hr2 := Rd.monoA hr2 leFs
          rw [(envs_of_sat (l := [(1, (.agg #[arv] : Value)), (7, a1), (12, ((vals 12)))]) ⟨e1, e7, (e12).symm, trivial⟩).symm]
          refine XG.op (XOp.call (args := [.agg #[arv], a1, ((vals 12))]) Tryz.call148 rfl (l4Match_spec har ha1 f12_1ha (ho := (sub_ok ho (by omega))) (hpo := ((ruleOk_iff.1 ((sysOk_iff.1 hsys).2.2 j (by omega))).left))) ?_)
          rintro _ F3 _ le3 ⟨x2, rfl, hr4, rfl⟩
          replace har := har.mono le3
          replace hrs := hrs.mono le3
          replace ht := ht.mono le3
          replace ha1 := ha1.mono le3
          replace ha2 := ha2.mono le3
          replace f12_1ha := f12_1ha.mono le3
          replace hr1 := Rd.monoA hr1 le3
          replace hr2 := Rd.monoA hr2 le3
          exact ⟨⟨rfl, hr4⟩, rfl⟩
        refine stepsG.cons (fun vals Fs R leFs hpZ => ?_) ?_
        · obtain ⟨e13, f13_1hr⟩ := hpZ 13 (by decide)
          rw [(envs_of_sat (l := [(13, (.tuple #[.agg #[((aggAt (tupAt (vals 13) 0) 0))], .bool ((matchB ar ((rs.getD j ([], [])).1) ((sub ar t k))).isSome)] : Value))]) ⟨(e13).symm, trivial⟩).symm]
          refine XG.op (XOp.move (.tuple #[.agg #[((aggAt (tupAt (vals 13) 0) 0))], .bool ((matchB ar ((rs.getD j ([], [])).1) ((sub ar t k))).isSome)]) rfl ?_)
          exact ⟨rfl, rfl⟩
        refine stepsG.cons (fun vals Fs R leFs hpZ => ?_) ?_
        · obtain ⟨e13, f13_1hr⟩ := hpZ 13 (by decide)
          have e14 : vals 14 = (.tuple #[.agg #[((aggAt (tupAt (vals 13) 0) 0))], .bool ((matchB ar ((rs.getD j ([], [])).1) ((sub ar t k))).isSome)] : Value) := hpZ 14 (by decide)
          rw [(envs_of_sat (l := [(13, (.tuple #[.agg #[((aggAt (tupAt (vals 13) 0) 0))], .bool ((matchB ar ((rs.getD j ([], [])).1) ((sub ar t k))).isSome)] : Value)), (14, (.tuple #[.agg #[((aggAt (tupAt (vals 13) 0) 0))], .bool ((matchB ar ((rs.getD j ([], [])).1) ((sub ar t k))).isSome)] : Value))]) ⟨(e13).symm, e14, trivial⟩).symm]
          refine XG.op (XOp.extract (.agg #[((aggAt (tupAt (vals 13) 0) 0))]) rfl rfl ?_)
          exact ⟨rfl, rfl⟩
        refine stepsG.cons (fun vals Fs R leFs hpZ => ?_) ?_
        · obtain ⟨e13, f13_1hr⟩ := hpZ 13 (by decide)
          have e14 : vals 14 = (.tuple #[.agg #[((aggAt (tupAt (vals 13) 0) 0))], .bool ((matchB ar ((rs.getD j ([], [])).1) ((sub ar t k))).isSome)] : Value) := hpZ 14 (by decide)
          rw [(envs_of_sat (l := [(13, (.tuple #[.agg #[((aggAt (tupAt (vals 13) 0) 0))], .bool ((matchB ar ((rs.getD j ([], [])).1) ((sub ar t k))).isSome)] : Value)), (14, (.tuple #[.agg #[((aggAt (tupAt (vals 13) 0) 0))], .bool ((matchB ar ((rs.getD j ([], [])).1) ((sub ar t k))).isSome)] : Value))]) ⟨(e13).symm, e14, trivial⟩).symm]
          refine XG.op (XOp.extract (.bool ((matchB ar ((rs.getD j ([], [])).1) ((sub ar t k))).isSome)) rfl rfl ?_)
          exact ⟨rfl, rfl⟩
        refine stepsG.cons (fun vals Fs R leFs hpZ => ?_) ?_
        · replace har := har.mono leFs
          replace hrs := hrs.mono leFs
          replace ht := ht.mono leFs
          replace ha1 := ha1.mono leFs
          replace ha2 := ha2.mono leFs
          replace hr1 := Rd.monoA hr1 leFs
          replace hr2 := Rd.monoA hr2 leFs
          refine XG.op (XOp.alloc [(.slice none 0 0)] Tryz.zeroValue118 rfl ?_)
          intro b3
          exact ⟨rfl, rfl⟩
        refine stepsG.cons (fun vals Fs R leFs hpZ => ?_) ?_
        · obtain ⟨e13, f13_1hr⟩ := hpZ 13 (by decide)
          have e15 : vals 15 = (.agg #[((aggAt (tupAt (vals 13) 0) 0))] : Value) := hpZ 15 (by decide)
          have e17 : vals 17 = ptr (blk (vals 17)) 0 := hpZ 17 (by decide)
          replace har := har.mono leFs
          replace hrs := hrs.mono leFs
          replace ht := ht.mono leFs
          replace ha1 := ha1.mono leFs
          replace ha2 := ha2.mono leFs
          replace hr1 := Rd.monoA hr1 leFs
          replace hr2 := Rd.monoA hr2 leFs
          rw [(envs_of_sat (l := [(13, (.tuple #[.agg #[((aggAt (tupAt (vals 13) 0) 0))], .bool ((matchB ar ((rs.getD j ([], [])).1) ((sub ar t k))).isSome)] : Value)), (15, (.agg #[((aggAt (tupAt (vals 13) 0) 0))] : Value)), (17, ptr (blk (vals 17)) 0)]) ⟨(e13).symm, e15, e17, trivial⟩).symm]
          show XG _ _ _ _ _ (cellsH (blk (vals 17)) [(.slice none 0 0)] 118 :: ([cellsH b1 [arv, rsv] 37] ++ R)) _
          refine XG.op (XOp.storeN (vs := [((aggAt (tupAt (vals 13) 0) 0))]) [] _ [((aggAt (tupAt (vals 13) 0) 0))] Tryz.sizeOf118 rfl rfl rfl (ones_cons (one_sl (RowsF.isSl f13_1hr)) ones_nil) rfl rfl rfl ?_)
          exact ⟨trivial, rfl⟩
        exact stepsG.nil
      · intro vals F4 le4 hphi
        have e0 : vals 0 = ptr b1 0 := hphi 0 (by decide)
        have e1 : vals 1 = (.agg #[arv] : Value) := hphi 1 (by decide)
        have e2 : vals 2 = ptr b1 1 := hphi 2 (by decide)
        have e3 : vals 3 = rsv := hphi 3 (by decide)
        have e4 : vals 4 = (.int .i64 (((j : Nat) : Int)) : Value) := hphi 4 (by decide)
        have e5 : vals 5 = (.pointer (some (elemA rsv (j * 2))) : Value) := hphi 5 (by decide)
        have e6 : vals 6 = (.pointer (some (elemA rsv (j * 2))) : Value) := hphi 6 (by decide)
        have e7 : vals 7 = a1 := hphi 7 (by decide)
        have e8 : vals 8 = ptr b1 0 := hphi 8 (by decide)
        have e9 : vals 9 = (.agg #[arv] : Value) := hphi 9 (by decide)
        have e10 : vals 10 = tv := hphi 10 (by decide)
        have e11 : vals 11 = (.int .i64 (((k : Nat) : Int)) : Value) := hphi 11 (by decide)
        obtain ⟨e12, f12_1ha⟩ := hphi 12 (by decide)
        obtain ⟨e13, f13_1hr⟩ := hphi 13 (by decide)
        have e14 : vals 14 = (.tuple #[.agg #[((aggAt (tupAt (vals 13) 0) 0))], .bool ((matchB ar ((rs.getD j ([], [])).1) ((sub ar t k))).isSome)] : Value) := hphi 14 (by decide)
        have e15 : vals 15 = (.agg #[((aggAt (tupAt (vals 13) 0) 0))] : Value) := hphi 15 (by decide)
        have e16 : vals 16 = (.bool ((matchB ar ((rs.getD j ([], [])).1) ((sub ar t k))).isSome) : Value) := hphi 16 (by decide)
        have e17 : vals 17 = ptr (blk (vals 17)) 0 := hphi 17 (by decide)
        generalize hu1 : ((vals 12)) = u1 at e0 e1 e2 e3 e4 e5 e6 e7 e8 e9 e10 e11 e12 f12_1ha e13 f13_1hr e14 e15 e16 e17
        generalize hu2 : ((aggAt (tupAt (vals 13) 0) 0)) = u2 at e0 e1 e2 e3 e4 e5 e6 e7 e8 e9 e10 e11 e12 f12_1ha e13 f13_1hr e14 e15 e16 e17
        generalize hu3 : blk (vals 17) = b4 at e0 e1 e2 e3 e4 e5 e6 e7 e8 e9 e10 e11 e12 f12_1ha e13 f13_1hr e14 e15 e16 e17
        rw [(envs_of_sat (l := [(0, ptr b1 0), (1, (.agg #[arv] : Value)), (2, ptr b1 1), (3, rsv), (4, (.int .i64 (((j : Nat) : Int)) : Value)), (5, (.pointer (some (elemA rsv (j * 2))) : Value)), (6, (.pointer (some (elemA rsv (j * 2))) : Value)), (7, a1), (8, ptr b1 0), (9, (.agg #[arv] : Value)), (10, tv), (11, (.int .i64 (((k : Nat) : Int)) : Value)), (12, u1), (13, (.tuple #[.agg #[u2], .bool ((matchB ar ((rs.getD j ([], [])).1) ((sub ar t k))).isSome)] : Value)), (14, (.tuple #[.agg #[u2], .bool ((matchB ar ((rs.getD j ([], [])).1) ((sub ar t k))).isSome)] : Value)), (15, (.agg #[u2] : Value)), (16, (.bool ((matchB ar ((rs.getD j ([], [])).1) ((sub ar t k))).isSome) : Value)), (17, ptr b4 0)]) ⟨e0, e1, e2, e3, e4, e5, e6, e7, e8, e9, e10, e11, hu1, (e13).symm, e14, e15, e16, e17, trivial⟩).symm]
        replace har := har.mono le4
        replace hrs := hrs.mono le4
        replace ht := ht.mono le4
        replace ha1 := ha1.mono le4
        replace ha2 := ha2.mono le4
        replace hr1 := Rd.monoA hr1 le4
        replace hr2 := Rd.monoA hr2 le4
        show XL _ _ _ _ _ _ _ (cellsH b4 [u2] 118 :: cellsH b1 [arv, rsv] 37 :: L)
        refine XL.cons (XOp.assign (.bool ((matchB ar ((rs.getD j ([], [])).1) ((sub ar t k))).isSome)) rfl ?_)
        refine XL.nil ?_
        refine X.seq ?_
        refine X.region ?_
        refine XL.cons (XOp.move (.bool ((matchB ar ((rs.getD j ([], [])).1) ((sub ar t k))).isSome)) rfl ?_)
        refine XL.nil ?_
        refine X.cond (t := (matchB ar ((rs.getD j ([], [])).1) ((sub ar t k))).isSome) rfl (fun h3 => ?_) (fun h3 => ?_)
        · refine X.region ?_
          refine XL.cons (XOp.move (.int .i64 (((cntP ar rs t k + cntR ar rs t k j : Nat) : Int))) rfl ?_)
          refine XL.cons (XOp.addR (a := ((cntP ar rs t k + cntR ar rs t k j : Nat) : Int)) (b := 1) ((((cntP ar rs t k + cntR ar rs t k j) + 1 : Nat) : Int)) rfl rfl (by omega) (by omega) ?_)
          refine XL.cons (XOp.assign (.int .i64 ((((cntP ar rs t k + cntR ar rs t k j) + 1 : Nat) : Int))) rfl ?_)
          refine XL.nil ?_
          refine X.region ?_
          refine XL.cons (XOp.move (.int .i64 (((j : Nat) : Int))) rfl ?_)
          refine XL.cons (XOp.addR (a := ((j : Nat) : Int)) (b := 1) (((j + 1 : Nat) : Int)) rfl rfl (by omega) (by omega) ?_)
          refine XL.cons (XOp.assign (.int .i64 (((j + 1 : Nat) : Int))) rfl ?_)
          refine XL.nil ?_
          exact ⟨j + 1, _, FLe.refl _, le4, ⟨rfl, rfl, (congrArg (fun z : Nat => Value.int .i64 (z : Int)) (by first | exact cntR_yes (by unfold isRedex; assumption) | exact cntR_no (by unfold isRedex; assumption))), rfl, rfl, trivial⟩, (Sub.drop (Sub.cons (Sub.refl _))), ⟨rfl, (by omega)⟩, (by omega)⟩
        · refine X.skip ?_
          refine X.region ?_
          refine XL.cons (XOp.move (.int .i64 (((j : Nat) : Int))) rfl ?_)
          refine XL.cons (XOp.addR (a := ((j : Nat) : Int)) (b := 1) (((j + 1 : Nat) : Int)) rfl rfl (by omega) (by omega) ?_)
          refine XL.cons (XOp.assign (.int .i64 (((j + 1 : Nat) : Int))) rfl ?_)
          refine XL.nil ?_
          exact ⟨j + 1, _, FLe.refl _, le4, ⟨rfl, rfl, (congrArg (fun z : Nat => Value.int .i64 (z : Int)) (by first | exact cntR_yes (by unfold isRedex; assumption) | exact cntR_no (by unfold isRedex; assumption))), rfl, rfl, trivial⟩, (Sub.drop (Sub.cons (Sub.refl _))), ⟨rfl, (by omega)⟩, (by omega)⟩
    · refine X.exit (thenQ_exit (thenQ_exit (blockQ_exit ?_)))
      refine X.region ?_
      refine XL.cons (XOp.move (.int .i64 (((k : Nat) : Int))) rfl ?_)
      refine XL.cons (XOp.addR (a := ((k : Nat) : Int)) (b := 1) (((k + 1 : Nat) : Int)) rfl rfl (by omega) (by omega) ?_)
      refine XL.cons (XOp.assign (.int .i64 (((k + 1 : Nat) : Int))) rfl ?_)
      refine XL.nil ?_
      exact ⟨k + 1, _, FLe.refl _, (FLe.refl _), ⟨rfl, rfl, (congrArg (fun z : Nat => Value.int .i64 (z : Int)) (cntP_succ (by omega))), rfl, trivial⟩, (Sub.cons (Sub.refl _)), ⟨rfl, (by omega)⟩, (by omega)⟩
  · refine X.exit (thenQ_exit (thenQ_exit (blockQ_exit ?_)))
    refine X.seq ?_
    refine X.region ?_
    refine XL.cons (XOp.move (.int .i64 (((cntP ar rs t k : Nat) : Int))) rfl ?_)
    refine XL.cons (XOp.assign (.int .i64 (((cntP ar rs t k : Nat) : Int))) rfl ?_)
    refine XL.nil ?_
    refine X.ret (retEnd (L' := L) [.int .i64 (((cntP ar rs t k : Nat) : Int))] (.int .i64 (((cntP ar rs t k : Nat) : Int))) (.tmp rfl .nil) rfl (FLe.refl _) (FLe.refl _) (Sub.drop (Sub.refl _)) ?_)
    exact ⟨(congrArg (Value.int .i64) (by rw [show k = t.length from by omega])), rfl, rfl⟩

/- spec.NormalIn -/
theorem sNormalIn_spec {F : FH} {L : List HP} {arv : Value} {ar : List Int} (har : IntsF F arv ar) {rsv : Value} {rs : List (List Int × List Int)} (hrs : PairsF F rsv rs) {tv : Value} {t : List Int} (ht : IntsF F tv t) (hla : ar.length ≤ 4000000) (hlr : rs.length ≤ 4000000) (hrb : ∀ i, i < rs.length → (rs.getD i ([], [])).1.length ≤ 4000000 ∧ (rs.getD i ([], [])).2.length ≤ 4000000) (hlt : t.length ≤ 4000000) :
    Does Tryz.prog 109 [.agg #[arv, rsv], tv] F (L) (fun v F' L' => (.bool ((rightB ar rs t && normalL ar rs t)) : Value) = v ∧ F = F' ∧ L = L') := by
  refine Does.of_X Tryz.func109 rfl rfl rfl ?_
  refine X.seq ?_
  refine X.region ?_
  refine XL.cons (XOp.box [arv, rsv] rfl rfl ?_)
  intro b1
  refine XL.cons (XOp.assign (.bool (false)) rfl ?_)
  refine XL.nil ?_
  refine X.seq ?_
  refine X.region ?_
  refine XL.cons (XOp.loadN [arv, rsv] Tryz.isAgg37 Tryz.sizeOf37 rfl rfl (Rd.ownN [] rfl rfl) ?_)
  refine XL.cons (XOp.move (tv) rfl ?_)
  refine XL.cons (XOp.call (args := [.agg #[arv, rsv], tv]) Tryz.call140 rfl (l7Right_spec har hrs ht (hla := (by first | assumption | rfl | omega | (left; simp; done) | (right; simp; done))) (hlr := (by first | assumption | rfl | omega | (left; simp; done) | (right; simp; done))) (hrb := (by first | assumption | rfl | omega | (left; simp; done) | (right; simp; done))) (hlt := (by first | assumption | rfl | omega | (left; simp; done) | (right; simp; done)))) ?_)
  rintro _ _ _ _ ⟨rfl, rfl, rfl⟩
  refine XL.cons (XOp.move (.bool (rightB ar rs t)) rfl ?_)
  by_cases h1 : (rightB ar rs t) = true
  · have hsys := (right_iff.1 h1).1
    have ho := (right_iff.1 h1).2
    refine XL.yes (t := 8) rfl (congrArg Value.bool h1) (XOp.loadN [arv, rsv] Tryz.isAgg37 Tryz.sizeOf37 rfl rfl (Rd.ownN [] rfl rfl) ?_)
    refine XL.yes (t := 8) rfl (congrArg Value.bool h1) (XOp.move (tv) rfl ?_)
    refine XL.yes (t := 8) rfl (congrArg Value.bool h1) (XOp.call (args := [.agg #[arv, rsv], tv]) Tryz.call151 rfl (l7Redexes_spec har hrs ht (hsys := (by first | assumption | rfl | omega | (left; simp; done) | (right; simp; done))) (ho := (by first | assumption | rfl | omega | (left; simp; done) | (right; simp; done)))) ?_)
    rintro _ _ _ _ ⟨rfl, rfl, rfl⟩
    refine XL.yes (t := 8) rfl (congrArg Value.bool h1) (XOp.eql (a := ((cntP ar rs t t.length : Nat) : Int)) (b := 0) rfl rfl ?_)
    refine XL.cons (XOp.pickT (.bool (decide ((((cntP ar rs t t.length : Nat) : Int) : Int) = 0))) (congrArg Value.bool h1) rfl ?_)
    refine XL.cons (XOp.assign (.bool (decide ((((cntP ar rs t t.length : Nat) : Int) : Int) = 0))) rfl ?_)
    refine XL.nil ?_
    refine X.ret (retEnd (L' := L) [.bool (decide ((((cntP ar rs t t.length : Nat) : Int) : Int) = 0))] (.bool (decide ((((cntP ar rs t t.length : Nat) : Int) : Int) = 0))) (.tmp rfl .nil) rfl (FLe.refl _) (FLe.refl _) (Sub.drop (Sub.refl _)) ?_)
    exact ⟨(congrArg Value.bool (by rw [normal_cnt]; simp_all)), rfl, rfl⟩
  · rw [Bool.not_eq_true] at h1
    refine XL.no (t := 8) rfl (congrArg Value.bool h1) ?_
    refine XL.no (t := 8) rfl (congrArg Value.bool h1) ?_
    refine XL.no (t := 8) rfl (congrArg Value.bool h1) ?_
    refine XL.no (t := 8) rfl (congrArg Value.bool h1) ?_
    refine XL.cons (XOp.pickF (.bool (false)) (congrArg Value.bool h1) rfl ?_)
    refine XL.cons (XOp.assign (.bool (false)) rfl ?_)
    refine XL.nil ?_
    refine X.ret (retEnd (L' := L) [.bool (false)] (.bool (false)) (.tmp rfl .nil) rfl (FLe.refl _) (FLe.refl _) (Sub.drop (Sub.refl _)) ?_)
    exact ⟨(congrArg Value.bool (by simp_all)), rfl, rfl⟩

/- spec.WalkBy -/
theorem sWalkBy_spec {F : FH} {L : List HP} {arv : Value} {ar : List Int} (har : IntsF F arv ar) {rsv : Value} {rs : List (List Int × List Int)} (hrs : PairsF F rsv rs) {tv : Value} {t : List Int} (ht : IntsF F tv t) {st : Int} {n : Int} (hla : ar.length ≤ 4000000) (hlr : rs.length ≤ 4000000) (hrb : ∀ i, i < rs.length → (rs.getD i ([], [])).1.length ≤ 4000000 ∧ (rs.getD i ([], [])).2.length ≤ 4000000) (hlt : t.length ≤ 4000000) :
    Does Tryz.prog 50 [.agg #[arv, rsv], tv, .int .i64 (st), .int .i64 (n)] F (L) (fun v F' L' => ∃ (a : Value), ∃ (b : Value), (.tuple #[.agg #[a, b], .bool ((walkB ar rs t st n).2.2)] : Value) = v ∧ (IntsF F' a (walkB ar rs t st n).1) ∧ (StepsF F' b (walkB ar rs t st n).2.1) ∧ L = L') := by
  refine Does.of_X Tryz.func50 rfl rfl rfl ?_
  refine X.seq ?_
  refine X.region ?_
  refine XL.cons (XOp.box [arv, rsv] rfl rfl ?_)
  intro b1
  refine XL.cons (XOp.alloc [(.slice none 0 0), (.slice none 0 0)] Tryz.zeroValue66 rfl ?_)
  intro b2
  refine XL.cons (XOp.assign (.bool (false)) rfl ?_)
  refine XL.nil ?_
  refine X.seq ?_
  refine X.seq ?_
  refine X.region ?_
  refine XL.cons (XOp.loadN [arv, rsv] Tryz.isAgg37 Tryz.sizeOf37 rfl rfl (Rd.ownN [_] rfl rfl) ?_)
  refine XL.cons (XOp.move (tv) rfl ?_)
  refine XL.cons (XOp.move (.int .i64 (st)) rfl ?_)
  refine XL.cons (XOp.call (args := [.agg #[arv, rsv], tv, .int .i64 (st)]) Tryz.call105 rfl (l8Right_spec (st := st) har hrs ht (hla := (by first | assumption | rfl | omega | (left; simp; done) | (right; simp; done))) (hlr := (by first | assumption | rfl | omega | (left; simp; done) | (right; simp; done))) (hrb := (by first | assumption | rfl | omega | (left; simp; done) | (right; simp; done))) (hlt := (by first | assumption | rfl | omega | (left; simp; done) | (right; simp; done)))) ?_)
  rintro _ _ _ _ ⟨rfl, rfl, rfl⟩
  refine XL.cons (XOp.notB (b := (rightB ar rs t && decide (1 ≤ st ∧ st ≤ 3))) rfl ?_)
  refine XL.cons (XOp.move (.bool (!((rightB ar rs t && decide (1 ≤ st ∧ st ≤ 3))))) rfl ?_)
  by_cases h1 : (!((rightB ar rs t && decide (1 ≤ st ∧ st ≤ 3)))) = true
  · refine XL.no (t := 22) rfl (congrArg Value.bool h1) ?_
    refine XL.no (t := 22) rfl (congrArg Value.bool h1) ?_
    refine XL.no (t := 22) rfl (congrArg Value.bool h1) ?_
    refine XL.cons (XOp.pickT (.bool (true)) (congrArg Value.bool h1) rfl ?_)
    refine XL.nil ?_
    refine X.condT rfl ?_
    refine X.seq ?_
    refine X.region ?_
    refine XL.cons (XOp.build [(.slice none 0 0), (.slice none 0 0)] [(.slice none 0 0), (.slice none 0 0)] [(0, 1), (1, 1)] [] Tryz.runUnderlying66 Tryz.zeroValue66 rfl (.cons rfl Tryz.sizeOf22 (.cons rfl Tryz.sizeOf64 PlacesAre.nil)) rfl CellsAre.nil ?_)
    refine XL.cons (XOp.storeN (vs := [(.slice none 0 0), (.slice none 0 0)]) [] _ [(.slice none 0 0), (.slice none 0 0)] Tryz.sizeOf66 rfl rfl rfl (ones_cons rfl (ones_cons rfl ones_nil)) rfl rfl rfl ?_)
    refine XL.cons (XOp.assign (.bool (false)) rfl ?_)
    refine XL.nil ?_
    refine X.ret (thenQ_ret (retEnd (L' := L) [.agg #[(.slice none 0 0), (.slice none 0 0)], .bool (false)] (.tuple #[.agg #[(.slice none 0 0), (.slice none 0 0)], .bool (false)]) (.cell rfl (loadNV [(.slice none 0 0), (.slice none 0 0)] Tryz.isAgg66 Tryz.sizeOf66 rfl (Rd.ownN [] rfl rfl)) (.tmp rfl .nil)) rfl (FLe.refl _) (FLe.refl _) (Sub.drop (Sub.drop (Sub.refl _))) ?_))
    have hw : walkB ar rs t st n = ([], [], false) := walkB_no (by rw [wOk]; cases hx : (rightB ar rs t && decide (1 ≤ st ∧ st ≤ 3)) <;> simp_all <;> (intros; omega))
    exact ⟨_, _, by rw [hw], by rw [hw]; exact IntsF.nilV, by rw [hw]; exact SlOf.nilV, rfl⟩
  · rw [Bool.not_eq_true] at h1
    have hri : rightB ar rs t = true ∧ (1 ≤ st ∧ st ≤ 3) := by simpa using h1
    have hsys := (right_iff.1 hri.1).1
    have ho := (right_iff.1 hri.1).2
    have htl := termOk_len ho
    refine XL.yes (t := 22) rfl (congrArg Value.bool h1) (XOp.move (.int .i64 (n)) rfl ?_)
    refine XL.yes (t := 22) rfl (congrArg Value.bool h1) (XOp.call (args := [.int .i64 (n), .int .i64 (0), .int .i64 (60)]) Tryz.call86 rfl (l1In_spec (n := n) (a := 0) (b := 60)) ?_)
    rintro _ _ _ _ ⟨rfl, rfl, rfl⟩
    refine XL.yes (t := 22) rfl (congrArg Value.bool h1) (XOp.notD (p := 0 ≤ n ∧ n ≤ 60) rfl ?_)
    refine XL.cons (XOp.pickF (.bool (decide (¬(0 ≤ n ∧ n ≤ 60)))) (congrArg Value.bool h1) rfl ?_)
    refine XL.nil ?_
    refine X.condD (p := ¬(0 ≤ n ∧ n ≤ 60)) rfl (fun h2 => ?_) (fun h2 => ?_)
    · refine X.seq ?_
      refine X.region ?_
      refine XL.cons (XOp.build [(.slice none 0 0), (.slice none 0 0)] [(.slice none 0 0), (.slice none 0 0)] [(0, 1), (1, 1)] [] Tryz.runUnderlying66 Tryz.zeroValue66 rfl (.cons rfl Tryz.sizeOf22 (.cons rfl Tryz.sizeOf64 PlacesAre.nil)) rfl CellsAre.nil ?_)
      refine XL.cons (XOp.storeN (vs := [(.slice none 0 0), (.slice none 0 0)]) [] _ [(.slice none 0 0), (.slice none 0 0)] Tryz.sizeOf66 rfl rfl rfl (ones_cons rfl (ones_cons rfl ones_nil)) rfl rfl rfl ?_)
      refine XL.cons (XOp.assign (.bool (false)) rfl ?_)
      refine XL.nil ?_
      refine X.ret (thenQ_ret (retEnd (L' := L) [.agg #[(.slice none 0 0), (.slice none 0 0)], .bool (false)] (.tuple #[.agg #[(.slice none 0 0), (.slice none 0 0)], .bool (false)]) (.cell rfl (loadNV [(.slice none 0 0), (.slice none 0 0)] Tryz.isAgg66 Tryz.sizeOf66 rfl (Rd.ownN [] rfl rfl)) (.tmp rfl .nil)) rfl (FLe.refl _) (FLe.refl _) (Sub.drop (Sub.drop (Sub.refl _))) ?_))
      have hw : walkB ar rs t st n = ([], [], false) := walkB_no (by rw [wOk]; cases hx : (rightB ar rs t && decide (1 ≤ st ∧ st ≤ 3)) <;> simp_all <;> (intros; omega))
      exact ⟨_, _, by rw [hw], by rw [hw]; exact IntsF.nilV, by rw [hw]; exact SlOf.nilV, rfl⟩
    · refine X.skip ?_
      refine X.seq ?_
      refine X.region ?_
      refine XL.cons (XOp.move (tv) rfl ?_)
      refine XL.cons (XOp.frzF <| XOp.call (args := [tv]) Tryz.call106 rfl (l1Copy_spec ht (hlt := (by first | omega | (rw [hu2]; have := termOk_len (stepL_ok hsys hoc (by omega) (by omega) hu); simp only [Option.getD_some]; omega)))) ?_)
      rintro v1 _ _ _ ⟨rfl, hs1, rfl⟩
      refine ⟨_, _, rfl, fun F1 le1 hz1 => ?_⟩
      replace har := har.mono le1
      replace hrs := hrs.mono le1
      replace ht := ht.mono le1
      have hf1 : IntsF F1 v1 ((t)) := intsH.fz (xs := (t)) hz1.fz
      refine XL.cons (XOp.build [v1, (.slice none 0 0)] [(.slice none 0 0), (.slice none 0 0)] [(0, 1), (1, 1)] [(0, [v1])] Tryz.runUnderlying66 Tryz.zeroValue66 rfl (.cons rfl Tryz.sizeOf22 (.cons rfl Tryz.sizeOf64 PlacesAre.nil)) rfl (.cons (cells_one (IntsF.isSl hf1)) CellsAre.nil) ?_)
      refine XL.cons (XOp.alloc [(.slice none 0 0), (.slice none 0 0)] Tryz.zeroValue66 rfl ?_)
      intro b3
      refine XL.cons (XOp.storeN (vs := [v1, (.slice none 0 0)]) [] _ [v1, (.slice none 0 0)] Tryz.sizeOf66 rfl rfl rfl (ones_cons (one_sl (IntsF.isSl hf1)) (ones_cons rfl ones_nil)) rfl rfl rfl ?_)
      refine XL.nil ?_
      refine X.seq ?_
      refine X.region ?_
      refine XL.cons (XOp.move (tv) rfl ?_)
      refine XL.cons (XOp.frzF <| XOp.call (args := [tv]) Tryz.call106 rfl (l1Copy_spec ht (hlt := (by first | omega | (rw [hu2]; have := termOk_len (stepL_ok hsys hoc (by omega) (by omega) hu); simp only [Option.getD_some]; omega)))) ?_)
      rintro v2 _ _ _ ⟨rfl, hs2, rfl⟩
      refine ⟨_, _, rfl, fun F2 le2 hz2 => ?_⟩
      replace har := har.mono le2
      replace hrs := hrs.mono le2
      replace ht := ht.mono le2
      replace hf1 := hf1.mono le2
      have hf2 : IntsF F2 v2 ((t)) := intsH.fz (xs := (t)) hz2.fz
      refine XL.cons (XOp.assign (v2) rfl ?_)
      refine XL.nil ?_
      refine X.seq ?_
      refine X.block ?_
      refine X.loop (α := Value × List Int × Value × List StepT × FH) (fun xQ => [(2, .int .i64 (st)), (3, .int .i64 (n)), (4, ptr b1 0), (8, ptr b2 0), (10, ptr b3 0), (11, xQ.1)]) (fun xQ => stepsH 133 xQ.2.2.2.2 xQ.2.2.1 xQ.2.2.2.1 :: cellsH b3 [v1, xQ.2.2.1] 66 :: cellsH b2 [(.slice none 0 0), (.slice none 0 0)] 66 :: cellsH b1 [arv, rsv] 37 :: L) (fun xQ F' => xQ.2.2.2.2 = F' ∧ F2 ≤ xQ.2.2.2.2 ∧ (IntsF xQ.2.2.2.2 xQ.1 xQ.2.1) ∧ (termOk ar xQ.2.1 = true) ∧ (IsSl xQ.2.2.1) ∧ (xQ.2.2.2.1.length ≤ n.toNat) ∧ ((walkGo ar rs st n.toNat t).1 = xQ.2.2.2.1 ++ (walkGo ar rs st (n.toNat - xQ.2.2.2.1.length) xQ.2.1).1) ∧ ((walkGo ar rs st n.toNat t).2 = (walkGo ar rs st (n.toNat - xQ.2.2.2.1.length) xQ.2.1).2)) (fun xQ => n.toNat - xQ.2.2.2.1.length) (v2, t, (.slice none 0 0), [], F2) ⟨rfl, rfl, rfl, rfl, rfl, rfl, trivial⟩ (coH.addNil none (Sub.cons (Sub.cons (Sub.cons (Sub.refl _))))) ⟨rfl, FLe.refl _, (hf2), (ho), (⟨_, _, _, rfl⟩), (by simp), (rfl), (rfl)⟩ ?_
      rintro ⟨cv, cur, sv, ss, G1⟩ rE _ _ ⟨rfl, leG, hcv, hoc, hsv, hln, hwa, hwb⟩
      show X _ _ _ _ (envs [(2, .int .i64 (st)), (3, .int .i64 (n)), (4, ptr b1 0), (8, ptr b2 0), (10, ptr b3 0), (11, cv)] rE) _ (stepsH 133 G1 sv ss :: cellsH b3 [v1, sv] 66 :: cellsH b2 [(.slice none 0 0), (.slice none 0 0)] 66 :: cellsH b1 [arv, rsv] 37 :: L)
      replace leG : F2 ≤ G1 := leG
      dsimp only at hcv hoc hsv hln hwa hwb
      have hcl := termOk_len hoc
      have leG1 := leG
      replace har := har.mono leG1
      replace hrs := hrs.mono leG1
      replace ht := ht.mono leG1
      replace hf1 := hf1.mono leG1
      replace hf2 := hf2.mono leG1
      refine X.open [] rfl (fun cs1 hc1 => ?_)
      replace hc1 : StepsC G1 cs1 ss := hc1
      refine X.seq ?_
      refine X.seq ?_
      refine X.region ?_
      refine XL.cons (XOp.fieldP (b := b3) (1) Tryz.runUnderlying66 rfl Tryz.sizeOf64 (by decide) rfl rfl ?_)
      refine XL.cons (XOp.load1 (v := sv) Tryz.isAgg64 rfl (Rd.own [_] rfl rfl) ?_)
      refine XL.cons (XOp.lenS (v := sv) (n := ss.length) Tryz.runUnderlying64 rfl (SlV.own [] rfl) ?_)
      refine XL.cons (XOp.move (.int .i64 (n)) rfl ?_)
      refine XL.cons (XOp.lss (a := ((ss.length : Nat) : Int)) (b := n) rfl rfl ?_)
      refine XL.nil ?_
      refine X.condD (p := (((ss.length : Nat) : Int) : Int) < n) rfl (fun h3 => ?_) (fun h3 => ?_)
      · refine X.skip ?_
        refine X.block ?_
        refine X.seq ?_
        refine X.region ?_
        refine XL.cons (XOp.loadN [arv, rsv] Tryz.isAgg37 Tryz.sizeOf37 rfl rfl (Rd.ownN [_, _, _] rfl rfl) ?_)
        refine XL.cons (XOp.move (cv) rfl ?_)
        refine XL.cons (XOp.move (.int .i64 (st)) rfl ?_)
        refine XL.cons (XOp.call (args := [.agg #[arv, rsv], cv, .int .i64 (st)]) Tryz.call107 rfl (sPickBy_spec (st := st) har hrs hcv (hla := (by first | assumption | rfl | omega | (left; simp; done) | (right; simp; done))) (hlr := (by first | assumption | rfl | omega | (left; simp; done) | (right; simp; done))) (hrb := (by first | assumption | rfl | omega | (left; simp; done) | (right; simp; done))) (hlt := (by first | assumption | rfl | omega | (left; simp; done) | (right; simp; done)))) ?_)
        rintro _ _ _ _ ⟨rfl, rfl, rfl⟩
        refine XL.cons (XOp.move (.tuple #[.int .i64 (pickAt ar rs cur st), .int .i64 (pickRule ar rs cur st), .bool (pickB ar rs cur st)]) rfl ?_)
        refine XL.cons (XOp.extract (.int .i64 (pickAt ar rs cur st)) rfl rfl ?_)
        refine XL.cons (XOp.extract (.int .i64 (pickRule ar rs cur st)) rfl rfl ?_)
        refine XL.cons (XOp.extract (.bool (pickB ar rs cur st)) rfl rfl ?_)
        refine XL.cons (XOp.assign (.int .i64 (pickAt ar rs cur st)) rfl ?_)
        refine XL.cons (XOp.assign (.int .i64 (pickRule ar rs cur st)) rfl ?_)
        refine XL.cons (XOp.assign (.bool (pickB ar rs cur st)) rfl ?_)
        refine XL.nil ?_
        refine X.seq ?_
        refine X.seq ?_
        refine X.region ?_
        refine XL.cons (XOp.move (.bool (pickB ar rs cur st)) rfl ?_)
        refine XL.cons (XOp.notB (b := pickB ar rs cur st) rfl ?_)
        refine XL.nil ?_
        refine X.cond (t := !(pickB ar rs cur st)) rfl (fun h4 => ?_) (fun h4 => ?_)
        · have hpb : pickB ar rs cur st = false := by simpa using h4
          have he : redL ar rs cur = [] := Classical.byContradiction (fun hne => by rw [pickB_iff.2 ⟨right_iff.2 ⟨hsys, hoc⟩, hri.2, hne⟩] at hpb; cases hpb)
          have hend : walkGo ar rs st (n.toNat - ss.length) cur = ([], normalL ar rs cur) := by rw [walk_nil he, normalL, decide_eq_true he]
          refine X.exit (thenQ_exit (blockQ_other (by decide) (thenQ_exit (blockQ_exit ?_))))
          refine X.seq ?_
          refine X.draw [slH 133 3 sv ((ss).length) cs1, cellsH b3 [v1, sv] 66, cellsH b2 [(.slice none 0 0), (.slice none 0 0)] 66, cellsH b1 [arv, rsv] 37] L 4 [[], [], [], []] [[], [], [], [1, 2]] (phiL [fun us v => v = (.agg #[v1, sv] : Value), fun us v => v = (.agg #[arv, rsv] : Value), fun us v => v = cv, fun us v => v = (.bool ((rightB ar rs cur && normalL ar rs cur)) : Value)]) (ownL [fun us v => [], fun us v => [], fun us v => [], fun us v => []]) mixed rfl rfl (by kernel_rfl) ?_ ?_
          · refine stepsP.cons (fun vals R hpZ => ?_) ?_
            · refine XG.op (XOp.loadN [v1, sv] Tryz.isAgg66 Tryz.sizeOf66 rfl rfl (Rd.ownN [_] rfl rfl) ?_)
              exact ⟨rfl, rfl, rfl⟩
            refine stepsP.cons (fun vals R hpZ => ?_) ?_
            · refine XG.op (XOp.loadN [arv, rsv] Tryz.isAgg37 Tryz.sizeOf37 rfl rfl (Rd.ownN [_, _, _] rfl rfl) ?_)
              exact ⟨rfl, rfl, rfl⟩
            refine stepsP.cons (fun vals R hpZ => ?_) ?_
            · refine XG.op (XOp.move (cv) rfl ?_)
              exact ⟨rfl, rfl, rfl⟩
            refine stepsP.cons (fun vals R hpZ => ?_) ?_
            · rw [(envs_of_sat (l := [(1, (.agg #[arv, rsv] : Value)), (2, cv)]) ⟨hpZ 1 (by decide), hpZ 2 (by decide), trivial⟩).symm]
              refine XG.op (XOp.call (args := [.agg #[arv, rsv], cv]) Tryz.call109 rfl (sNormalIn_spec har hrs hcv (hla := (by first | assumption | rfl | omega | (left; simp; done) | (right; simp; done))) (hlr := (by first | assumption | rfl | omega | (left; simp; done) | (right; simp; done))) (hrb := (by first | assumption | rfl | omega | (left; simp; done) | (right; simp; done))) (hlt := (by first | assumption | rfl | omega | (left; simp; done) | (right; simp; done)))) ?_)
              rintro _ _ _ _ ⟨rfl, rfl, rfl⟩
              exact ⟨rfl, rfl, rfl⟩
            exact stepsP.nil
          · intro vals hphi
            have e0 : vals 0 = (.agg #[v1, sv] : Value) := hphi 0 (by decide)
            have e1 : vals 1 = (.agg #[arv, rsv] : Value) := hphi 1 (by decide)
            have e2 : vals 2 = cv := hphi 2 (by decide)
            have e3 : vals 3 = (.bool ((rightB ar rs cur && normalL ar rs cur)) : Value) := hphi 3 (by decide)
            rw [(envs_of_sat (l := [(0, (.agg #[v1, sv] : Value)), (1, (.agg #[arv, rsv] : Value)), (2, cv), (3, (.bool ((rightB ar rs cur && normalL ar rs cur)) : Value))]) ⟨e0, e1, e2, e3, trivial⟩).symm]
            show XL _ _ _ _ _ _ _ (slH 133 3 sv ((ss).length) cs1 :: cellsH b3 [v1, sv] 66 :: cellsH b2 [(.slice none 0 0), (.slice none 0 0)] 66 :: cellsH b1 [arv, rsv] 37 :: L)
            refine XL.cons (XOp.storeN (vs := [v1, sv]) [_, _] _ [v1, sv] Tryz.sizeOf66 rfl rfl rfl (ones_cons (one_sl (IntsF.isSl hf1)) (ones_cons (one_sl hsv) ones_nil)) rfl rfl rfl ?_)
            refine XL.cons (XOp.assign (.bool ((rightB ar rs cur && normalL ar rs cur))) rfl ?_)
            refine XL.nil ?_
            refine X.freezeF [] _ _ rfl (fun F3 le3 hz3 => ?_)
            replace har := har.mono le3
            replace hrs := hrs.mono le3
            replace ht := ht.mono le3
            replace hf1 := hf1.mono le3
            replace hf2 := hf2.mono le3
            replace hcv := hcv.mono le3
            replace hc1 := hc1.mono le3
            have hf3 : StepsF F3 sv ss := CO.fz hc1 (by first | rfl | simp | omega) hz3.fz
            refine X.ret (retEnd (L' := L) [.agg #[v1, sv], .bool ((rightB ar rs cur && normalL ar rs cur))] (.tuple #[.agg #[v1, sv], .bool ((rightB ar rs cur && normalL ar rs cur))]) (.cell rfl (loadNV [v1, sv] Tryz.isAgg66 Tryz.sizeOf66 rfl (Rd.ownN [_] rfl rfl)) (.tmp rfl .nil)) rfl (FLe.trans (FLe.trans (FLe.trans le1 le2) leG1) le3) (FLe.refl _) (Sub.drop (Sub.drop (Sub.drop (Sub.refl _)))) ?_)
            have hw := walkB_yes (ar := ar) (rs := rs) (t := t) (st := st) (n := n) (by rw [wOk]; simp [hri, hri.2]; omega)
            have e : walkGo ar rs st n.toNat t = (ss, normalL ar rs cur) := Prod.ext (by rw [hwa, hend]; simp) (by rw [hwb, hend])
            have hrc : rightB ar rs cur = true := right_iff.2 ⟨hsys, hoc⟩
            exact ⟨_, _, by rw [hw, e, hrc, Bool.true_and], by rw [hw]; exact hf1, by rw [hw, e]; exact hf3, rfl⟩
        · have hpb : pickB ar rs cur st = true := by simpa using h4
          have hne := (pickB_iff.1 hpb).2.2
          have hpa : pickAt ar rs cur st = pickL ar rs cur st := by rw [pickAt, if_pos hpb]
          have hpr : pickRule ar rs cur st = ruleAtL ar rs cur (pickL ar rs cur st).toNat := by rw [pickRule, if_pos hpb]
          obtain ⟨q, hq1, hq2, hq3, _⟩ := (pick_spec (ar := ar) (rs := rs) (t := cur) st).resolve_left (fun h => hne h.2)
          have hpn : (pickL ar rs cur st).toNat = q := by omega
          have hrr : 0 ≤ ruleAtL ar rs cur (pickL ar rs cur st).toNat := by rw [hpn]; simpa [hasR] using hq3
          obtain ⟨k, hk1, hk2, _⟩ := (M.ruleAt_spec (ar := ar) (rs := rs) (t := cur) (p := (pickL ar rs cur st).toNat)).resolve_left (by omega)
          refine X.skip ?_
          refine X.seq ?_
          refine X.region ?_
          refine XL.cons (XOp.loadN [arv, rsv] Tryz.isAgg37 Tryz.sizeOf37 rfl rfl (Rd.ownN [_, _, _] rfl rfl) ?_)
          refine XL.cons (XOp.move (cv) rfl ?_)
          refine XL.cons (XOp.move (.int .i64 (pickAt ar rs cur st)) rfl ?_)
          refine XL.cons (XOp.move (.int .i64 (pickRule ar rs cur st)) rfl ?_)
          refine XL.cons (XOp.call (args := [.agg #[arv, rsv], cv, .int .i64 (((pickAt ar rs cur st).toNat : Nat) : Int), .int .i64 (((pickRule ar rs cur st).toNat : Nat) : Int)]) Tryz.call108 (by rw [show (((pickAt ar rs cur st).toNat : Nat) : Int) = pickAt ar rs cur st from by omega, show (((pickRule ar rs cur st).toNat : Nat) : Int) = pickRule ar rs cur st from by omega]; rfl) (l7Step_spec (p := (pickAt ar rs cur st).toNat) (r := (pickRule ar rs cur st).toNat) har hrs hcv (hsys := (by first | assumption | rfl | omega | (left; simp; done) | (right; simp; done))) (ho := (by first | assumption | rfl | omega | (left; simp; done) | (right; simp; done))) (hp := (by first | assumption | rfl | omega | (left; simp; done) | (right; simp; done))) (hr := (by first | assumption | rfl | omega | (left; simp; done) | (right; simp; done)))) ?_)
          rintro _ F4 _ le4 ⟨x1, rfl, hr1, rfl⟩
          replace har := har.mono le4
          replace hrs := hrs.mono le4
          replace ht := ht.mono le4
          replace hf1 := hf1.mono le4
          replace hf2 := hf2.mono le4
          replace hcv := hcv.mono le4
          replace hc1 := hc1.mono le4
          refine XL.cons (XOp.move (.tuple #[x1, .bool ((stepL ar rs cur ((pickAt ar rs cur st).toNat) ((pickRule ar rs cur st).toNat)).isSome)]) rfl ?_)
          refine XL.cons (XOp.extract (x1) rfl rfl ?_)
          refine XL.cons (XOp.extract (.bool ((stepL ar rs cur ((pickAt ar rs cur st).toNat) ((pickRule ar rs cur st).toNat)).isSome)) rfl rfl ?_)
          refine XL.cons (XOp.assign (x1) rfl ?_)
          refine XL.cons (XOp.assign (.bool ((stepL ar rs cur ((pickAt ar rs cur st).toNat) ((pickRule ar rs cur st).toNat)).isSome)) rfl ?_)
          refine XL.nil ?_
          refine X.seq ?_
          refine X.seq ?_
          refine X.region ?_
          refine XL.cons (XOp.move (.bool ((stepL ar rs cur ((pickAt ar rs cur st).toNat) ((pickRule ar rs cur st).toNat)).isSome)) rfl ?_)
          refine XL.cons (XOp.notB (b := (stepL ar rs cur ((pickAt ar rs cur st).toNat) ((pickRule ar rs cur st).toNat)).isSome) rfl ?_)
          refine XL.nil ?_
          refine X.cond (t := !((stepL ar rs cur ((pickAt ar rs cur st).toNat) ((pickRule ar rs cur st).toNat)).isSome)) rfl (fun h5 => ?_) (fun h5 => ?_)
          · have hu : (stepL ar rs cur (pickL ar rs cur st).toNat (ruleAtL ar rs cur (pickL ar rs cur st).toNat).toNat).isSome = false := by rw [← hpr, ← hpa]; simpa using h5
            have hend : walkGo ar rs st (n.toNat - ss.length) cur = ([], normalL ar rs cur) := by rw [walk_stuck (by omega) hne hu, normalL, decide_eq_false hne]
            refine X.exit (thenQ_exit (blockQ_other (by decide) (thenQ_exit (blockQ_exit ?_))))
            refine X.seq ?_
            refine X.draw [slH 133 3 sv ((ss).length) cs1, cellsH b3 [v1, sv] 66, cellsH b2 [(.slice none 0 0), (.slice none 0 0)] 66, cellsH b1 [arv, rsv] 37] L 4 [[], [], [], []] [[], [], [], [1, 2]] (phiL [fun us v => v = (.agg #[v1, sv] : Value), fun us v => v = (.agg #[arv, rsv] : Value), fun us v => v = cv, fun us v => v = (.bool ((rightB ar rs cur && normalL ar rs cur)) : Value)]) (ownL [fun us v => [], fun us v => [], fun us v => [], fun us v => []]) mixed rfl rfl (by kernel_rfl) ?_ ?_
            · refine stepsP.cons (fun vals R hpZ => ?_) ?_
              · refine XG.op (XOp.loadN [v1, sv] Tryz.isAgg66 Tryz.sizeOf66 rfl rfl (Rd.ownN [_] rfl rfl) ?_)
                exact ⟨rfl, rfl, rfl⟩
              refine stepsP.cons (fun vals R hpZ => ?_) ?_
              · refine XG.op (XOp.loadN [arv, rsv] Tryz.isAgg37 Tryz.sizeOf37 rfl rfl (Rd.ownN [_, _, _] rfl rfl) ?_)
                exact ⟨rfl, rfl, rfl⟩
              refine stepsP.cons (fun vals R hpZ => ?_) ?_
              · refine XG.op (XOp.move (cv) rfl ?_)
                exact ⟨rfl, rfl, rfl⟩
              refine stepsP.cons (fun vals R hpZ => ?_) ?_
              · rw [(envs_of_sat (l := [(1, (.agg #[arv, rsv] : Value)), (2, cv)]) ⟨hpZ 1 (by decide), hpZ 2 (by decide), trivial⟩).symm]
                refine XG.op (XOp.call (args := [.agg #[arv, rsv], cv]) Tryz.call109 rfl (sNormalIn_spec har hrs hcv (hla := (by first | assumption | rfl | omega | (left; simp; done) | (right; simp; done))) (hlr := (by first | assumption | rfl | omega | (left; simp; done) | (right; simp; done))) (hrb := (by first | assumption | rfl | omega | (left; simp; done) | (right; simp; done))) (hlt := (by first | assumption | rfl | omega | (left; simp; done) | (right; simp; done)))) ?_)
                rintro _ _ _ _ ⟨rfl, rfl, rfl⟩
                exact ⟨rfl, rfl, rfl⟩
              exact stepsP.nil
            · intro vals hphi
              have e0 : vals 0 = (.agg #[v1, sv] : Value) := hphi 0 (by decide)
              have e1 : vals 1 = (.agg #[arv, rsv] : Value) := hphi 1 (by decide)
              have e2 : vals 2 = cv := hphi 2 (by decide)
              have e3 : vals 3 = (.bool ((rightB ar rs cur && normalL ar rs cur)) : Value) := hphi 3 (by decide)
              rw [(envs_of_sat (l := [(0, (.agg #[v1, sv] : Value)), (1, (.agg #[arv, rsv] : Value)), (2, cv), (3, (.bool ((rightB ar rs cur && normalL ar rs cur)) : Value))]) ⟨e0, e1, e2, e3, trivial⟩).symm]
              show XL _ _ _ _ _ _ _ (slH 133 3 sv ((ss).length) cs1 :: cellsH b3 [v1, sv] 66 :: cellsH b2 [(.slice none 0 0), (.slice none 0 0)] 66 :: cellsH b1 [arv, rsv] 37 :: L)
              refine XL.cons (XOp.storeN (vs := [v1, sv]) [_, _] _ [v1, sv] Tryz.sizeOf66 rfl rfl rfl (ones_cons (one_sl (IntsF.isSl hf1)) (ones_cons (one_sl hsv) ones_nil)) rfl rfl rfl ?_)
              refine XL.cons (XOp.assign (.bool ((rightB ar rs cur && normalL ar rs cur))) rfl ?_)
              refine XL.nil ?_
              refine X.freezeF [] _ _ rfl (fun F5 le5 hz4 => ?_)
              replace har := har.mono le5
              replace hrs := hrs.mono le5
              replace ht := ht.mono le5
              replace hf1 := hf1.mono le5
              replace hf2 := hf2.mono le5
              replace hcv := hcv.mono le5
              replace hc1 := hc1.mono le5
              replace hr1 := hr1.mono le5
              have hf4 : StepsF F5 sv ss := CO.fz hc1 (by first | rfl | simp | omega) hz4.fz
              refine X.ret (retEnd (L' := L) [.agg #[v1, sv], .bool ((rightB ar rs cur && normalL ar rs cur))] (.tuple #[.agg #[v1, sv], .bool ((rightB ar rs cur && normalL ar rs cur))]) (.cell rfl (loadNV [v1, sv] Tryz.isAgg66 Tryz.sizeOf66 rfl (Rd.ownN [_] rfl rfl)) (.tmp rfl .nil)) rfl (FLe.trans (FLe.trans (FLe.trans (FLe.trans le1 le2) leG1) le4) le5) (FLe.refl _) (Sub.drop (Sub.drop (Sub.drop (Sub.refl _)))) ?_)
              have hw := walkB_yes (ar := ar) (rs := rs) (t := t) (st := st) (n := n) (by rw [wOk]; simp [hri, hri.2]; omega)
              have e : walkGo ar rs st n.toNat t = (ss, normalL ar rs cur) := Prod.ext (by rw [hwa, hend]; simp) (by rw [hwb, hend])
              have hrc : rightB ar rs cur = true := right_iff.2 ⟨hsys, hoc⟩
              exact ⟨_, _, by rw [hw, e, hrc, Bool.true_and], by rw [hw]; exact hf1, by rw [hw, e]; exact hf4, rfl⟩
          · obtain ⟨u, hu⟩ := Option.isSome_iff_exists.1 (show (stepL ar rs cur (pickL ar rs cur st).toNat (ruleAtL ar rs cur (pickL ar rs cur st).toNat).toNat).isSome = true from by rw [← hpr, ← hpa]; simpa using h5)
            have hu2 : stepL ar rs cur (pickAt ar rs cur st).toNat (pickRule ar rs cur st).toNat = some u := by rw [hpa, hpr]; exact hu
            refine X.skip ?_
            refine X.seq ?_
            refine X.region ?_
            refine XL.cons (XOp.fieldP (b := b3) (1) Tryz.runUnderlying66 rfl Tryz.sizeOf64 (by decide) rfl rfl ?_)
            refine XL.cons (XOp.load1 (v := sv) Tryz.isAgg64 rfl (Rd.own [_] rfl rfl) ?_)
            refine XL.cons (XOp.move (.int .i64 (pickAt ar rs cur st)) rfl ?_)
            refine XL.cons (XOp.move (.int .i64 (pickRule ar rs cur st)) rfl ?_)
            refine XL.cons (XOp.move (x1) rfl ?_)
            refine XL.cons (XOp.build [.int .i64 (pickAt ar rs cur st), .int .i64 (pickRule ar rs cur st), x1] [.int .i64 (0), .int .i64 (0), (.slice none 0 0)] [(0, 1), (1, 1), (2, 1)] [(0, [.int .i64 (pickAt ar rs cur st)]), (1, [.int .i64 (pickRule ar rs cur st)]), (2, [x1])] Tryz.runUnderlying133 Tryz.zeroValue133 rfl (.cons rfl Tryz.sizeOf2 (.cons rfl Tryz.sizeOf2 (.cons rfl Tryz.sizeOf22 PlacesAre.nil))) rfl (.cons rfl (.cons rfl (.cons (cells_one (IntsF.isSl hr1)) CellsAre.nil))) ?_)
            refine XL.cons (XOp.buildSlice (s := 3) [.int .i64 (pickAt ar rs cur st), .int .i64 (pickRule ar rs cur st), x1] [.int .i64 (0), .int .i64 (0), (.slice none 0 0)] [(0, [.int .i64 (pickAt ar rs cur st), .int .i64 (pickRule ar rs cur st), x1])] Tryz.runUnderlying64 Tryz.sizeOf133 Tryz.zeroValue133 rfl (by decide) rfl (.cons rfl CellsAre.nil) rfl ?_)
            intro v3 hv1
            refine XL.cons (XOp.append (m := 1) (bytes := 40) (cs := cs1) [_] _ [.int .i64 (pickAt ar rs cur st), .int .i64 (pickRule ar rs cur st), x1] Tryz.runUnderlying64 Tryz.typeInfo133 rfl rfl rfl rfl rfl rfl rfl (SlV.own [] rfl) rfl (Rd.lit [] rfl) (ones_cons rfl (ones_cons rfl (ones_cons (one_sl (IntsF.isSl hr1)) ones_nil))) (by (try simp only [List.length_append, List.length_nil, List.length_cons, List.length_singleton]); omega) (by (try simp only [List.length_append, List.length_nil, List.length_cons, List.length_singleton]); omega) ?_)
            intro v4 hs3 hn1 hm1
            have hc2 := StepsC.snoc hc1 (i := pickAt ar rs cur st) (j := pickRule ar rs cur st) hr1
            refine XL.cons (XOp.fieldP (b := b3) (1) Tryz.runUnderlying66 rfl Tryz.sizeOf64 (by decide) rfl rfl ?_)
            refine XL.cons (XOp.store1 (v := v4) [_, _] _ [v1, v4] Tryz.sizeOf64 rfl rfl (one_sl hs3) rfl rfl rfl ?_)
            refine XL.nil ?_
            refine X.region ?_
            refine XL.cons (XOp.move (x1) rfl ?_)
            refine XL.cons (XOp.frzF <| XOp.call (args := [x1]) Tryz.call106 rfl (l1Copy_spec hr1 (hlt := (by first | omega | (rw [hu2]; have := termOk_len (stepL_ok hsys hoc (by omega) (by omega) hu); simp only [Option.getD_some]; omega)))) ?_)
            rintro v5 _ _ _ ⟨rfl, hs4, rfl⟩
            refine ⟨_, _, rfl, fun F6 le6 hz5 => ?_⟩
            replace har := har.mono le6
            replace hrs := hrs.mono le6
            replace ht := ht.mono le6
            replace hf1 := hf1.mono le6
            replace hf2 := hf2.mono le6
            replace hcv := hcv.mono le6
            replace hc1 := hc1.mono le6
            replace hr1 := hr1.mono le6
            replace hc2 := hc2.mono le6
            have hf5 : IntsF F6 v5 ((((stepL ar rs cur ((pickAt ar rs cur st).toNat) ((pickRule ar rs cur st).toNat)).getD []))) := intsH.fz (xs := (((stepL ar rs cur ((pickAt ar rs cur st).toNat) ((pickRule ar rs cur st).toNat)).getD []))) hz5.fz
            refine XL.cons (XOp.assign (v5) rfl ?_)
            refine XL.nil ?_
            exact ⟨(v5, (((stepL ar rs cur ((pickAt ar rs cur st).toNat) ((pickRule ar rs cur st).toNat)).getD [])), v4, ss ++ [(pickAt ar rs cur st, pickRule ar rs cur st, (stepL ar rs cur ((pickAt ar rs cur st).toNat) ((pickRule ar rs cur st).toNat)).getD [])], F6), _, (FLe.trans (FLe.trans leG1 le4) le6), (FLe.refl _), ⟨rfl, rfl, rfl, rfl, rfl, rfl, trivial⟩, (Sub.drop (coH.close hc2 (by first | rfl | simp) (Sub.cons (Sub.cons (Sub.cons (Sub.refl _)))))), ⟨rfl, (FLe.trans (FLe.trans leG1 le4) le6), (hf5), (by dsimp only; rw [hu2]; exact stepL_ok hsys hoc (by omega) (by omega) hu), (hs3), (by dsimp only; rw [List.length_append]; simp only [List.length_singleton]; omega), (by dsimp only; rw [hwa, walk_next (m := n.toNat - ss.length) (by omega) hne hu, hu2, hpa, hpr]; simp only [Option.getD_some, List.length_append, List.length_singleton, List.append_assoc, List.singleton_append]; rw [show n.toNat - ss.length - 1 = n.toNat - (ss.length + 1) from by omega]), (by dsimp only; rw [hwb, walk_next (m := n.toNat - ss.length) (by omega) hne hu, hu2]; simp only [Option.getD_some, List.length_append, List.length_singleton]; rw [show n.toNat - ss.length - 1 = n.toNat - (ss.length + 1) from by omega])⟩, (by dsimp only; rw [List.length_append]; simp only [List.length_singleton]; omega)⟩
      · have hend : walkGo ar rs st (n.toNat - ss.length) cur = ([], normalL ar rs cur) := by rw [show n.toNat - ss.length = 0 from by omega]; rfl
        refine X.exit (thenQ_exit (thenQ_exit (blockQ_exit ?_)))
        refine X.seq ?_
        refine X.draw [slH 133 3 sv ((ss).length) cs1, cellsH b3 [v1, sv] 66, cellsH b2 [(.slice none 0 0), (.slice none 0 0)] 66, cellsH b1 [arv, rsv] 37] L 4 [[], [], [], []] [[], [], [], [1, 2]] (phiL [fun us v => v = (.agg #[v1, sv] : Value), fun us v => v = (.agg #[arv, rsv] : Value), fun us v => v = cv, fun us v => v = (.bool ((rightB ar rs cur && normalL ar rs cur)) : Value)]) (ownL [fun us v => [], fun us v => [], fun us v => [], fun us v => []]) mixed rfl rfl (by kernel_rfl) ?_ ?_
        · refine stepsP.cons (fun vals R hpZ => ?_) ?_
          · refine XG.op (XOp.loadN [v1, sv] Tryz.isAgg66 Tryz.sizeOf66 rfl rfl (Rd.ownN [_] rfl rfl) ?_)
            exact ⟨rfl, rfl, rfl⟩
          refine stepsP.cons (fun vals R hpZ => ?_) ?_
          · refine XG.op (XOp.loadN [arv, rsv] Tryz.isAgg37 Tryz.sizeOf37 rfl rfl (Rd.ownN [_, _, _] rfl rfl) ?_)
            exact ⟨rfl, rfl, rfl⟩
          refine stepsP.cons (fun vals R hpZ => ?_) ?_
          · refine XG.op (XOp.move (cv) rfl ?_)
            exact ⟨rfl, rfl, rfl⟩
          refine stepsP.cons (fun vals R hpZ => ?_) ?_
          · rw [(envs_of_sat (l := [(1, (.agg #[arv, rsv] : Value)), (2, cv)]) ⟨hpZ 1 (by decide), hpZ 2 (by decide), trivial⟩).symm]
            refine XG.op (XOp.call (args := [.agg #[arv, rsv], cv]) Tryz.call109 rfl (sNormalIn_spec har hrs hcv (hla := (by first | assumption | rfl | omega | (left; simp; done) | (right; simp; done))) (hlr := (by first | assumption | rfl | omega | (left; simp; done) | (right; simp; done))) (hrb := (by first | assumption | rfl | omega | (left; simp; done) | (right; simp; done))) (hlt := (by first | assumption | rfl | omega | (left; simp; done) | (right; simp; done)))) ?_)
            rintro _ _ _ _ ⟨rfl, rfl, rfl⟩
            exact ⟨rfl, rfl, rfl⟩
          exact stepsP.nil
        · intro vals hphi
          have e0 : vals 0 = (.agg #[v1, sv] : Value) := hphi 0 (by decide)
          have e1 : vals 1 = (.agg #[arv, rsv] : Value) := hphi 1 (by decide)
          have e2 : vals 2 = cv := hphi 2 (by decide)
          have e3 : vals 3 = (.bool ((rightB ar rs cur && normalL ar rs cur)) : Value) := hphi 3 (by decide)
          rw [(envs_of_sat (l := [(0, (.agg #[v1, sv] : Value)), (1, (.agg #[arv, rsv] : Value)), (2, cv), (3, (.bool ((rightB ar rs cur && normalL ar rs cur)) : Value))]) ⟨e0, e1, e2, e3, trivial⟩).symm]
          show XL _ _ _ _ _ _ _ (slH 133 3 sv ((ss).length) cs1 :: cellsH b3 [v1, sv] 66 :: cellsH b2 [(.slice none 0 0), (.slice none 0 0)] 66 :: cellsH b1 [arv, rsv] 37 :: L)
          refine XL.cons (XOp.storeN (vs := [v1, sv]) [_, _] _ [v1, sv] Tryz.sizeOf66 rfl rfl rfl (ones_cons (one_sl (IntsF.isSl hf1)) (ones_cons (one_sl hsv) ones_nil)) rfl rfl rfl ?_)
          refine XL.cons (XOp.assign (.bool ((rightB ar rs cur && normalL ar rs cur))) rfl ?_)
          refine XL.nil ?_
          refine X.freezeF [] _ _ rfl (fun F7 le7 hz6 => ?_)
          replace har := har.mono le7
          replace hrs := hrs.mono le7
          replace ht := ht.mono le7
          replace hf1 := hf1.mono le7
          replace hf2 := hf2.mono le7
          replace hcv := hcv.mono le7
          replace hc1 := hc1.mono le7
          have hf6 : StepsF F7 sv ss := CO.fz hc1 (by first | rfl | simp | omega) hz6.fz
          refine X.ret (retEnd (L' := L) [.agg #[v1, sv], .bool ((rightB ar rs cur && normalL ar rs cur))] (.tuple #[.agg #[v1, sv], .bool ((rightB ar rs cur && normalL ar rs cur))]) (.cell rfl (loadNV [v1, sv] Tryz.isAgg66 Tryz.sizeOf66 rfl (Rd.ownN [_] rfl rfl)) (.tmp rfl .nil)) rfl (FLe.trans (FLe.trans (FLe.trans le1 le2) leG1) le7) (FLe.refl _) (Sub.drop (Sub.drop (Sub.drop (Sub.refl _)))) ?_)
          have hw := walkB_yes (ar := ar) (rs := rs) (t := t) (st := st) (n := n) (by rw [wOk]; simp [hri, hri.2]; omega)
          have e : walkGo ar rs st n.toNat t = (ss, normalL ar rs cur) := Prod.ext (by rw [hwa, hend]; simp) (by rw [hwb, hend])
          have hrc : rightB ar rs cur = true := right_iff.2 ⟨hsys, hoc⟩
          exact ⟨_, _, by rw [hw, e, hrc, Bool.true_and], by rw [hw]; exact hf1, by rw [hw, e]; exact hf6, rfl⟩
end Go.Proofs.YtbooflphoaaoeaaGreat
