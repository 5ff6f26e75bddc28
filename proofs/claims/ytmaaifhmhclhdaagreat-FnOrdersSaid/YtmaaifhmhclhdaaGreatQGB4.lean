/-
  Walks, one after the other (part 5).
-/
import Derived.Test.YtmaaifhmhclhdaaGreatQGL1
import Derived.Test.YtmaaifhmhclhdaaGreatQGB3
set_option linter.unusedSimpArgs false
set_option linter.unusedVariables false
namespace Go.Proofs.YtmaaifhmhclhdaaGreat
open Go X M Tryz

/- spec.l7Redexes -/
theorem l7Redexes_spec {F : FH} {L : List HP} {arv : Value} {ar : List Int} (har : IntsF F arv ar) {rsv : Value} {rs : List (List Int × List Int)} (hrs : PairsF F rsv rs) {tv : Value} {t : List Int} (ht : IntsF F tv t) (hsys : sysOk ar rs = true) (ho : termOk ar t = true) :
    Does prog 113 [.agg #[arv, rsv], tv] F (L) (fun v F' L' => (.int .i64 (((cntP ar rs t t.length : Nat) : Int)) : Value) = v ∧ F = F' ∧ L = L') := by
 refine Does.of_X func113 rfl rfl rfl ?_
 have hnn := notNil_of_pos ht (by have := termOk_len ho; omega)
 have htl := termOk_len ho
 have hrl := (sysOk_iff.1 hsys).2.1
 have hsig := (sysOk_iff.1 hsys).1
 have hsl := sigOk_spec hsig
 refine X.seq (X.region ?_)
 refine cX (XOp.box [arv, rsv] rfl rfl ?_)
 intro b1
 refine XL.as (.int .i64 (0)) rfl ?_
 refine XL.nil (X.seq (X.region ?_))
 refine XL.as (.int .i64 (0)) rfl ?_
 refine XL.nil (X.seq (X.seq (X.region ?_)))
 refine XL.as (.int .i64 (0)) rfl ?_
 refine XL.nil (X.block ?_)
 refine X.loop (α := Nat) (fun k => [(1, tv), (2, ptr b1 0), (5, .int .i64 (((cntP ar rs t k : Nat) : Int))), (6, .int .i64 ((k : Int)))]) (fun k => cellsH b1 [arv, rsv] 29 :: L) (fun k F' => F = F' ∧ (k ≤ t.length)) (fun k => t.length - k) 0 ⟨rfl, rfl, rfl, rfl, trivial⟩ (sC sR) ⟨rfl, (by (try dsimp only) <;> omega)⟩ ?_
 rintro k rE _ _ ⟨rfl, hk⟩
 show X _ _ _ _ (envs [(1, tv), (2, ptr b1 0), (5, .int .i64 (((cntP ar rs t k : Nat) : Int))), (6, .int .i64 ((k : Int)))] rE) _ (cellsH b1 [arv, rsv] 29 :: L)
 have hcp := cntP_le (ar := ar) (rs := rs) (t := t) hrl k
 refine X.seq (X.seq (X.region ?_))
 refine XL.mv (.int .i64 ((k : Int))) rfl ?_
 refine XL.mv (tv) rfl ?_
 refine cX (XOp.lenS (v := tv) (n := (t).length) runUnderlying24 rfl ht.slv ?_)
 refine cX (XOp.lss (a := (k : Int)) (b := (t.length : Int)) rfl rfl ?_)
 refine XL.nil ?_
 refine X.condD (p := (k : Int) < (t.length : Int)) rfl (fun h1 => ?_) (fun h1 => ?_)
 ·refine X.skip (X.seq (X.block (X.seq (X.region ?_))))
  refine XL.as (.int .i64 (0)) rfl ?_
  refine XL.nil (X.block ?_)
  refine X.loop (α := Nat) (fun j => [(1, tv), (2, ptr b1 0), (5, .int .i64 (((cntP ar rs t k + cntR ar rs t k j : Nat) : Int))), (6, .int .i64 ((k : Int))), (7, .int .i64 ((j : Int)))]) (fun j => cellsH b1 [arv, rsv] 29 :: L) (fun j F' => F = F' ∧ (j ≤ rs.length)) (fun j => rs.length - j) 0 ⟨rfl, rfl, rfl, rfl, rfl, trivial⟩ (sC sR) ⟨rfl, (by (try dsimp only) <;> omega)⟩ ?_
  rintro j rE _ _ ⟨rfl, hj⟩
  show X _ _ _ _ (envs [(1, tv), (2, ptr b1 0), (5, .int .i64 (((cntP ar rs t k + cntR ar rs t k j : Nat) : Int))), (6, .int .i64 ((k : Int))), (7, .int .i64 ((j : Int)))] rE) _ (cellsH b1 [arv, rsv] 29 :: L)
  have hcr := cntR_le (ar := ar) (rs := rs) (t := t) (p := k) (k := j)
  refine X.seq (X.seq (X.region ?_))
  refine XL.mv (.int .i64 ((j : Int))) rfl ?_
  refine cX (XOp.fieldP (b := b1) (1) runUnderlying29 rfl sizeOf27 (by decide) rfl rfl ?_)
  refine cX (XOp.load1 (v := rsv) isAgg27 rfl (Rd.own [] rfl rfl) ?_)
  refine cX (XOp.lenS (v := rsv) (n := (rs).length) runUnderlying27 rfl hrs.slv ?_)
  refine cX (XOp.lss (a := (j : Int)) (b := (rs.length : Int)) rfl rfl ?_)
  refine XL.nil ?_
  refine X.condD (p := (j : Int) < (rs.length : Int)) rfl (fun h2 => ?_) (fun h2 => ?_)
  ·refine X.skip (X.seq (X.block (X.seq ?_)))
   obtain ⟨a1, a2, ha1, ha2, hr1, hr2⟩ := hrs.rd (i := j) (by omega)
   refine X.drawG [cellsH b1 [arv, rsv] 29] L 19 [[], [], [], [], [], [], [], [], [], [], [], [], [], [], [13], [13], [], [], [13, 17]] [[], [0], [], [2], [], [3, 4], [5], [6], [], [8], [], [], [9, 10, 11], [1, 7, 12], [13], [13, 14], [13, 14], [], [13, 15, 17]] [[], [], [], [], [], [], [], [], [], [], [], [], [], [], [], [], [], [], [17]] (phiG [fun FF us v => v = ptr b1 0, fun FF us v => v = (.agg #[arv] : Value), fun FF us v => v = ptr b1 1, fun FF us v => v = rsv, fun FF us v => v = (.int .i64 ((j : Int)) : Value), fun FF us v => v = (.pointer (some (elemA rsv (j * 2))) : Value), fun FF us v => v = (.pointer (some (elemA rsv (j * 2))) : Value), fun FF us v => v = a1, fun FF us v => v = ptr b1 0, fun FF us v => v = (.agg #[arv] : Value), fun FF us v => v = tv, fun FF us v => v = (.int .i64 ((k : Int)) : Value), fun FF us v => ((v) : Value) = v ∧ (IntsF FF (v) (sub ar t k)), fun FF us v => (.tuple #[.agg #[((aggAt (tupAt v 0) 0))], .bool ((matchB ar ((rs.getD j ([], [])).1) ((sub ar t k))).isSome)] : Value) = v ∧ (RowsF FF ((aggAt (tupAt v 0) 0)) (matchP ar ((rs.getD j ([], [])).1) ((sub ar t k)))), fun FF us v => v = (.tuple #[.agg #[((aggAt (tupAt (us.getD 0 undef) 0) 0))], .bool ((matchB ar ((rs.getD j ([], [])).1) ((sub ar t k))).isSome)] : Value), fun FF us v => v = (.agg #[((aggAt (tupAt (us.getD 0 undef) 0) 0))] : Value), fun FF us v => v = (.bool ((matchB ar ((rs.getD j ([], [])).1) ((sub ar t k))).isSome) : Value), fun FF us v => v = ptr (blk v) 0, fun FF us v => True]) (ownL [fun us v => [], fun us v => [], fun us v => [], fun us v => [], fun us v => [], fun us v => [], fun us v => [], fun us v => [], fun us v => [], fun us v => [], fun us v => [], fun us v => [], fun us v => [], fun us v => [], fun us v => [], fun us v => [], fun us v => [], fun us v => [cellsH (blk v) [(.slice none 0 0)] 76], fun us v => [cellsH (blk (us.getD 1 undef)) [((aggAt (tupAt (us.getD 0 undef) 0) 0))] 76]]) mixed rfl rfl (by kernel_rfl) (by kernel_rfl) (MonoG.get (mC (fun le h => h) (mC (fun le h => h) (mC (fun le h => h) (mC (fun le h => h) (mC (fun le h => h) (mC (fun le h => h) (mC (fun le h => h) (mC (fun le h => h) (mC (fun le h => h) (mC (fun le h => h) (mC (fun le h => h) (mC (fun le h => h) (mC (fun le h => ⟨h.1, h.2.mono le⟩) (mC (fun le h => ⟨h.1, h.2.mono le⟩) (mC (fun le h => h) (mC (fun le h => h) (mC (fun le h => h) (mC (fun le h => h) (mC (fun le h => h) MonoG.nil)))))))))))))))))))) ?_ ?_
   ·refine gC (fun vals Fs R leFs hpZ => ?_) ?_
    ·refine XG.op (XOp.fieldP (b := b1) (0) runUnderlying29 rfl sizeOf26 (by decide) rfl rfl ?_)
     exact ⟨rfl, rfl⟩
    refine gC (fun vals Fs R leFs hpZ => ?_) ?_
    ·replace har := har.mono leFs
     replace hrs := hrs.mono leFs
     replace ht := ht.mono leFs
     replace ha1 := ha1.mono leFs
     replace hr1 := Rd.monoA hr1 leFs
     rw [eS (l := [(0, ptr b1 0)]) ⟨(hpZ 0 (by decide)), trivial⟩]
     refine XG.op (XOp.loadN [arv] isAgg26 sizeOf26 rfl rfl (Rd.ownN [] rfl rfl) ?_)
     exact ⟨rfl, rfl⟩
    refine gC (fun vals Fs R leFs hpZ => ?_) ?_
    ·refine XG.op (XOp.fieldP (b := b1) (1) runUnderlying29 rfl sizeOf27 (by decide) rfl rfl ?_)
     exact ⟨rfl, rfl⟩
    refine gC (fun vals Fs R leFs hpZ => ?_) ?_
    ·replace har := har.mono leFs
     replace hrs := hrs.mono leFs
     replace ht := ht.mono leFs
     replace ha1 := ha1.mono leFs
     replace hr1 := Rd.monoA hr1 leFs
     rw [eS (l := [(2, ptr b1 1)]) ⟨(hpZ 2 (by decide)), trivial⟩]
     refine XG.op (XOp.load1 (v := rsv) isAgg27 rfl (Rd.own [] rfl rfl) ?_)
     exact ⟨rfl, rfl⟩
    refine gC (fun vals Fs R leFs hpZ => ?_) ?_
    ·refine XG.op (XOp.move (.int .i64 ((j : Int))) rfl ?_)
     exact ⟨rfl, rfl⟩
    refine gC (fun vals Fs R leFs hpZ => ?_) ?_
    ·replace har := har.mono leFs
     replace hrs := hrs.mono leFs
     replace ht := ht.mono leFs
     replace ha1 := ha1.mono leFs
     replace hr1 := Rd.monoA hr1 leFs
     rw [eS (l := [(3, rsv), (4, (.int .i64 ((j : Int)) : Value))]) ⟨(hpZ 3 (by decide)), (hpZ 4 (by decide)), trivial⟩]
     refine XG.op (XOp.indexS (v := rsv) (i := (j : Int)) (n := (rs).length) j runUnderlying27 sizeOf117 rfl rfl rfl hrs.slv (by omega) rfl ?_)
     exact ⟨rfl, rfl⟩
    refine gC (fun vals Fs R leFs hpZ => ?_) ?_
    ·rw [eS (l := [(5, (.pointer (some (elemA rsv (j * 2))) : Value))]) ⟨(hpZ 5 (by decide)), trivial⟩]
     refine XG.op (XOp.fieldE (v := rsv) (j * 2) runUnderlying117 rfl sizeOf24 (by decide) rfl rfl ?_)
     exact ⟨rfl, rfl⟩
    refine gC (fun vals Fs R leFs hpZ => ?_) ?_
    ·replace har := har.mono leFs
     replace ht := ht.mono leFs
     replace ha1 := ha1.mono leFs
     replace hr1 := Rd.monoA hr1 leFs
     rw [eS (l := [(6, (.pointer (some (elemA rsv (j * 2))) : Value))]) ⟨(hpZ 6 (by decide)), trivial⟩]
     refine XG.op (XOp.load1 (v := a1) isAgg24 rfl (hr1 _) ?_)
     exact ⟨rfl, rfl⟩
    refine gC (fun vals Fs R leFs hpZ => ?_) ?_
    ·refine XG.op (XOp.fieldP (b := b1) (0) runUnderlying29 rfl sizeOf26 (by decide) rfl rfl ?_)
     exact ⟨rfl, rfl⟩
    refine gC (fun vals Fs R leFs hpZ => ?_) ?_
    ·replace har := har.mono leFs
     replace ht := ht.mono leFs
     replace ha1 := ha1.mono leFs
     rw [eS (l := [(8, ptr b1 0)]) ⟨(hpZ 8 (by decide)), trivial⟩]
     refine XG.op (XOp.loadN [arv] isAgg26 sizeOf26 rfl rfl (Rd.ownN [] rfl rfl) ?_)
     exact ⟨rfl, rfl⟩
    refine gC (fun vals Fs R leFs hpZ => ?_) ?_
    ·refine XG.op (XOp.move (tv) rfl ?_)
     exact ⟨rfl, rfl⟩
    refine gC (fun vals Fs R leFs hpZ => ?_) ?_
    ·refine XG.op (XOp.move (.int .i64 ((k : Int))) rfl ?_)
     exact ⟨rfl, rfl⟩
    refine gC (fun vals Fs R leFs hpZ => ?_) ?_
    ·replace har := har.mono leFs
     replace ht := ht.mono leFs
     replace ha1 := ha1.mono leFs
     rw [eS (l := [(9, (.agg #[arv] : Value)), (10, tv), (11, (.int .i64 ((k : Int)) : Value))]) ⟨(hpZ 9 (by decide)), (hpZ 10 (by decide)), (hpZ 11 (by decide)), trivial⟩]
     refine XG.op (XOp.frzF <| XOp.call (args := [.agg #[arv], tv, .int .i64 (k : Int)]) call110 rfl (l1Sub_spec (p := k) har ht (ho := (by first | assumption | rfl | omega | simp)) (hp := (by first | assumption | rfl | omega | simp))) ?_)
     rintro v2 _ _ _ ⟨rfl, hs2, rfl⟩
     refine ⟨_, _, rfl, fun F2 le2 hz1 => ?_⟩
     replace har := har.mono le2
     replace ha1 := ha1.mono le2
     have hf1 : IntsF F2 v2 ((sub ar t k)) := intsH.fz (xs := (sub ar t k)) hz1.fz
     exact ⟨⟨rfl, hf1⟩, rfl⟩
    refine gC (fun vals Fs R leFs hpZ => ?_) ?_
    ·obtain ⟨e12, f12_1ha⟩ := hpZ 12 (by decide)
     replace har := har.mono leFs
     replace ha1 := ha1.mono leFs
     rw [eS (l := [(1, (.agg #[arv] : Value)), (7, a1), (12, ((vals 12)))]) ⟨(hpZ 1 (by decide)), (hpZ 7 (by decide)), (e12).symm, trivial⟩]
     refine XG.op (XOp.call (args := [.agg #[arv], a1, ((vals 12))]) call109 rfl (l4Match_spec har ha1 f12_1ha (ho := (sub_ok ho (by omega))) (hpo := ((ruleOk_iff.1 ((sysOk_iff.1 hsys).2.2 j (by omega))).left))) ?_)
     rintro _ F3 _ le3 ⟨x2, rfl, hr4, rfl⟩
     replace har := har.mono le3
     replace f12_1ha := f12_1ha.mono le3
     exact ⟨⟨rfl, hr4⟩, rfl⟩
    refine gC (fun vals Fs R leFs hpZ => ?_) ?_
    ·obtain ⟨e13, f13_1hr⟩ := hpZ 13 (by decide)
     rw [eS (l := [(13, (.tuple #[.agg #[((aggAt (tupAt (vals 13) 0) 0))], .bool ((matchB ar ((rs.getD j ([], [])).1) ((sub ar t k))).isSome)] : Value))]) ⟨(e13).symm, trivial⟩]
     refine XG.op (XOp.move (.tuple #[.agg #[((aggAt (tupAt (vals 13) 0) 0))], .bool ((matchB ar ((rs.getD j ([], [])).1) ((sub ar t k))).isSome)]) rfl ?_)
     exact ⟨rfl, rfl⟩
    refine gC (fun vals Fs R leFs hpZ => ?_) ?_
    ·obtain ⟨e13, f13_1hr⟩ := hpZ 13 (by decide)
     have e14 : vals 14 = (.tuple #[.agg #[((aggAt (tupAt (vals 13) 0) 0))], .bool ((matchB ar ((rs.getD j ([], [])).1) ((sub ar t k))).isSome)] : Value) := hpZ 14 (by decide)
     rw [eS (l := [(13, (.tuple #[.agg #[((aggAt (tupAt (vals 13) 0) 0))], .bool ((matchB ar ((rs.getD j ([], [])).1) ((sub ar t k))).isSome)] : Value)), (14, (.tuple #[.agg #[((aggAt (tupAt (vals 13) 0) 0))], .bool ((matchB ar ((rs.getD j ([], [])).1) ((sub ar t k))).isSome)] : Value))]) ⟨(e13).symm, e14, trivial⟩]
     refine XG.op (XOp.extract (.agg #[((aggAt (tupAt (vals 13) 0) 0))]) rfl rfl ?_)
     exact ⟨rfl, rfl⟩
    refine gC (fun vals Fs R leFs hpZ => ?_) ?_
    ·obtain ⟨e13, f13_1hr⟩ := hpZ 13 (by decide)
     have e14 : vals 14 = (.tuple #[.agg #[((aggAt (tupAt (vals 13) 0) 0))], .bool ((matchB ar ((rs.getD j ([], [])).1) ((sub ar t k))).isSome)] : Value) := hpZ 14 (by decide)
     rw [eS (l := [(13, (.tuple #[.agg #[((aggAt (tupAt (vals 13) 0) 0))], .bool ((matchB ar ((rs.getD j ([], [])).1) ((sub ar t k))).isSome)] : Value)), (14, (.tuple #[.agg #[((aggAt (tupAt (vals 13) 0) 0))], .bool ((matchB ar ((rs.getD j ([], [])).1) ((sub ar t k))).isSome)] : Value))]) ⟨(e13).symm, e14, trivial⟩]
     refine XG.op (XOp.extract (.bool ((matchB ar ((rs.getD j ([], [])).1) ((sub ar t k))).isSome)) rfl rfl ?_)
     exact ⟨rfl, rfl⟩
    refine gC (fun vals Fs R leFs hpZ => ?_) ?_
    ·replace har := har.mono leFs
     refine XG.op (XOp.alloc [(.slice none 0 0)] zeroValue76 rfl ?_)
     intro b3
     exact ⟨rfl, rfl⟩
    refine gC (fun vals Fs R leFs hpZ => ?_) ?_
    ·obtain ⟨e13, f13_1hr⟩ := hpZ 13 (by decide)
     have e15 : vals 15 = (.agg #[((aggAt (tupAt (vals 13) 0) 0))] : Value) := hpZ 15 (by decide)
     have e17 : vals 17 = ptr (blk (vals 17)) 0 := hpZ 17 (by decide)
     rw [eS (l := [(13, (.tuple #[.agg #[((aggAt (tupAt (vals 13) 0) 0))], .bool ((matchB ar ((rs.getD j ([], [])).1) ((sub ar t k))).isSome)] : Value)), (15, (.agg #[((aggAt (tupAt (vals 13) 0) 0))] : Value)), (17, ptr (blk (vals 17)) 0)]) ⟨(e13).symm, e15, e17, trivial⟩]
     show XG _ _ _ _ _ (cellsH (blk (vals 17)) [(.slice none 0 0)] 76 :: ([cellsH b1 [arv, rsv] 29] ++ R)) _
     refine XG.op (XOp.storeN (vs := [((aggAt (tupAt (vals 13) 0) 0))]) [] _ [((aggAt (tupAt (vals 13) 0) 0))] sizeOf76 rfl rfl rfl (ones_cons (one_sl (RowsF.isSl f13_1hr)) ones_nil) rfl rfl rfl ?_)
     exact ⟨trivial, rfl⟩
    exact stepsG.nil
   intro vals F4 le4 hphi
   obtain ⟨e12, f12_1ha⟩ := hphi 12 (by decide)
   obtain ⟨e13, f13_1hr⟩ := hphi 13 (by decide)
   have e14 : vals 14 = (.tuple #[.agg #[((aggAt (tupAt (vals 13) 0) 0))], .bool ((matchB ar ((rs.getD j ([], [])).1) ((sub ar t k))).isSome)] : Value) := hphi 14 (by decide)
   have e15 : vals 15 = (.agg #[((aggAt (tupAt (vals 13) 0) 0))] : Value) := hphi 15 (by decide)
   have e17 : vals 17 = ptr (blk (vals 17)) 0 := hphi 17 (by decide)
   generalize hu1 : ((vals 12)) = u1 at e12 f12_1ha e13 f13_1hr e14 e15 e17
   generalize hu2 : ((aggAt (tupAt (vals 13) 0) 0)) = u2 at e12 f12_1ha e13 f13_1hr e14 e15 e17
   generalize hu3 : blk (vals 17) = b4 at e12 f12_1ha e13 f13_1hr e14 e15 e17
   rw [eS (l := [(13, (.tuple #[.agg #[u2], .bool ((matchB ar ((rs.getD j ([], [])).1) ((sub ar t k))).isSome)] : Value)), (16, (.bool ((matchB ar ((rs.getD j ([], [])).1) ((sub ar t k))).isSome) : Value)), (17, ptr b4 0)]) ⟨(e13).symm, (hphi 16 (by decide)), e17, trivial⟩]
   show XL _ _ _ _ _ _ _ (cellsH b4 [u2] 76 :: cellsH b1 [arv, rsv] 29 :: L)
   refine XL.as (.bool ((matchB ar ((rs.getD j ([], [])).1) ((sub ar t k))).isSome)) rfl ?_
   refine XL.nil (X.seq (X.region ?_))
   refine XL.mv (.bool ((matchB ar ((rs.getD j ([], [])).1) ((sub ar t k))).isSome)) rfl ?_
   refine XL.nil ?_
   refine X.cond (t := (matchB ar ((rs.getD j ([], [])).1) ((sub ar t k))).isSome) rfl (fun h3 => ?_) (fun h3 => ?_)
   ·refine X.region ?_
    refine XL.mv (.int .i64 (((cntP ar rs t k + cntR ar rs t k j : Nat) : Int))) rfl ?_
    refine cX (XOp.addR (a := ((cntP ar rs t k + cntR ar rs t k j : Nat) : Int)) (b := 1) ((((cntP ar rs t k + cntR ar rs t k j) + 1 : Nat) : Int)) rfl rfl (by omega) (by omega) ?_)
    refine XL.as (.int .i64 ((((cntP ar rs t k + cntR ar rs t k j) + 1 : Nat) : Int))) rfl ?_
    refine XL.nil (X.region ?_)
    refine XL.mv (.int .i64 ((j : Int))) rfl ?_
    refine cX (XOp.addR (a := (j : Int)) (b := 1) (((j + 1 : Nat) : Int)) rfl rfl (by omega) (by omega) ?_)
    refine XL.as (.int .i64 (((j + 1 : Nat) : Int))) rfl ?_
    refine XL.nil ?_
    exact ⟨j + 1, _, FLe.refl _, le4, ⟨rfl, rfl, (congrArg (fun z : Nat => Value.int .i64 (z : Int)) (by first | exact cntR_yes (by unfold isRedex; assumption) | exact cntR_no (by unfold isRedex; assumption))), rfl, rfl, trivial⟩, (sD (sC sR)), ⟨rfl, (by omega)⟩, (by omega)⟩
   refine X.skip (X.region ?_)
   refine XL.mv (.int .i64 ((j : Int))) rfl ?_
   refine cX (XOp.addR (a := (j : Int)) (b := 1) (((j + 1 : Nat) : Int)) rfl rfl (by omega) (by omega) ?_)
   refine XL.as (.int .i64 (((j + 1 : Nat) : Int))) rfl ?_
   refine XL.nil ?_
   exact ⟨j + 1, _, FLe.refl _, le4, ⟨rfl, rfl, (congrArg (fun z : Nat => Value.int .i64 (z : Int)) (by first | exact cntR_yes (by unfold isRedex; assumption) | exact cntR_no (by unfold isRedex; assumption))), rfl, rfl, trivial⟩, (sD (sC sR)), ⟨rfl, (by omega)⟩, (by omega)⟩
  refine X.exit (thenQ_exit (thenQ_exit (blockQ_exit ?_)))
  refine X.region ?_
  refine XL.mv (.int .i64 ((k : Int))) rfl ?_
  refine cX (XOp.addR (a := (k : Int)) (b := 1) (((k + 1 : Nat) : Int)) rfl rfl (by omega) (by omega) ?_)
  refine XL.as (.int .i64 (((k + 1 : Nat) : Int))) rfl ?_
  refine XL.nil ?_
  exact ⟨k + 1, _, FLe.refl _, rF, ⟨rfl, rfl, (congrArg (fun z : Nat => Value.int .i64 (z : Int)) (cntP_succ (by omega))), rfl, trivial⟩, (sC sR), ⟨rfl, (by omega)⟩, (by omega)⟩
 refine X.exit (thenQ_exit (thenQ_exit (blockQ_exit ?_)))
 refine X.seq (X.region ?_)
 refine XL.mv (.int .i64 (((cntP ar rs t k : Nat) : Int))) rfl ?_
 refine XL.as (.int .i64 (((cntP ar rs t k : Nat) : Int))) rfl ?_
 refine XL.nil ?_
 refine X.ret (retEnd (L' := L) [.int .i64 (((cntP ar rs t k : Nat) : Int))] (.int .i64 (((cntP ar rs t k : Nat) : Int))) (.tmp rfl .nil) rfl rF rF (sD sR) ?_)
 exact ⟨(vI (by rw [show k = t.length from by omega])), rfl, rfl⟩

/- spec.NormalIn -/
theorem sNormalIn_spec {F : FH} {L : List HP} {arv : Value} {ar : List Int} (har : IntsF F arv ar) {rsv : Value} {rs : List (List Int × List Int)} (hrs : PairsF F rsv rs) {tv : Value} {t : List Int} (ht : IntsF F tv t) (hla : ar.length ≤ 4000000) (hlr : rs.length ≤ 4000000) (hrb : ∀ i, i < rs.length → (rs.getD i ([], [])).1.length ≤ 4000000 ∧ (rs.getD i ([], [])).2.length ≤ 4000000) (hlt : t.length ≤ 4000000) :
    Does prog 55 [.agg #[arv, rsv], tv] F (L) (fun v F' L' => (.bool ((rightB ar rs t && normalL ar rs t)) : Value) = v ∧ F = F' ∧ L = L') := by
 refine Does.of_X func55 rfl rfl rfl ?_
 refine X.seq (X.region ?_)
 refine cX (XOp.box [arv, rsv] rfl rfl ?_)
 intro b1
 refine XL.as (.bool (false)) rfl ?_
 refine XL.nil (X.seq (X.region ?_))
 refine cX (XOp.loadN [arv, rsv] isAgg29 sizeOf29 rfl rfl (Rd.ownN [] rfl rfl) ?_)
 refine XL.mv (tv) rfl ?_
 refine cX (XOp.call (args := [.agg #[arv, rsv], tv]) call76 rfl (l7Right_spec har hrs ht (hla := (by first | assumption | rfl | omega | simp)) (hlr := (by first | assumption | rfl | omega | simp)) (hrb := (by first | assumption | rfl | omega | simp)) (hlt := (by first | assumption | rfl | omega | simp))) ?_)
 rintro _ _ _ _ ⟨rfl, rfl, rfl⟩
 refine XL.mv (.bool (rightB ar rs t)) rfl ?_
 by_cases h1 : (rightB ar rs t) = true
 ·have hsys := (right_iff.1 h1).1
  have ho := (right_iff.1 h1).2
  refine XL.yes (t := 8) rfl (vB h1) (XOp.loadN [arv, rsv] isAgg29 sizeOf29 rfl rfl (Rd.ownN [] rfl rfl) ?_)
  refine XL.yes (t := 8) rfl (vB h1) (XOp.move (tv) rfl ?_)
  refine XL.yes (t := 8) rfl (vB h1) (XOp.call (args := [.agg #[arv, rsv], tv]) call113 rfl (l7Redexes_spec har hrs ht (hsys := (by first | assumption | rfl | omega | simp)) (ho := (by first | assumption | rfl | omega | simp))) ?_)
  rintro _ _ _ _ ⟨rfl, rfl, rfl⟩
  refine XL.yes (t := 8) rfl (vB h1) (XOp.eql (a := ((cntP ar rs t t.length : Nat) : Int)) (b := 0) rfl rfl ?_)
  refine cX (XOp.pickT (.bool (decide ((((cntP ar rs t t.length : Nat) : Int) : Int) = 0))) (vB h1) rfl ?_)
  refine XL.as (.bool (decide ((((cntP ar rs t t.length : Nat) : Int) : Int) = 0))) rfl ?_
  refine XL.nil ?_
  refine X.ret (retEnd (L' := L) [.bool (decide ((((cntP ar rs t t.length : Nat) : Int) : Int) = 0))] (.bool (decide ((((cntP ar rs t t.length : Nat) : Int) : Int) = 0))) (.tmp rfl .nil) rfl rF rF (sD sR) ?_)
  exact ⟨(vB (by rw [normal_cnt]; simp_all)), rfl, rfl⟩
 rw [Bool.not_eq_true] at h1
 refine XL.no (t := 8) rfl (vB h1) ?_
 refine XL.no (t := 8) rfl (vB h1) ?_
 refine XL.no (t := 8) rfl (vB h1) ?_
 refine XL.no (t := 8) rfl (vB h1) ?_
 refine cX (XOp.pickF (.bool (false)) (vB h1) rfl ?_)
 refine XL.as (.bool (false)) rfl ?_
 refine XL.nil ?_
 refine X.ret (retEnd (L' := L) [.bool (false)] (.bool (false)) (.tmp rfl .nil) rfl rF rF (sD sR) ?_)
 exact ⟨(vB (by simp_all)), rfl, rfl⟩

/- spec.WalkBy -/
theorem sWalkBy_spec {F : FH} {L : List HP} {arv : Value} {ar : List Int} (har : IntsF F arv ar) {rsv : Value} {rs : List (List Int × List Int)} (hrs : PairsF F rsv rs) {tv : Value} {t : List Int} (ht : IntsF F tv t) {st : Int} {n : Int} (hla : ar.length ≤ 4000000) (hlr : rs.length ≤ 4000000) (hrb : ∀ i, i < rs.length → (rs.getD i ([], [])).1.length ≤ 4000000 ∧ (rs.getD i ([], [])).2.length ≤ 4000000) (hlt : t.length ≤ 4000000) :
    Does prog 10 [.agg #[arv, rsv], tv, .int .i64 (st), .int .i64 (n)] F (L) (fun v F' L' => ∃ (a : Value), ∃ (b : Value), (.tuple #[.agg #[a, b], .bool ((walkB ar rs t st n).2.2)] : Value) = v ∧ (IntsF F' a (walkB ar rs t st n).1) ∧ (StepsF F' b (walkB ar rs t st n).2.1) ∧ L = L') := by
 refine Does.of_X func10 rfl rfl rfl ?_
 refine X.seq (X.region ?_)
 refine cX (XOp.box [arv, rsv] rfl rfl ?_)
 intro b1
 refine cX (XOp.alloc [(.slice none 0 0), (.slice none 0 0)] zeroValue34 rfl ?_)
 intro b2
 refine XL.as (.bool (false)) rfl ?_
 refine XL.nil (X.seq (X.seq (X.region ?_)))
 refine cX (XOp.loadN [arv, rsv] isAgg29 sizeOf29 rfl rfl (Rd.ownN [_] rfl rfl) ?_)
 refine XL.mv (tv) rfl ?_
 refine XL.mv (.int .i64 (st)) rfl ?_
 refine cX (XOp.call (args := [.agg #[arv, rsv], tv, .int .i64 (st)]) call50 rfl (l8Right_spec (st := st) har hrs ht (hla := (by first | assumption | rfl | omega | simp)) (hlr := (by first | assumption | rfl | omega | simp)) (hrb := (by first | assumption | rfl | omega | simp)) (hlt := (by first | assumption | rfl | omega | simp))) ?_)
 rintro _ _ _ _ ⟨rfl, rfl, rfl⟩
 refine cX (XOp.notB (b := (rightB ar rs t && decide (1 ≤ st ∧ st ≤ 3))) rfl ?_)
 refine XL.mv (.bool (!((rightB ar rs t && decide (1 ≤ st ∧ st ≤ 3))))) rfl ?_
 by_cases h1 : (!((rightB ar rs t && decide (1 ≤ st ∧ st ≤ 3)))) = true
 ·refine XL.no (t := 22) rfl (vB h1) ?_
  refine XL.no (t := 22) rfl (vB h1) ?_
  refine XL.no (t := 22) rfl (vB h1) ?_
  refine cX (XOp.pickT (.bool (true)) (vB h1) rfl ?_)
  refine XL.nil ?_
  refine X.condT rfl ?_
  refine X.seq (X.region ?_)
  refine cX (XOp.build [(.slice none 0 0), (.slice none 0 0)] [(.slice none 0 0), (.slice none 0 0)] [(0, 1), (1, 1)] [] runUnderlying34 zeroValue34 rfl (.cons rfl sizeOf24 (.cons rfl sizeOf32 PlacesAre.nil)) rfl CellsAre.nil ?_)
  refine cX (XOp.storeN (vs := [(.slice none 0 0), (.slice none 0 0)]) [] _ [(.slice none 0 0), (.slice none 0 0)] sizeOf34 rfl rfl rfl (ones_cons rfl (ones_cons rfl ones_nil)) rfl rfl rfl ?_)
  refine XL.as (.bool (false)) rfl ?_
  refine XL.nil ?_
  refine X.ret (thenQ_ret (retEnd (L' := L) [.agg #[(.slice none 0 0), (.slice none 0 0)], .bool (false)] (.tuple #[.agg #[(.slice none 0 0), (.slice none 0 0)], .bool (false)]) (.cell rfl (loadNV [(.slice none 0 0), (.slice none 0 0)] isAgg34 sizeOf34 rfl (Rd.ownN [] rfl rfl)) (.tmp rfl .nil)) rfl rF rF (sD (sD sR)) ?_))
  have hw : walkB ar rs t st n = ([], [], false) := walkB_no (by rw [wOk]; cases hx : (rightB ar rs t && decide (1 ≤ st ∧ st ≤ 3)) <;> simp_all <;> (intros; omega))
  exact ⟨_, _, by rw [hw], by rw [hw]; exact IntsF.nilV, by rw [hw]; exact SlOf.nilV, rfl⟩
 rw [Bool.not_eq_true] at h1
 have hri : rightB ar rs t = true ∧ (1 ≤ st ∧ st ≤ 3) := by simpa using h1
 have hsys := (right_iff.1 hri.1).1
 have ho := (right_iff.1 hri.1).2
 have htl := termOk_len ho
 refine XL.yes (t := 22) rfl (vB h1) (XOp.move (.int .i64 (n)) rfl ?_)
 refine XL.yes (t := 22) rfl (vB h1) (XOp.call (args := [.int .i64 (n), .int .i64 (0), .int .i64 (60)]) call51 rfl (l1In_spec (n := n) (a := 0) (b := 60)) ?_)
 rintro _ _ _ _ ⟨rfl, rfl, rfl⟩
 refine XL.yes (t := 22) rfl (vB h1) (XOp.notD (p := 0 ≤ n ∧ n ≤ 60) rfl ?_)
 refine cX (XOp.pickF (.bool (decide (¬(0 ≤ n ∧ n ≤ 60)))) (vB h1) rfl ?_)
 refine XL.nil ?_
 refine X.condD (p := ¬(0 ≤ n ∧ n ≤ 60)) rfl (fun h2 => ?_) (fun h2 => ?_)
 ·refine X.seq (X.region ?_)
  refine cX (XOp.build [(.slice none 0 0), (.slice none 0 0)] [(.slice none 0 0), (.slice none 0 0)] [(0, 1), (1, 1)] [] runUnderlying34 zeroValue34 rfl (.cons rfl sizeOf24 (.cons rfl sizeOf32 PlacesAre.nil)) rfl CellsAre.nil ?_)
  refine cX (XOp.storeN (vs := [(.slice none 0 0), (.slice none 0 0)]) [] _ [(.slice none 0 0), (.slice none 0 0)] sizeOf34 rfl rfl rfl (ones_cons rfl (ones_cons rfl ones_nil)) rfl rfl rfl ?_)
  refine XL.as (.bool (false)) rfl ?_
  refine XL.nil ?_
  refine X.ret (thenQ_ret (retEnd (L' := L) [.agg #[(.slice none 0 0), (.slice none 0 0)], .bool (false)] (.tuple #[.agg #[(.slice none 0 0), (.slice none 0 0)], .bool (false)]) (.cell rfl (loadNV [(.slice none 0 0), (.slice none 0 0)] isAgg34 sizeOf34 rfl (Rd.ownN [] rfl rfl)) (.tmp rfl .nil)) rfl rF rF (sD (sD sR)) ?_))
  have hw : walkB ar rs t st n = ([], [], false) := walkB_no (by rw [wOk]; cases hx : (rightB ar rs t && decide (1 ≤ st ∧ st ≤ 3)) <;> simp_all <;> (intros; omega))
  exact ⟨_, _, by rw [hw], by rw [hw]; exact IntsF.nilV, by rw [hw]; exact SlOf.nilV, rfl⟩
 refine X.skip (X.seq (X.region ?_))
 refine XL.mv (tv) rfl ?_
 refine cX (XOp.frzF <| XOp.call (args := [tv]) call52 rfl (l1Copy_spec ht (hlt := (by first | omega | (rw [hu2]; have := termOk_len (stepL_ok hsys hoc (by omega) (by omega) hu); simp only [Option.getD_some]; omega)))) ?_)
 rintro v1 _ _ _ ⟨rfl, hs1, rfl⟩
 refine ⟨_, _, rfl, fun F1 le1 hz1 => ?_⟩
 replace har := har.mono le1
 replace hrs := hrs.mono le1
 replace ht := ht.mono le1
 have hf1 : IntsF F1 v1 ((t)) := intsH.fz (xs := (t)) hz1.fz
 refine cX (XOp.build [v1, (.slice none 0 0)] [(.slice none 0 0), (.slice none 0 0)] [(0, 1), (1, 1)] [(0, [v1])] runUnderlying34 zeroValue34 rfl (.cons rfl sizeOf24 (.cons rfl sizeOf32 PlacesAre.nil)) rfl (.cons (cells_one (IntsF.isSl hf1)) CellsAre.nil) ?_)
 refine cX (XOp.alloc [(.slice none 0 0), (.slice none 0 0)] zeroValue34 rfl ?_)
 intro b3
 refine cX (XOp.storeN (vs := [v1, (.slice none 0 0)]) [] _ [v1, (.slice none 0 0)] sizeOf34 rfl rfl rfl (ones_cons (one_sl (IntsF.isSl hf1)) (ones_cons rfl ones_nil)) rfl rfl rfl ?_)
 refine XL.nil (X.seq (X.region ?_))
 refine XL.mv (tv) rfl ?_
 refine cX (XOp.frzF <| XOp.call (args := [tv]) call52 rfl (l1Copy_spec ht (hlt := (by first | omega | (rw [hu2]; have := termOk_len (stepL_ok hsys hoc (by omega) (by omega) hu); simp only [Option.getD_some]; omega)))) ?_)
 rintro v2 _ _ _ ⟨rfl, hs2, rfl⟩
 refine ⟨_, _, rfl, fun F2 le2 hz2 => ?_⟩
 replace har := har.mono le2
 replace hrs := hrs.mono le2
 replace hf1 := hf1.mono le2
 have hf2 : IntsF F2 v2 ((t)) := intsH.fz (xs := (t)) hz2.fz
 refine XL.as (v2) rfl ?_
 refine XL.nil (X.seq (X.block ?_))
 refine X.loop (α := Value × List Int × Value × List StepT × FH) (fun xQ => [(2, .int .i64 (st)), (3, .int .i64 (n)), (4, ptr b1 0), (8, ptr b2 0), (10, ptr b3 0), (11, xQ.1)]) (fun xQ => stepsH 68 xQ.2.2.2.2 xQ.2.2.1 xQ.2.2.2.1 :: cellsH b3 [v1, xQ.2.2.1] 34 :: cellsH b2 [(.slice none 0 0), (.slice none 0 0)] 34 :: cellsH b1 [arv, rsv] 29 :: L) (fun xQ F' => xQ.2.2.2.2 = F' ∧ F2 ≤ xQ.2.2.2.2 ∧ (IntsF xQ.2.2.2.2 xQ.1 xQ.2.1) ∧ (termOk ar xQ.2.1 = true) ∧ (IsSl xQ.2.2.1) ∧ (xQ.2.2.2.1.length ≤ n.toNat) ∧ ((walkGo ar rs st n.toNat t).1 = xQ.2.2.2.1 ++ (walkGo ar rs st (n.toNat - xQ.2.2.2.1.length) xQ.2.1).1) ∧ ((walkGo ar rs st n.toNat t).2 = (walkGo ar rs st (n.toNat - xQ.2.2.2.1.length) xQ.2.1).2)) (fun xQ => n.toNat - xQ.2.2.2.1.length) (v2, t, (.slice none 0 0), [], F2) ⟨rfl, rfl, rfl, rfl, rfl, rfl, trivial⟩ (coH.addNil none (sC (sC (sC sR)))) ⟨rfl, FLe.refl _, (hf2), (ho), (⟨_, _, _, rfl⟩), (by simp), (rfl), (rfl)⟩ ?_
 rintro ⟨cv, cur, sv, ss, G1⟩ rE _ _ ⟨rfl, leG, hcv, hoc, hsv, hln, hwa, hwb⟩
 show X _ _ _ _ (envs [(2, .int .i64 (st)), (3, .int .i64 (n)), (4, ptr b1 0), (8, ptr b2 0), (10, ptr b3 0), (11, cv)] rE) _ (stepsH 68 G1 sv ss :: cellsH b3 [v1, sv] 34 :: cellsH b2 [(.slice none 0 0), (.slice none 0 0)] 34 :: cellsH b1 [arv, rsv] 29 :: L)
 replace leG : F2 ≤ G1 := leG
 dsimp only at hcv hoc hsv hln hwa hwb
 have hcl := termOk_len hoc
 have leG1 := leG
 replace har := har.mono leG1
 replace hrs := hrs.mono leG1
 replace hf1 := hf1.mono leG1
 refine X.open [] rfl (fun cs1 hc1 => ?_)
 replace hc1 : StepsC G1 cs1 ss := hc1
 refine X.seq (X.seq (X.region ?_))
 refine cX (XOp.fieldP (b := b3) (1) runUnderlying34 rfl sizeOf32 (by decide) rfl rfl ?_)
 refine cX (XOp.load1 (v := sv) isAgg32 rfl (Rd.own [_] rfl rfl) ?_)
 refine cX (XOp.lenS (v := sv) (n := ss.length) runUnderlying32 rfl (SlV.own [] rfl) ?_)
 refine XL.mv (.int .i64 (n)) rfl ?_
 refine cX (XOp.lss (a := (ss.length : Int)) (b := n) rfl rfl ?_)
 refine XL.nil ?_
 refine X.condD (p := ((ss.length : Int) : Int) < n) rfl (fun h3 => ?_) (fun h3 => ?_)
 ·refine X.skip (X.block (X.seq (X.region ?_)))
  refine cX (XOp.loadN [arv, rsv] isAgg29 sizeOf29 rfl rfl (Rd.ownN [_, _, _] rfl rfl) ?_)
  refine XL.mv (cv) rfl ?_
  refine XL.mv (.int .i64 (st)) rfl ?_
  refine cX (XOp.call (args := [.agg #[arv, rsv], cv, .int .i64 (st)]) call53 rfl (sPickBy_spec (st := st) har hrs hcv (hla := (by first | assumption | rfl | omega | simp)) (hlr := (by first | assumption | rfl | omega | simp)) (hrb := (by first | assumption | rfl | omega | simp)) (hlt := (by first | assumption | rfl | omega | simp))) ?_)
  rintro _ _ _ _ ⟨rfl, rfl, rfl⟩
  refine XL.mv (.tuple #[.int .i64 (pickAt ar rs cur st), .int .i64 (pickRule ar rs cur st), .bool (pickB ar rs cur st)]) rfl ?_
  refine cX (XOp.extract (.int .i64 (pickAt ar rs cur st)) rfl rfl ?_)
  refine cX (XOp.extract (.int .i64 (pickRule ar rs cur st)) rfl rfl ?_)
  refine cX (XOp.extract (.bool (pickB ar rs cur st)) rfl rfl ?_)
  refine XL.as (.int .i64 (pickAt ar rs cur st)) rfl ?_
  refine XL.as (.int .i64 (pickRule ar rs cur st)) rfl ?_
  refine XL.as (.bool (pickB ar rs cur st)) rfl ?_
  refine XL.nil (X.seq (X.seq (X.region ?_)))
  refine XL.mv (.bool (pickB ar rs cur st)) rfl ?_
  refine cX (XOp.notB (b := pickB ar rs cur st) rfl ?_)
  refine XL.nil ?_
  refine X.cond (t := !(pickB ar rs cur st)) rfl (fun h4 => ?_) (fun h4 => ?_)
  ·have hpb : pickB ar rs cur st = false := by simpa using h4
   have he : redL ar rs cur = [] := Classical.byContradiction (fun hne => by rw [pickB_iff.2 ⟨right_iff.2 ⟨hsys, hoc⟩, hri.2, hne⟩] at hpb; cases hpb)
   have hend : walkGo ar rs st (n.toNat - ss.length) cur = ([], normalL ar rs cur) := by rw [walk_nil he, normalL, decide_eq_true he]
   refine X.exit (thenQ_exit (blockQ_other (by decide) (thenQ_exit (blockQ_exit ?_))))
   refine X.seq ?_
   refine X.draw [slH 68 3 sv ((ss).length) cs1, cellsH b3 [v1, sv] 34, cellsH b2 [(.slice none 0 0), (.slice none 0 0)] 34, cellsH b1 [arv, rsv] 29] L 4 [[], [], [], []] [[], [], [], [1, 2]] (phiL [fun us v => v = (.agg #[v1, sv] : Value), fun us v => v = (.agg #[arv, rsv] : Value), fun us v => v = cv, fun us v => v = (.bool ((rightB ar rs cur && normalL ar rs cur)) : Value)]) (ownL [fun us v => [], fun us v => [], fun us v => [], fun us v => []]) mixed rfl rfl (by kernel_rfl) ?_ ?_
   ·refine pC (fun vals R hpZ => ?_) ?_
    ·refine XG.op (XOp.loadN [v1, sv] isAgg34 sizeOf34 rfl rfl (Rd.ownN [_] rfl rfl) ?_)
     exact ⟨rfl, rfl, rfl⟩
    refine pC (fun vals R hpZ => ?_) ?_
    ·refine XG.op (XOp.loadN [arv, rsv] isAgg29 sizeOf29 rfl rfl (Rd.ownN [_, _, _] rfl rfl) ?_)
     exact ⟨rfl, rfl, rfl⟩
    refine pC (fun vals R hpZ => ?_) ?_
    ·refine XG.op (XOp.move (cv) rfl ?_)
     exact ⟨rfl, rfl, rfl⟩
    refine pC (fun vals R hpZ => ?_) ?_
    ·rw [eS (l := [(1, (.agg #[arv, rsv] : Value)), (2, cv)]) ⟨hpZ 1 (by decide), hpZ 2 (by decide), trivial⟩]
     refine XG.op (XOp.call (args := [.agg #[arv, rsv], cv]) call55 rfl (sNormalIn_spec har hrs hcv (hla := (by first | assumption | rfl | omega | simp)) (hlr := (by first | assumption | rfl | omega | simp)) (hrb := (by first | assumption | rfl | omega | simp)) (hlt := (by first | assumption | rfl | omega | simp))) ?_)
     rintro _ _ _ _ ⟨rfl, rfl, rfl⟩
     exact ⟨rfl, rfl, rfl⟩
    exact stepsP.nil
   intro vals hphi
   rw [eS (l := [(0, (.agg #[v1, sv] : Value)), (3, (.bool ((rightB ar rs cur && normalL ar rs cur)) : Value))]) ⟨(hphi 0 (by decide)), (hphi 3 (by decide)), trivial⟩]
   show XL _ _ _ _ _ _ _ (slH 68 3 sv ((ss).length) cs1 :: cellsH b3 [v1, sv] 34 :: cellsH b2 [(.slice none 0 0), (.slice none 0 0)] 34 :: cellsH b1 [arv, rsv] 29 :: L)
   refine cX (XOp.storeN (vs := [v1, sv]) [_, _] _ [v1, sv] sizeOf34 rfl rfl rfl (ones_cons (one_sl (IntsF.isSl hf1)) (ones_cons (one_sl hsv) ones_nil)) rfl rfl rfl ?_)
   refine XL.as (.bool ((rightB ar rs cur && normalL ar rs cur))) rfl ?_
   refine XL.nil ?_
   refine X.freezeF [] _ _ rfl (fun F3 le3 hz3 => ?_)
   replace har := har.mono le3
   replace hrs := hrs.mono le3
   replace hf1 := hf1.mono le3
   replace hcv := hcv.mono le3
   replace hc1 := hc1.mono le3
   have hf3 : StepsF F3 sv ss := CO.fz hc1 (by first | rfl | simp | omega) hz3.fz
   refine X.ret (retEnd (L' := L) [.agg #[v1, sv], .bool ((rightB ar rs cur && normalL ar rs cur))] (.tuple #[.agg #[v1, sv], .bool ((rightB ar rs cur && normalL ar rs cur))]) (.cell rfl (loadNV [v1, sv] isAgg34 sizeOf34 rfl (Rd.ownN [_] rfl rfl)) (.tmp rfl .nil)) rfl (FLe.trans (FLe.trans (FLe.trans le1 le2) leG1) le3) rF (sD (sD (sD sR))) ?_)
   have hw := walkB_yes (ar := ar) (rs := rs) (t := t) (st := st) (n := n) (by rw [wOk]; simp [hri, hri.2]; omega)
   have e : walkGo ar rs st n.toNat t = (ss, normalL ar rs cur) := Prod.ext (by rw [hwa, hend]; simp) (by rw [hwb, hend])
   have hrc : rightB ar rs cur = true := right_iff.2 ⟨hsys, hoc⟩
   exact ⟨_, _, by rw [hw, e, hrc, Bool.true_and], by rw [hw]; exact hf1, by rw [hw, e]; exact hf3, rfl⟩
  have hpb : pickB ar rs cur st = true := by simpa using h4
  have hne := (pickB_iff.1 hpb).2.2
  have hpa : pickAt ar rs cur st = pickL ar rs cur st := by rw [pickAt, if_pos hpb]
  have hpr : pickRule ar rs cur st = ruleAtL ar rs cur (pickL ar rs cur st).toNat := by rw [pickRule, if_pos hpb]
  obtain ⟨q, hq1, hq2, hq3, _⟩ := (pick_spec (ar := ar) (rs := rs) (t := cur) st).resolve_left (fun h => hne h.2)
  have hpn : (pickL ar rs cur st).toNat = q := by omega
  have hrr : 0 ≤ ruleAtL ar rs cur (pickL ar rs cur st).toNat := by rw [hpn]; simpa [hasR] using hq3
  obtain ⟨k, hk1, hk2, _⟩ := (M.ruleAt_spec (ar := ar) (rs := rs) (t := cur) (p := (pickL ar rs cur st).toNat)).resolve_left (by omega)
  refine X.skip (X.seq (X.region ?_))
  refine cX (XOp.loadN [arv, rsv] isAgg29 sizeOf29 rfl rfl (Rd.ownN [_, _, _] rfl rfl) ?_)
  refine XL.mv (cv) rfl ?_
  refine XL.mv (.int .i64 (pickAt ar rs cur st)) rfl ?_
  refine XL.mv (.int .i64 (pickRule ar rs cur st)) rfl ?_
  refine cX (XOp.call (args := [.agg #[arv, rsv], cv, .int .i64 (((pickAt ar rs cur st).toNat : Nat) : Int), .int .i64 (((pickRule ar rs cur st).toNat : Nat) : Int)]) call54 (by rw [show (((pickAt ar rs cur st).toNat : Nat) : Int) = pickAt ar rs cur st from by omega, show (((pickRule ar rs cur st).toNat : Nat) : Int) = pickRule ar rs cur st from by omega]; rfl) (l7Step_spec (p := (pickAt ar rs cur st).toNat) (r := (pickRule ar rs cur st).toNat) har hrs hcv (hsys := (by first | assumption | rfl | omega | simp)) (ho := (by first | assumption | rfl | omega | simp)) (hp := (by first | assumption | rfl | omega | simp)) (hr := (by first | assumption | rfl | omega | simp))) ?_)
  rintro _ F4 _ le4 ⟨x1, rfl, hr1, rfl⟩
  replace har := har.mono le4
  replace hrs := hrs.mono le4
  replace hf1 := hf1.mono le4
  replace hcv := hcv.mono le4
  replace hc1 := hc1.mono le4
  refine XL.mv (.tuple #[x1, .bool ((stepL ar rs cur ((pickAt ar rs cur st).toNat) ((pickRule ar rs cur st).toNat)).isSome)]) rfl ?_
  refine cX (XOp.extract (x1) rfl rfl ?_)
  refine cX (XOp.extract (.bool ((stepL ar rs cur ((pickAt ar rs cur st).toNat) ((pickRule ar rs cur st).toNat)).isSome)) rfl rfl ?_)
  refine XL.as (x1) rfl ?_
  refine XL.as (.bool ((stepL ar rs cur ((pickAt ar rs cur st).toNat) ((pickRule ar rs cur st).toNat)).isSome)) rfl ?_
  refine XL.nil (X.seq (X.seq (X.region ?_)))
  refine XL.mv (.bool ((stepL ar rs cur ((pickAt ar rs cur st).toNat) ((pickRule ar rs cur st).toNat)).isSome)) rfl ?_
  refine cX (XOp.notB (b := (stepL ar rs cur ((pickAt ar rs cur st).toNat) ((pickRule ar rs cur st).toNat)).isSome) rfl ?_)
  refine XL.nil ?_
  refine X.cond (t := !((stepL ar rs cur ((pickAt ar rs cur st).toNat) ((pickRule ar rs cur st).toNat)).isSome)) rfl (fun h5 => ?_) (fun h5 => ?_)
  ·have hu : (stepL ar rs cur (pickL ar rs cur st).toNat (ruleAtL ar rs cur (pickL ar rs cur st).toNat).toNat).isSome = false := by rw [← hpr, ← hpa]; simpa using h5
   have hend : walkGo ar rs st (n.toNat - ss.length) cur = ([], normalL ar rs cur) := by rw [walk_stuck (by omega) hne hu, normalL, decide_eq_false hne]
   refine X.exit (thenQ_exit (blockQ_other (by decide) (thenQ_exit (blockQ_exit ?_))))
   refine X.seq ?_
   refine X.draw [slH 68 3 sv ((ss).length) cs1, cellsH b3 [v1, sv] 34, cellsH b2 [(.slice none 0 0), (.slice none 0 0)] 34, cellsH b1 [arv, rsv] 29] L 4 [[], [], [], []] [[], [], [], [1, 2]] (phiL [fun us v => v = (.agg #[v1, sv] : Value), fun us v => v = (.agg #[arv, rsv] : Value), fun us v => v = cv, fun us v => v = (.bool ((rightB ar rs cur && normalL ar rs cur)) : Value)]) (ownL [fun us v => [], fun us v => [], fun us v => [], fun us v => []]) mixed rfl rfl (by kernel_rfl) ?_ ?_
   ·refine pC (fun vals R hpZ => ?_) ?_
    ·refine XG.op (XOp.loadN [v1, sv] isAgg34 sizeOf34 rfl rfl (Rd.ownN [_] rfl rfl) ?_)
     exact ⟨rfl, rfl, rfl⟩
    refine pC (fun vals R hpZ => ?_) ?_
    ·refine XG.op (XOp.loadN [arv, rsv] isAgg29 sizeOf29 rfl rfl (Rd.ownN [_, _, _] rfl rfl) ?_)
     exact ⟨rfl, rfl, rfl⟩
    refine pC (fun vals R hpZ => ?_) ?_
    ·refine XG.op (XOp.move (cv) rfl ?_)
     exact ⟨rfl, rfl, rfl⟩
    refine pC (fun vals R hpZ => ?_) ?_
    ·rw [eS (l := [(1, (.agg #[arv, rsv] : Value)), (2, cv)]) ⟨hpZ 1 (by decide), hpZ 2 (by decide), trivial⟩]
     refine XG.op (XOp.call (args := [.agg #[arv, rsv], cv]) call55 rfl (sNormalIn_spec har hrs hcv (hla := (by first | assumption | rfl | omega | simp)) (hlr := (by first | assumption | rfl | omega | simp)) (hrb := (by first | assumption | rfl | omega | simp)) (hlt := (by first | assumption | rfl | omega | simp))) ?_)
     rintro _ _ _ _ ⟨rfl, rfl, rfl⟩
     exact ⟨rfl, rfl, rfl⟩
    exact stepsP.nil
   intro vals hphi
   rw [eS (l := [(0, (.agg #[v1, sv] : Value)), (3, (.bool ((rightB ar rs cur && normalL ar rs cur)) : Value))]) ⟨(hphi 0 (by decide)), (hphi 3 (by decide)), trivial⟩]
   show XL _ _ _ _ _ _ _ (slH 68 3 sv ((ss).length) cs1 :: cellsH b3 [v1, sv] 34 :: cellsH b2 [(.slice none 0 0), (.slice none 0 0)] 34 :: cellsH b1 [arv, rsv] 29 :: L)
   refine cX (XOp.storeN (vs := [v1, sv]) [_, _] _ [v1, sv] sizeOf34 rfl rfl rfl (ones_cons (one_sl (IntsF.isSl hf1)) (ones_cons (one_sl hsv) ones_nil)) rfl rfl rfl ?_)
   refine XL.as (.bool ((rightB ar rs cur && normalL ar rs cur))) rfl ?_
   refine XL.nil ?_
   refine X.freezeF [] _ _ rfl (fun F5 le5 hz4 => ?_)
   replace har := har.mono le5
   replace hrs := hrs.mono le5
   replace hf1 := hf1.mono le5
   replace hcv := hcv.mono le5
   replace hc1 := hc1.mono le5
   replace hr1 := hr1.mono le5
   have hf4 : StepsF F5 sv ss := CO.fz hc1 (by first | rfl | simp | omega) hz4.fz
   refine X.ret (retEnd (L' := L) [.agg #[v1, sv], .bool ((rightB ar rs cur && normalL ar rs cur))] (.tuple #[.agg #[v1, sv], .bool ((rightB ar rs cur && normalL ar rs cur))]) (.cell rfl (loadNV [v1, sv] isAgg34 sizeOf34 rfl (Rd.ownN [_] rfl rfl)) (.tmp rfl .nil)) rfl (FLe.trans (FLe.trans (FLe.trans (FLe.trans le1 le2) leG1) le4) le5) rF (sD (sD (sD sR))) ?_)
   have hw := walkB_yes (ar := ar) (rs := rs) (t := t) (st := st) (n := n) (by rw [wOk]; simp [hri, hri.2]; omega)
   have e : walkGo ar rs st n.toNat t = (ss, normalL ar rs cur) := Prod.ext (by rw [hwa, hend]; simp) (by rw [hwb, hend])
   have hrc : rightB ar rs cur = true := right_iff.2 ⟨hsys, hoc⟩
   exact ⟨_, _, by rw [hw, e, hrc, Bool.true_and], by rw [hw]; exact hf1, by rw [hw, e]; exact hf4, rfl⟩
  obtain ⟨u, hu⟩ := Option.isSome_iff_exists.1 (show (stepL ar rs cur (pickL ar rs cur st).toNat (ruleAtL ar rs cur (pickL ar rs cur st).toNat).toNat).isSome = true from by rw [← hpr, ← hpa]; simpa using h5)
  have hu2 : stepL ar rs cur (pickAt ar rs cur st).toNat (pickRule ar rs cur st).toNat = some u := by rw [hpa, hpr]; exact hu
  refine X.skip (X.seq (X.region ?_))
  refine cX (XOp.fieldP (b := b3) (1) runUnderlying34 rfl sizeOf32 (by decide) rfl rfl ?_)
  refine cX (XOp.load1 (v := sv) isAgg32 rfl (Rd.own [_] rfl rfl) ?_)
  refine XL.mv (.int .i64 (pickAt ar rs cur st)) rfl ?_
  refine XL.mv (.int .i64 (pickRule ar rs cur st)) rfl ?_
  refine XL.mv (x1) rfl ?_
  refine cX (XOp.build [.int .i64 (pickAt ar rs cur st), .int .i64 (pickRule ar rs cur st), x1] [.int .i64 (0), .int .i64 (0), (.slice none 0 0)] [(0, 1), (1, 1), (2, 1)] [(0, [.int .i64 (pickAt ar rs cur st)]), (1, [.int .i64 (pickRule ar rs cur st)]), (2, [x1])] runUnderlying68 zeroValue68 rfl (.cons rfl sizeOf2 (.cons rfl sizeOf2 (.cons rfl sizeOf24 PlacesAre.nil))) rfl (.cons rfl (.cons rfl (.cons (cells_one (IntsF.isSl hr1)) CellsAre.nil))) ?_)
  refine cX (XOp.buildSlice (s := 3) [.int .i64 (pickAt ar rs cur st), .int .i64 (pickRule ar rs cur st), x1] [.int .i64 (0), .int .i64 (0), (.slice none 0 0)] [(0, [.int .i64 (pickAt ar rs cur st), .int .i64 (pickRule ar rs cur st), x1])] runUnderlying32 sizeOf68 zeroValue68 rfl (by decide) rfl (.cons rfl CellsAre.nil) rfl ?_)
  intro v3 hv1
  refine cX (XOp.append (m := 1) (bytes := 40) (cs := cs1) [_] _ [.int .i64 (pickAt ar rs cur st), .int .i64 (pickRule ar rs cur st), x1] runUnderlying32 typeInfo68 rfl rfl rfl rfl rfl rfl rfl (SlV.own [] rfl) rfl (Rd.lit [] rfl) (ones_cons rfl (ones_cons rfl (ones_cons (one_sl (IntsF.isSl hr1)) ones_nil))) (by (try simp only [List.length_append, List.length_nil, List.length_cons, List.length_singleton]); omega) (by (try simp only [List.length_append, List.length_nil, List.length_cons, List.length_singleton]); omega) ?_)
  intro v4 hs3 hn1 hm1
  have hc2 := StepsC.snoc hc1 (i := pickAt ar rs cur st) (j := pickRule ar rs cur st) hr1
  refine cX (XOp.fieldP (b := b3) (1) runUnderlying34 rfl sizeOf32 (by decide) rfl rfl ?_)
  refine cX (XOp.store1 (v := v4) [_, _] _ [v1, v4] sizeOf32 rfl rfl (one_sl hs3) rfl rfl rfl ?_)
  refine XL.nil (X.region ?_)
  refine XL.mv (x1) rfl ?_
  refine cX (XOp.frzF <| XOp.call (args := [x1]) call52 rfl (l1Copy_spec hr1 (hlt := (by first | omega | (rw [hu2]; have := termOk_len (stepL_ok hsys hoc (by omega) (by omega) hu); simp only [Option.getD_some]; omega)))) ?_)
  rintro v5 _ _ _ ⟨rfl, hs4, rfl⟩
  refine ⟨_, _, rfl, fun F6 le6 hz5 => ?_⟩
  replace har := har.mono le6
  replace hrs := hrs.mono le6
  replace hf1 := hf1.mono le6
  replace hcv := hcv.mono le6
  replace hc1 := hc1.mono le6
  replace hc2 := hc2.mono le6
  have hf5 : IntsF F6 v5 ((((stepL ar rs cur ((pickAt ar rs cur st).toNat) ((pickRule ar rs cur st).toNat)).getD []))) := intsH.fz (xs := (((stepL ar rs cur ((pickAt ar rs cur st).toNat) ((pickRule ar rs cur st).toNat)).getD []))) hz5.fz
  refine XL.as (v5) rfl ?_
  refine XL.nil ?_
  exact ⟨(v5, (((stepL ar rs cur ((pickAt ar rs cur st).toNat) ((pickRule ar rs cur st).toNat)).getD [])), v4, ss ++ [(pickAt ar rs cur st, pickRule ar rs cur st, (stepL ar rs cur ((pickAt ar rs cur st).toNat) ((pickRule ar rs cur st).toNat)).getD [])], F6), _, (FLe.trans (FLe.trans leG1 le4) le6), rF, ⟨rfl, rfl, rfl, rfl, rfl, rfl, trivial⟩, (sD (coH.close hc2 (by first | rfl | simp) (sC (sC (sC sR))))), ⟨rfl, (FLe.trans (FLe.trans leG1 le4) le6), (hf5), (by dsimp only; rw [hu2]; exact stepL_ok hsys hoc (by omega) (by omega) hu), (hs3), (by dsimp only; rw [List.length_append]; simp only [List.length_singleton]; omega), (by dsimp only; rw [hwa, walk_next (m := n.toNat - ss.length) (by omega) hne hu, hu2, hpa, hpr]; simp only [Option.getD_some, List.length_append, List.length_singleton, List.append_assoc, List.singleton_append]; rw [show n.toNat - ss.length - 1 = n.toNat - (ss.length + 1) from by omega]), (by dsimp only; rw [hwb, walk_next (m := n.toNat - ss.length) (by omega) hne hu, hu2]; simp only [Option.getD_some, List.length_append, List.length_singleton]; rw [show n.toNat - ss.length - 1 = n.toNat - (ss.length + 1) from by omega])⟩, (by dsimp only; rw [List.length_append]; simp only [List.length_singleton]; omega)⟩
 have hend : walkGo ar rs st (n.toNat - ss.length) cur = ([], normalL ar rs cur) := by rw [show n.toNat - ss.length = 0 from by omega]; rfl
 refine X.exit (thenQ_exit (thenQ_exit (blockQ_exit ?_)))
 refine X.seq ?_
 refine X.draw [slH 68 3 sv ((ss).length) cs1, cellsH b3 [v1, sv] 34, cellsH b2 [(.slice none 0 0), (.slice none 0 0)] 34, cellsH b1 [arv, rsv] 29] L 4 [[], [], [], []] [[], [], [], [1, 2]] (phiL [fun us v => v = (.agg #[v1, sv] : Value), fun us v => v = (.agg #[arv, rsv] : Value), fun us v => v = cv, fun us v => v = (.bool ((rightB ar rs cur && normalL ar rs cur)) : Value)]) (ownL [fun us v => [], fun us v => [], fun us v => [], fun us v => []]) mixed rfl rfl (by kernel_rfl) ?_ ?_
 ·refine pC (fun vals R hpZ => ?_) ?_
  ·refine XG.op (XOp.loadN [v1, sv] isAgg34 sizeOf34 rfl rfl (Rd.ownN [_] rfl rfl) ?_)
   exact ⟨rfl, rfl, rfl⟩
  refine pC (fun vals R hpZ => ?_) ?_
  ·refine XG.op (XOp.loadN [arv, rsv] isAgg29 sizeOf29 rfl rfl (Rd.ownN [_, _, _] rfl rfl) ?_)
   exact ⟨rfl, rfl, rfl⟩
  refine pC (fun vals R hpZ => ?_) ?_
  ·refine XG.op (XOp.move (cv) rfl ?_)
   exact ⟨rfl, rfl, rfl⟩
  refine pC (fun vals R hpZ => ?_) ?_
  ·rw [eS (l := [(1, (.agg #[arv, rsv] : Value)), (2, cv)]) ⟨hpZ 1 (by decide), hpZ 2 (by decide), trivial⟩]
   refine XG.op (XOp.call (args := [.agg #[arv, rsv], cv]) call55 rfl (sNormalIn_spec har hrs hcv (hla := (by first | assumption | rfl | omega | simp)) (hlr := (by first | assumption | rfl | omega | simp)) (hrb := (by first | assumption | rfl | omega | simp)) (hlt := (by first | assumption | rfl | omega | simp))) ?_)
   rintro _ _ _ _ ⟨rfl, rfl, rfl⟩
   exact ⟨rfl, rfl, rfl⟩
  exact stepsP.nil
 intro vals hphi
 rw [eS (l := [(0, (.agg #[v1, sv] : Value)), (3, (.bool ((rightB ar rs cur && normalL ar rs cur)) : Value))]) ⟨(hphi 0 (by decide)), (hphi 3 (by decide)), trivial⟩]
 show XL _ _ _ _ _ _ _ (slH 68 3 sv ((ss).length) cs1 :: cellsH b3 [v1, sv] 34 :: cellsH b2 [(.slice none 0 0), (.slice none 0 0)] 34 :: cellsH b1 [arv, rsv] 29 :: L)
 refine cX (XOp.storeN (vs := [v1, sv]) [_, _] _ [v1, sv] sizeOf34 rfl rfl rfl (ones_cons (one_sl (IntsF.isSl hf1)) (ones_cons (one_sl hsv) ones_nil)) rfl rfl rfl ?_)
 refine XL.as (.bool ((rightB ar rs cur && normalL ar rs cur))) rfl ?_
 refine XL.nil ?_
 refine X.freezeF [] _ _ rfl (fun F7 le7 hz6 => ?_)
 replace hf1 := hf1.mono le7
 replace hc1 := hc1.mono le7
 have hf6 : StepsF F7 sv ss := CO.fz hc1 (by first | rfl | simp | omega) hz6.fz
 refine X.ret (retEnd (L' := L) [.agg #[v1, sv], .bool ((rightB ar rs cur && normalL ar rs cur))] (.tuple #[.agg #[v1, sv], .bool ((rightB ar rs cur && normalL ar rs cur))]) (.cell rfl (loadNV [v1, sv] isAgg34 sizeOf34 rfl (Rd.ownN [_] rfl rfl)) (.tmp rfl .nil)) rfl (FLe.trans (FLe.trans (FLe.trans le1 le2) leG1) le7) rF (sD (sD (sD sR))) ?_)
 have hw := walkB_yes (ar := ar) (rs := rs) (t := t) (st := st) (n := n) (by rw [wOk]; simp [hri, hri.2]; omega)
 have e : walkGo ar rs st n.toNat t = (ss, normalL ar rs cur) := Prod.ext (by rw [hwa, hend]; simp) (by rw [hwb, hend])
 have hrc : rightB ar rs cur = true := right_iff.2 ⟨hsys, hoc⟩
 exact ⟨_, _, by rw [hw, e, hrc, Bool.true_and], by rw [hw]; exact hf1, by rw [hw, e]; exact hf6, rfl⟩

/- spec.CountBy -/
theorem sCountBy_spec {F : FH} {L : List HP} {arv : Value} {ar : List Int} (har : IntsF F arv ar) {rsv : Value} {rs : List (List Int × List Int)} (hrs : PairsF F rsv rs) {tv : Value} {t : List Int} (ht : IntsF F tv t) {st : Int} {n : Int} (hla : ar.length ≤ 4000000) (hlr : rs.length ≤ 4000000) (hrb : ∀ i, i < rs.length → (rs.getD i ([], [])).1.length ≤ 4000000 ∧ (rs.getD i ([], [])).2.length ≤ 4000000) (hlt : t.length ≤ 4000000) :
    Does prog 13 [.agg #[arv, rsv], tv, .int .i64 (st), .int .i64 (n)] F (L) (fun v F' L' => (.int .i64 (countB ar rs t st n) : Value) = v ∧ F = F' ∧ L = L') := by
 refine Does.of_X func13 rfl rfl rfl ?_
 refine X.seq (X.region ?_)
 refine cX (XOp.box [arv, rsv] rfl rfl ?_)
 intro b1
 refine XL.as (.int .i64 (0)) rfl ?_
 refine XL.nil (X.seq (X.region ?_))
 refine cX (XOp.loadN [arv, rsv] isAgg29 sizeOf29 rfl rfl (Rd.ownN [] rfl rfl) ?_)
 refine XL.mv (tv) rfl ?_
 refine XL.mv (.int .i64 (st)) rfl ?_
 refine XL.mv (.int .i64 (n)) rfl ?_
 refine cX (XOp.call (args := [.agg #[arv, rsv], tv, .int .i64 (st), .int .i64 (n)]) call10 rfl (sWalkBy_spec (st := st) (n := n) har hrs ht (hla := (by first | assumption | rfl | omega | simp)) (hlr := (by first | assumption | rfl | omega | simp)) (hrb := (by first | assumption | rfl | omega | simp)) (hlt := (by first | assumption | rfl | omega | simp))) ?_)
 rintro _ F1 _ le1 ⟨x1, x2, rfl, hr1, hr2, rfl⟩
 refine XL.mv (.tuple #[.agg #[x1, x2], .bool ((walkB ar rs t st n).2.2)]) rfl ?_
 refine cX (XOp.extract (.agg #[x1, x2]) rfl rfl ?_)
 refine cX (XOp.extract (.bool ((walkB ar rs t st n).2.2)) rfl rfl ?_)
 refine cX (XOp.alloc [(.slice none 0 0), (.slice none 0 0)] zeroValue34 rfl ?_)
 intro b2
 refine cX (XOp.storeN (vs := [x1, x2]) [] _ [x1, x2] sizeOf34 rfl rfl rfl (ones_cons (one_sl (IntsF.isSl hr1)) (ones_cons (one_sl (StepsF.isSl hr2)) ones_nil)) rfl rfl rfl ?_)
 refine XL.as (.bool ((walkB ar rs t st n).2.2)) rfl ?_
 refine XL.nil (X.seq (X.seq (X.region ?_)))
 refine XL.mv (.bool ((walkB ar rs t st n).2.2)) rfl ?_
 refine cX (XOp.notB (b := (walkB ar rs t st n).2.2) rfl ?_)
 refine XL.nil ?_
 refine X.cond (t := !((walkB ar rs t st n).2.2)) rfl (fun h1 => ?_) (fun h1 => ?_)
 ·refine X.seq (X.region ?_)
  refine XL.as (.int .i64 (-1)) rfl ?_
  refine XL.nil ?_
  refine X.ret (thenQ_ret (retEnd (L' := L) [.int .i64 (-1)] (.int .i64 (-1)) (.tmp rfl .nil) rfl rF le1 (sD (sD sR)) ?_))
  exact ⟨(vI (by rw [countB, if_neg (by simp_all)])), rfl, rfl⟩
 refine X.skip (X.seq (X.region ?_))
 refine cX (XOp.fieldP (b := b2) (1) runUnderlying34 rfl sizeOf32 (by decide) rfl rfl ?_)
 refine cX (XOp.load1 (v := x2) isAgg32 rfl (Rd.own [] rfl rfl) ?_)
 refine cX (XOp.lenS (v := x2) (n := ((walkB ar rs t st n).2.1).length) runUnderlying32 rfl hr2.slv ?_)
 refine XL.as (.int .i64 (((((walkB ar rs t st n).2.1).length : Nat) : Int))) rfl ?_
 refine XL.nil ?_
 refine X.ret (retEnd (L' := L) [.int .i64 (((((walkB ar rs t st n).2.1).length : Nat) : Int))] (.int .i64 (((((walkB ar rs t st n).2.1).length : Nat) : Int))) (.tmp rfl .nil) rfl rF le1 (sD (sD sR)) ?_)
 exact ⟨(vI (by rw [countB, if_pos (by simp_all)])), rfl, rfl⟩
end Go.Proofs.YtmaaifhmhclhdaaGreat
set_option linter.unusedSimpArgs false
set_option linter.unusedVariables false
namespace Go.Proofs.YtmaaifhmhclhdaaGreat
open Go X M Tryz
end Go.Proofs.YtmaaifhmhclhdaaGreat
set_option linter.unusedSimpArgs false
set_option linter.unusedVariables false
namespace Go.Proofs.YtmaaifhmhclhdaaGreat
open Go X M Tryz
end Go.Proofs.YtmaaifhmhclhdaaGreat
set_option linter.unusedSimpArgs false
set_option linter.unusedVariables false
namespace Go.Proofs.YtmaaifhmhclhdaaGreat
open Go X M Tryz
end Go.Proofs.YtmaaifhmhclhdaaGreat
set_option linter.unusedSimpArgs false
set_option linter.unusedVariables false
namespace Go.Proofs.YtmaaifhmhclhdaaGreat
open Go X M Tryz

/- impl.stepArgs -/
theorem stepArgs_spec {F : FH} {L : List HP} {arv : Value} {ar : List Int} (har : IntsF F arv ar) {rsv : Value} {rs : List (List Int × List Int)} (hrs : PairsF F rsv rs) {tv : Value} {t : List Int} (ht : IntsF F tv t) {p : Int} {r : Int} :
    Does prog 171 [.agg #[arv, rsv], tv, .int .i64 (p), .int .i64 (r)] F (L) (fun v F' L' => (.bool (stepAtOk ar rs t p r) : Value) = v ∧ F = F' ∧ L = L') := by
 refine Does.of_X func171 rfl rfl rfl ?_
 refine X.seq (X.region ?_)
 refine cX (XOp.box [arv, rsv] rfl rfl ?_)
 intro b1
 refine XL.as (.bool (false)) rfl ?_
 refine XL.nil (X.seq (X.region ?_))
 refine cX (XOp.loadN [arv, rsv] isAgg29 sizeOf29 rfl rfl (Rd.ownN [] rfl rfl) ?_)
 refine cX (XOp.call (args := [.agg #[arv, rsv]]) call56 rfl (SystemOk_spec har hrs) ?_)
 rintro _ _ _ _ ⟨rfl, rfl, rfl⟩
 refine XL.mv (.bool (sysOk ar rs)) rfl ?_
 by_cases h1 : (sysOk ar rs) = true
 ·refine XL.yes (t := 11) rfl (vB h1) (XOp.fieldP (b := b1) (0) runUnderlying29 rfl sizeOf26 (by decide) rfl rfl ?_)
  refine XL.yes (t := 11) rfl (vB h1) (XOp.loadN [arv] isAgg26 sizeOf26 rfl rfl (Rd.ownN [] rfl rfl) ?_)
  refine XL.yes (t := 11) rfl (vB h1) (XOp.move (tv) rfl ?_)
  refine XL.yes (t := 11) rfl (vB h1) (XOp.move (.int .i64 (p)) rfl ?_)
  refine XL.yes (t := 11) rfl (vB h1) (XOp.call (args := [.agg #[arv], tv, .int .i64 (p)]) call137 rfl (posOk_spec (n := p) har ht) ?_)
  rintro _ _ _ _ ⟨rfl, rfl, rfl⟩
  refine cX (XOp.pickT (.bool (posOk ar t p)) (vB h1) rfl ?_)
  refine XL.mv (.bool (posOk ar t p)) rfl ?_
  by_cases h2 : (posOk ar t p) = true
  ·refine XL.yes (t := 18) rfl (vB h2) (XOp.move (.int .i64 (r)) rfl ?_)
   refine XL.yes (t := 18) rfl (vB h2) (XOp.geq (a := r) (b := 0) rfl rfl ?_)
   refine cX (XOp.pickT (.bool (decide ((r : Int) ≥ 0))) (vB h2) rfl ?_)
   refine XL.mv (.bool (decide ((r : Int) ≥ 0))) rfl ?_
   by_cases h3 : (r : Int) ≥ 0
   ·refine XL.yes (t := 22) rfl (vT h3) (XOp.move (.int .i64 (r)) rfl ?_)
    refine XL.yes (t := 22) rfl (vT h3) (XOp.fieldP (b := b1) (1) runUnderlying29 rfl sizeOf27 (by decide) rfl rfl ?_)
    refine XL.yes (t := 22) rfl (vT h3) (XOp.load1 (v := rsv) isAgg27 rfl (Rd.own [] rfl rfl) ?_)
    refine XL.yes (t := 22) rfl (vT h3) (XOp.lenS (v := rsv) (n := (rs).length) runUnderlying27 rfl hrs.slv ?_)
    refine XL.yes (t := 22) rfl (vT h3) (XOp.lss (a := r) (b := (rs.length : Int)) rfl rfl ?_)
    refine cX (XOp.pickT (.bool (decide ((r : Int) < (rs.length : Int)))) (vT h3) rfl ?_)
    refine XL.as (.bool (decide ((r : Int) < (rs.length : Int)))) rfl ?_
    refine XL.nil ?_
    refine X.ret (retEnd (L' := L) [.bool (decide ((r : Int) < (rs.length : Int)))] (.bool (decide ((r : Int) < (rs.length : Int)))) (.tmp rfl .nil) rfl rF rF (sD sR) ?_)
    exact ⟨(vB (by unfold stepAtOk rightB; cases hA : sysOk ar rs <;> cases hB : termOk ar t <;> simp_all [posOk] <;> omega)), rfl, rfl⟩
   refine XL.no (t := 22) rfl (vF h3) ?_
   refine XL.no (t := 22) rfl (vF h3) ?_
   refine XL.no (t := 22) rfl (vF h3) ?_
   refine XL.no (t := 22) rfl (vF h3) ?_
   refine XL.no (t := 22) rfl (vF h3) ?_
   refine cX (XOp.pickF (.bool (false)) (vF h3) rfl ?_)
   refine XL.as (.bool (false)) rfl ?_
   refine XL.nil ?_
   refine X.ret (retEnd (L' := L) [.bool (false)] (.bool (false)) (.tmp rfl .nil) rfl rF rF (sD sR) ?_)
   exact ⟨(vB (by unfold stepAtOk rightB; cases hA : sysOk ar rs <;> cases hB : termOk ar t <;> simp_all [posOk] <;> omega)), rfl, rfl⟩
  rw [Bool.not_eq_true] at h2
  refine XL.no (t := 18) rfl (vB h2) ?_
  refine XL.no (t := 18) rfl (vB h2) ?_
  refine cX (XOp.pickF (.bool (false)) (vB h2) rfl ?_)
  refine XL.mv (.bool (false)) rfl ?_
  refine XL.no (t := 22) rfl rfl ?_
  refine XL.no (t := 22) rfl rfl ?_
  refine XL.no (t := 22) rfl rfl ?_
  refine XL.no (t := 22) rfl rfl ?_
  refine XL.no (t := 22) rfl rfl ?_
  refine cX (XOp.pickF (.bool (false)) rfl rfl ?_)
  refine XL.as (.bool (false)) rfl ?_
  refine XL.nil ?_
  refine X.ret (retEnd (L' := L) [.bool (false)] (.bool (false)) (.tmp rfl .nil) rfl rF rF (sD sR) ?_)
  exact ⟨(vB (by unfold stepAtOk rightB; cases hA : sysOk ar rs <;> cases hB : termOk ar t <;> simp_all [posOk] <;> omega)), rfl, rfl⟩
 rw [Bool.not_eq_true] at h1
 refine XL.no (t := 11) rfl (vB h1) ?_
 refine XL.no (t := 11) rfl (vB h1) ?_
 refine XL.no (t := 11) rfl (vB h1) ?_
 refine XL.no (t := 11) rfl (vB h1) ?_
 refine XL.no (t := 11) rfl (vB h1) ?_
 refine cX (XOp.pickF (.bool (false)) (vB h1) rfl ?_)
 refine XL.mv (.bool (false)) rfl ?_
 refine XL.no (t := 18) rfl rfl ?_
 refine XL.no (t := 18) rfl rfl ?_
 refine cX (XOp.pickF (.bool (false)) rfl rfl ?_)
 refine XL.mv (.bool (false)) rfl ?_
 refine XL.no (t := 22) rfl rfl ?_
 refine XL.no (t := 22) rfl rfl ?_
 refine XL.no (t := 22) rfl rfl ?_
 refine XL.no (t := 22) rfl rfl ?_
 refine XL.no (t := 22) rfl rfl ?_
 refine cX (XOp.pickF (.bool (false)) rfl rfl ?_)
 refine XL.as (.bool (false)) rfl ?_
 refine XL.nil ?_
 refine X.ret (retEnd (L' := L) [.bool (false)] (.bool (false)) (.tmp rfl .nil) rfl rF rF (sD sR) ?_)
 exact ⟨(vB (by unfold stepAtOk rightB; cases hA : sysOk ar rs <;> cases hB : termOk ar t <;> simp_all [posOk] <;> omega)), rfl, rfl⟩

/- impl.StepAt -/
theorem StepAt_spec {F : FH} {L : List HP} {arv : Value} {ar : List Int} (har : IntsF F arv ar) {rsv : Value} {rs : List (List Int × List Int)} (hrs : PairsF F rsv rs) {tv : Value} {t : List Int} (ht : IntsF F tv t) {p : Int} {r : Int} :
    Does prog 116 [.agg #[arv, rsv], tv, .int .i64 (p), .int .i64 (r)] F (L) (fun v F' L' => ∃ (a : Value), (.tuple #[a, .bool ((stepAtL ar rs t p r).isSome)] : Value) = v ∧ (IntsF F' a ((stepAtL ar rs t p r).getD [])) ∧ (Fresh F F' (intsH 2 a ((stepAtL ar rs t p r).getD []))) ∧ L = L') := by
 refine Does.of_X func116 rfl rfl rfl ?_
 refine X.seq (X.region ?_)
 refine cX (XOp.box [arv, rsv] rfl rfl ?_)
 intro b1
 refine XL.as ((.slice none 0 0)) rfl ?_
 refine XL.as (.bool (false)) rfl ?_
 refine XL.nil (X.seq (X.seq (X.region ?_)))
 refine cX (XOp.loadN [arv, rsv] isAgg29 sizeOf29 rfl rfl (Rd.ownN [] rfl rfl) ?_)
 refine XL.mv (tv) rfl ?_
 refine XL.mv (.int .i64 (p)) rfl ?_
 refine XL.mv (.int .i64 (r)) rfl ?_
 refine cX (XOp.call (args := [.agg #[arv, rsv], tv, .int .i64 (p), .int .i64 (r)]) call171 rfl (stepArgs_spec (p := p) (r := r) har hrs ht) ?_)
 rintro _ _ _ _ ⟨rfl, rfl, rfl⟩
 refine cX (XOp.notB (b := stepAtOk ar rs t p r) rfl ?_)
 refine XL.nil ?_
 refine X.cond (t := !(stepAtOk ar rs t p r)) rfl (fun h1 => ?_) (fun h1 => ?_)
 ·have hz0 : stepAtL ar rs t p r = none := by rw [stepAtL, if_neg (by simpa using h1)]
  refine X.seq (X.region ?_)
  refine XL.as ((.slice none 0 0)) rfl ?_
  refine XL.as (.bool (false)) rfl ?_
  refine XL.nil ?_
  refine X.ret (thenQ_ret (retEnd (L' := L) [(.slice none 0 0), .bool (false)] (.tuple #[(.slice none 0 0), .bool (false)]) (.tmp rfl (.tmp rfl .nil)) rfl rF rF (sD sR) ?_))
  exact ⟨_, by rw [hz0]; rfl, by rw [hz0]; exact IntsF.nilV, by rw [hz0]; exact Fresh.ofNil _, rfl⟩
 have hok : stepAtOk ar rs t p r = true := by simpa using h1
 have hok2 := hok
 unfold stepAtOk rightB at hok2
 simp only [Bool.and_eq_true, decide_eq_true_eq] at hok2
 obtain ⟨⟨⟨hsys, ho⟩, hp1⟩, hr1⟩ := hok2
 refine X.skip (X.seq (X.region ?_))
 refine cX (XOp.loadN [arv, rsv] isAgg29 sizeOf29 rfl rfl (Rd.ownN [] rfl rfl) ?_)
 refine XL.mv (tv) rfl ?_
 refine XL.mv (.int .i64 (p)) rfl ?_
 refine XL.mv (.int .i64 (r)) rfl ?_
 refine cX (XOp.call (args := [.agg #[arv, rsv], tv, .int .i64 (((p).toNat : Nat) : Int), .int .i64 (((r).toNat : Nat) : Int)]) call106 (by rw [show (((p).toNat : Nat) : Int) = p from by omega, show (((r).toNat : Nat) : Int) = r from by omega]; rfl) (step_spec (p := (p).toNat) (r := (r).toNat) har hrs ht (hsys := (by first | assumption | rfl | omega | simp)) (ho := (by first | assumption | rfl | omega | simp)) (hp := (by first | assumption | rfl | omega | simp)) (hr := (by first | assumption | rfl | omega | simp))) ?_)
 rintro _ F1 _ le1 ⟨x1, rfl, hr1, hr2, hr3, rfl⟩
 refine cX (XOp.extract (x1) rfl rfl ?_)
 refine cX (XOp.extract (.bool ((stepL ar rs t ((p).toNat) ((r).toNat)).isSome)) rfl rfl ?_)
 refine XL.as (x1) rfl ?_
 refine XL.as (.bool ((stepL ar rs t ((p).toNat) ((r).toNat)).isSome)) rfl ?_
 refine XL.nil ?_
 refine X.ret (retEnd (L' := L) [x1, .bool ((stepL ar rs t ((p).toNat) ((r).toNat)).isSome)] (.tuple #[x1, .bool ((stepL ar rs t ((p).toNat) ((r).toNat)).isSome)]) (.tmp rfl (.tmp rfl .nil)) rfl le1 rF (sD sR) ?_)
 have e := show stepAtL ar rs t p r = stepL ar rs t p.toNat r.toNat from by rw [stepAtL, if_pos hok]
 exact ⟨_, by rw [e], by rw [e]; exact hr1, by rw [e]; exact hr3, rfl⟩
end Go.Proofs.YtmaaifhmhclhdaaGreat
set_option linter.unusedSimpArgs false
set_option linter.unusedVariables false
namespace Go.Proofs.YtmaaifhmhclhdaaGreat
open Go X M Tryz

/- impl.walkOk -/
theorem walkOk_spec {F : FH} {L : List HP} {arv : Value} {ar : List Int} (har : IntsF F arv ar) {rsv : Value} {rs : List (List Int × List Int)} (hrs : PairsF F rsv rs) {fv : Value} {f : List Int} (hf : IntsF F fv f) {ssv : Value} {ss : List StepT} (hss : StepsF F ssv ss) (hlf : f.length ≤ 4000000) (hsb : ∀ i, i < ss.length → (ss.getD i (0, 0, [])).2.2.length ≤ 4000000) :
    Does prog 57 [.agg #[arv, rsv], .agg #[fv, ssv]] F (L) (fun v F' L' => (.bool (((termOk ar f && decide (ss.length ≤ 60)) && goOk ar rs f ss)) : Value) = v ∧ F = F' ∧ L = L') := by
 refine Does.of_X func57 rfl rfl rfl ?_
 refine X.seq (X.region ?_)
 refine cX (XOp.box [arv, rsv] rfl rfl ?_)
 intro b1
 refine cX (XOp.box [fv, ssv] rfl rfl ?_)
 intro b2
 refine XL.as (.bool (false)) rfl ?_
 refine XL.nil (X.seq (X.seq (X.region ?_)))
 refine cX (XOp.fieldP (b := b1) (0) runUnderlying29 rfl sizeOf26 (by decide) rfl rfl ?_)
 refine cX (XOp.loadN [arv] isAgg26 sizeOf26 rfl rfl (Rd.ownN [_] rfl rfl) ?_)
 refine cX (XOp.fieldP (b := b2) (0) runUnderlying34 rfl sizeOf24 (by decide) rfl rfl ?_)
 refine cX (XOp.load1 (v := fv) isAgg24 rfl (Rd.own [] rfl rfl) ?_)
 refine cX (XOp.call (args := [.agg #[arv], fv]) call58 rfl (TermOk_spec har hf) ?_)
 rintro _ _ _ _ ⟨rfl, rfl, rfl⟩
 refine cX (XOp.notB (b := termOk ar f) rfl ?_)
 refine XL.mv (.bool (!(termOk ar f))) rfl ?_
 by_cases h1 : (!(termOk ar f)) = true
 ·refine XL.no (t := 16) rfl (vB h1) ?_
  refine XL.no (t := 16) rfl (vB h1) ?_
  refine XL.no (t := 16) rfl (vB h1) ?_
  refine XL.no (t := 16) rfl (vB h1) ?_
  refine cX (XOp.pickT (.bool (true)) (vB h1) rfl ?_)
  refine XL.nil ?_
  refine X.condT rfl ?_
  refine X.seq (X.region ?_)
  refine XL.as (.bool (false)) rfl ?_
  refine XL.nil ?_
  refine X.ret (thenQ_ret (retEnd (L' := L) [.bool (false)] (.bool (false)) (.tmp rfl .nil) rfl rF rF (sD (sD sR)) ?_))
  exact ⟨(vB (by simp_all <;> omega)), rfl, rfl⟩
 rw [Bool.not_eq_true] at h1
 refine XL.yes (t := 16) rfl (vB h1) (XOp.fieldP (b := b2) (1) runUnderlying34 rfl sizeOf32 (by decide) rfl rfl ?_)
 refine XL.yes (t := 16) rfl (vB h1) (XOp.load1 (v := ssv) isAgg32 rfl (Rd.own [] rfl rfl) ?_)
 refine XL.yes (t := 16) rfl (vB h1) (XOp.lenS (v := ssv) (n := (ss).length) runUnderlying32 rfl hss.slv ?_)
 refine XL.yes (t := 16) rfl (vB h1) (XOp.gtr (a := (ss.length : Int)) (b := 60) rfl rfl ?_)
 refine cX (XOp.pickF (.bool (decide (((ss.length : Int) : Int) > 60))) (vB h1) rfl ?_)
 refine XL.nil ?_
 refine X.condD (p := ((ss.length : Int) : Int) > 60) rfl (fun h2 => ?_) (fun h2 => ?_)
 ·refine X.seq (X.region ?_)
  refine XL.as (.bool (false)) rfl ?_
  refine XL.nil ?_
  refine X.ret (thenQ_ret (retEnd (L' := L) [.bool (false)] (.bool (false)) (.tmp rfl .nil) rfl rF rF (sD (sD sR)) ?_))
  exact ⟨(vB (by simp_all <;> omega)), rfl, rfl⟩
 refine X.skip (X.seq (X.region ?_))
 refine cX (XOp.fieldP (b := b2) (0) runUnderlying34 rfl sizeOf24 (by decide) rfl rfl ?_)
 refine cX (XOp.load1 (v := fv) isAgg24 rfl (Rd.own [] rfl rfl) ?_)
 refine XL.as (fv) rfl ?_
 refine XL.nil (X.seq (X.seq (X.region ?_)))
 refine cX (XOp.fieldP (b := b2) (1) runUnderlying34 rfl sizeOf32 (by decide) rfl rfl ?_)
 refine cX (XOp.load1 (v := ssv) isAgg32 rfl (Rd.own [] rfl rfl) ?_)
 refine cX (XOp.lenS (v := ssv) (n := (ss).length) runUnderlying32 rfl hss.slv ?_)
 refine XL.mv (.int .i64 (0)) rfl ?_
 refine XL.nil (X.block ?_)
 refine X.loop (α := Nat × Value × List Int × FH) (fun xQ => [(2, ptr b1 0), (5, xQ.2.1), (25, ssv), (26, .int .i64 ((ss.length : Int))), (27, .int .i64 (((xQ.1 : Nat) : Int)))]) (fun xQ => cellsH b2 [fv, ssv] 34 :: cellsH b1 [arv, rsv] 29 :: L) (fun xQ F' => xQ.2.2.2 = F' ∧ F ≤ xQ.2.2.2 ∧ (IntsF xQ.2.2.2 xQ.2.1 xQ.2.2.1) ∧ (xQ.1 ≤ ss.length) ∧ (goOk ar rs f ss = goOk ar rs xQ.2.2.1 (ss.drop xQ.1)) ∧ (xQ.2.2.1.length ≤ 4000000)) (fun xQ => ss.length - xQ.1) (0, fv, f, F) ⟨rfl, rfl, rfl, rfl, rfl, trivial⟩ (sC (sC sR)) ⟨rfl, FLe.refl _, (hf), (by (try dsimp only) <;> omega), (rfl), (hlf)⟩ ?_
 rintro ⟨k, cv, cur, G1⟩ rE _ _ ⟨rfl, leG, hcv, hk, hgo, hcl⟩
 show X _ _ _ _ (envs [(2, ptr b1 0), (5, cv), (25, ssv), (26, .int .i64 ((ss.length : Int))), (27, .int .i64 ((k : Int)))] rE) _ (cellsH b2 [fv, ssv] 34 :: cellsH b1 [arv, rsv] 29 :: L)
 replace leG : F ≤ G1 := leG
 dsimp only at hcv hk hgo hcl
 have hsk := hsb k
 have leG1 := leG
 replace har := har.mono leG1
 replace hrs := hrs.mono leG1
 replace hss := hss.mono leG1
 refine X.seq (X.region ?_)
 refine cX (XOp.lss (a := (k : Int)) (b := (ss.length : Int)) rfl rfl ?_)
 refine XL.nil (X.seq ?_)
 refine X.condD (p := (k : Int) < (ss.length : Int)) rfl (fun h3 => ?_) (fun h3 => ?_)
 ·refine X.skip (X.seq (X.block (X.seq (X.region ?_))))
  refine cX (XOp.indexS (v := ssv) (i := (k : Int)) (n := (ss).length) k runUnderlying32 sizeOf68 rfl rfl rfl hss.slv (by omega) rfl ?_)
  obtain ⟨a1, ha1, hr1, hr2, hr3⟩ := hss.rd (i := k) (by omega)
  refine cX (XOp.loadN [.int .i64 ((ss.getD k (0, 0, [])).1), .int .i64 ((ss.getD k (0, 0, [])).2.1), a1] isAgg68 sizeOf68 rfl rfl (Rd.three (hr1 _) (hr2 _) (hr3 _)) ?_)
  refine cX (XOp.alloc [.int .i64 (0), .int .i64 (0), (.slice none 0 0)] zeroValue68 rfl ?_)
  intro b3
  refine cX (XOp.storeN (vs := [.int .i64 ((ss.getD k (0, 0, [])).1), .int .i64 ((ss.getD k (0, 0, [])).2.1), a1]) [] _ [.int .i64 ((ss.getD k (0, 0, [])).1), .int .i64 ((ss.getD k (0, 0, [])).2.1), a1] sizeOf68 rfl rfl rfl (ones_cons rfl (ones_cons rfl (ones_cons (one_sl (IntsF.isSl ha1)) ones_nil))) rfl rfl rfl ?_)
  refine XL.nil (X.seq (X.region ?_))
  refine cX (XOp.loadN [arv, rsv] isAgg29 sizeOf29 rfl rfl (Rd.ownN [_, _] rfl rfl) ?_)
  refine XL.mv (cv) rfl ?_
  refine cX (XOp.fieldP (b := b3) (0) runUnderlying68 rfl sizeOf2 (by decide) rfl rfl ?_)
  refine cX (XOp.load1 (v := .int .i64 ((ss.getD k (0, 0, [])).1)) isAgg2 rfl (Rd.own [] rfl rfl) ?_)
  refine cX (XOp.fieldP (b := b3) (1) runUnderlying68 rfl sizeOf2 (by decide) rfl rfl ?_)
  refine cX (XOp.load1 (v := .int .i64 ((ss.getD k (0, 0, [])).2.1)) isAgg2 rfl (Rd.own [] rfl rfl) ?_)
  refine cX (XOp.call (args := [.agg #[arv, rsv], cv, .int .i64 ((ss.getD k (0, 0, [])).1), .int .i64 ((ss.getD k (0, 0, [])).2.1)]) call116 rfl (StepAt_spec (p := (ss.getD k (0, 0, [])).1) (r := (ss.getD k (0, 0, [])).2.1) har hrs hcv) ?_)
  rintro _ F1 _ le1 ⟨x1, rfl, hr4, hr5, rfl⟩
  replace ha1 := ha1.mono le1
  refine XL.mv (.tuple #[x1, .bool ((stepAtL ar rs cur ((ss.getD k (0, 0, [])).1) ((ss.getD k (0, 0, [])).2.1)).isSome)]) rfl ?_
  refine cX (XOp.extract (x1) rfl rfl ?_)
  refine cX (XOp.extract (.bool ((stepAtL ar rs cur ((ss.getD k (0, 0, [])).1) ((ss.getD k (0, 0, [])).2.1)).isSome)) rfl rfl ?_)
  refine XL.as (x1) rfl ?_
  refine XL.as (.bool ((stepAtL ar rs cur ((ss.getD k (0, 0, [])).1) ((ss.getD k (0, 0, [])).2.1)).isSome)) rfl ?_
  refine XL.nil (X.seq (X.seq (X.region ?_)))
  refine XL.mv (.bool ((stepAtL ar rs cur ((ss.getD k (0, 0, [])).1) ((ss.getD k (0, 0, [])).2.1)).isSome)) rfl ?_
  refine cX (XOp.notB (b := (stepAtL ar rs cur ((ss.getD k (0, 0, [])).1) ((ss.getD k (0, 0, [])).2.1)).isSome) rfl ?_)
  refine XL.mv (.bool (!((stepAtL ar rs cur ((ss.getD k (0, 0, [])).1) ((ss.getD k (0, 0, [])).2.1)).isSome))) rfl ?_
  by_cases h4 : (!((stepAtL ar rs cur ((ss.getD k (0, 0, [])).1) ((ss.getD k (0, 0, [])).2.1)).isSome)) = true
  ·have hu1 : (stepAtL ar rs cur (ss.getD k (0, 0, [])).1 (ss.getD k (0, 0, [])).2.1).isSome = false := by simpa using h4
   refine XL.no (t := 43) rfl (vB h4) ?_
   refine XL.no (t := 43) rfl (vB h4) ?_
   refine XL.no (t := 43) rfl (vB h4) ?_
   refine XL.no (t := 43) rfl (vB h4) ?_
   refine XL.no (t := 43) rfl (vB h4) ?_
   refine cX (XOp.pickT (.bool (true)) (vB h4) rfl ?_)
   refine XL.nil ?_
   refine X.condT rfl ?_
   refine X.seq (X.region ?_)
   refine XL.as (.bool (false)) rfl ?_
   refine XL.nil ?_
   refine X.ret (thenQ_ret (blockQ_ret (thenQ_ret (thenQ_ret (blockQ_ret (thenQ_ret (retEnd (L' := L) [.bool (false)] (.bool (false)) (.tmp rfl .nil) rfl rF (FLe.trans leG1 le1) (sD (sD (sD sR))) ?_)))))))
   exact ⟨(vB (by have hz := goOk_fail (ar := ar) (rs := rs) (t := cur) (ss := ss) (k := k) (by omega) (by first | exact .inl hu1 | exact .inr hu2); rw [hgo, hz]; simp)), rfl, rfl⟩
  rw [Bool.not_eq_true] at h4
  have hu1 : (stepAtL ar rs cur (ss.getD k (0, 0, [])).1 (ss.getD k (0, 0, [])).2.1).isSome = true := by simpa using h4
  refine XL.yes (t := 43) rfl (vB h4) (XOp.move (x1) rfl ?_)
  refine XL.yes (t := 43) rfl (vB h4) (XOp.fieldP (b := b3) (2) runUnderlying68 rfl sizeOf24 (by decide) rfl rfl ?_)
  refine XL.yes (t := 43) rfl (vB h4) (XOp.load1 (v := a1) isAgg24 rfl (Rd.own [] rfl rfl) ?_)
  refine XL.yes (t := 43) rfl (vB h4) (XOp.call (args := [x1, a1]) call62 rfl (Equal_spec hr4 ha1 (hbd := (by first | assumption | rfl | omega | (left; simp; done) | (right; simp; done)))) ?_)
  rintro _ _ _ _ ⟨rfl, rfl, rfl⟩
  refine XL.yes (t := 43) rfl (vB h4) (XOp.notD (p := ((stepAtL ar rs cur ((ss.getD k (0, 0, [])).1) ((ss.getD k (0, 0, [])).2.1)).getD []) = ((ss.getD k (0, 0, [])).2.2)) rfl ?_)
  refine cX (XOp.pickF (.bool (decide (¬(((stepAtL ar rs cur ((ss.getD k (0, 0, [])).1) ((ss.getD k (0, 0, [])).2.1)).getD []) = ((ss.getD k (0, 0, [])).2.2))))) (vB h4) rfl ?_)
  refine XL.nil ?_
  refine X.condD (p := ¬(((stepAtL ar rs cur ((ss.getD k (0, 0, [])).1) ((ss.getD k (0, 0, [])).2.1)).getD []) = ((ss.getD k (0, 0, [])).2.2))) rfl (fun h5 => ?_) (fun h5 => ?_)
  ·have hu2 : (stepAtL ar rs cur (ss.getD k (0, 0, [])).1 (ss.getD k (0, 0, [])).2.1).getD [] ≠ (ss.getD k (0, 0, [])).2.2 := h5
   refine X.seq (X.region ?_)
   refine XL.as (.bool (false)) rfl ?_
   refine XL.nil ?_
   refine X.ret (thenQ_ret (blockQ_ret (thenQ_ret (thenQ_ret (blockQ_ret (thenQ_ret (retEnd (L' := L) [.bool (false)] (.bool (false)) (.tmp rfl .nil) rfl rF (FLe.trans leG1 le1) (sD (sD (sD sR))) ?_)))))))
   exact ⟨(vB (by have hz := goOk_fail (ar := ar) (rs := rs) (t := cur) (ss := ss) (k := k) (by omega) (by first | exact .inl hu1 | exact .inr hu2); rw [hgo, hz]; simp)), rfl, rfl⟩
  have hu2 : (stepAtL ar rs cur (ss.getD k (0, 0, [])).1 (ss.getD k (0, 0, [])).2.1).getD [] = (ss.getD k (0, 0, [])).2.2 := Classical.not_not.1 h5
  refine X.skip (X.region ?_)
  refine XL.mv (x1) rfl ?_
  refine XL.as (x1) rfl ?_
  refine XL.nil (X.region ?_)
  refine cX (XOp.addR (a := (k : Int)) (b := 1) (((k + 1 : Nat) : Int)) rfl rfl (by omega) (by omega) ?_)
  refine XL.mv (.int .i64 (((k + 1 : Nat) : Int))) rfl ?_
  refine XL.nil ?_
  exact ⟨(k + 1, x1, (stepAtL ar rs cur ((ss.getD k (0, 0, [])).1) ((ss.getD k (0, 0, [])).2.1)).getD [], F1), _, (FLe.trans leG1 le1), rF, ⟨rfl, rfl, rfl, rfl, rfl, trivial⟩, (sD (sC (sC sR))), ⟨rfl, (FLe.trans leG1 le1), (hr4), (by (try dsimp only) <;> omega), (by (try dsimp only); rw [hgo]; exact goOk_next (by omega) hu1 hu2), (by (try dsimp only); rw [hu2]; exact hsk (by omega))⟩, (by omega)⟩
 refine X.exit (thenQ_exit (thenQ_exit (blockQ_exit ?_)))
 refine X.seq (X.region ?_)
 refine XL.as (.bool (true)) rfl ?_
 refine XL.nil ?_
 refine X.ret (retEnd (L' := L) [.bool (true)] (.bool (true)) (.tmp rfl .nil) rfl rF leG1 (sD (sD sR)) ?_)
 exact ⟨(vB (by rw [hgo, goOk_end (by omega)]; simp_all <;> omega)), rfl, rfl⟩

/- impl.WalkOk -/
theorem WalkOk_spec {F : FH} {L : List HP} {arv : Value} {ar : List Int} (har : IntsF F arv ar) {rsv : Value} {rs : List (List Int × List Int)} (hrs : PairsF F rsv rs) {fv : Value} {f : List Int} (hf : IntsF F fv f) {ssv : Value} {ss : List StepT} (hss : StepsF F ssv ss) (hlf : f.length ≤ 4000000) (hsb : ∀ i, i < ss.length → (ss.getD i (0, 0, [])).2.2.length ≤ 4000000) :
    Does prog 14 [.agg #[arv, rsv], .agg #[fv, ssv]] F (L) (fun v F' L' => (.bool (walkOkL ar rs f ss) : Value) = v ∧ F = F' ∧ L = L') := by
 refine Does.of_X func14 rfl rfl rfl ?_
 refine X.seq (X.region ?_)
 refine cX (XOp.box [arv, rsv] rfl rfl ?_)
 intro b1
 refine cX (XOp.box [fv, ssv] rfl rfl ?_)
 intro b2
 refine XL.as (.bool (false)) rfl ?_
 refine XL.nil (X.seq (X.region ?_))
 refine cX (XOp.loadN [arv, rsv] isAgg29 sizeOf29 rfl rfl (Rd.ownN [_] rfl rfl) ?_)
 refine cX (XOp.call (args := [.agg #[arv, rsv]]) call56 rfl (SystemOk_spec har hrs) ?_)
 rintro _ _ _ _ ⟨rfl, rfl, rfl⟩
 refine XL.mv (.bool (sysOk ar rs)) rfl ?_
 by_cases h1 : (sysOk ar rs) = true
 ·refine XL.yes (t := 7) rfl (vB h1) (XOp.loadN [arv, rsv] isAgg29 sizeOf29 rfl rfl (Rd.ownN [_] rfl rfl) ?_)
  refine XL.yes (t := 7) rfl (vB h1) (XOp.loadN [fv, ssv] isAgg34 sizeOf34 rfl rfl (Rd.ownN [] rfl rfl) ?_)
  refine XL.yes (t := 7) rfl (vB h1) (XOp.call (args := [.agg #[arv, rsv], .agg #[fv, ssv]]) call57 rfl (walkOk_spec har hrs hf hss (hlf := (by first | assumption | rfl | omega | simp)) (hsb := (by first | assumption | rfl | omega | simp))) ?_)
  rintro _ _ _ _ ⟨rfl, rfl, rfl⟩
  refine cX (XOp.pickT (.bool (((termOk ar f && decide (ss.length ≤ 60)) && goOk ar rs f ss))) (vB h1) rfl ?_)
  refine XL.as (.bool (((termOk ar f && decide (ss.length ≤ 60)) && goOk ar rs f ss))) rfl ?_
  refine XL.nil ?_
  refine X.ret (retEnd (L' := L) [.bool (((termOk ar f && decide (ss.length ≤ 60)) && goOk ar rs f ss))] (.bool (((termOk ar f && decide (ss.length ≤ 60)) && goOk ar rs f ss))) (.tmp rfl .nil) rfl rF rF (sD (sD sR)) ?_)
  exact ⟨(vB (by rw [walkOkL, rightB]; simp_all [Bool.and_assoc])), rfl, rfl⟩
 rw [Bool.not_eq_true] at h1
 refine XL.no (t := 7) rfl (vB h1) ?_
 refine XL.no (t := 7) rfl (vB h1) ?_
 refine XL.no (t := 7) rfl (vB h1) ?_
 refine cX (XOp.pickF (.bool (false)) (vB h1) rfl ?_)
 refine XL.as (.bool (false)) rfl ?_
 refine XL.nil ?_
 refine X.ret (retEnd (L' := L) [.bool (false)] (.bool (false)) (.tmp rfl .nil) rfl rF rF (sD (sD sR)) ?_)
 exact ⟨(vB (by rw [walkOkL, rightB]; simp_all [Bool.and_assoc])), rfl, rfl⟩

/- (impl.Walk).end -/
theorem walkEnd_spec {F : FH} {L : List HP} {fv : Value} {f : List Int} (hf : IntsF F fv f) {ssv : Value} {ss : List StepT} (hss : StepsF F ssv ss) (hlss : ss.length ≤ 4000000) :
    Does prog 61 [.agg #[fv, ssv]] F (L) (fun v F' L' => F = F' ∧ ∃ (a : Value), (a : Value) = v ∧ (IntsF F' a (endL f ss)) ∧ L = L') := by
 refine Does.of_X func61 rfl rfl rfl ?_
 refine X.seq (X.region ?_)
 refine cX (XOp.box [fv, ssv] rfl rfl ?_)
 intro b1
 refine XL.as ((.slice none 0 0)) rfl ?_
 refine XL.nil (X.seq (X.seq (X.region ?_)))
 refine cX (XOp.fieldP (b := b1) (1) runUnderlying34 rfl sizeOf32 (by decide) rfl rfl ?_)
 refine cX (XOp.load1 (v := ssv) isAgg32 rfl (Rd.own [] rfl rfl) ?_)
 refine cX (XOp.lenS (v := ssv) (n := (ss).length) runUnderlying32 rfl hss.slv ?_)
 refine XL.as (.int .i64 ((ss.length : Int))) rfl ?_
 refine XL.nil (X.seq (X.region ?_))
 refine XL.mv (.int .i64 ((ss.length : Int))) rfl ?_
 refine cX (XOp.gtr (a := (ss.length : Int)) (b := 0) rfl rfl ?_)
 refine XL.nil ?_
 refine X.condD (p := ((ss.length : Int) : Int) > 0) rfl (fun h1 => ?_) (fun h1 => ?_)
 ·refine X.seq (X.region ?_)
  refine cX (XOp.fieldP (b := b1) (1) runUnderlying34 rfl sizeOf32 (by decide) rfl rfl ?_)
  refine cX (XOp.load1 (v := ssv) isAgg32 rfl (Rd.own [] rfl rfl) ?_)
  refine XL.mv (.int .i64 ((ss.length : Int))) rfl ?_
  refine cX (XOp.subR (a := (ss.length : Int)) (b := 1) (((((ss).length) - 1 : Nat) : Int)) rfl rfl (by omega) (by omega) ?_)
  refine cX (XOp.indexS (v := ssv) (i := ((((ss).length) - 1 : Nat) : Int)) (n := (ss).length) (((ss).length) - 1) runUnderlying32 sizeOf68 rfl rfl rfl hss.slv (by omega) rfl ?_)
  refine cX (XOp.fieldE (v := ssv) ((((ss).length) - 1) * 3 + 2) runUnderlying68 rfl sizeOf24 (by decide) rfl rfl ?_)
  obtain ⟨a1, ha1, hr1, hr2, hr3⟩ := hss.rd (i := ((ss).length) - 1) (by omega)
  refine cX (XOp.load1 (v := a1) isAgg24 rfl (hr3 _) ?_)
  refine XL.as (a1) rfl ?_
  refine XL.nil ?_
  refine X.ret (thenQ_ret (retEnd (L' := L) [a1] (a1) (.tmp rfl .nil) rfl rF rF (sD sR) ?_))
  exact ⟨rfl, _, rfl, by rw [endL, if_neg (by omega)]; exact ha1, rfl⟩
 refine X.skip (X.seq (X.region ?_))
 refine cX (XOp.fieldP (b := b1) (0) runUnderlying34 rfl sizeOf24 (by decide) rfl rfl ?_)
 refine cX (XOp.load1 (v := fv) isAgg24 rfl (Rd.own [] rfl rfl) ?_)
 refine XL.as (fv) rfl ?_
 refine XL.nil ?_
 refine X.ret (retEnd (L' := L) [fv] (fv) (.tmp rfl .nil) rfl rF rF (sD sR) ?_)
 exact ⟨rfl, _, rfl, by rw [endL, if_pos (by omega)]; exact hf, rfl⟩

/- impl.EndTerm -/
theorem EndTerm_spec {F : FH} {L : List HP} {arv : Value} {ar : List Int} (har : IntsF F arv ar) {rsv : Value} {rs : List (List Int × List Int)} (hrs : PairsF F rsv rs) {fv : Value} {f : List Int} (hf : IntsF F fv f) {ssv : Value} {ss : List StepT} (hss : StepsF F ssv ss) (hlf : f.length ≤ 4000000) (hsb : ∀ i, i < ss.length → (ss.getD i (0, 0, [])).2.2.length ≤ 4000000) :
    Does prog 16 [.agg #[arv, rsv], .agg #[fv, ssv]] F (L) (fun v F' L' => F = F' ∧ IsSl v ∧ intsH 2 v (endT ar rs f ss) :: L = L') := by
 refine Does.of_X func16 rfl rfl rfl ?_
 refine X.seq (X.region ?_)
 refine cX (XOp.box [arv, rsv] rfl rfl ?_)
 intro b1
 refine cX (XOp.box [fv, ssv] rfl rfl ?_)
 intro b2
 refine XL.as ((.slice none 0 0)) rfl ?_
 refine XL.nil (X.seq (X.seq (X.region ?_)))
 refine cX (XOp.loadN [arv, rsv] isAgg29 sizeOf29 rfl rfl (Rd.ownN [_] rfl rfl) ?_)
 refine cX (XOp.loadN [fv, ssv] isAgg34 sizeOf34 rfl rfl (Rd.ownN [] rfl rfl) ?_)
 refine cX (XOp.call (args := [.agg #[arv, rsv], .agg #[fv, ssv]]) call14 rfl (WalkOk_spec har hrs hf hss (hlf := (by first | assumption | rfl | omega | simp)) (hsb := (by first | assumption | rfl | omega | simp))) ?_)
 rintro _ _ _ _ ⟨rfl, rfl, rfl⟩
 refine cX (XOp.notB (b := walkOkL ar rs f ss) rfl ?_)
 refine XL.nil ?_
 refine X.cond (t := !(walkOkL ar rs f ss)) rfl (fun h1 => ?_) (fun h1 => ?_)
 ·refine X.seq (X.region ?_)
  refine XL.as ((.slice none 0 0)) rfl ?_
  refine XL.nil ?_
  refine X.ret (thenQ_ret (retEnd (L' := intsH 2 ((.slice none 0 0)) ([]) :: L) [(.slice none 0 0)] ((.slice none 0 0)) (.tmp rfl .nil) rfl rF rF (Sub.trans (intsH.addNil 2 none _) (sC (sD (sD sR)))) ?_))
  refine ⟨rfl, ⟨_, _, _, rfl⟩, ?_⟩
  have hxs : (endT ar rs f ss : List Int) = [] := by rw [endT, if_neg (by simp_all)]
  exact congrArg (fun z => intsH 2 _ z :: L) hxs
 have hwk : walkOkL ar rs f ss = true := by simpa using h1
 have hel := termOk_len (right_iff.1 (walkOk_end hwk)).2
 have hwl := (walkOkL_iff.1 hwk).2.1
 refine X.skip (X.seq (X.region ?_))
 refine cX (XOp.loadN [fv, ssv] isAgg34 sizeOf34 rfl rfl (Rd.ownN [] rfl rfl) ?_)
 refine cX (XOp.call (args := [.agg #[fv, ssv]]) call61 rfl (walkEnd_spec hf hss (hlss := (by first | assumption | rfl | omega | simp))) ?_)
 rintro _ _ _ _ ⟨rfl, x1, rfl, hr1, rfl⟩
 refine cX (XOp.call (args := [x1]) call60 rfl (Clone_spec hr1 (hlt := (by first | assumption | rfl | omega | simp))) ?_)
 rintro v1 _ _ _ ⟨rfl, hs1, rfl⟩
 refine XL.as (v1) rfl ?_
 refine XL.nil ?_
 refine X.ret (retEnd (L' := intsH 2 v1 (((endL f ss))) :: L) [v1] (v1) (.tmp rfl .nil) rfl rF rF (sC (sD (sD sR))) ?_)
 refine ⟨rfl, hs1, ?_⟩
 have hxs : (endT ar rs f ss : List Int) = ((endL f ss)) := by rw [endT, if_pos hwk]
 exact congrArg (fun z => intsH 2 _ z :: L) hxs

/- impl.NormalBy -/
theorem NormalBy_spec {F : FH} {L : List HP} {arv : Value} {ar : List Int} (har : IntsF F arv ar) {rsv : Value} {rs : List (List Int × List Int)} (hrs : PairsF F rsv rs) {tv : Value} {t : List Int} (ht : IntsF F tv t) {st : Int} {n : Int} :
    Does prog 17 [.agg #[arv, rsv], tv, .int .i64 (st), .int .i64 (n)] F (L) (fun v F' L' => ∃ (a : Value), (.tuple #[a, .bool ((normB ar rs t st n).2)] : Value) = v ∧ (IntsF F' a (normB ar rs t st n).1) ∧ (Fresh F F' (star [intsH 2 a (normB ar rs t st n).1])) ∧ L = L') := by
 refine Does.of_X func17 rfl rfl rfl ?_
 refine X.seq (X.region ?_)
 refine cX (XOp.box [arv, rsv] rfl rfl ?_)
 intro b1
 refine XL.as ((.slice none 0 0)) rfl ?_
 refine XL.as (.bool (false)) rfl ?_
 refine XL.nil (X.seq (X.region ?_))
 refine cX (XOp.loadN [arv, rsv] isAgg29 sizeOf29 rfl rfl (Rd.ownN [] rfl rfl) ?_)
 refine XL.mv (tv) rfl ?_
 refine XL.mv (.int .i64 (st)) rfl ?_
 refine XL.mv (.int .i64 (n)) rfl ?_
 refine cX (XOp.call (args := [.agg #[arv, rsv], tv, .int .i64 (st), .int .i64 (n)]) call9 rfl (WalkBy_spec (st := st) (n := n) har hrs ht) ?_)
 rintro _ F1 _ le1 ⟨x1, x2, rfl, hr1, hr2, hr3, rfl⟩
 refine XL.mv (.tuple #[.agg #[x1, x2], .bool ((walkB ar rs t st n).2.2)]) rfl ?_
 refine cX (XOp.extract (.agg #[x1, x2]) rfl rfl ?_)
 refine cX (XOp.extract (.bool ((walkB ar rs t st n).2.2)) rfl rfl ?_)
 refine cX (XOp.alloc [(.slice none 0 0), (.slice none 0 0)] zeroValue34 rfl ?_)
 intro b2
 refine cX (XOp.storeN (vs := [x1, x2]) [] _ [x1, x2] sizeOf34 rfl rfl rfl (ones_cons (one_sl (IntsF.isSl hr1)) (ones_cons (one_sl (StepsF.isSl hr2)) ones_nil)) rfl rfl rfl ?_)
 refine XL.as (.bool ((walkB ar rs t st n).2.2)) rfl ?_
 refine XL.nil (X.seq (X.seq (X.region ?_)))
 refine XL.mv (.bool ((walkB ar rs t st n).2.2)) rfl ?_
 refine cX (XOp.notB (b := (walkB ar rs t st n).2.2) rfl ?_)
 refine XL.nil ?_
 refine X.cond (t := !((walkB ar rs t st n).2.2)) rfl (fun h1 => ?_) (fun h1 => ?_)
 ·have hw2 : (walkB ar rs t st n).2.2 = false := by simpa using h1
  refine X.seq (X.region ?_)
  refine XL.as ((.slice none 0 0)) rfl ?_
  refine XL.as (.bool (false)) rfl ?_
  refine XL.nil ?_
  refine X.ret (thenQ_ret (retEnd (L' := L) [(.slice none 0 0), .bool (false)] (.tuple #[(.slice none 0 0), .bool (false)]) (.tmp rfl (.tmp rfl .nil)) rfl le1 rF (sD (sD sR)) ?_))
  have e : normB ar rs t st n = ([], false) := by rw [normB, if_neg (by rw [hw2]; simp)]
  exact ⟨_, by rw [e], by rw [e]; exact IntsF.nilV, by rw [e]; exact Fresh.one (Fresh.ofNil _), rfl⟩
 have hw2 : (walkB ar rs t st n).2.2 = true := by simpa using h1
 obtain ⟨hw3, hw4, hw5, hw6⟩ := walkB_ok hw2
 have hel : 1 ≤ (endL (walkB ar rs t st n).1 (walkB ar rs t st n).2.1).length ∧ (endL (walkB ar rs t st n).1 (walkB ar rs t st n).2.1).length ≤ 60 := by rw [hw4]; exact termOk_len hw6
 have hwl := walkB_len (ar := ar) (rs := rs) (t := t) (st := st) (n := n)
 refine X.skip (X.seq (X.region ?_))
 refine cX (XOp.loadN [x1, x2] isAgg34 sizeOf34 rfl rfl (Rd.ownN [] rfl rfl) ?_)
 refine cX (XOp.call (args := [.agg #[x1, x2]]) call61 rfl (walkEnd_spec hr1 hr2 (hlss := (by first | assumption | rfl | omega | simp))) ?_)
 rintro _ _ _ _ ⟨rfl, x3, rfl, hr4, rfl⟩
 refine cX (XOp.frzF <| XOp.call (args := [x3]) call60 rfl (Clone_spec hr4 (hlt := (by first | assumption | rfl | omega | simp))) ?_)
 rintro v1 _ _ _ ⟨rfl, hs1, rfl⟩
 refine ⟨_, _, rfl, fun F3 le3 hz1 => ?_⟩
 have hf1 : IntsF F3 v1 (((endL ((walkB ar rs t st n).1) ((walkB ar rs t st n).2.1)))) := intsH.fz (xs := ((endL ((walkB ar rs t st n).1) ((walkB ar rs t st n).2.1)))) hz1.fz
 refine XL.as (v1) rfl ?_
 refine XL.as (.bool (true)) rfl ?_
 refine XL.nil ?_
 refine X.ret (retEnd (L' := L) [v1, .bool (true)] (.tuple #[v1, .bool (true)]) (.tmp rfl (.tmp rfl .nil)) rfl (FLe.trans le1 le3) rF (sD (sD sR)) ?_)
 have e : normB ar rs t st n = (endL (walkB ar rs t st n).1 (walkB ar rs t st n).2.1, true) := by rw [normB, if_pos hw2]
 exact ⟨_, by rw [e], by rw [e]; exact hf1, by rw [e]; exact ((Fresh.one hz1).base le1), rfl⟩
end Go.Proofs.YtmaaifhmhclhdaaGreat
set_option linter.unusedSimpArgs false
set_option linter.unusedVariables false
namespace Go.Proofs.YtmaaifhmhclhdaaGreat
open Go X M Tryz
end Go.Proofs.YtmaaifhmhclhdaaGreat
set_option linter.unusedSimpArgs false
set_option linter.unusedVariables false
namespace Go.Proofs.YtmaaifhmhclhdaaGreat
open Go X M Tryz
end Go.Proofs.YtmaaifhmhclhdaaGreat
set_option linter.unusedSimpArgs false
set_option linter.unusedVariables false
namespace Go.Proofs.YtmaaifhmhclhdaaGreat
open Go X M Tryz
end Go.Proofs.YtmaaifhmhclhdaaGreat
set_option linter.unusedSimpArgs false
set_option linter.unusedVariables false
namespace Go.Proofs.YtmaaifhmhclhdaaGreat
open Go X M Tryz

/- laws.big -/
theorem big_spec {F : FH} {L : List HP} {bsv : Value} {bs : List Int} (hbs : BytesF F bsv bs) :
    Does prog 7 [bsv] F (L) (fun v F' L' => (.bool (decide ((bs.length : Int) > 4096)) : Value) = v ∧ F = F' ∧ L = L') := by
 refine Does.of_X func7 rfl rfl rfl ?_
 refine X.seq (X.region ?_)
 refine XL.as (.bool (false)) rfl ?_
 refine XL.nil (X.seq (X.region ?_))
 refine XL.mv (bsv) rfl ?_
 refine cX (XOp.lenS (v := bsv) (n := (bs).length) runUnderlying22 rfl hbs.slv ?_)
 refine cX (XOp.gtr (a := (bs.length : Int)) (b := 4096) rfl rfl ?_)
 refine XL.as (.bool (decide (((bs.length : Int) : Int) > 4096))) rfl ?_
 refine XL.nil ?_
 refine X.ret (retEnd (L' := L) [.bool (decide (((bs.length : Int) : Int) > 4096))] (.bool (decide (((bs.length : Int) : Int) > 4096))) (.tmp rfl .nil) rfl rF rF sR ?_)
 exact ⟨rfl, rfl, rfl⟩

/- impl.NormalIn -/
theorem iNormalIn_spec {F : FH} {L : List HP} {arv : Value} {ar : List Int} (har : IntsF F arv ar) {rsv : Value} {rs : List (List Int × List Int)} (hrs : PairsF F rsv rs) {tv : Value} {t : List Int} (ht : IntsF F tv t) :
    Does prog 15 [.agg #[arv, rsv], tv] F (L) (fun v F' L' => (.bool ((rightB ar rs t && normalL ar rs t)) : Value) = v ∧ F = F' ∧ L = L') := by
 refine Does.of_X func15 rfl rfl rfl ?_
 refine X.seq (X.region ?_)
 refine cX (XOp.box [arv, rsv] rfl rfl ?_)
 intro b1
 refine XL.as (.bool (false)) rfl ?_
 refine XL.nil (X.seq (X.region ?_))
 refine cX (XOp.loadN [arv, rsv] isAgg29 sizeOf29 rfl rfl (Rd.ownN [] rfl rfl) ?_)
 refine cX (XOp.call (args := [.agg #[arv, rsv]]) call56 rfl (SystemOk_spec har hrs) ?_)
 rintro _ _ _ _ ⟨rfl, rfl, rfl⟩
 refine XL.mv (.bool (sysOk ar rs)) rfl ?_
 by_cases h1 : (sysOk ar rs) = true
 ·refine XL.yes (t := 7) rfl (vB h1) (XOp.fieldP (b := b1) (0) runUnderlying29 rfl sizeOf26 (by decide) rfl rfl ?_)
  refine XL.yes (t := 7) rfl (vB h1) (XOp.loadN [arv] isAgg26 sizeOf26 rfl rfl (Rd.ownN [] rfl rfl) ?_)
  refine XL.yes (t := 7) rfl (vB h1) (XOp.move (tv) rfl ?_)
  refine XL.yes (t := 7) rfl (vB h1) (XOp.call (args := [.agg #[arv], tv]) call58 rfl (TermOk_spec har ht) ?_)
  rintro _ _ _ _ ⟨rfl, rfl, rfl⟩
  refine cX (XOp.pickT (.bool (termOk ar t)) (vB h1) rfl ?_)
  refine XL.mv (.bool (termOk ar t)) rfl ?_
  by_cases h2 : (termOk ar t) = true
  ·refine XL.yes (t := 13) rfl (vB h2) (XOp.loadN [arv, rsv] isAgg29 sizeOf29 rfl rfl (Rd.ownN [] rfl rfl) ?_)
   refine XL.yes (t := 13) rfl (vB h2) (XOp.move (tv) rfl ?_)
   refine XL.yes (t := 13) rfl (vB h2) (XOp.call (args := [.agg #[arv, rsv], tv]) call59 rfl (normal_spec har hrs ht (hsys := (by first | assumption | rfl | omega | simp)) (ho := (by first | assumption | rfl | omega | simp))) ?_)
   rintro _ _ _ _ ⟨rfl, rfl, rfl⟩
   refine cX (XOp.pickT (.bool (normalL ar rs t)) (vB h2) rfl ?_)
   refine XL.as (.bool (normalL ar rs t)) rfl ?_
   refine XL.nil ?_
   refine X.ret (retEnd (L' := L) [.bool (normalL ar rs t)] (.bool (normalL ar rs t)) (.tmp rfl .nil) rfl rF rF (sD sR) ?_)
   exact ⟨(vB (by unfold rightB; simp_all)), rfl, rfl⟩
  rw [Bool.not_eq_true] at h2
  refine XL.no (t := 13) rfl (vB h2) ?_
  refine XL.no (t := 13) rfl (vB h2) ?_
  refine XL.no (t := 13) rfl (vB h2) ?_
  refine cX (XOp.pickF (.bool (false)) (vB h2) rfl ?_)
  refine XL.as (.bool (false)) rfl ?_
  refine XL.nil ?_
  refine X.ret (retEnd (L' := L) [.bool (false)] (.bool (false)) (.tmp rfl .nil) rfl rF rF (sD sR) ?_)
  exact ⟨(vB (by unfold rightB; simp_all)), rfl, rfl⟩
 rw [Bool.not_eq_true] at h1
 refine XL.no (t := 7) rfl (vB h1) ?_
 refine XL.no (t := 7) rfl (vB h1) ?_
 refine XL.no (t := 7) rfl (vB h1) ?_
 refine XL.no (t := 7) rfl (vB h1) ?_
 refine cX (XOp.pickF (.bool (false)) (vB h1) rfl ?_)
 refine XL.mv (.bool (false)) rfl ?_
 refine XL.no (t := 13) rfl rfl ?_
 refine XL.no (t := 13) rfl rfl ?_
 refine XL.no (t := 13) rfl rfl ?_
 refine cX (XOp.pickF (.bool (false)) rfl rfl ?_)
 refine XL.as (.bool (false)) rfl ?_
 refine XL.nil ?_
 refine X.ret (retEnd (L' := L) [.bool (false)] (.bool (false)) (.tmp rfl .nil) rfl rF rF (sD sR) ?_)
 exact ⟨(vB (by unfold rightB; simp_all)), rfl, rfl⟩

/- impl.SameTerm -/
theorem iSameTerm_spec {F : FH} {L : List HP} {av : Value} {a : List Int} (ha : IntsF F av a) {bv : Value} {b : List Int} (hb : IntsF F bv b) (hbd : a.length ≤ 9223372036854775807 ∨ b.length ≤ 9223372036854775807) :
    Does prog 18 [av, bv] F (L) (fun v F' L' => (.bool (decide (a = b)) : Value) = v ∧ F = F' ∧ L = L') := by
 refine Does.of_X func18 rfl rfl rfl ?_
 refine X.seq (X.region ?_)
 refine XL.as (.bool (false)) rfl ?_
 refine XL.nil (X.seq (X.region ?_))
 refine XL.mv (av) rfl ?_
 refine XL.mv (bv) rfl ?_
 refine cX (XOp.call (args := [av, bv]) call62 rfl (Equal_spec ha hb (hbd := (by first | assumption | rfl | omega | (left; simp; done) | (right; simp; done)))) ?_)
 rintro _ _ _ _ ⟨rfl, rfl, rfl⟩
 refine XL.as (.bool (decide (a = b))) rfl ?_
 refine XL.nil ?_
 refine X.ret (retEnd (L' := L) [.bool (decide (a = b))] (.bool (decide (a = b))) (.tmp rfl .nil) rfl rF rF sR ?_)
 exact ⟨rfl, rfl, rfl⟩

/- laws.w5Steps -/
set_option maxRecDepth 20000 in
theorem w5Steps_spec {F : FH} {L : List HP} {xsv : Value} {xs : List StepT} (hxs : StepsF F xsv xs) {ysv : Value} (hys : StepsF F ysv xs) (hbd : xs.length ≤ 4000000) (hbe : ∀ i, i < xs.length → (xs.getD i (0, 0, [])).2.2.length ≤ 4000000) :
    Does prog 11 [xsv, ysv] F (L) (fun v F' L' => (.bool (true) : Value) = v ∧ F = F' ∧ L = L') := by
 refine Does.of_X func11 rfl rfl rfl ?_
 refine X.seq (X.region ?_)
 refine XL.as (.bool (false)) rfl ?_
 refine XL.nil (X.seq (X.seq (X.region ?_)))
 refine XL.mv (xsv) rfl ?_
 refine cX (XOp.lenS (v := xsv) (n := (xs).length) runUnderlying32 rfl hxs.slv ?_)
 refine XL.mv (ysv) rfl ?_
 refine cX (XOp.lenS (v := ysv) (n := (xs).length) runUnderlying32 rfl hys.slv ?_)
 refine cX (XOp.neq (a := (xs.length : Int)) (b := (xs.length : Int)) rfl rfl ?_)
 refine XL.nil ?_
 refine X.condD (p := ((xs.length : Int) : Int) ≠ (xs.length : Int)) rfl (fun h1 => ?_) (fun h1 => ?_)
 ·exact absurd rfl h1
 refine X.skip (X.seq (X.seq (X.region ?_)))
 refine XL.as (.int .i64 (0)) rfl ?_
 refine XL.nil (X.block ?_)
 refine X.loop (α := Nat) (fun k => [(0, xsv), (1, ysv), (5, .int .i64 ((k : Int)))]) (fun k => L) (fun k F' => F = F' ∧ (k ≤ xs.length)) (fun k => xs.length - k) 0 ⟨rfl, rfl, rfl, trivial⟩ sR ⟨rfl, (Nat.zero_le _)⟩ ?_
 rintro k rE _ _ ⟨rfl, hk⟩
 show X _ _ _ _ (envs [(0, xsv), (1, ysv), (5, .int .i64 ((k : Int)))] rE) _ (L)
 refine X.seq (X.seq (X.region ?_))
 refine XL.mv (.int .i64 ((k : Int))) rfl ?_
 refine XL.mv (xsv) rfl ?_
 refine cX (XOp.lenS (v := xsv) (n := (xs).length) runUnderlying32 rfl hxs.slv ?_)
 refine cX (XOp.lss (a := (k : Int)) (b := (xs.length : Int)) rfl rfl ?_)
 refine XL.nil ?_
 refine X.condD (p := (k : Int) < (xs.length : Int)) rfl (fun h2 => ?_) (fun h2 => ?_)
 ·refine X.skip (X.seq (X.block (X.seq ?_)))
  obtain ⟨a1, ha1, hr1, hr2, hr3⟩ := hxs.rd (i := k) (by omega)
  obtain ⟨a2, ha2, hr4, hr5, hr6⟩ := hys.rd (i := k) (by omega)
  by_cases h3 : ((xs.getD k (0, 0, [])).1 : Int) ≠ (xs.getD k (0, 0, [])).1
  ·exact absurd rfl h3
  by_cases h4 : ((xs.getD k (0, 0, [])).2.1 : Int) ≠ (xs.getD k (0, 0, [])).2.1
  ·exact absurd rfl h4
  refine X.draw [] L 35 [[], [], [], [], [], [], [], [], [], [], [], [], [], [], [], [], [], [], [], [], [], [], [], [], [], [], [], [], [], [], [], [], [], [], []] [[], [], [0, 1], [2], [3], [], [], [5, 6], [7], [8], [4, 9], [10], [11], [11], [11, 12, 13], [11, 14], [11, 15], [11], [11], [11, 17, 18], [11, 19], [11, 20], [11, 16, 21], [11, 22], [23], [24], [24], [24, 25, 26], [24, 27], [24, 28], [24], [24], [24, 30, 31], [24, 32], [24, 33]] (phiL [fun us v => v = xsv, fun us v => v = (.int .i64 ((k : Int)) : Value), fun us v => v = (.pointer (some (elemA xsv (k * 3))) : Value), fun us v => v = (.pointer (some (elemA xsv (k * 3))) : Value), fun us v => v = (.int .i64 ((xs.getD k (0, 0, [])).1) : Value), fun us v => v = ysv, fun us v => v = (.int .i64 ((k : Int)) : Value), fun us v => v = (.pointer (some (elemA ysv (k * 3))) : Value), fun us v => v = (.pointer (some (elemA ysv (k * 3))) : Value), fun us v => v = (.int .i64 ((xs.getD k (0, 0, [])).1) : Value), fun us v => v = (.bool (decide (((xs.getD k (0, 0, [])).1 : Int) ≠ (xs.getD k (0, 0, [])).1)) : Value), fun us v => v = (.bool (decide (((xs.getD k (0, 0, [])).1 : Int) ≠ (xs.getD k (0, 0, [])).1)) : Value), fun us v => v = xsv, fun us v => v = (.int .i64 ((k : Int)) : Value), fun us v => v = (.pointer (some (elemA xsv (k * 3))) : Value), fun us v => v = (.pointer (some (elemA xsv (k * 3 + 1))) : Value), fun us v => v = (.int .i64 ((xs.getD k (0, 0, [])).2.1) : Value), fun us v => v = ysv, fun us v => v = (.int .i64 ((k : Int)) : Value), fun us v => v = (.pointer (some (elemA ysv (k * 3))) : Value), fun us v => v = (.pointer (some (elemA ysv (k * 3 + 1))) : Value), fun us v => v = (.int .i64 ((xs.getD k (0, 0, [])).2.1) : Value), fun us v => v = (.bool (decide (((xs.getD k (0, 0, [])).2.1 : Int) ≠ (xs.getD k (0, 0, [])).2.1)) : Value), fun us v => v = (.bool (decide (((xs.getD k (0, 0, [])).2.1 : Int) ≠ (xs.getD k (0, 0, [])).2.1)) : Value), fun us v => v = (.bool (decide (((xs.getD k (0, 0, [])).2.1 : Int) ≠ (xs.getD k (0, 0, [])).2.1)) : Value), fun us v => v = xsv, fun us v => v = (.int .i64 ((k : Int)) : Value), fun us v => v = (.pointer (some (elemA xsv (k * 3))) : Value), fun us v => v = (.pointer (some (elemA xsv (k * 3 + 2))) : Value), fun us v => v = a1, fun us v => v = ysv, fun us v => v = (.int .i64 ((k : Int)) : Value), fun us v => v = (.pointer (some (elemA ysv (k * 3))) : Value), fun us v => v = (.pointer (some (elemA ysv (k * 3 + 2))) : Value), fun us v => v = a2]) (ownL [fun us v => [], fun us v => [], fun us v => [], fun us v => [], fun us v => [], fun us v => [], fun us v => [], fun us v => [], fun us v => [], fun us v => [], fun us v => [], fun us v => [], fun us v => [], fun us v => [], fun us v => [], fun us v => [], fun us v => [], fun us v => [], fun us v => [], fun us v => [], fun us v => [], fun us v => [], fun us v => [], fun us v => [], fun us v => [], fun us v => [], fun us v => [], fun us v => [], fun us v => [], fun us v => [], fun us v => [], fun us v => [], fun us v => [], fun us v => [], fun us v => []]) mixed rfl rfl (by kernel_rfl) ?_ ?_
  ·refine pC (fun vals R hpZ => ?_) ?_
   ·refine XG.op (XOp.move (xsv) rfl ?_)
    exact ⟨rfl, rfl, rfl⟩
   refine pC (fun vals R hpZ => ?_) ?_
   ·refine XG.op (XOp.move (.int .i64 ((k : Int))) rfl ?_)
    exact ⟨rfl, rfl, rfl⟩
   refine pC (fun vals R hpZ => ?_) ?_
   ·rw [eS (l := [(0, xsv), (1, (.int .i64 ((k : Int)) : Value))]) ⟨hpZ 0 (by decide), hpZ 1 (by decide), trivial⟩]
    refine XG.op (XOp.indexS (v := xsv) (i := (k : Int)) (n := (xs).length) k runUnderlying32 sizeOf68 rfl rfl rfl hxs.slv (by omega) rfl ?_)
    exact ⟨rfl, rfl, rfl⟩
   refine pC (fun vals R hpZ => ?_) ?_
   ·rw [eS (l := [(2, (.pointer (some (elemA xsv (k * 3))) : Value))]) ⟨hpZ 2 (by decide), trivial⟩]
    refine XG.op (XOp.fieldE (v := xsv) (k * 3) runUnderlying68 rfl sizeOf2 (by decide) rfl rfl ?_)
    exact ⟨rfl, rfl, rfl⟩
   refine pC (fun vals R hpZ => ?_) ?_
   ·rw [eS (l := [(3, (.pointer (some (elemA xsv (k * 3))) : Value))]) ⟨hpZ 3 (by decide), trivial⟩]
    refine XG.op (XOp.load1 (v := .int .i64 ((xs.getD k (0, 0, [])).1)) isAgg2 rfl (hr1 _) ?_)
    exact ⟨rfl, rfl, rfl⟩
   refine pC (fun vals R hpZ => ?_) ?_
   ·refine XG.op (XOp.move (ysv) rfl ?_)
    exact ⟨rfl, rfl, rfl⟩
   refine pC (fun vals R hpZ => ?_) ?_
   ·refine XG.op (XOp.move (.int .i64 ((k : Int))) rfl ?_)
    exact ⟨rfl, rfl, rfl⟩
   refine pC (fun vals R hpZ => ?_) ?_
   ·rw [eS (l := [(5, ysv), (6, (.int .i64 ((k : Int)) : Value))]) ⟨hpZ 5 (by decide), hpZ 6 (by decide), trivial⟩]
    refine XG.op (XOp.indexS (v := ysv) (i := (k : Int)) (n := (xs).length) k runUnderlying32 sizeOf68 rfl rfl rfl hys.slv (by omega) rfl ?_)
    exact ⟨rfl, rfl, rfl⟩
   refine pC (fun vals R hpZ => ?_) ?_
   ·rw [eS (l := [(7, (.pointer (some (elemA ysv (k * 3))) : Value))]) ⟨hpZ 7 (by decide), trivial⟩]
    refine XG.op (XOp.fieldE (v := ysv) (k * 3) runUnderlying68 rfl sizeOf2 (by decide) rfl rfl ?_)
    exact ⟨rfl, rfl, rfl⟩
   refine pC (fun vals R hpZ => ?_) ?_
   ·rw [eS (l := [(8, (.pointer (some (elemA ysv (k * 3))) : Value))]) ⟨hpZ 8 (by decide), trivial⟩]
    refine XG.op (XOp.load1 (v := .int .i64 ((xs.getD k (0, 0, [])).1)) isAgg2 rfl (hr4 _) ?_)
    exact ⟨rfl, rfl, rfl⟩
   refine pC (fun vals R hpZ => ?_) ?_
   ·rw [eS (l := [(4, (.int .i64 ((xs.getD k (0, 0, [])).1) : Value)), (9, (.int .i64 ((xs.getD k (0, 0, [])).1) : Value))]) ⟨hpZ 4 (by decide), hpZ 9 (by decide), trivial⟩]
    refine XG.op (XOp.neq (a := (xs.getD k (0, 0, [])).1) (b := (xs.getD k (0, 0, [])).1) rfl rfl ?_)
    exact ⟨rfl, rfl, rfl⟩
   refine pC (fun vals R hpZ => ?_) ?_
   ·rw [eS (l := [(10, (.bool (decide (((xs.getD k (0, 0, [])).1 : Int) ≠ (xs.getD k (0, 0, [])).1)) : Value))]) ⟨hpZ 10 (by decide), trivial⟩]
    refine XG.op (XOp.move (.bool (decide (((xs.getD k (0, 0, [])).1 : Int) ≠ (xs.getD k (0, 0, [])).1))) rfl ?_)
    exact ⟨rfl, rfl, rfl⟩
   refine pC (fun vals R hpZ => ?_) ?_
   ·rw [eS (l := [(11, (.bool (decide (((xs.getD k (0, 0, [])).1 : Int) ≠ (xs.getD k (0, 0, [])).1)) : Value))]) ⟨hpZ 11 (by decide), trivial⟩]
    refine XG.yes (t := 28) rfl (vF h3) (XOp.move (xsv) rfl ?_)
    exact ⟨rfl, rfl, rfl⟩
   refine pC (fun vals R hpZ => ?_) ?_
   ·rw [eS (l := [(11, (.bool (decide (((xs.getD k (0, 0, [])).1 : Int) ≠ (xs.getD k (0, 0, [])).1)) : Value))]) ⟨hpZ 11 (by decide), trivial⟩]
    refine XG.yes (t := 28) rfl (vF h3) (XOp.move (.int .i64 ((k : Int))) rfl ?_)
    exact ⟨rfl, rfl, rfl⟩
   refine pC (fun vals R hpZ => ?_) ?_
   ·rw [eS (l := [(11, (.bool (decide (((xs.getD k (0, 0, [])).1 : Int) ≠ (xs.getD k (0, 0, [])).1)) : Value)), (12, xsv), (13, (.int .i64 ((k : Int)) : Value))]) ⟨hpZ 11 (by decide), hpZ 12 (by decide), hpZ 13 (by decide), trivial⟩]
    refine XG.yes (t := 28) rfl (vF h3) (XOp.indexS (v := xsv) (i := (k : Int)) (n := (xs).length) k runUnderlying32 sizeOf68 rfl rfl rfl hxs.slv (by omega) rfl ?_)
    exact ⟨rfl, rfl, rfl⟩
   refine pC (fun vals R hpZ => ?_) ?_
   ·rw [eS (l := [(11, (.bool (decide (((xs.getD k (0, 0, [])).1 : Int) ≠ (xs.getD k (0, 0, [])).1)) : Value)), (14, (.pointer (some (elemA xsv (k * 3))) : Value))]) ⟨hpZ 11 (by decide), hpZ 14 (by decide), trivial⟩]
    refine XG.yes (t := 28) rfl (vF h3) (XOp.fieldE (v := xsv) (k * 3 + 1) runUnderlying68 rfl sizeOf2 (by decide) rfl rfl ?_)
    exact ⟨rfl, rfl, rfl⟩
   refine pC (fun vals R hpZ => ?_) ?_
   ·rw [eS (l := [(11, (.bool (decide (((xs.getD k (0, 0, [])).1 : Int) ≠ (xs.getD k (0, 0, [])).1)) : Value)), (15, (.pointer (some (elemA xsv (k * 3 + 1))) : Value))]) ⟨hpZ 11 (by decide), hpZ 15 (by decide), trivial⟩]
    refine XG.yes (t := 28) rfl (vF h3) (XOp.load1 (v := .int .i64 ((xs.getD k (0, 0, [])).2.1)) isAgg2 rfl (hr2 _) ?_)
    exact ⟨rfl, rfl, rfl⟩
   refine pC (fun vals R hpZ => ?_) ?_
   ·rw [eS (l := [(11, (.bool (decide (((xs.getD k (0, 0, [])).1 : Int) ≠ (xs.getD k (0, 0, [])).1)) : Value))]) ⟨hpZ 11 (by decide), trivial⟩]
    refine XG.yes (t := 28) rfl (vF h3) (XOp.move (ysv) rfl ?_)
    exact ⟨rfl, rfl, rfl⟩
   refine pC (fun vals R hpZ => ?_) ?_
   ·rw [eS (l := [(11, (.bool (decide (((xs.getD k (0, 0, [])).1 : Int) ≠ (xs.getD k (0, 0, [])).1)) : Value))]) ⟨hpZ 11 (by decide), trivial⟩]
    refine XG.yes (t := 28) rfl (vF h3) (XOp.move (.int .i64 ((k : Int))) rfl ?_)
    exact ⟨rfl, rfl, rfl⟩
   refine pC (fun vals R hpZ => ?_) ?_
   ·rw [eS (l := [(11, (.bool (decide (((xs.getD k (0, 0, [])).1 : Int) ≠ (xs.getD k (0, 0, [])).1)) : Value)), (17, ysv), (18, (.int .i64 ((k : Int)) : Value))]) ⟨hpZ 11 (by decide), hpZ 17 (by decide), hpZ 18 (by decide), trivial⟩]
    refine XG.yes (t := 28) rfl (vF h3) (XOp.indexS (v := ysv) (i := (k : Int)) (n := (xs).length) k runUnderlying32 sizeOf68 rfl rfl rfl hys.slv (by omega) rfl ?_)
    exact ⟨rfl, rfl, rfl⟩
   refine pC (fun vals R hpZ => ?_) ?_
   ·rw [eS (l := [(11, (.bool (decide (((xs.getD k (0, 0, [])).1 : Int) ≠ (xs.getD k (0, 0, [])).1)) : Value)), (19, (.pointer (some (elemA ysv (k * 3))) : Value))]) ⟨hpZ 11 (by decide), hpZ 19 (by decide), trivial⟩]
    refine XG.yes (t := 28) rfl (vF h3) (XOp.fieldE (v := ysv) (k * 3 + 1) runUnderlying68 rfl sizeOf2 (by decide) rfl rfl ?_)
    exact ⟨rfl, rfl, rfl⟩
   refine pC (fun vals R hpZ => ?_) ?_
   ·rw [eS (l := [(11, (.bool (decide (((xs.getD k (0, 0, [])).1 : Int) ≠ (xs.getD k (0, 0, [])).1)) : Value)), (20, (.pointer (some (elemA ysv (k * 3 + 1))) : Value))]) ⟨hpZ 11 (by decide), hpZ 20 (by decide), trivial⟩]
    refine XG.yes (t := 28) rfl (vF h3) (XOp.load1 (v := .int .i64 ((xs.getD k (0, 0, [])).2.1)) isAgg2 rfl (hr5 _) ?_)
    exact ⟨rfl, rfl, rfl⟩
   refine pC (fun vals R hpZ => ?_) ?_
   ·rw [eS (l := [(11, (.bool (decide (((xs.getD k (0, 0, [])).1 : Int) ≠ (xs.getD k (0, 0, [])).1)) : Value)), (16, (.int .i64 ((xs.getD k (0, 0, [])).2.1) : Value)), (21, (.int .i64 ((xs.getD k (0, 0, [])).2.1) : Value))]) ⟨hpZ 11 (by decide), hpZ 16 (by decide), hpZ 21 (by decide), trivial⟩]
    refine XG.yes (t := 28) rfl (vF h3) (XOp.neq (a := (xs.getD k (0, 0, [])).2.1) (b := (xs.getD k (0, 0, [])).2.1) rfl rfl ?_)
    exact ⟨rfl, rfl, rfl⟩
   refine pC (fun vals R hpZ => ?_) ?_
   ·rw [eS (l := [(11, (.bool (decide (((xs.getD k (0, 0, [])).1 : Int) ≠ (xs.getD k (0, 0, [])).1)) : Value)), (22, (.bool (decide (((xs.getD k (0, 0, [])).2.1 : Int) ≠ (xs.getD k (0, 0, [])).2.1)) : Value))]) ⟨hpZ 11 (by decide), hpZ 22 (by decide), trivial⟩]
    refine XG.op (XOp.pickF (.bool (decide (((xs.getD k (0, 0, [])).2.1 : Int) ≠ (xs.getD k (0, 0, [])).2.1))) (vF h3) rfl ?_)
    exact ⟨rfl, rfl, rfl⟩
   refine pC (fun vals R hpZ => ?_) ?_
   ·rw [eS (l := [(23, (.bool (decide (((xs.getD k (0, 0, [])).2.1 : Int) ≠ (xs.getD k (0, 0, [])).2.1)) : Value))]) ⟨hpZ 23 (by decide), trivial⟩]
    refine XG.op (XOp.move (.bool (decide (((xs.getD k (0, 0, [])).2.1 : Int) ≠ (xs.getD k (0, 0, [])).2.1))) rfl ?_)
    exact ⟨rfl, rfl, rfl⟩
   refine pC (fun vals R hpZ => ?_) ?_
   ·rw [eS (l := [(24, (.bool (decide (((xs.getD k (0, 0, [])).2.1 : Int) ≠ (xs.getD k (0, 0, [])).2.1)) : Value))]) ⟨hpZ 24 (by decide), trivial⟩]
    refine XG.yes (t := 41) rfl (vF h4) (XOp.move (xsv) rfl ?_)
    exact ⟨rfl, rfl, rfl⟩
   refine pC (fun vals R hpZ => ?_) ?_
   ·rw [eS (l := [(24, (.bool (decide (((xs.getD k (0, 0, [])).2.1 : Int) ≠ (xs.getD k (0, 0, [])).2.1)) : Value))]) ⟨hpZ 24 (by decide), trivial⟩]
    refine XG.yes (t := 41) rfl (vF h4) (XOp.move (.int .i64 ((k : Int))) rfl ?_)
    exact ⟨rfl, rfl, rfl⟩
   refine pC (fun vals R hpZ => ?_) ?_
   ·rw [eS (l := [(24, (.bool (decide (((xs.getD k (0, 0, [])).2.1 : Int) ≠ (xs.getD k (0, 0, [])).2.1)) : Value)), (25, xsv), (26, (.int .i64 ((k : Int)) : Value))]) ⟨hpZ 24 (by decide), hpZ 25 (by decide), hpZ 26 (by decide), trivial⟩]
    refine XG.yes (t := 41) rfl (vF h4) (XOp.indexS (v := xsv) (i := (k : Int)) (n := (xs).length) k runUnderlying32 sizeOf68 rfl rfl rfl hxs.slv (by omega) rfl ?_)
    exact ⟨rfl, rfl, rfl⟩
   refine pC (fun vals R hpZ => ?_) ?_
   ·rw [eS (l := [(24, (.bool (decide (((xs.getD k (0, 0, [])).2.1 : Int) ≠ (xs.getD k (0, 0, [])).2.1)) : Value)), (27, (.pointer (some (elemA xsv (k * 3))) : Value))]) ⟨hpZ 24 (by decide), hpZ 27 (by decide), trivial⟩]
    refine XG.yes (t := 41) rfl (vF h4) (XOp.fieldE (v := xsv) (k * 3 + 2) runUnderlying68 rfl sizeOf24 (by decide) rfl rfl ?_)
    exact ⟨rfl, rfl, rfl⟩
   refine pC (fun vals R hpZ => ?_) ?_
   ·rw [eS (l := [(24, (.bool (decide (((xs.getD k (0, 0, [])).2.1 : Int) ≠ (xs.getD k (0, 0, [])).2.1)) : Value)), (28, (.pointer (some (elemA xsv (k * 3 + 2))) : Value))]) ⟨hpZ 24 (by decide), hpZ 28 (by decide), trivial⟩]
    refine XG.yes (t := 41) rfl (vF h4) (XOp.load1 (v := a1) isAgg24 rfl (hr3 _) ?_)
    exact ⟨rfl, rfl, rfl⟩
   refine pC (fun vals R hpZ => ?_) ?_
   ·rw [eS (l := [(24, (.bool (decide (((xs.getD k (0, 0, [])).2.1 : Int) ≠ (xs.getD k (0, 0, [])).2.1)) : Value))]) ⟨hpZ 24 (by decide), trivial⟩]
    refine XG.yes (t := 41) rfl (vF h4) (XOp.move (ysv) rfl ?_)
    exact ⟨rfl, rfl, rfl⟩
   refine pC (fun vals R hpZ => ?_) ?_
   ·rw [eS (l := [(24, (.bool (decide (((xs.getD k (0, 0, [])).2.1 : Int) ≠ (xs.getD k (0, 0, [])).2.1)) : Value))]) ⟨hpZ 24 (by decide), trivial⟩]
    refine XG.yes (t := 41) rfl (vF h4) (XOp.move (.int .i64 ((k : Int))) rfl ?_)
    exact ⟨rfl, rfl, rfl⟩
   refine pC (fun vals R hpZ => ?_) ?_
   ·rw [eS (l := [(24, (.bool (decide (((xs.getD k (0, 0, [])).2.1 : Int) ≠ (xs.getD k (0, 0, [])).2.1)) : Value)), (30, ysv), (31, (.int .i64 ((k : Int)) : Value))]) ⟨hpZ 24 (by decide), hpZ 30 (by decide), hpZ 31 (by decide), trivial⟩]
    refine XG.yes (t := 41) rfl (vF h4) (XOp.indexS (v := ysv) (i := (k : Int)) (n := (xs).length) k runUnderlying32 sizeOf68 rfl rfl rfl hys.slv (by omega) rfl ?_)
    exact ⟨rfl, rfl, rfl⟩
   refine pC (fun vals R hpZ => ?_) ?_
   ·rw [eS (l := [(24, (.bool (decide (((xs.getD k (0, 0, [])).2.1 : Int) ≠ (xs.getD k (0, 0, [])).2.1)) : Value)), (32, (.pointer (some (elemA ysv (k * 3))) : Value))]) ⟨hpZ 24 (by decide), hpZ 32 (by decide), trivial⟩]
    refine XG.yes (t := 41) rfl (vF h4) (XOp.fieldE (v := ysv) (k * 3 + 2) runUnderlying68 rfl sizeOf24 (by decide) rfl rfl ?_)
    exact ⟨rfl, rfl, rfl⟩
   refine pC (fun vals R hpZ => ?_) ?_
   ·rw [eS (l := [(24, (.bool (decide (((xs.getD k (0, 0, [])).2.1 : Int) ≠ (xs.getD k (0, 0, [])).2.1)) : Value)), (33, (.pointer (some (elemA ysv (k * 3 + 2))) : Value))]) ⟨hpZ 24 (by decide), hpZ 33 (by decide), trivial⟩]
    refine XG.yes (t := 41) rfl (vF h4) (XOp.load1 (v := a2) isAgg24 rfl (hr6 _) ?_)
    exact ⟨rfl, rfl, rfl⟩
   exact stepsP.nil
  intro vals hphi
  rw [eS (l := [(24, (.bool (decide (((xs.getD k (0, 0, [])).2.1 : Int) ≠ (xs.getD k (0, 0, [])).2.1)) : Value)), (29, a1), (34, a2)]) ⟨(hphi 24 (by decide)), (hphi 29 (by decide)), (hphi 34 (by decide)), trivial⟩]
  show XL _ _ _ _ _ _ _ (L)
  refine XL.yes (t := 41) rfl (vF h4) (XOp.call (args := [a1, a2]) call43 rfl (likeInts_spec ha1 ha2 (hbd := (.inl (by have := hbe k (by omega); omega)))) ?_)
  rintro _ _ _ _ ⟨rfl, rfl, rfl⟩
  refine XL.yes (t := 41) rfl (vF h4) (XOp.notD (p := ((xs.getD k (0, 0, [])).2.2) = ((xs.getD k (0, 0, [])).2.2)) rfl ?_)
  refine cX (XOp.pickF (.bool (decide (¬(((xs.getD k (0, 0, [])).2.2) = ((xs.getD k (0, 0, [])).2.2))))) (vF h4) rfl ?_)
  refine XL.nil ?_
  refine X.condD (p := ¬(((xs.getD k (0, 0, [])).2.2) = ((xs.getD k (0, 0, [])).2.2))) rfl (fun h5 => ?_) (fun h5 => ?_)
  ·exact absurd rfl h5
  refine X.skip (X.region ?_)
  refine XL.mv (.int .i64 ((k : Int))) rfl ?_
  refine cX (XOp.addR (a := (k : Int)) (b := 1) (((k + 1 : Nat) : Int)) rfl rfl (by omega) (by omega) ?_)
  refine XL.as (.int .i64 (((k + 1 : Nat) : Int))) rfl ?_
  refine XL.nil ?_
  exact ⟨k + 1, _, FLe.refl _, rF, ⟨rfl, rfl, rfl, trivial⟩, sR, ⟨rfl, (by (try dsimp only) <;> omega)⟩, (by omega)⟩
 refine X.exit (thenQ_exit (thenQ_exit (blockQ_exit ?_)))
 refine X.seq (X.region ?_)
 refine XL.as (.bool (true)) rfl ?_
 refine XL.nil ?_
 refine X.ret (retEnd (L' := L) [.bool (true)] (.bool (true)) (.tmp rfl .nil) rfl rF rF sR ?_)
 exact ⟨rfl, rfl, rfl⟩
end Go.Proofs.YtmaaifhmhclhdaaGreat
set_option linter.unusedSimpArgs false
set_option linter.unusedVariables false
namespace Go.Proofs.YtmaaifhmhclhdaaGreat
open Go X M Tryz

/- laws.FnOrders -/
set_option maxRecDepth 20000 in
theorem FnOrders_does {F : FH} {L : List HP} {bsv : Value} {bs : List Int} (hbs : BytesF F bsv bs) (hlb : bs.length ≤ 9223372036854775807) :
    Does prog 3 [bsv] F (L) (fun v F' L' => (.bool (true) : Value) = v ∧ F = F' ∧ L = L') := by
 refine Does.of_X func3 rfl rfl rfl ?_
 refine X.seq (X.region ?_)
 refine XL.as (.bool (false)) rfl ?_
 refine XL.nil (X.seq (X.seq (X.region ?_)))
 refine XL.mv (bsv) rfl ?_
 refine cX (XOp.call (args := [bsv]) call7 rfl (big_spec hbs) ?_)
 rintro _ _ _ _ ⟨rfl, rfl, rfl⟩
 refine XL.nil ?_
 refine X.condD (p := (bs.length : Int) > 4096) rfl (fun h1 => ?_) (fun h1 => ?_)
 ·refine X.seq (X.region ?_)
  refine XL.as (.bool (true)) rfl ?_
  refine XL.nil ?_
  refine X.ret (thenQ_ret (retEnd (L' := L) [.bool (true)] (.bool (true)) (.tmp rfl .nil) rfl rF rF sR ?_))
  exact ⟨rfl, rfl, rfl⟩
 have hbl2 : bs.length ≤ 4000000 := by omega
 refine X.skip (X.seq (X.region ?_))
 refine XL.mv (bsv) rfl ?_
 refine cX (XOp.call (args := [bsv]) call8 rfl (DrawWalkBy_spec hbs (hbl := (by first | assumption | rfl | omega | simp))) ?_)
 rintro _ F1 _ le1 ⟨x1, x2, x3, x4, x5, x6, x7, x8, rfl, hr1, hr2, hr3, hr4, hr5, rfl⟩
 replace hbs := hbs.mono le1
 have hla := hr4.la
 have hlr := hr4.lr
 have hrb := hr4.each
 have hlt9 : x6.length ≤ 4000000 := by omega
 have hwl := walkB_len (ar := x4) (rs := x5) (t := x6) (st := x7) (n := x8)
 have hwb := walkB_bounds (ar := x4) (rs := x5) (t := x6) (st := x7) (n := x8)
 have hwl2 := walkB_len (ar := x4) (rs := x5) (t := x6) (st := x7) (n := x8 - 1)
 have hwb2 := walkB_bounds (ar := x4) (rs := x5) (t := x6) (st := x7) (n := x8 - 1)
 have hnl := normB_len (ar := x4) (rs := x5) (t := x6) (st := x7) (n := x8)
 have hwx : ∀ i, i < (walkB x4 x5 x6 x7 x8).2.1.length → ((walkB x4 x5 x6 x7 x8).2.1.getD i (0, 0, [])).2.2.length ≤ 4000000 := fun i hi => by have := hwb.2.1 i hi; omega
 refine XL.mv (.tuple #[.agg #[x1, x2], x3, .int .i64 (x7), .int .i64 (x8)]) rfl ?_
 refine cX (XOp.extract (.agg #[x1, x2]) rfl rfl ?_)
 refine cX (XOp.extract (x3) rfl rfl ?_)
 refine cX (XOp.extract (.int .i64 (x7)) rfl rfl ?_)
 refine cX (XOp.extract (.int .i64 (x8)) rfl rfl ?_)
 refine cX (XOp.alloc [(.slice none 0 0), (.slice none 0 0)] zeroValue29 rfl ?_)
 intro b1
 refine cX (XOp.storeN (vs := [x1, x2]) [] _ [x1, x2] sizeOf29 rfl rfl rfl (ones_cons (one_sl (IntsF.isSl hr1)) (ones_cons (one_sl (PairsF.isSl hr2)) ones_nil)) rfl rfl rfl ?_)
 refine XL.as (x3) rfl ?_
 refine XL.as (.int .i64 (x7)) rfl ?_
 refine XL.as (.int .i64 (x8)) rfl ?_
 refine XL.nil (X.seq (X.region ?_))
 refine cX (XOp.loadN [x1, x2] isAgg29 sizeOf29 rfl rfl (Rd.ownN [] rfl rfl) ?_)
 refine XL.mv (x3) rfl ?_
 refine XL.mv (.int .i64 (x7)) rfl ?_
 refine XL.mv (.int .i64 (x8)) rfl ?_
 refine cX (XOp.call (args := [.agg #[x1, x2], x3, .int .i64 (x7), .int .i64 (x8)]) call9 rfl (WalkBy_spec (st := x7) (n := x8) hr1 hr2 hr3) ?_)
 rintro _ F2 _ le2 ⟨x9, x10, rfl, hr6, hr7, hr8, rfl⟩
 replace hbs := hbs.mono le2
 replace hr1 := hr1.mono le2
 replace hr2 := hr2.mono le2
 replace hr3 := hr3.mono le2
 refine XL.mv (.tuple #[.agg #[x9, x10], .bool ((walkB x4 x5 x6 x7 x8).2.2)]) rfl ?_
 refine cX (XOp.extract (.agg #[x9, x10]) rfl rfl ?_)
 refine cX (XOp.extract (.bool ((walkB x4 x5 x6 x7 x8).2.2)) rfl rfl ?_)
 refine cX (XOp.alloc [(.slice none 0 0), (.slice none 0 0)] zeroValue34 rfl ?_)
 intro b2
 refine cX (XOp.storeN (vs := [x9, x10]) [] _ [x9, x10] sizeOf34 rfl rfl rfl (ones_cons (one_sl (IntsF.isSl hr6)) (ones_cons (one_sl (StepsF.isSl hr7)) ones_nil)) rfl rfl rfl ?_)
 refine XL.as (.bool ((walkB x4 x5 x6 x7 x8).2.2)) rfl ?_
 refine XL.nil (X.seq (X.region ?_))
 refine cX (XOp.loadN [x1, x2] isAgg29 sizeOf29 rfl rfl (Rd.ownN [_] rfl rfl) ?_)
 refine XL.mv (x3) rfl ?_
 refine XL.mv (.int .i64 (x7)) rfl ?_
 refine XL.mv (.int .i64 (x8)) rfl ?_
 refine cX (XOp.call (args := [.agg #[x1, x2], x3, .int .i64 (x7), .int .i64 (x8)]) call10 rfl (sWalkBy_spec (st := x7) (n := x8) hr1 hr2 hr3 (hla := (by first | assumption | rfl | omega | simp)) (hlr := (by first | assumption | rfl | omega | simp)) (hrb := (by first | assumption | rfl | omega | simp)) (hlt := (by first | assumption | rfl | omega | simp))) ?_)
 rintro _ F3 _ le3 ⟨x11, x12, rfl, hr9, hr10, rfl⟩
 replace hbs := hbs.mono le3
 replace hr1 := hr1.mono le3
 replace hr2 := hr2.mono le3
 replace hr3 := hr3.mono le3
 replace hr6 := hr6.mono le3
 replace hr7 := hr7.mono le3
 refine XL.mv (.tuple #[.agg #[x11, x12], .bool ((walkB x4 x5 x6 x7 x8).2.2)]) rfl ?_
 refine cX (XOp.extract (.agg #[x11, x12]) rfl rfl ?_)
 refine cX (XOp.extract (.bool ((walkB x4 x5 x6 x7 x8).2.2)) rfl rfl ?_)
 refine cX (XOp.alloc [(.slice none 0 0), (.slice none 0 0)] zeroValue34 rfl ?_)
 intro b3
 refine cX (XOp.storeN (vs := [x11, x12]) [] _ [x11, x12] sizeOf34 rfl rfl rfl (ones_cons (one_sl (IntsF.isSl hr9)) (ones_cons (one_sl (StepsF.isSl hr10)) ones_nil)) rfl rfl rfl ?_)
 refine XL.as (.bool ((walkB x4 x5 x6 x7 x8).2.2)) rfl ?_
 refine XL.nil (X.seq (X.seq ?_))
 by_cases h2 : ((walkB x4 x5 x6 x7 x8).2.2) ≠ ((walkB x4 x5 x6 x7 x8).2.2)
 ·exact absurd rfl h2
 refine X.draw [cellsH b3 [x11, x12] 34, cellsH b2 [x9, x10] 34, cellsH b1 [x1, x2] 29] L 21 [[], [], [], [], [], [], [], [], [], [], [], [], [], [], [], [], [], [], [], [], []] [[], [], [0, 1], [2], [3], [3, 4], [3], [3, 6], [3, 5, 7], [3, 8], [3, 9], [10], [11], [11], [11], [11], [11, 12, 13, 14, 15], [11], [11], [11], [11]] (phiL [fun us v => v = (.bool ((walkB x4 x5 x6 x7 x8).2.2) : Value), fun us v => v = (.bool ((walkB x4 x5 x6 x7 x8).2.2) : Value), fun us v => v = (.bool (decide (((walkB x4 x5 x6 x7 x8).2.2) ≠ ((walkB x4 x5 x6 x7 x8).2.2))) : Value), fun us v => v = (.bool (decide (((walkB x4 x5 x6 x7 x8).2.2) ≠ ((walkB x4 x5 x6 x7 x8).2.2))) : Value), fun us v => v = ptr b2 1, fun us v => v = x10, fun us v => v = ptr b3 1, fun us v => v = x12, fun us v => v = (.bool (true) : Value), fun us v => v = (.bool (false) : Value), fun us v => v = (.bool (false) : Value), fun us v => v = (.bool (false) : Value), fun us v => v = (.agg #[x1, x2] : Value), fun us v => v = x3, fun us v => v = (.int .i64 (x7) : Value), fun us v => v = (.int .i64 (x8) : Value), fun us v => v = (.int .i64 (countB x4 x5 x6 x7 x8) : Value), fun us v => v = (.agg #[x1, x2] : Value), fun us v => v = x3, fun us v => v = (.int .i64 (x7) : Value), fun us v => v = (.int .i64 (x8) : Value)]) (ownL [fun us v => [], fun us v => [], fun us v => [], fun us v => [], fun us v => [], fun us v => [], fun us v => [], fun us v => [], fun us v => [], fun us v => [], fun us v => [], fun us v => [], fun us v => [], fun us v => [], fun us v => [], fun us v => [], fun us v => [], fun us v => [], fun us v => [], fun us v => [], fun us v => []]) mixed rfl rfl (by kernel_rfl) ?_ ?_
 ·refine pC (fun vals R hpZ => ?_) ?_
  ·refine XG.op (XOp.move (.bool ((walkB x4 x5 x6 x7 x8).2.2)) rfl ?_)
   exact ⟨rfl, rfl, rfl⟩
  refine pC (fun vals R hpZ => ?_) ?_
  ·refine XG.op (XOp.move (.bool ((walkB x4 x5 x6 x7 x8).2.2)) rfl ?_)
   exact ⟨rfl, rfl, rfl⟩
  refine pC (fun vals R hpZ => ?_) ?_
  ·rw [eS (l := [(0, (.bool ((walkB x4 x5 x6 x7 x8).2.2) : Value)), (1, (.bool ((walkB x4 x5 x6 x7 x8).2.2) : Value))]) ⟨hpZ 0 (by decide), hpZ 1 (by decide), trivial⟩]
   refine XG.op (XOp.neB (a := (walkB x4 x5 x6 x7 x8).2.2) (b := (walkB x4 x5 x6 x7 x8).2.2) runUnderlying4 rfl rfl ?_)
   exact ⟨rfl, rfl, rfl⟩
  refine pC (fun vals R hpZ => ?_) ?_
  ·rw [eS (l := [(2, (.bool (decide (((walkB x4 x5 x6 x7 x8).2.2) ≠ ((walkB x4 x5 x6 x7 x8).2.2))) : Value))]) ⟨hpZ 2 (by decide), trivial⟩]
   refine XG.op (XOp.move (.bool (decide (((walkB x4 x5 x6 x7 x8).2.2) ≠ ((walkB x4 x5 x6 x7 x8).2.2)))) rfl ?_)
   exact ⟨rfl, rfl, rfl⟩
  refine pC (fun vals R hpZ => ?_) ?_
  ·rw [eS (l := [(3, (.bool (decide (((walkB x4 x5 x6 x7 x8).2.2) ≠ ((walkB x4 x5 x6 x7 x8).2.2))) : Value))]) ⟨hpZ 3 (by decide), trivial⟩]
   refine XG.yes (t := 43) rfl (vF h2) (XOp.fieldP (b := b2) (1) runUnderlying34 rfl sizeOf32 (by decide) rfl rfl ?_)
   exact ⟨rfl, rfl, rfl⟩
  refine pC (fun vals R hpZ => ?_) ?_
  ·rw [eS (l := [(3, (.bool (decide (((walkB x4 x5 x6 x7 x8).2.2) ≠ ((walkB x4 x5 x6 x7 x8).2.2))) : Value)), (4, ptr b2 1)]) ⟨hpZ 3 (by decide), hpZ 4 (by decide), trivial⟩]
   refine XG.yes (t := 43) rfl (vF h2) (XOp.load1 (v := x10) isAgg32 rfl (Rd.own [_] rfl rfl) ?_)
   exact ⟨rfl, rfl, rfl⟩
  refine pC (fun vals R hpZ => ?_) ?_
  ·rw [eS (l := [(3, (.bool (decide (((walkB x4 x5 x6 x7 x8).2.2) ≠ ((walkB x4 x5 x6 x7 x8).2.2))) : Value))]) ⟨hpZ 3 (by decide), trivial⟩]
   refine XG.yes (t := 43) rfl (vF h2) (XOp.fieldP (b := b3) (1) runUnderlying34 rfl sizeOf32 (by decide) rfl rfl ?_)
   exact ⟨rfl, rfl, rfl⟩
  refine pC (fun vals R hpZ => ?_) ?_
  ·rw [eS (l := [(3, (.bool (decide (((walkB x4 x5 x6 x7 x8).2.2) ≠ ((walkB x4 x5 x6 x7 x8).2.2))) : Value)), (6, ptr b3 1)]) ⟨hpZ 3 (by decide), hpZ 6 (by decide), trivial⟩]
   refine XG.yes (t := 43) rfl (vF h2) (XOp.load1 (v := x12) isAgg32 rfl (Rd.own [] rfl rfl) ?_)
   exact ⟨rfl, rfl, rfl⟩
  refine pC (fun vals R hpZ => ?_) ?_
  ·rw [eS (l := [(3, (.bool (decide (((walkB x4 x5 x6 x7 x8).2.2) ≠ ((walkB x4 x5 x6 x7 x8).2.2))) : Value)), (5, x10), (7, x12)]) ⟨hpZ 3 (by decide), hpZ 5 (by decide), hpZ 7 (by decide), trivial⟩]
   refine XG.yes (t := 43) rfl (vF h2) (XOp.call (args := [x10, x12]) call11 rfl (w5Steps_spec hr7 hr10 (hbd := (by first | assumption | rfl | omega | simp)) (hbe := (by first | assumption | rfl | omega | simp))) ?_)
   rintro _ _ _ _ ⟨rfl, rfl, rfl⟩
   exact ⟨rfl, rfl, rfl⟩
  refine pC (fun vals R hpZ => ?_) ?_
  ·rw [eS (l := [(3, (.bool (decide (((walkB x4 x5 x6 x7 x8).2.2) ≠ ((walkB x4 x5 x6 x7 x8).2.2))) : Value)), (8, (.bool (true) : Value))]) ⟨hpZ 3 (by decide), hpZ 8 (by decide), trivial⟩]
   refine XG.yes (t := 43) rfl (vF h2) (XOp.notB (b := true) rfl ?_)
   exact ⟨rfl, rfl, rfl⟩
  refine pC (fun vals R hpZ => ?_) ?_
  ·rw [eS (l := [(3, (.bool (decide (((walkB x4 x5 x6 x7 x8).2.2) ≠ ((walkB x4 x5 x6 x7 x8).2.2))) : Value)), (9, (.bool (false) : Value))]) ⟨hpZ 3 (by decide), hpZ 9 (by decide), trivial⟩]
   refine XG.op (XOp.pickF (.bool (false)) (vF h2) rfl ?_)
   exact ⟨rfl, rfl, rfl⟩
  refine pC (fun vals R hpZ => ?_) ?_
  ·rw [eS (l := [(10, (.bool (false) : Value))]) ⟨hpZ 10 (by decide), trivial⟩]
   refine XG.op (XOp.move (.bool (false)) rfl ?_)
   exact ⟨rfl, rfl, rfl⟩
  refine pC (fun vals R hpZ => ?_) ?_
  ·rw [eS (l := [(11, (.bool (false) : Value))]) ⟨hpZ 11 (by decide), trivial⟩]
   refine XG.yes (t := 51) rfl rfl (XOp.loadN [x1, x2] isAgg29 sizeOf29 rfl rfl (Rd.ownN [_, _] rfl rfl) ?_)
   exact ⟨rfl, rfl, rfl⟩
  refine pC (fun vals R hpZ => ?_) ?_
  ·rw [eS (l := [(11, (.bool (false) : Value))]) ⟨hpZ 11 (by decide), trivial⟩]
   refine XG.yes (t := 51) rfl rfl (XOp.move (x3) rfl ?_)
   exact ⟨rfl, rfl, rfl⟩
  refine pC (fun vals R hpZ => ?_) ?_
  ·rw [eS (l := [(11, (.bool (false) : Value))]) ⟨hpZ 11 (by decide), trivial⟩]
   refine XG.yes (t := 51) rfl rfl (XOp.move (.int .i64 (x7)) rfl ?_)
   exact ⟨rfl, rfl, rfl⟩
  refine pC (fun vals R hpZ => ?_) ?_
  ·rw [eS (l := [(11, (.bool (false) : Value))]) ⟨hpZ 11 (by decide), trivial⟩]
   refine XG.yes (t := 51) rfl rfl (XOp.move (.int .i64 (x8)) rfl ?_)
   exact ⟨rfl, rfl, rfl⟩
  refine pC (fun vals R hpZ => ?_) ?_
  ·rw [eS (l := [(11, (.bool (false) : Value)), (12, (.agg #[x1, x2] : Value)), (13, x3), (14, (.int .i64 (x7) : Value)), (15, (.int .i64 (x8) : Value))]) ⟨hpZ 11 (by decide), hpZ 12 (by decide), hpZ 13 (by decide), hpZ 14 (by decide), hpZ 15 (by decide), trivial⟩]
   refine XG.yes (t := 51) rfl rfl (XOp.call (args := [.agg #[x1, x2], x3, .int .i64 (x7), .int .i64 (x8)]) call12 rfl (CountBy_spec (st := x7) (n := x8) hr1 hr2 hr3) ?_)
   rintro _ _ _ _ ⟨rfl, rfl, rfl⟩
   exact ⟨rfl, rfl, rfl⟩
  refine pC (fun vals R hpZ => ?_) ?_
  ·rw [eS (l := [(11, (.bool (false) : Value))]) ⟨hpZ 11 (by decide), trivial⟩]
   refine XG.yes (t := 51) rfl rfl (XOp.loadN [x1, x2] isAgg29 sizeOf29 rfl rfl (Rd.ownN [_, _] rfl rfl) ?_)
   exact ⟨rfl, rfl, rfl⟩
  refine pC (fun vals R hpZ => ?_) ?_
  ·rw [eS (l := [(11, (.bool (false) : Value))]) ⟨hpZ 11 (by decide), trivial⟩]
   refine XG.yes (t := 51) rfl rfl (XOp.move (x3) rfl ?_)
   exact ⟨rfl, rfl, rfl⟩
  refine pC (fun vals R hpZ => ?_) ?_
  ·rw [eS (l := [(11, (.bool (false) : Value))]) ⟨hpZ 11 (by decide), trivial⟩]
   refine XG.yes (t := 51) rfl rfl (XOp.move (.int .i64 (x7)) rfl ?_)
   exact ⟨rfl, rfl, rfl⟩
  refine pC (fun vals R hpZ => ?_) ?_
  ·rw [eS (l := [(11, (.bool (false) : Value))]) ⟨hpZ 11 (by decide), trivial⟩]
   refine XG.yes (t := 51) rfl rfl (XOp.move (.int .i64 (x8)) rfl ?_)
   exact ⟨rfl, rfl, rfl⟩
  exact stepsP.nil
 intro vals hphi
 rw [eS (l := [(11, (.bool (false) : Value)), (16, (.int .i64 (countB x4 x5 x6 x7 x8) : Value)), (17, (.agg #[x1, x2] : Value)), (18, x3), (19, (.int .i64 (x7) : Value)), (20, (.int .i64 (x8) : Value))]) ⟨(hphi 11 (by decide)), (hphi 16 (by decide)), (hphi 17 (by decide)), (hphi 18 (by decide)), (hphi 19 (by decide)), (hphi 20 (by decide)), trivial⟩]
 show XL _ _ _ _ _ _ _ (cellsH b3 [x11, x12] 34 :: cellsH b2 [x9, x10] 34 :: cellsH b1 [x1, x2] 29 :: L)
 refine XL.yes (t := 51) rfl rfl (XOp.call (args := [.agg #[x1, x2], x3, .int .i64 (x7), .int .i64 (x8)]) call13 rfl (sCountBy_spec (st := x7) (n := x8) hr1 hr2 hr3 (hla := (by first | assumption | rfl | omega | simp)) (hlr := (by first | assumption | rfl | omega | simp)) (hrb := (by first | assumption | rfl | omega | simp)) (hlt := (by first | assumption | rfl | omega | simp))) ?_)
 rintro _ _ _ _ ⟨rfl, rfl, rfl⟩
 refine XL.yes (t := 51) rfl rfl (XOp.neq (a := countB x4 x5 x6 x7 x8) (b := countB x4 x5 x6 x7 x8) rfl rfl ?_)
 refine cX (XOp.pickF (.bool (decide ((countB x4 x5 x6 x7 x8 : Int) ≠ countB x4 x5 x6 x7 x8))) rfl rfl ?_)
 refine XL.nil ?_
 refine X.condD (p := (countB x4 x5 x6 x7 x8 : Int) ≠ countB x4 x5 x6 x7 x8) rfl (fun h3 => ?_) (fun h3 => ?_)
 ·exact absurd rfl h3
 refine X.skip (X.seq (X.seq (X.region ?_)))
 refine cX (XOp.fieldP (b := b2) (0) runUnderlying34 rfl sizeOf24 (by decide) rfl rfl ?_)
 refine cX (XOp.load1 (v := x9) isAgg24 rfl (Rd.own [_] rfl rfl) ?_)
 refine cX (XOp.lenS (v := x9) (n := ((walkB x4 x5 x6 x7 x8).1).length) runUnderlying24 rfl hr6.slv ?_)
 refine cX (XOp.eql (a := ((((walkB x4 x5 x6 x7 x8).1).length : Nat) : Int)) (b := 0) rfl rfl ?_)
 refine XL.nil ?_
 refine X.condD (p := (((((walkB x4 x5 x6 x7 x8).1).length : Nat) : Int) : Int) = 0) rfl (fun h4 => ?_) (fun h4 => ?_)
 ·have hnb := orders_none (ar := x4) (rs := x5) (t := x6) (st := x7) (n := x8) (by omega)
  refine X.seq (X.region ?_)
  refine XL.mv (.bool ((walkB x4 x5 x6 x7 x8).2.2)) rfl ?_
  refine cX (XOp.notB (b := (walkB x4 x5 x6 x7 x8).2.2) rfl ?_)
  refine XL.as (.bool (!((walkB x4 x5 x6 x7 x8).2.2))) rfl ?_
  refine XL.nil ?_
  refine X.ret (thenQ_ret (retEnd (L' := L) [.bool (!((walkB x4 x5 x6 x7 x8).2.2))] (.bool (!((walkB x4 x5 x6 x7 x8).2.2))) (.tmp rfl .nil) rfl rF (FLe.trans (FLe.trans le1 le2) le3) (sD (sD (sD sR))) ?_))
  exact ⟨(vB (by rw [hnb]; rfl)), rfl, rfl⟩
 have hlw := orders_law (ar := x4) (rs := x5) (t := x6) (st := x7) (n := x8) (by omega)
 have hlo := hlw.1
 have hwk := (wOk_iff.1 (orders_wok (ar := x4) (rs := x5) (t := x6) (st := x7) (n := x8) (by omega))).2.2
 refine X.skip (X.seq (X.seq ?_))
 by_cases h5 : (!(walkOkL x4 x5 ((walkB x4 x5 x6 x7 x8).1) ((walkB x4 x5 x6 x7 x8).2.1))) = true
 ·exact absurd h5 (by rw [hlo]; simp)
 rw [Bool.not_eq_true] at h5
 refine X.drawG [cellsH b3 [x11, x12] 34, cellsH b2 [x9, x10] 34, cellsH b1 [x1, x2] 29] L 11 [[], [], [], [], [], [], [], [], [], [], []] [[], [], [0, 1], [2], [3], [4], [4], [4], [4], [4, 7, 8], [4, 6, 9]] [[], [], [], [], [], [], [], [], [], [], []] (phiG [fun FF us v => v = (.agg #[x1, x2] : Value), fun FF us v => v = (.agg #[x9, x10] : Value), fun FF us v => v = (.bool (walkOkL x4 x5 ((walkB x4 x5 x6 x7 x8).1) ((walkB x4 x5 x6 x7 x8).2.1)) : Value), fun FF us v => v = (.bool (!(walkOkL x4 x5 ((walkB x4 x5 x6 x7 x8).1) ((walkB x4 x5 x6 x7 x8).2.1))) : Value), fun FF us v => v = (.bool (!(walkOkL x4 x5 ((walkB x4 x5 x6 x7 x8).1) ((walkB x4 x5 x6 x7 x8).2.1))) : Value), fun FF us v => v = (.bool ((walkB x4 x5 x6 x7 x8).2.2) : Value), fun FF us v => v = (.agg #[x1, x2] : Value), fun FF us v => v = (.agg #[x1, x2] : Value), fun FF us v => v = (.agg #[x9, x10] : Value), fun FF us v => ((v) : Value) = v ∧ (IntsF FF (v) (endT x4 x5 ((walkB x4 x5 x6 x7 x8).1) ((walkB x4 x5 x6 x7 x8).2.1))), fun FF us v => v = (.bool ((rightB x4 x5 ((endT x4 x5 ((walkB x4 x5 x6 x7 x8).1) ((walkB x4 x5 x6 x7 x8).2.1))) && normalL x4 x5 ((endT x4 x5 ((walkB x4 x5 x6 x7 x8).1) ((walkB x4 x5 x6 x7 x8).2.1))))) : Value)]) (ownL [fun us v => [], fun us v => [], fun us v => [], fun us v => [], fun us v => [], fun us v => [], fun us v => [], fun us v => [], fun us v => [], fun us v => [], fun us v => []]) mixed rfl rfl (by kernel_rfl) (by kernel_rfl) (MonoG.get (mC (fun le h => h) (mC (fun le h => h) (mC (fun le h => h) (mC (fun le h => h) (mC (fun le h => h) (mC (fun le h => h) (mC (fun le h => h) (mC (fun le h => h) (mC (fun le h => h) (mC (fun le h => ⟨h.1, h.2.mono le⟩) (mC (fun le h => h) MonoG.nil)))))))))))) ?_ ?_
 ·refine gC (fun vals Fs R leFs hpZ => ?_) ?_
  ·replace hbs := hbs.mono leFs
   replace hr1 := hr1.mono leFs
   replace hr2 := hr2.mono leFs
   replace hr3 := hr3.mono leFs
   replace hr6 := hr6.mono leFs
   replace hr7 := hr7.mono leFs
   refine XG.op (XOp.loadN [x1, x2] isAgg29 sizeOf29 rfl rfl (Rd.ownN [_, _] rfl rfl) ?_)
   exact ⟨rfl, rfl⟩
  refine gC (fun vals Fs R leFs hpZ => ?_) ?_
  ·replace hbs := hbs.mono leFs
   replace hr1 := hr1.mono leFs
   replace hr2 := hr2.mono leFs
   replace hr3 := hr3.mono leFs
   replace hr6 := hr6.mono leFs
   replace hr7 := hr7.mono leFs
   refine XG.op (XOp.loadN [x9, x10] isAgg34 sizeOf34 rfl rfl (Rd.ownN [_] rfl rfl) ?_)
   exact ⟨rfl, rfl⟩
  refine gC (fun vals Fs R leFs hpZ => ?_) ?_
  ·replace hbs := hbs.mono leFs
   replace hr1 := hr1.mono leFs
   replace hr2 := hr2.mono leFs
   replace hr3 := hr3.mono leFs
   replace hr6 := hr6.mono leFs
   replace hr7 := hr7.mono leFs
   rw [eS (l := [(0, (.agg #[x1, x2] : Value)), (1, (.agg #[x9, x10] : Value))]) ⟨(hpZ 0 (by decide)), (hpZ 1 (by decide)), trivial⟩]
   refine XG.op (XOp.call (args := [.agg #[x1, x2], .agg #[x9, x10]]) call14 rfl (WalkOk_spec hr1 hr2 hr6 hr7 (hlf := (by first | assumption | rfl | omega | simp)) (hsb := (by first | assumption | rfl | omega | simp))) ?_)
   rintro _ _ _ _ ⟨rfl, rfl, rfl⟩
   exact ⟨rfl, rfl⟩
  refine gC (fun vals Fs R leFs hpZ => ?_) ?_
  ·rw [eS (l := [(2, (.bool (walkOkL x4 x5 ((walkB x4 x5 x6 x7 x8).1) ((walkB x4 x5 x6 x7 x8).2.1)) : Value))]) ⟨(hpZ 2 (by decide)), trivial⟩]
   refine XG.op (XOp.notB (b := walkOkL x4 x5 ((walkB x4 x5 x6 x7 x8).1) ((walkB x4 x5 x6 x7 x8).2.1)) rfl ?_)
   exact ⟨rfl, rfl⟩
  refine gC (fun vals Fs R leFs hpZ => ?_) ?_
  ·rw [eS (l := [(3, (.bool (!(walkOkL x4 x5 ((walkB x4 x5 x6 x7 x8).1) ((walkB x4 x5 x6 x7 x8).2.1))) : Value))]) ⟨(hpZ 3 (by decide)), trivial⟩]
   refine XG.op (XOp.move (.bool (!(walkOkL x4 x5 ((walkB x4 x5 x6 x7 x8).1) ((walkB x4 x5 x6 x7 x8).2.1)))) rfl ?_)
   exact ⟨rfl, rfl⟩
  refine gC (fun vals Fs R leFs hpZ => ?_) ?_
  ·rw [eS (l := [(4, (.bool (!(walkOkL x4 x5 ((walkB x4 x5 x6 x7 x8).1) ((walkB x4 x5 x6 x7 x8).2.1))) : Value))]) ⟨(hpZ 4 (by decide)), trivial⟩]
   refine XG.yes (t := 74) rfl (vB h5) (XOp.move (.bool ((walkB x4 x5 x6 x7 x8).2.2)) rfl ?_)
   exact ⟨rfl, rfl⟩
  refine gC (fun vals Fs R leFs hpZ => ?_) ?_
  ·replace hbs := hbs.mono leFs
   replace hr1 := hr1.mono leFs
   replace hr2 := hr2.mono leFs
   replace hr3 := hr3.mono leFs
   replace hr6 := hr6.mono leFs
   replace hr7 := hr7.mono leFs
   rw [eS (l := [(4, (.bool (!(walkOkL x4 x5 ((walkB x4 x5 x6 x7 x8).1) ((walkB x4 x5 x6 x7 x8).2.1))) : Value))]) ⟨(hpZ 4 (by decide)), trivial⟩]
   refine XG.yes (t := 74) rfl (vB h5) (XOp.loadN [x1, x2] isAgg29 sizeOf29 rfl rfl (Rd.ownN [_, _] rfl rfl) ?_)
   exact ⟨rfl, rfl⟩
  refine gC (fun vals Fs R leFs hpZ => ?_) ?_
  ·replace hbs := hbs.mono leFs
   replace hr1 := hr1.mono leFs
   replace hr2 := hr2.mono leFs
   replace hr3 := hr3.mono leFs
   replace hr6 := hr6.mono leFs
   replace hr7 := hr7.mono leFs
   rw [eS (l := [(4, (.bool (!(walkOkL x4 x5 ((walkB x4 x5 x6 x7 x8).1) ((walkB x4 x5 x6 x7 x8).2.1))) : Value))]) ⟨(hpZ 4 (by decide)), trivial⟩]
   refine XG.yes (t := 74) rfl (vB h5) (XOp.loadN [x1, x2] isAgg29 sizeOf29 rfl rfl (Rd.ownN [_, _] rfl rfl) ?_)
   exact ⟨rfl, rfl⟩
  refine gC (fun vals Fs R leFs hpZ => ?_) ?_
  ·replace hbs := hbs.mono leFs
   replace hr1 := hr1.mono leFs
   replace hr2 := hr2.mono leFs
   replace hr3 := hr3.mono leFs
   replace hr6 := hr6.mono leFs
   replace hr7 := hr7.mono leFs
   rw [eS (l := [(4, (.bool (!(walkOkL x4 x5 ((walkB x4 x5 x6 x7 x8).1) ((walkB x4 x5 x6 x7 x8).2.1))) : Value))]) ⟨(hpZ 4 (by decide)), trivial⟩]
   refine XG.yes (t := 74) rfl (vB h5) (XOp.loadN [x9, x10] isAgg34 sizeOf34 rfl rfl (Rd.ownN [_] rfl rfl) ?_)
   exact ⟨rfl, rfl⟩
  refine gC (fun vals Fs R leFs hpZ => ?_) ?_
  ·replace hbs := hbs.mono leFs
   replace hr1 := hr1.mono leFs
   replace hr2 := hr2.mono leFs
   replace hr3 := hr3.mono leFs
   replace hr6 := hr6.mono leFs
   replace hr7 := hr7.mono leFs
   rw [eS (l := [(4, (.bool (!(walkOkL x4 x5 ((walkB x4 x5 x6 x7 x8).1) ((walkB x4 x5 x6 x7 x8).2.1))) : Value)), (7, (.agg #[x1, x2] : Value)), (8, (.agg #[x9, x10] : Value))]) ⟨(hpZ 4 (by decide)), (hpZ 7 (by decide)), (hpZ 8 (by decide)), trivial⟩]
   refine XG.yes (t := 74) rfl (vB h5) (XOp.frzF <| XOp.call (args := [.agg #[x1, x2], .agg #[x9, x10]]) call16 rfl (EndTerm_spec hr1 hr2 hr6 hr7 (hlf := (by first | assumption | rfl | omega | simp)) (hsb := (by first | assumption | rfl | omega | simp))) ?_)
   rintro v2 _ _ _ ⟨rfl, hs2, rfl⟩
   refine ⟨_, _, rfl, fun F4 le4 hz1 => ?_⟩
   replace hbs := hbs.mono le4
   replace hr1 := hr1.mono le4
   replace hr2 := hr2.mono le4
   replace hr3 := hr3.mono le4
   replace hr6 := hr6.mono le4
   replace hr7 := hr7.mono le4
   have hf1 : IntsF F4 v2 ((endT x4 x5 ((walkB x4 x5 x6 x7 x8).1) ((walkB x4 x5 x6 x7 x8).2.1))) := intsH.fz (xs := (endT x4 x5 ((walkB x4 x5 x6 x7 x8).1) ((walkB x4 x5 x6 x7 x8).2.1))) hz1.fz
   exact ⟨⟨rfl, hf1⟩, rfl⟩
  refine gC (fun vals Fs R leFs hpZ => ?_) ?_
  ·obtain ⟨e9, f9_4ha⟩ := hpZ 9 (by decide)
   replace hbs := hbs.mono leFs
   replace hr1 := hr1.mono leFs
   replace hr2 := hr2.mono leFs
   replace hr3 := hr3.mono leFs
   replace hr6 := hr6.mono leFs
   replace hr7 := hr7.mono leFs
   rw [eS (l := [(4, (.bool (!(walkOkL x4 x5 ((walkB x4 x5 x6 x7 x8).1) ((walkB x4 x5 x6 x7 x8).2.1))) : Value)), (6, (.agg #[x1, x2] : Value)), (9, ((vals 9)))]) ⟨(hpZ 4 (by decide)), (hpZ 6 (by decide)), (e9).symm, trivial⟩]
   refine XG.yes (t := 74) rfl (vB h5) (XOp.call (args := [.agg #[x1, x2], ((vals 9))]) call15 rfl (iNormalIn_spec hr1 hr2 f9_4ha) ?_)
   rintro _ _ _ _ ⟨rfl, rfl, rfl⟩
   exact ⟨rfl, rfl⟩
  exact stepsG.nil
 intro vals F5 le5 hphi
 obtain ⟨e9, f9_4ha⟩ := hphi 9 (by decide)
 generalize hu1 : ((vals 9)) = u1 at e9 f9_4ha
 rw [eS (l := [(4, (.bool (!(walkOkL x4 x5 ((walkB x4 x5 x6 x7 x8).1) ((walkB x4 x5 x6 x7 x8).2.1))) : Value)), (5, (.bool ((walkB x4 x5 x6 x7 x8).2.2) : Value)), (10, (.bool ((rightB x4 x5 ((endT x4 x5 ((walkB x4 x5 x6 x7 x8).1) ((walkB x4 x5 x6 x7 x8).2.1))) && normalL x4 x5 ((endT x4 x5 ((walkB x4 x5 x6 x7 x8).1) ((walkB x4 x5 x6 x7 x8).2.1))))) : Value))]) ⟨(hphi 4 (by decide)), (hphi 5 (by decide)), (hphi 10 (by decide)), trivial⟩]
 replace hbs := hbs.mono le5
 replace hr1 := hr1.mono le5
 replace hr2 := hr2.mono le5
 replace hr3 := hr3.mono le5
 replace hr6 := hr6.mono le5
 replace hr7 := hr7.mono le5
 show XL _ _ _ _ _ _ _ (cellsH b3 [x11, x12] 34 :: cellsH b2 [x9, x10] 34 :: cellsH b1 [x1, x2] 29 :: L)
 refine XL.yes (t := 74) rfl (vB h5) (XOp.neB (a := (walkB x4 x5 x6 x7 x8).2.2) (b := (rightB x4 x5 ((endT x4 x5 ((walkB x4 x5 x6 x7 x8).1) ((walkB x4 x5 x6 x7 x8).2.1))) && normalL x4 x5 ((endT x4 x5 ((walkB x4 x5 x6 x7 x8).1) ((walkB x4 x5 x6 x7 x8).2.1))))) runUnderlying4 rfl rfl ?_)
 refine cX (XOp.pickF (.bool (decide (((walkB x4 x5 x6 x7 x8).2.2) ≠ ((rightB x4 x5 ((endT x4 x5 ((walkB x4 x5 x6 x7 x8).1) ((walkB x4 x5 x6 x7 x8).2.1))) && normalL x4 x5 ((endT x4 x5 ((walkB x4 x5 x6 x7 x8).1) ((walkB x4 x5 x6 x7 x8).2.1)))))))) (vB h5) rfl ?_)
 refine XL.nil ?_
 refine X.condD (p := ((walkB x4 x5 x6 x7 x8).2.2) ≠ ((rightB x4 x5 ((endT x4 x5 ((walkB x4 x5 x6 x7 x8).1) ((walkB x4 x5 x6 x7 x8).2.1))) && normalL x4 x5 ((endT x4 x5 ((walkB x4 x5 x6 x7 x8).1) ((walkB x4 x5 x6 x7 x8).2.1)))))) rfl (fun h6 => ?_) (fun h6 => ?_)
 ·exact absurd hlw.2.1 h6
 refine X.skip (X.seq (X.seq (X.region ?_)))
 refine XL.mv (.int .i64 (x8)) rfl ?_
 refine cX (XOp.eql (a := x8) (b := 0) rfl rfl ?_)
 refine XL.nil ?_
 refine X.condD (p := (x8 : Int) = 0) rfl (fun h7 => ?_) (fun h7 => ?_)
 ·have hnz := hlw.2.2.1 h7
  refine X.seq (X.region ?_)
  refine cX (XOp.fieldP (b := b2) (1) runUnderlying34 rfl sizeOf32 (by decide) rfl rfl ?_)
  refine cX (XOp.load1 (v := x10) isAgg32 rfl (Rd.own [_] rfl rfl) ?_)
  refine cX (XOp.lenS (v := x10) (n := ((walkB x4 x5 x6 x7 x8).2.1).length) runUnderlying32 rfl hr7.slv ?_)
  refine cX (XOp.eql (a := ((((walkB x4 x5 x6 x7 x8).2.1).length : Nat) : Int)) (b := 0) rfl rfl ?_)
  refine XL.as (.bool (decide ((((((walkB x4 x5 x6 x7 x8).2.1).length : Nat) : Int) : Int) = 0))) rfl ?_
  refine XL.nil ?_
  refine X.ret (thenQ_ret (retEnd (L' := L) [.bool (decide ((((((walkB x4 x5 x6 x7 x8).2.1).length : Nat) : Int) : Int) = 0))] (.bool (decide ((((((walkB x4 x5 x6 x7 x8).2.1).length : Nat) : Int) : Int) = 0))) (.tmp rfl .nil) rfl rF (FLe.trans (FLe.trans (FLe.trans le1 le2) le3) le5) (sD (sD (sD sR))) ?_))
  exact ⟨(vB ((decide_eq_true (by omega)).symm)), rfl, rfl⟩
 have hnz := hlw.2.2.2.1 h7
 refine X.skip (X.seq (X.region ?_))
 refine cX (XOp.loadN [x1, x2] isAgg29 sizeOf29 rfl rfl (Rd.ownN [_, _] rfl rfl) ?_)
 refine XL.mv (x3) rfl ?_
 refine XL.mv (.int .i64 (x7)) rfl ?_
 refine XL.mv (.int .i64 (x8)) rfl ?_
 refine cX (XOp.subR (a := x8) (b := 1) (x8 - 1) rfl rfl (by omega) (by omega) ?_)
 refine cX (XOp.call (args := [.agg #[x1, x2], x3, .int .i64 (x7), .int .i64 (x8 - 1)]) call9 rfl (WalkBy_spec (st := x7) (n := x8 - 1) hr1 hr2 hr3) ?_)
 rintro _ F6 _ le6 ⟨x13, x14, rfl, hr11, hr12, hr13, rfl⟩
 replace hbs := hbs.mono le6
 replace hr1 := hr1.mono le6
 replace hr2 := hr2.mono le6
 replace hr3 := hr3.mono le6
 replace hr6 := hr6.mono le6
 replace hr7 := hr7.mono le6
 refine XL.mv (.tuple #[.agg #[x13, x14], .bool ((walkB x4 x5 x6 x7 (x8 - 1)).2.2)]) rfl ?_
 refine cX (XOp.extract (.agg #[x13, x14]) rfl rfl ?_)
 refine cX (XOp.extract (.bool ((walkB x4 x5 x6 x7 (x8 - 1)).2.2)) rfl rfl ?_)
 refine cX (XOp.alloc [(.slice none 0 0), (.slice none 0 0)] zeroValue34 rfl ?_)
 intro b4
 refine cX (XOp.storeN (vs := [x13, x14]) [] _ [x13, x14] sizeOf34 rfl rfl rfl (ones_cons (one_sl (IntsF.isSl hr11)) (ones_cons (one_sl (StepsF.isSl hr12)) ones_nil)) rfl rfl rfl ?_)
 refine XL.as (.bool ((walkB x4 x5 x6 x7 (x8 - 1)).2.2)) rfl ?_
 refine XL.nil (X.seq (X.region ?_))
 refine cX (XOp.loadN [x1, x2] isAgg29 sizeOf29 rfl rfl (Rd.ownN [_, _, _] rfl rfl) ?_)
 refine XL.mv (x3) rfl ?_
 refine XL.mv (.int .i64 (x7)) rfl ?_
 refine XL.mv (.int .i64 (x8)) rfl ?_
 refine cX (XOp.call (args := [.agg #[x1, x2], x3, .int .i64 (x7), .int .i64 (x8)]) call17 rfl (NormalBy_spec (st := x7) (n := x8) hr1 hr2 hr3) ?_)
 rintro _ F7 _ le7 ⟨x15, rfl, hr14, hr15, rfl⟩
 replace hbs := hbs.mono le7
 replace hr1 := hr1.mono le7
 replace hr2 := hr2.mono le7
 replace hr6 := hr6.mono le7
 replace hr7 := hr7.mono le7
 replace hr12 := hr12.mono le7
 refine XL.mv (.tuple #[x15, .bool ((normB x4 x5 x6 x7 x8).2)]) rfl ?_
 refine cX (XOp.extract (x15) rfl rfl ?_)
 refine cX (XOp.extract (.bool ((normB x4 x5 x6 x7 x8).2)) rfl rfl ?_)
 refine XL.as (x15) rfl ?_
 refine XL.as (.bool ((normB x4 x5 x6 x7 x8).2)) rfl ?_
 refine XL.nil (X.seq ?_)
 by_cases h8 : (((((walkB x4 x5 x6 x7 (x8 - 1)).2.1).length : Nat) : Int) : Int) ≤ ((((walkB x4 x5 x6 x7 x8).2.1).length : Nat) : Int)
 ·by_cases h9 : ((normB x4 x5 x6 x7 x8).2) = ((walkB x4 x5 x6 x7 x8).2.2)
  ·by_cases h10 : (!((walkB x4 x5 x6 x7 x8).2.2)) = true
   ·refine X.drawG [cellsH b4 [x13, x14] 34, cellsH b3 [x11, x12] 34, cellsH b2 [x9, x10] 34, cellsH b1 [x1, x2] 29] L 31 [[], [], [], [], [], [], [], [], [], [], [], [], [], [], [], [], [], [], [], [], [], [], [], [], [], [], [], [], [], [], []] [[], [0], [1], [], [3], [4], [2, 5], [6], [7], [7, 8], [7], [7, 10], [7], [7, 12], [7, 13], [7, 11, 14], [7, 9, 15], [7, 16], [17], [18], [18], [18, 19, 20], [18, 21], [22], [23], [23, 24], [23, 25], [26], [26], [26], [26, 28, 29]] [[], [], [], [], [], [], [], [], [], [], [], [], [], [], [], [], [], [], [], [], [], [], [], [], [], [], [], [], [], [], []] (phiG [fun FF us v => v = ptr b4 1, fun FF us v => v = x14, fun FF us v => v = (.int .i64 (((((walkB x4 x5 x6 x7 (x8 - 1)).2.1).length : Nat) : Int)) : Value), fun FF us v => v = ptr b2 1, fun FF us v => v = x10, fun FF us v => v = (.int .i64 (((((walkB x4 x5 x6 x7 x8).2.1).length : Nat) : Int)) : Value), fun FF us v => v = (.bool (decide ((((((walkB x4 x5 x6 x7 (x8 - 1)).2.1).length : Nat) : Int) : Int) ≤ ((((walkB x4 x5 x6 x7 x8).2.1).length : Nat) : Int))) : Value), fun FF us v => v = (.bool (decide ((((((walkB x4 x5 x6 x7 (x8 - 1)).2.1).length : Nat) : Int) : Int) ≤ ((((walkB x4 x5 x6 x7 x8).2.1).length : Nat) : Int))) : Value), fun FF us v => v = ptr b4 1, fun FF us v => v = x14, fun FF us v => v = ptr b2 1, fun FF us v => v = x10, fun FF us v => v = ptr b4 1, fun FF us v => v = x14, fun FF us v => v = (.int .i64 (((((walkB x4 x5 x6 x7 (x8 - 1)).2.1).length : Nat) : Int)) : Value), fun FF us v => (v : Value) = v ∧ (StepsF FF v ((((walkB x4 x5 x6 x7 x8).2.1).take (((walkB x4 x5 x6 x7 (x8 - 1)).2.1).length)))), fun FF us v => v = (.bool (true) : Value), fun FF us v => v = (.bool (true) : Value), fun FF us v => v = (.bool (true) : Value), fun FF us v => v = (.bool ((normB x4 x5 x6 x7 x8).2) : Value), fun FF us v => v = (.bool ((walkB x4 x5 x6 x7 x8).2.2) : Value), fun FF us v => v = (.bool (decide (((normB x4 x5 x6 x7 x8).2) = ((walkB x4 x5 x6 x7 x8).2.2))) : Value), fun FF us v => v = (.bool (decide (((normB x4 x5 x6 x7 x8).2) = ((walkB x4 x5 x6 x7 x8).2.2))) : Value), fun FF us v => v = (.bool (decide (((normB x4 x5 x6 x7 x8).2) = ((walkB x4 x5 x6 x7 x8).2.2))) : Value), fun FF us v => v = (.bool ((walkB x4 x5 x6 x7 x8).2.2) : Value), fun FF us v => v = (.bool (!((walkB x4 x5 x6 x7 x8).2.2)) : Value), fun FF us v => v = (.bool (!((walkB x4 x5 x6 x7 x8).2.2)) : Value), fun FF us v => v = undef, fun FF us v => v = undef, fun FF us v => v = undef, fun FF us v => v = undef]) (ownL [fun us v => [], fun us v => [], fun us v => [], fun us v => [], fun us v => [], fun us v => [], fun us v => [], fun us v => [], fun us v => [], fun us v => [], fun us v => [], fun us v => [], fun us v => [], fun us v => [], fun us v => [], fun us v => [], fun us v => [], fun us v => [], fun us v => [], fun us v => [], fun us v => [], fun us v => [], fun us v => [], fun us v => [], fun us v => [], fun us v => [], fun us v => [], fun us v => [], fun us v => [], fun us v => [], fun us v => []]) mixed rfl rfl (by kernel_rfl) (by kernel_rfl) (MonoG.get (mC (fun le h => h) (mC (fun le h => h) (mC (fun le h => h) (mC (fun le h => h) (mC (fun le h => h) (mC (fun le h => h) (mC (fun le h => h) (mC (fun le h => h) (mC (fun le h => h) (mC (fun le h => h) (mC (fun le h => h) (mC (fun le h => h) (mC (fun le h => h) (mC (fun le h => h) (mC (fun le h => h) (mC (fun le h => ⟨h.1, h.2.mono le⟩) (mC (fun le h => h) (mC (fun le h => h) (mC (fun le h => h) (mC (fun le h => h) (mC (fun le h => h) (mC (fun le h => h) (mC (fun le h => h) (mC (fun le h => h) (mC (fun le h => h) (mC (fun le h => h) (mC (fun le h => h) (mC (fun le h => h) (mC (fun le h => h) (mC (fun le h => h) (mC (fun le h => h) MonoG.nil)))))))))))))))))))))))))))))))) ?_ ?_
    ·refine gC (fun vals Fs R leFs hpZ => ?_) ?_
     ·refine XG.op (XOp.fieldP (b := b4) (1) runUnderlying34 rfl sizeOf32 (by decide) rfl rfl ?_)
      exact ⟨rfl, rfl⟩
     refine gC (fun vals Fs R leFs hpZ => ?_) ?_
     ·replace hbs := hbs.mono leFs
      replace hr1 := hr1.mono leFs
      replace hr2 := hr2.mono leFs
      replace hr6 := hr6.mono leFs
      replace hr7 := hr7.mono leFs
      replace hr12 := hr12.mono leFs
      replace hr14 := hr14.mono leFs
      rw [eS (l := [(0, ptr b4 1)]) ⟨(hpZ 0 (by decide)), trivial⟩]
      refine XG.op (XOp.load1 (v := x14) isAgg32 rfl (Rd.own [] rfl rfl) ?_)
      exact ⟨rfl, rfl⟩
     refine gC (fun vals Fs R leFs hpZ => ?_) ?_
     ·replace hbs := hbs.mono leFs
      replace hr1 := hr1.mono leFs
      replace hr2 := hr2.mono leFs
      replace hr6 := hr6.mono leFs
      replace hr7 := hr7.mono leFs
      replace hr12 := hr12.mono leFs
      replace hr14 := hr14.mono leFs
      rw [eS (l := [(1, x14)]) ⟨(hpZ 1 (by decide)), trivial⟩]
      refine XG.op (XOp.lenS (v := x14) (n := ((walkB x4 x5 x6 x7 (x8 - 1)).2.1).length) runUnderlying32 rfl hr12.slv ?_)
      exact ⟨rfl, rfl⟩
     refine gC (fun vals Fs R leFs hpZ => ?_) ?_
     ·refine XG.op (XOp.fieldP (b := b2) (1) runUnderlying34 rfl sizeOf32 (by decide) rfl rfl ?_)
      exact ⟨rfl, rfl⟩
     refine gC (fun vals Fs R leFs hpZ => ?_) ?_
     ·replace hbs := hbs.mono leFs
      replace hr1 := hr1.mono leFs
      replace hr2 := hr2.mono leFs
      replace hr6 := hr6.mono leFs
      replace hr7 := hr7.mono leFs
      replace hr12 := hr12.mono leFs
      replace hr14 := hr14.mono leFs
      rw [eS (l := [(3, ptr b2 1)]) ⟨(hpZ 3 (by decide)), trivial⟩]
      refine XG.op (XOp.load1 (v := x10) isAgg32 rfl (Rd.own [_, _] rfl rfl) ?_)
      exact ⟨rfl, rfl⟩
     refine gC (fun vals Fs R leFs hpZ => ?_) ?_
     ·replace hbs := hbs.mono leFs
      replace hr1 := hr1.mono leFs
      replace hr2 := hr2.mono leFs
      replace hr6 := hr6.mono leFs
      replace hr7 := hr7.mono leFs
      replace hr12 := hr12.mono leFs
      replace hr14 := hr14.mono leFs
      rw [eS (l := [(4, x10)]) ⟨(hpZ 4 (by decide)), trivial⟩]
      refine XG.op (XOp.lenS (v := x10) (n := ((walkB x4 x5 x6 x7 x8).2.1).length) runUnderlying32 rfl hr7.slv ?_)
      exact ⟨rfl, rfl⟩
     refine gC (fun vals Fs R leFs hpZ => ?_) ?_
     ·rw [eS (l := [(2, (.int .i64 (((((walkB x4 x5 x6 x7 (x8 - 1)).2.1).length : Nat) : Int)) : Value)), (5, (.int .i64 (((((walkB x4 x5 x6 x7 x8).2.1).length : Nat) : Int)) : Value))]) ⟨(hpZ 2 (by decide)), (hpZ 5 (by decide)), trivial⟩]
      refine XG.op (XOp.leq (a := ((((walkB x4 x5 x6 x7 (x8 - 1)).2.1).length : Nat) : Int)) (b := ((((walkB x4 x5 x6 x7 x8).2.1).length : Nat) : Int)) rfl rfl ?_)
      exact ⟨rfl, rfl⟩
     refine gC (fun vals Fs R leFs hpZ => ?_) ?_
     ·rw [eS (l := [(6, (.bool (decide ((((((walkB x4 x5 x6 x7 (x8 - 1)).2.1).length : Nat) : Int) : Int) ≤ ((((walkB x4 x5 x6 x7 x8).2.1).length : Nat) : Int))) : Value))]) ⟨(hpZ 6 (by decide)), trivial⟩]
      refine XG.op (XOp.move (.bool (decide ((((((walkB x4 x5 x6 x7 (x8 - 1)).2.1).length : Nat) : Int) : Int) ≤ ((((walkB x4 x5 x6 x7 x8).2.1).length : Nat) : Int)))) rfl ?_)
      exact ⟨rfl, rfl⟩
     refine gC (fun vals Fs R leFs hpZ => ?_) ?_
     ·rw [eS (l := [(7, (.bool (decide ((((((walkB x4 x5 x6 x7 (x8 - 1)).2.1).length : Nat) : Int) : Int) ≤ ((((walkB x4 x5 x6 x7 x8).2.1).length : Nat) : Int))) : Value))]) ⟨(hpZ 7 (by decide)), trivial⟩]
      refine XG.yes (t := 113) rfl (vT h8) (XOp.fieldP (b := b4) (1) runUnderlying34 rfl sizeOf32 (by decide) rfl rfl ?_)
      exact ⟨rfl, rfl⟩
     refine gC (fun vals Fs R leFs hpZ => ?_) ?_
     ·replace hbs := hbs.mono leFs
      replace hr1 := hr1.mono leFs
      replace hr2 := hr2.mono leFs
      replace hr6 := hr6.mono leFs
      replace hr7 := hr7.mono leFs
      replace hr12 := hr12.mono leFs
      replace hr14 := hr14.mono leFs
      rw [eS (l := [(7, (.bool (decide ((((((walkB x4 x5 x6 x7 (x8 - 1)).2.1).length : Nat) : Int) : Int) ≤ ((((walkB x4 x5 x6 x7 x8).2.1).length : Nat) : Int))) : Value)), (8, ptr b4 1)]) ⟨(hpZ 7 (by decide)), (hpZ 8 (by decide)), trivial⟩]
      refine XG.yes (t := 113) rfl (vT h8) (XOp.load1 (v := x14) isAgg32 rfl (Rd.own [] rfl rfl) ?_)
      exact ⟨rfl, rfl⟩
     refine gC (fun vals Fs R leFs hpZ => ?_) ?_
     ·rw [eS (l := [(7, (.bool (decide ((((((walkB x4 x5 x6 x7 (x8 - 1)).2.1).length : Nat) : Int) : Int) ≤ ((((walkB x4 x5 x6 x7 x8).2.1).length : Nat) : Int))) : Value))]) ⟨(hpZ 7 (by decide)), trivial⟩]
      refine XG.yes (t := 113) rfl (vT h8) (XOp.fieldP (b := b2) (1) runUnderlying34 rfl sizeOf32 (by decide) rfl rfl ?_)
      exact ⟨rfl, rfl⟩
     refine gC (fun vals Fs R leFs hpZ => ?_) ?_
     ·replace hbs := hbs.mono leFs
      replace hr1 := hr1.mono leFs
      replace hr2 := hr2.mono leFs
      replace hr6 := hr6.mono leFs
      replace hr7 := hr7.mono leFs
      replace hr12 := hr12.mono leFs
      replace hr14 := hr14.mono leFs
      rw [eS (l := [(7, (.bool (decide ((((((walkB x4 x5 x6 x7 (x8 - 1)).2.1).length : Nat) : Int) : Int) ≤ ((((walkB x4 x5 x6 x7 x8).2.1).length : Nat) : Int))) : Value)), (10, ptr b2 1)]) ⟨(hpZ 7 (by decide)), (hpZ 10 (by decide)), trivial⟩]
      refine XG.yes (t := 113) rfl (vT h8) (XOp.load1 (v := x10) isAgg32 rfl (Rd.own [_, _] rfl rfl) ?_)
      exact ⟨rfl, rfl⟩
     refine gC (fun vals Fs R leFs hpZ => ?_) ?_
     ·rw [eS (l := [(7, (.bool (decide ((((((walkB x4 x5 x6 x7 (x8 - 1)).2.1).length : Nat) : Int) : Int) ≤ ((((walkB x4 x5 x6 x7 x8).2.1).length : Nat) : Int))) : Value))]) ⟨(hpZ 7 (by decide)), trivial⟩]
      refine XG.yes (t := 113) rfl (vT h8) (XOp.fieldP (b := b4) (1) runUnderlying34 rfl sizeOf32 (by decide) rfl rfl ?_)
      exact ⟨rfl, rfl⟩
     refine gC (fun vals Fs R leFs hpZ => ?_) ?_
     ·replace hbs := hbs.mono leFs
      replace hr1 := hr1.mono leFs
      replace hr2 := hr2.mono leFs
      replace hr6 := hr6.mono leFs
      replace hr7 := hr7.mono leFs
      replace hr12 := hr12.mono leFs
      replace hr14 := hr14.mono leFs
      rw [eS (l := [(7, (.bool (decide ((((((walkB x4 x5 x6 x7 (x8 - 1)).2.1).length : Nat) : Int) : Int) ≤ ((((walkB x4 x5 x6 x7 x8).2.1).length : Nat) : Int))) : Value)), (12, ptr b4 1)]) ⟨(hpZ 7 (by decide)), (hpZ 12 (by decide)), trivial⟩]
      refine XG.yes (t := 113) rfl (vT h8) (XOp.load1 (v := x14) isAgg32 rfl (Rd.own [] rfl rfl) ?_)
      exact ⟨rfl, rfl⟩
     refine gC (fun vals Fs R leFs hpZ => ?_) ?_
     ·replace hbs := hbs.mono leFs
      replace hr1 := hr1.mono leFs
      replace hr2 := hr2.mono leFs
      replace hr6 := hr6.mono leFs
      replace hr7 := hr7.mono leFs
      replace hr12 := hr12.mono leFs
      replace hr14 := hr14.mono leFs
      rw [eS (l := [(7, (.bool (decide ((((((walkB x4 x5 x6 x7 (x8 - 1)).2.1).length : Nat) : Int) : Int) ≤ ((((walkB x4 x5 x6 x7 x8).2.1).length : Nat) : Int))) : Value)), (13, x14)]) ⟨(hpZ 7 (by decide)), (hpZ 13 (by decide)), trivial⟩]
      refine XG.yes (t := 113) rfl (vT h8) (XOp.lenS (v := x14) (n := ((walkB x4 x5 x6 x7 (x8 - 1)).2.1).length) runUnderlying32 rfl hr12.slv ?_)
      exact ⟨rfl, rfl⟩
     refine gC (fun vals Fs R leFs hpZ => ?_) ?_
     ·replace hbs := hbs.mono leFs
      replace hr1 := hr1.mono leFs
      replace hr2 := hr2.mono leFs
      replace hr6 := hr6.mono leFs
      replace hr7 := hr7.mono leFs
      replace hr12 := hr12.mono leFs
      replace hr14 := hr14.mono leFs
      rw [eS (l := [(7, (.bool (decide ((((((walkB x4 x5 x6 x7 (x8 - 1)).2.1).length : Nat) : Int) : Int) ≤ ((((walkB x4 x5 x6 x7 x8).2.1).length : Nat) : Int))) : Value)), (11, x10), (14, (.int .i64 (((((walkB x4 x5 x6 x7 (x8 - 1)).2.1).length : Nat) : Int)) : Value))]) ⟨(hpZ 7 (by decide)), (hpZ 11 (by decide)), (hpZ 14 (by decide)), trivial⟩]
      refine XG.yes (t := 113) rfl (vT h8) (XOp.sliceC 0 (((walkB x4 x5 x6 x7 (x8 - 1)).2.1).length) runUnderlying32 sizeOf68 rfl hr7 rfl ⟨_, rfl⟩ (by omega) (by omega) ?_)
      intro v6 hv4
      replace hv4 : StepsF Fs v6 (((walkB x4 x5 x6 x7 x8).2.1).take (((walkB x4 x5 x6 x7 (x8 - 1)).2.1).length)) := hv4
      exact ⟨⟨rfl, hv4⟩, rfl⟩
     refine gC (fun vals Fs R leFs hpZ => ?_) ?_
     ·obtain ⟨e15, f15_8hv⟩ := hpZ 15 (by decide)
      replace hbs := hbs.mono leFs
      replace hr1 := hr1.mono leFs
      replace hr2 := hr2.mono leFs
      replace hr6 := hr6.mono leFs
      replace hr7 := hr7.mono leFs
      replace hr12 := hr12.mono leFs
      replace hr14 := hr14.mono leFs
      rw [eS (l := [(7, (.bool (decide ((((((walkB x4 x5 x6 x7 (x8 - 1)).2.1).length : Nat) : Int) : Int) ≤ ((((walkB x4 x5 x6 x7 x8).2.1).length : Nat) : Int))) : Value)), (9, x14), (15, (vals 15))]) ⟨(hpZ 7 (by decide)), (hpZ 9 (by decide)), (e15).symm, trivial⟩]
      refine XG.yes (t := 113) rfl (vT h8) (XOp.call (args := [x14, (vals 15)]) call11 rfl (w5Steps_spec hr12 ((by have h9 := f15_8hv; rw [hnz.2] at h9; exact h9)) (hbd := (by omega)) (hbe := (fun i hi => by have := hwb2.2.1 i hi; omega))) ?_)
      rintro _ _ _ _ ⟨rfl, rfl, rfl⟩
      exact ⟨rfl, rfl⟩
     refine gC (fun vals Fs R leFs hpZ => ?_) ?_
     ·rw [eS (l := [(7, (.bool (decide ((((((walkB x4 x5 x6 x7 (x8 - 1)).2.1).length : Nat) : Int) : Int) ≤ ((((walkB x4 x5 x6 x7 x8).2.1).length : Nat) : Int))) : Value)), (16, (.bool (true) : Value))]) ⟨(hpZ 7 (by decide)), (hpZ 16 (by decide)), trivial⟩]
      refine XG.op (XOp.pickT (.bool (true)) (vT h8) rfl ?_)
      exact ⟨rfl, rfl⟩
     refine gC (fun vals Fs R leFs hpZ => ?_) ?_
     ·rw [eS (l := [(17, (.bool (true) : Value))]) ⟨(hpZ 17 (by decide)), trivial⟩]
      refine XG.op (XOp.move (.bool (true)) rfl ?_)
      exact ⟨rfl, rfl⟩
     refine gC (fun vals Fs R leFs hpZ => ?_) ?_
     ·rw [eS (l := [(18, (.bool (true) : Value))]) ⟨(hpZ 18 (by decide)), trivial⟩]
      refine XG.yes (t := 124) rfl rfl (XOp.move (.bool ((normB x4 x5 x6 x7 x8).2)) rfl ?_)
      exact ⟨rfl, rfl⟩
     refine gC (fun vals Fs R leFs hpZ => ?_) ?_
     ·rw [eS (l := [(18, (.bool (true) : Value))]) ⟨(hpZ 18 (by decide)), trivial⟩]
      refine XG.yes (t := 124) rfl rfl (XOp.move (.bool ((walkB x4 x5 x6 x7 x8).2.2)) rfl ?_)
      exact ⟨rfl, rfl⟩
     refine gC (fun vals Fs R leFs hpZ => ?_) ?_
     ·rw [eS (l := [(18, (.bool (true) : Value)), (19, (.bool ((normB x4 x5 x6 x7 x8).2) : Value)), (20, (.bool ((walkB x4 x5 x6 x7 x8).2.2) : Value))]) ⟨(hpZ 18 (by decide)), (hpZ 19 (by decide)), (hpZ 20 (by decide)), trivial⟩]
      refine XG.yes (t := 124) rfl rfl (XOp.eqB (a := (normB x4 x5 x6 x7 x8).2) (b := (walkB x4 x5 x6 x7 x8).2.2) runUnderlying4 rfl rfl ?_)
      exact ⟨rfl, rfl⟩
     refine gC (fun vals Fs R leFs hpZ => ?_) ?_
     ·rw [eS (l := [(18, (.bool (true) : Value)), (21, (.bool (decide (((normB x4 x5 x6 x7 x8).2) = ((walkB x4 x5 x6 x7 x8).2.2))) : Value))]) ⟨(hpZ 18 (by decide)), (hpZ 21 (by decide)), trivial⟩]
      refine XG.op (XOp.pickT (.bool (decide (((normB x4 x5 x6 x7 x8).2) = ((walkB x4 x5 x6 x7 x8).2.2)))) rfl rfl ?_)
      exact ⟨rfl, rfl⟩
     refine gC (fun vals Fs R leFs hpZ => ?_) ?_
     ·rw [eS (l := [(22, (.bool (decide (((normB x4 x5 x6 x7 x8).2) = ((walkB x4 x5 x6 x7 x8).2.2))) : Value))]) ⟨(hpZ 22 (by decide)), trivial⟩]
      refine XG.op (XOp.move (.bool (decide (((normB x4 x5 x6 x7 x8).2) = ((walkB x4 x5 x6 x7 x8).2.2)))) rfl ?_)
      exact ⟨rfl, rfl⟩
     refine gC (fun vals Fs R leFs hpZ => ?_) ?_
     ·rw [eS (l := [(23, (.bool (decide (((normB x4 x5 x6 x7 x8).2) = ((walkB x4 x5 x6 x7 x8).2.2))) : Value))]) ⟨(hpZ 23 (by decide)), trivial⟩]
      refine XG.yes (t := 129) rfl (vT h9) (XOp.move (.bool ((walkB x4 x5 x6 x7 x8).2.2)) rfl ?_)
      exact ⟨rfl, rfl⟩
     refine gC (fun vals Fs R leFs hpZ => ?_) ?_
     ·rw [eS (l := [(23, (.bool (decide (((normB x4 x5 x6 x7 x8).2) = ((walkB x4 x5 x6 x7 x8).2.2))) : Value)), (24, (.bool ((walkB x4 x5 x6 x7 x8).2.2) : Value))]) ⟨(hpZ 23 (by decide)), (hpZ 24 (by decide)), trivial⟩]
      refine XG.yes (t := 129) rfl (vT h9) (XOp.notB (b := (walkB x4 x5 x6 x7 x8).2.2) rfl ?_)
      exact ⟨rfl, rfl⟩
     refine gC (fun vals Fs R leFs hpZ => ?_) ?_
     ·rw [eS (l := [(23, (.bool (decide (((normB x4 x5 x6 x7 x8).2) = ((walkB x4 x5 x6 x7 x8).2.2))) : Value)), (25, (.bool (!((walkB x4 x5 x6 x7 x8).2.2)) : Value))]) ⟨(hpZ 23 (by decide)), (hpZ 25 (by decide)), trivial⟩]
      refine XG.yes (t := 129) rfl (vT h9) (XOp.move (.bool (!((walkB x4 x5 x6 x7 x8).2.2))) rfl ?_)
      exact ⟨rfl, rfl⟩
     refine gC (fun vals Fs R leFs hpZ => ?_) ?_
     ·rw [eS (l := [(26, (.bool (!((walkB x4 x5 x6 x7 x8).2.2)) : Value))]) ⟨(hpZ 26 (by decide)), trivial⟩]
      exact XG.no (t := 132) rfl (vB h10) ⟨rfl, rfl⟩
     refine gC (fun vals Fs R leFs hpZ => ?_) ?_
     ·replace hbs := hbs.mono leFs
      replace hr1 := hr1.mono leFs
      replace hr2 := hr2.mono leFs
      replace hr6 := hr6.mono leFs
      replace hr7 := hr7.mono leFs
      replace hr12 := hr12.mono leFs
      replace hr14 := hr14.mono leFs
      rw [eS (l := [(26, (.bool (!((walkB x4 x5 x6 x7 x8).2.2)) : Value))]) ⟨(hpZ 26 (by decide)), trivial⟩]
      exact XG.no (t := 132) rfl (vB h10) ⟨rfl, rfl⟩
     refine gC (fun vals Fs R leFs hpZ => ?_) ?_
     ·replace hbs := hbs.mono leFs
      replace hr1 := hr1.mono leFs
      replace hr2 := hr2.mono leFs
      replace hr6 := hr6.mono leFs
      replace hr7 := hr7.mono leFs
      replace hr12 := hr12.mono leFs
      replace hr14 := hr14.mono leFs
      rw [eS (l := [(26, (.bool (!((walkB x4 x5 x6 x7 x8).2.2)) : Value))]) ⟨(hpZ 26 (by decide)), trivial⟩]
      exact XG.no (t := 132) rfl (vB h10) ⟨rfl, rfl⟩
     refine gC (fun vals Fs R leFs hpZ => ?_) ?_
     ·replace hbs := hbs.mono leFs
      replace hr1 := hr1.mono leFs
      replace hr2 := hr2.mono leFs
      replace hr6 := hr6.mono leFs
      replace hr7 := hr7.mono leFs
      replace hr12 := hr12.mono leFs
      replace hr14 := hr14.mono leFs
      rw [eS (l := [(26, (.bool (!((walkB x4 x5 x6 x7 x8).2.2)) : Value)), (28, undef), (29, undef)]) ⟨(hpZ 26 (by decide)), (hpZ 28 (by decide)), (hpZ 29 (by decide)), trivial⟩]
      exact XG.no (t := 132) rfl (vB h10) ⟨rfl, rfl⟩
     exact stepsG.nil
    intro vals F8 le8 hphi
    obtain ⟨e15, f15_8hv⟩ := hphi 15 (by decide)
    generalize hu2 : (vals 15) = u2 at e15 f15_8hv
    rw [eS (l := [(23, (.bool (decide (((normB x4 x5 x6 x7 x8).2) = ((walkB x4 x5 x6 x7 x8).2.2))) : Value)), (26, (.bool (!((walkB x4 x5 x6 x7 x8).2.2)) : Value)), (27, undef), (30, undef)]) ⟨(hphi 23 (by decide)), (hphi 26 (by decide)), (hphi 27 (by decide)), (hphi 30 (by decide)), trivial⟩]
    replace hbs := hbs.mono le8
    replace hr1 := hr1.mono le8
    replace hr2 := hr2.mono le8
    replace hr6 := hr6.mono le8
    replace hr7 := hr7.mono le8
    replace hr12 := hr12.mono le8
    replace hr14 := hr14.mono le8
    show XL _ _ _ _ _ _ _ (cellsH b4 [x13, x14] 34 :: cellsH b3 [x11, x12] 34 :: cellsH b2 [x9, x10] 34 :: cellsH b1 [x1, x2] 29 :: L)
    refine XL.no (t := 132) rfl (vB h10) ?_
    refine XL.yes (t := 129) rfl (vT h9) (XOp.pickT (.bool (true)) (vB h10) rfl ?_)
    refine cX (XOp.pickT (.bool (true)) (vT h9) rfl ?_)
    refine XL.as (.bool (true)) rfl ?_
    refine XL.nil ?_
    refine X.ret (retEnd (L' := L) [.bool (true)] (.bool (true)) (.tmp rfl .nil) rfl rF (FLe.trans (FLe.trans (FLe.trans (FLe.trans (FLe.trans (FLe.trans le1 le2) le3) le5) le6) le7) le8) (sD (sD (sD (sD sR)))) ?_)
    exact ⟨rfl, rfl, rfl⟩
   rw [Bool.not_eq_true] at h10
   have hen := hlw.2.2.2.2.2 (by simpa using h10)
   refine X.drawG [cellsH b4 [x13, x14] 34, cellsH b3 [x11, x12] 34, cellsH b2 [x9, x10] 34, cellsH b1 [x1, x2] 29] L 31 [[], [], [], [], [], [], [], [], [], [], [], [], [], [], [], [], [], [], [], [], [], [], [], [], [], [], [], [], [], [], []] [[], [0], [1], [], [3], [4], [2, 5], [6], [7], [7, 8], [7], [7, 10], [7], [7, 12], [7, 13], [7, 11, 14], [7, 9, 15], [7, 16], [17], [18], [18], [18, 19, 20], [18, 21], [22], [23], [23, 24], [23, 25], [26], [26], [26], [26, 28, 29]] [[], [], [], [], [], [], [], [], [], [], [], [], [], [], [], [], [], [], [], [], [], [], [], [], [], [], [], [], [], [], []] (phiG [fun FF us v => v = ptr b4 1, fun FF us v => v = x14, fun FF us v => v = (.int .i64 (((((walkB x4 x5 x6 x7 (x8 - 1)).2.1).length : Nat) : Int)) : Value), fun FF us v => v = ptr b2 1, fun FF us v => v = x10, fun FF us v => v = (.int .i64 (((((walkB x4 x5 x6 x7 x8).2.1).length : Nat) : Int)) : Value), fun FF us v => v = (.bool (decide ((((((walkB x4 x5 x6 x7 (x8 - 1)).2.1).length : Nat) : Int) : Int) ≤ ((((walkB x4 x5 x6 x7 x8).2.1).length : Nat) : Int))) : Value), fun FF us v => v = (.bool (decide ((((((walkB x4 x5 x6 x7 (x8 - 1)).2.1).length : Nat) : Int) : Int) ≤ ((((walkB x4 x5 x6 x7 x8).2.1).length : Nat) : Int))) : Value), fun FF us v => v = ptr b4 1, fun FF us v => v = x14, fun FF us v => v = ptr b2 1, fun FF us v => v = x10, fun FF us v => v = ptr b4 1, fun FF us v => v = x14, fun FF us v => v = (.int .i64 (((((walkB x4 x5 x6 x7 (x8 - 1)).2.1).length : Nat) : Int)) : Value), fun FF us v => (v : Value) = v ∧ (StepsF FF v ((((walkB x4 x5 x6 x7 x8).2.1).take (((walkB x4 x5 x6 x7 (x8 - 1)).2.1).length)))), fun FF us v => v = (.bool (true) : Value), fun FF us v => v = (.bool (true) : Value), fun FF us v => v = (.bool (true) : Value), fun FF us v => v = (.bool ((normB x4 x5 x6 x7 x8).2) : Value), fun FF us v => v = (.bool ((walkB x4 x5 x6 x7 x8).2.2) : Value), fun FF us v => v = (.bool (decide (((normB x4 x5 x6 x7 x8).2) = ((walkB x4 x5 x6 x7 x8).2.2))) : Value), fun FF us v => v = (.bool (decide (((normB x4 x5 x6 x7 x8).2) = ((walkB x4 x5 x6 x7 x8).2.2))) : Value), fun FF us v => v = (.bool (decide (((normB x4 x5 x6 x7 x8).2) = ((walkB x4 x5 x6 x7 x8).2.2))) : Value), fun FF us v => v = (.bool ((walkB x4 x5 x6 x7 x8).2.2) : Value), fun FF us v => v = (.bool (!((walkB x4 x5 x6 x7 x8).2.2)) : Value), fun FF us v => v = (.bool (!((walkB x4 x5 x6 x7 x8).2.2)) : Value), fun FF us v => v = x15, fun FF us v => v = (.agg #[x1, x2] : Value), fun FF us v => v = (.agg #[x9, x10] : Value), fun FF us v => ((v) : Value) = v ∧ (IntsF FF (v) (endT x4 x5 ((walkB x4 x5 x6 x7 x8).1) ((walkB x4 x5 x6 x7 x8).2.1)))]) (ownL [fun us v => [], fun us v => [], fun us v => [], fun us v => [], fun us v => [], fun us v => [], fun us v => [], fun us v => [], fun us v => [], fun us v => [], fun us v => [], fun us v => [], fun us v => [], fun us v => [], fun us v => [], fun us v => [], fun us v => [], fun us v => [], fun us v => [], fun us v => [], fun us v => [], fun us v => [], fun us v => [], fun us v => [], fun us v => [], fun us v => [], fun us v => [], fun us v => [], fun us v => [], fun us v => [], fun us v => []]) mixed rfl rfl (by kernel_rfl) (by kernel_rfl) (MonoG.get (mC (fun le h => h) (mC (fun le h => h) (mC (fun le h => h) (mC (fun le h => h) (mC (fun le h => h) (mC (fun le h => h) (mC (fun le h => h) (mC (fun le h => h) (mC (fun le h => h) (mC (fun le h => h) (mC (fun le h => h) (mC (fun le h => h) (mC (fun le h => h) (mC (fun le h => h) (mC (fun le h => h) (mC (fun le h => ⟨h.1, h.2.mono le⟩) (mC (fun le h => h) (mC (fun le h => h) (mC (fun le h => h) (mC (fun le h => h) (mC (fun le h => h) (mC (fun le h => h) (mC (fun le h => h) (mC (fun le h => h) (mC (fun le h => h) (mC (fun le h => h) (mC (fun le h => h) (mC (fun le h => h) (mC (fun le h => h) (mC (fun le h => h) (mC (fun le h => ⟨h.1, h.2.mono le⟩) MonoG.nil)))))))))))))))))))))))))))))))) ?_ ?_
   ·refine gC (fun vals Fs R leFs hpZ => ?_) ?_
    ·refine XG.op (XOp.fieldP (b := b4) (1) runUnderlying34 rfl sizeOf32 (by decide) rfl rfl ?_)
     exact ⟨rfl, rfl⟩
    refine gC (fun vals Fs R leFs hpZ => ?_) ?_
    ·replace hbs := hbs.mono leFs
     replace hr1 := hr1.mono leFs
     replace hr2 := hr2.mono leFs
     replace hr6 := hr6.mono leFs
     replace hr7 := hr7.mono leFs
     replace hr12 := hr12.mono leFs
     replace hr14 := hr14.mono leFs
     rw [eS (l := [(0, ptr b4 1)]) ⟨(hpZ 0 (by decide)), trivial⟩]
     refine XG.op (XOp.load1 (v := x14) isAgg32 rfl (Rd.own [] rfl rfl) ?_)
     exact ⟨rfl, rfl⟩
    refine gC (fun vals Fs R leFs hpZ => ?_) ?_
    ·replace hbs := hbs.mono leFs
     replace hr1 := hr1.mono leFs
     replace hr2 := hr2.mono leFs
     replace hr6 := hr6.mono leFs
     replace hr7 := hr7.mono leFs
     replace hr12 := hr12.mono leFs
     replace hr14 := hr14.mono leFs
     rw [eS (l := [(1, x14)]) ⟨(hpZ 1 (by decide)), trivial⟩]
     refine XG.op (XOp.lenS (v := x14) (n := ((walkB x4 x5 x6 x7 (x8 - 1)).2.1).length) runUnderlying32 rfl hr12.slv ?_)
     exact ⟨rfl, rfl⟩
    refine gC (fun vals Fs R leFs hpZ => ?_) ?_
    ·refine XG.op (XOp.fieldP (b := b2) (1) runUnderlying34 rfl sizeOf32 (by decide) rfl rfl ?_)
     exact ⟨rfl, rfl⟩
    refine gC (fun vals Fs R leFs hpZ => ?_) ?_
    ·replace hbs := hbs.mono leFs
     replace hr1 := hr1.mono leFs
     replace hr2 := hr2.mono leFs
     replace hr6 := hr6.mono leFs
     replace hr7 := hr7.mono leFs
     replace hr12 := hr12.mono leFs
     replace hr14 := hr14.mono leFs
     rw [eS (l := [(3, ptr b2 1)]) ⟨(hpZ 3 (by decide)), trivial⟩]
     refine XG.op (XOp.load1 (v := x10) isAgg32 rfl (Rd.own [_, _] rfl rfl) ?_)
     exact ⟨rfl, rfl⟩
    refine gC (fun vals Fs R leFs hpZ => ?_) ?_
    ·replace hbs := hbs.mono leFs
     replace hr1 := hr1.mono leFs
     replace hr2 := hr2.mono leFs
     replace hr6 := hr6.mono leFs
     replace hr7 := hr7.mono leFs
     replace hr12 := hr12.mono leFs
     replace hr14 := hr14.mono leFs
     rw [eS (l := [(4, x10)]) ⟨(hpZ 4 (by decide)), trivial⟩]
     refine XG.op (XOp.lenS (v := x10) (n := ((walkB x4 x5 x6 x7 x8).2.1).length) runUnderlying32 rfl hr7.slv ?_)
     exact ⟨rfl, rfl⟩
    refine gC (fun vals Fs R leFs hpZ => ?_) ?_
    ·rw [eS (l := [(2, (.int .i64 (((((walkB x4 x5 x6 x7 (x8 - 1)).2.1).length : Nat) : Int)) : Value)), (5, (.int .i64 (((((walkB x4 x5 x6 x7 x8).2.1).length : Nat) : Int)) : Value))]) ⟨(hpZ 2 (by decide)), (hpZ 5 (by decide)), trivial⟩]
     refine XG.op (XOp.leq (a := ((((walkB x4 x5 x6 x7 (x8 - 1)).2.1).length : Nat) : Int)) (b := ((((walkB x4 x5 x6 x7 x8).2.1).length : Nat) : Int)) rfl rfl ?_)
     exact ⟨rfl, rfl⟩
    refine gC (fun vals Fs R leFs hpZ => ?_) ?_
    ·rw [eS (l := [(6, (.bool (decide ((((((walkB x4 x5 x6 x7 (x8 - 1)).2.1).length : Nat) : Int) : Int) ≤ ((((walkB x4 x5 x6 x7 x8).2.1).length : Nat) : Int))) : Value))]) ⟨(hpZ 6 (by decide)), trivial⟩]
     refine XG.op (XOp.move (.bool (decide ((((((walkB x4 x5 x6 x7 (x8 - 1)).2.1).length : Nat) : Int) : Int) ≤ ((((walkB x4 x5 x6 x7 x8).2.1).length : Nat) : Int)))) rfl ?_)
     exact ⟨rfl, rfl⟩
    refine gC (fun vals Fs R leFs hpZ => ?_) ?_
    ·rw [eS (l := [(7, (.bool (decide ((((((walkB x4 x5 x6 x7 (x8 - 1)).2.1).length : Nat) : Int) : Int) ≤ ((((walkB x4 x5 x6 x7 x8).2.1).length : Nat) : Int))) : Value))]) ⟨(hpZ 7 (by decide)), trivial⟩]
     refine XG.yes (t := 113) rfl (vT h8) (XOp.fieldP (b := b4) (1) runUnderlying34 rfl sizeOf32 (by decide) rfl rfl ?_)
     exact ⟨rfl, rfl⟩
    refine gC (fun vals Fs R leFs hpZ => ?_) ?_
    ·replace hbs := hbs.mono leFs
     replace hr1 := hr1.mono leFs
     replace hr2 := hr2.mono leFs
     replace hr6 := hr6.mono leFs
     replace hr7 := hr7.mono leFs
     replace hr12 := hr12.mono leFs
     replace hr14 := hr14.mono leFs
     rw [eS (l := [(7, (.bool (decide ((((((walkB x4 x5 x6 x7 (x8 - 1)).2.1).length : Nat) : Int) : Int) ≤ ((((walkB x4 x5 x6 x7 x8).2.1).length : Nat) : Int))) : Value)), (8, ptr b4 1)]) ⟨(hpZ 7 (by decide)), (hpZ 8 (by decide)), trivial⟩]
     refine XG.yes (t := 113) rfl (vT h8) (XOp.load1 (v := x14) isAgg32 rfl (Rd.own [] rfl rfl) ?_)
     exact ⟨rfl, rfl⟩
    refine gC (fun vals Fs R leFs hpZ => ?_) ?_
    ·rw [eS (l := [(7, (.bool (decide ((((((walkB x4 x5 x6 x7 (x8 - 1)).2.1).length : Nat) : Int) : Int) ≤ ((((walkB x4 x5 x6 x7 x8).2.1).length : Nat) : Int))) : Value))]) ⟨(hpZ 7 (by decide)), trivial⟩]
     refine XG.yes (t := 113) rfl (vT h8) (XOp.fieldP (b := b2) (1) runUnderlying34 rfl sizeOf32 (by decide) rfl rfl ?_)
     exact ⟨rfl, rfl⟩
    refine gC (fun vals Fs R leFs hpZ => ?_) ?_
    ·replace hbs := hbs.mono leFs
     replace hr1 := hr1.mono leFs
     replace hr2 := hr2.mono leFs
     replace hr6 := hr6.mono leFs
     replace hr7 := hr7.mono leFs
     replace hr12 := hr12.mono leFs
     replace hr14 := hr14.mono leFs
     rw [eS (l := [(7, (.bool (decide ((((((walkB x4 x5 x6 x7 (x8 - 1)).2.1).length : Nat) : Int) : Int) ≤ ((((walkB x4 x5 x6 x7 x8).2.1).length : Nat) : Int))) : Value)), (10, ptr b2 1)]) ⟨(hpZ 7 (by decide)), (hpZ 10 (by decide)), trivial⟩]
     refine XG.yes (t := 113) rfl (vT h8) (XOp.load1 (v := x10) isAgg32 rfl (Rd.own [_, _] rfl rfl) ?_)
     exact ⟨rfl, rfl⟩
    refine gC (fun vals Fs R leFs hpZ => ?_) ?_
    ·rw [eS (l := [(7, (.bool (decide ((((((walkB x4 x5 x6 x7 (x8 - 1)).2.1).length : Nat) : Int) : Int) ≤ ((((walkB x4 x5 x6 x7 x8).2.1).length : Nat) : Int))) : Value))]) ⟨(hpZ 7 (by decide)), trivial⟩]
     refine XG.yes (t := 113) rfl (vT h8) (XOp.fieldP (b := b4) (1) runUnderlying34 rfl sizeOf32 (by decide) rfl rfl ?_)
     exact ⟨rfl, rfl⟩
    refine gC (fun vals Fs R leFs hpZ => ?_) ?_
    ·replace hbs := hbs.mono leFs
     replace hr1 := hr1.mono leFs
     replace hr2 := hr2.mono leFs
     replace hr6 := hr6.mono leFs
     replace hr7 := hr7.mono leFs
     replace hr12 := hr12.mono leFs
     replace hr14 := hr14.mono leFs
     rw [eS (l := [(7, (.bool (decide ((((((walkB x4 x5 x6 x7 (x8 - 1)).2.1).length : Nat) : Int) : Int) ≤ ((((walkB x4 x5 x6 x7 x8).2.1).length : Nat) : Int))) : Value)), (12, ptr b4 1)]) ⟨(hpZ 7 (by decide)), (hpZ 12 (by decide)), trivial⟩]
     refine XG.yes (t := 113) rfl (vT h8) (XOp.load1 (v := x14) isAgg32 rfl (Rd.own [] rfl rfl) ?_)
     exact ⟨rfl, rfl⟩
    refine gC (fun vals Fs R leFs hpZ => ?_) ?_
    ·replace hbs := hbs.mono leFs
     replace hr1 := hr1.mono leFs
     replace hr2 := hr2.mono leFs
     replace hr6 := hr6.mono leFs
     replace hr7 := hr7.mono leFs
     replace hr12 := hr12.mono leFs
     replace hr14 := hr14.mono leFs
     rw [eS (l := [(7, (.bool (decide ((((((walkB x4 x5 x6 x7 (x8 - 1)).2.1).length : Nat) : Int) : Int) ≤ ((((walkB x4 x5 x6 x7 x8).2.1).length : Nat) : Int))) : Value)), (13, x14)]) ⟨(hpZ 7 (by decide)), (hpZ 13 (by decide)), trivial⟩]
     refine XG.yes (t := 113) rfl (vT h8) (XOp.lenS (v := x14) (n := ((walkB x4 x5 x6 x7 (x8 - 1)).2.1).length) runUnderlying32 rfl hr12.slv ?_)
     exact ⟨rfl, rfl⟩
    refine gC (fun vals Fs R leFs hpZ => ?_) ?_
    ·replace hbs := hbs.mono leFs
     replace hr1 := hr1.mono leFs
     replace hr2 := hr2.mono leFs
     replace hr6 := hr6.mono leFs
     replace hr7 := hr7.mono leFs
     replace hr12 := hr12.mono leFs
     replace hr14 := hr14.mono leFs
     rw [eS (l := [(7, (.bool (decide ((((((walkB x4 x5 x6 x7 (x8 - 1)).2.1).length : Nat) : Int) : Int) ≤ ((((walkB x4 x5 x6 x7 x8).2.1).length : Nat) : Int))) : Value)), (11, x10), (14, (.int .i64 (((((walkB x4 x5 x6 x7 (x8 - 1)).2.1).length : Nat) : Int)) : Value))]) ⟨(hpZ 7 (by decide)), (hpZ 11 (by decide)), (hpZ 14 (by decide)), trivial⟩]
     refine XG.yes (t := 113) rfl (vT h8) (XOp.sliceC 0 (((walkB x4 x5 x6 x7 (x8 - 1)).2.1).length) runUnderlying32 sizeOf68 rfl hr7 rfl ⟨_, rfl⟩ (by omega) (by omega) ?_)
     intro v9 hv6
     replace hv6 : StepsF Fs v9 (((walkB x4 x5 x6 x7 x8).2.1).take (((walkB x4 x5 x6 x7 (x8 - 1)).2.1).length)) := hv6
     exact ⟨⟨rfl, hv6⟩, rfl⟩
    refine gC (fun vals Fs R leFs hpZ => ?_) ?_
    ·obtain ⟨e15, f15_9hv⟩ := hpZ 15 (by decide)
     replace hbs := hbs.mono leFs
     replace hr1 := hr1.mono leFs
     replace hr2 := hr2.mono leFs
     replace hr6 := hr6.mono leFs
     replace hr7 := hr7.mono leFs
     replace hr12 := hr12.mono leFs
     replace hr14 := hr14.mono leFs
     rw [eS (l := [(7, (.bool (decide ((((((walkB x4 x5 x6 x7 (x8 - 1)).2.1).length : Nat) : Int) : Int) ≤ ((((walkB x4 x5 x6 x7 x8).2.1).length : Nat) : Int))) : Value)), (9, x14), (15, (vals 15))]) ⟨(hpZ 7 (by decide)), (hpZ 9 (by decide)), (e15).symm, trivial⟩]
     refine XG.yes (t := 113) rfl (vT h8) (XOp.call (args := [x14, (vals 15)]) call11 rfl (w5Steps_spec hr12 ((by have h9 := f15_9hv; rw [hnz.2] at h9; exact h9)) (hbd := (by omega)) (hbe := (fun i hi => by have := hwb2.2.1 i hi; omega))) ?_)
     rintro _ _ _ _ ⟨rfl, rfl, rfl⟩
     exact ⟨rfl, rfl⟩
    refine gC (fun vals Fs R leFs hpZ => ?_) ?_
    ·rw [eS (l := [(7, (.bool (decide ((((((walkB x4 x5 x6 x7 (x8 - 1)).2.1).length : Nat) : Int) : Int) ≤ ((((walkB x4 x5 x6 x7 x8).2.1).length : Nat) : Int))) : Value)), (16, (.bool (true) : Value))]) ⟨(hpZ 7 (by decide)), (hpZ 16 (by decide)), trivial⟩]
     refine XG.op (XOp.pickT (.bool (true)) (vT h8) rfl ?_)
     exact ⟨rfl, rfl⟩
    refine gC (fun vals Fs R leFs hpZ => ?_) ?_
    ·rw [eS (l := [(17, (.bool (true) : Value))]) ⟨(hpZ 17 (by decide)), trivial⟩]
     refine XG.op (XOp.move (.bool (true)) rfl ?_)
     exact ⟨rfl, rfl⟩
    refine gC (fun vals Fs R leFs hpZ => ?_) ?_
    ·rw [eS (l := [(18, (.bool (true) : Value))]) ⟨(hpZ 18 (by decide)), trivial⟩]
     refine XG.yes (t := 124) rfl rfl (XOp.move (.bool ((normB x4 x5 x6 x7 x8).2)) rfl ?_)
     exact ⟨rfl, rfl⟩
    refine gC (fun vals Fs R leFs hpZ => ?_) ?_
    ·rw [eS (l := [(18, (.bool (true) : Value))]) ⟨(hpZ 18 (by decide)), trivial⟩]
     refine XG.yes (t := 124) rfl rfl (XOp.move (.bool ((walkB x4 x5 x6 x7 x8).2.2)) rfl ?_)
     exact ⟨rfl, rfl⟩
    refine gC (fun vals Fs R leFs hpZ => ?_) ?_
    ·rw [eS (l := [(18, (.bool (true) : Value)), (19, (.bool ((normB x4 x5 x6 x7 x8).2) : Value)), (20, (.bool ((walkB x4 x5 x6 x7 x8).2.2) : Value))]) ⟨(hpZ 18 (by decide)), (hpZ 19 (by decide)), (hpZ 20 (by decide)), trivial⟩]
     refine XG.yes (t := 124) rfl rfl (XOp.eqB (a := (normB x4 x5 x6 x7 x8).2) (b := (walkB x4 x5 x6 x7 x8).2.2) runUnderlying4 rfl rfl ?_)
     exact ⟨rfl, rfl⟩
    refine gC (fun vals Fs R leFs hpZ => ?_) ?_
    ·rw [eS (l := [(18, (.bool (true) : Value)), (21, (.bool (decide (((normB x4 x5 x6 x7 x8).2) = ((walkB x4 x5 x6 x7 x8).2.2))) : Value))]) ⟨(hpZ 18 (by decide)), (hpZ 21 (by decide)), trivial⟩]
     refine XG.op (XOp.pickT (.bool (decide (((normB x4 x5 x6 x7 x8).2) = ((walkB x4 x5 x6 x7 x8).2.2)))) rfl rfl ?_)
     exact ⟨rfl, rfl⟩
    refine gC (fun vals Fs R leFs hpZ => ?_) ?_
    ·rw [eS (l := [(22, (.bool (decide (((normB x4 x5 x6 x7 x8).2) = ((walkB x4 x5 x6 x7 x8).2.2))) : Value))]) ⟨(hpZ 22 (by decide)), trivial⟩]
     refine XG.op (XOp.move (.bool (decide (((normB x4 x5 x6 x7 x8).2) = ((walkB x4 x5 x6 x7 x8).2.2)))) rfl ?_)
     exact ⟨rfl, rfl⟩
    refine gC (fun vals Fs R leFs hpZ => ?_) ?_
    ·rw [eS (l := [(23, (.bool (decide (((normB x4 x5 x6 x7 x8).2) = ((walkB x4 x5 x6 x7 x8).2.2))) : Value))]) ⟨(hpZ 23 (by decide)), trivial⟩]
     refine XG.yes (t := 129) rfl (vT h9) (XOp.move (.bool ((walkB x4 x5 x6 x7 x8).2.2)) rfl ?_)
     exact ⟨rfl, rfl⟩
    refine gC (fun vals Fs R leFs hpZ => ?_) ?_
    ·rw [eS (l := [(23, (.bool (decide (((normB x4 x5 x6 x7 x8).2) = ((walkB x4 x5 x6 x7 x8).2.2))) : Value)), (24, (.bool ((walkB x4 x5 x6 x7 x8).2.2) : Value))]) ⟨(hpZ 23 (by decide)), (hpZ 24 (by decide)), trivial⟩]
     refine XG.yes (t := 129) rfl (vT h9) (XOp.notB (b := (walkB x4 x5 x6 x7 x8).2.2) rfl ?_)
     exact ⟨rfl, rfl⟩
    refine gC (fun vals Fs R leFs hpZ => ?_) ?_
    ·rw [eS (l := [(23, (.bool (decide (((normB x4 x5 x6 x7 x8).2) = ((walkB x4 x5 x6 x7 x8).2.2))) : Value)), (25, (.bool (!((walkB x4 x5 x6 x7 x8).2.2)) : Value))]) ⟨(hpZ 23 (by decide)), (hpZ 25 (by decide)), trivial⟩]
     refine XG.yes (t := 129) rfl (vT h9) (XOp.move (.bool (!((walkB x4 x5 x6 x7 x8).2.2))) rfl ?_)
     exact ⟨rfl, rfl⟩
    refine gC (fun vals Fs R leFs hpZ => ?_) ?_
    ·rw [eS (l := [(26, (.bool (!((walkB x4 x5 x6 x7 x8).2.2)) : Value))]) ⟨(hpZ 26 (by decide)), trivial⟩]
     refine XG.yes (t := 132) rfl (vB h10) (XOp.move (x15) rfl ?_)
     exact ⟨rfl, rfl⟩
    refine gC (fun vals Fs R leFs hpZ => ?_) ?_
    ·replace hbs := hbs.mono leFs
     replace hr1 := hr1.mono leFs
     replace hr2 := hr2.mono leFs
     replace hr6 := hr6.mono leFs
     replace hr7 := hr7.mono leFs
     replace hr14 := hr14.mono leFs
     rw [eS (l := [(26, (.bool (!((walkB x4 x5 x6 x7 x8).2.2)) : Value))]) ⟨(hpZ 26 (by decide)), trivial⟩]
     refine XG.yes (t := 132) rfl (vB h10) (XOp.loadN [x1, x2] isAgg29 sizeOf29 rfl rfl (Rd.ownN [_, _, _] rfl rfl) ?_)
     exact ⟨rfl, rfl⟩
    refine gC (fun vals Fs R leFs hpZ => ?_) ?_
    ·replace hbs := hbs.mono leFs
     replace hr1 := hr1.mono leFs
     replace hr2 := hr2.mono leFs
     replace hr6 := hr6.mono leFs
     replace hr7 := hr7.mono leFs
     replace hr14 := hr14.mono leFs
     rw [eS (l := [(26, (.bool (!((walkB x4 x5 x6 x7 x8).2.2)) : Value))]) ⟨(hpZ 26 (by decide)), trivial⟩]
     refine XG.yes (t := 132) rfl (vB h10) (XOp.loadN [x9, x10] isAgg34 sizeOf34 rfl rfl (Rd.ownN [_, _] rfl rfl) ?_)
     exact ⟨rfl, rfl⟩
    refine gC (fun vals Fs R leFs hpZ => ?_) ?_
    ·replace hbs := hbs.mono leFs
     replace hr1 := hr1.mono leFs
     replace hr2 := hr2.mono leFs
     replace hr6 := hr6.mono leFs
     replace hr7 := hr7.mono leFs
     replace hr14 := hr14.mono leFs
     rw [eS (l := [(26, (.bool (!((walkB x4 x5 x6 x7 x8).2.2)) : Value)), (28, (.agg #[x1, x2] : Value)), (29, (.agg #[x9, x10] : Value))]) ⟨(hpZ 26 (by decide)), (hpZ 28 (by decide)), (hpZ 29 (by decide)), trivial⟩]
     refine XG.yes (t := 132) rfl (vB h10) (XOp.frzF <| XOp.call (args := [.agg #[x1, x2], .agg #[x9, x10]]) call16 rfl (EndTerm_spec hr1 hr2 hr6 hr7 (hlf := (by first | assumption | rfl | omega | simp)) (hsb := (by first | assumption | rfl | omega | simp))) ?_)
     rintro v10 _ _ _ ⟨rfl, hs4, rfl⟩
     refine ⟨_, _, rfl, fun F9 le9 hz2 => ?_⟩
     replace hr14 := hr14.mono le9
     have hf2 : IntsF F9 v10 ((endT x4 x5 ((walkB x4 x5 x6 x7 x8).1) ((walkB x4 x5 x6 x7 x8).2.1))) := intsH.fz (xs := (endT x4 x5 ((walkB x4 x5 x6 x7 x8).1) ((walkB x4 x5 x6 x7 x8).2.1))) hz2.fz
     exact ⟨⟨rfl, hf2⟩, rfl⟩
    exact stepsG.nil
   intro vals F10 le10 hphi
   obtain ⟨e15, f15_9hv⟩ := hphi 15 (by decide)
   obtain ⟨e30, f30_9ha⟩ := hphi 30 (by decide)
   generalize hu3 : (vals 15) = u3 at e15 f15_9hv e30 f30_9ha
   generalize hu4 : ((vals 30)) = u4 at e15 f15_9hv e30 f30_9ha
   rw [eS (l := [(23, (.bool (decide (((normB x4 x5 x6 x7 x8).2) = ((walkB x4 x5 x6 x7 x8).2.2))) : Value)), (26, (.bool (!((walkB x4 x5 x6 x7 x8).2.2)) : Value)), (27, x15), (30, u4)]) ⟨(hphi 23 (by decide)), (hphi 26 (by decide)), (hphi 27 (by decide)), hu4, trivial⟩]
   replace hr14 := hr14.mono le10
   show XL _ _ _ _ _ _ _ (cellsH b4 [x13, x14] 34 :: cellsH b3 [x11, x12] 34 :: cellsH b2 [x9, x10] 34 :: cellsH b1 [x1, x2] 29 :: L)
   refine XL.yes (t := 132) rfl (vB h10) (XOp.call (args := [x15, u4]) call18 rfl (iSameTerm_spec hr14 f30_9ha (hbd := (by first | assumption | rfl | omega | (left; simp; done) | (right; simp; done)))) ?_)
   rintro _ _ _ _ ⟨rfl, rfl, rfl⟩
   refine XL.yes (t := 129) rfl (vT h9) (XOp.pickF (.bool (decide (((normB x4 x5 x6 x7 x8).1) = ((endT x4 x5 ((walkB x4 x5 x6 x7 x8).1) ((walkB x4 x5 x6 x7 x8).2.1)))))) (vB h10) rfl ?_)
   refine cX (XOp.pickT (.bool (decide (((normB x4 x5 x6 x7 x8).1) = ((endT x4 x5 ((walkB x4 x5 x6 x7 x8).1) ((walkB x4 x5 x6 x7 x8).2.1)))))) (vT h9) rfl ?_)
   refine XL.as (.bool (decide (((normB x4 x5 x6 x7 x8).1) = ((endT x4 x5 ((walkB x4 x5 x6 x7 x8).1) ((walkB x4 x5 x6 x7 x8).2.1)))))) rfl ?_
   refine XL.nil ?_
   refine X.ret (retEnd (L' := L) [.bool (decide (((normB x4 x5 x6 x7 x8).1) = ((endT x4 x5 ((walkB x4 x5 x6 x7 x8).1) ((walkB x4 x5 x6 x7 x8).2.1)))))] (.bool (decide (((normB x4 x5 x6 x7 x8).1) = ((endT x4 x5 ((walkB x4 x5 x6 x7 x8).1) ((walkB x4 x5 x6 x7 x8).2.1)))))) (.tmp rfl .nil) rfl rF (FLe.trans (FLe.trans (FLe.trans (FLe.trans (FLe.trans (FLe.trans le1 le2) le3) le5) le6) le7) le10) (sD (sD (sD (sD sR)))) ?_)
   exact ⟨(vB ((decide_eq_true hen).symm)), rfl, rfl⟩
  exact absurd hlw.2.2.2.2.1 h9
 exact absurd hnz.1 (by omega)
end Go.Proofs.YtmaaifhmhclhdaaGreat
