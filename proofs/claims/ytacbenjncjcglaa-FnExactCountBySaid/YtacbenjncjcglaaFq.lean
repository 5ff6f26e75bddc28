/-
  The statement FnExactCountBy, walked.
-/
import Derived.Test.YtacbenjncjcglaaFp
set_option linter.unusedSimpArgs false
set_option linter.unusedVariables false
namespace Go.Proofs.Ytacbenjncjcglaa
open Go X M

/-- laws.FnExactCountBy -/
theorem FnExactCountBy_does {F : FH} {L : List HP} {arv : Value} {ar : List Int} (har : IntsF F arv ar) {rsv : Value} {rs : List (List Int × List Int)} (hrs : PairsF F rsv rs) {tv : Value} {t : List Int} (ht : IntsF F tv t) {st : Int} {n : Int} (hal : ar.length ≤ 9223372036854775807) (hrl : rs.length ≤ 9223372036854775807) (hrb : ∀ i, i < rs.length → (rs.getD i ([], [])).1.length ≤ 9223372036854775807 ∧ (rs.getD i ([], [])).2.length ≤ 9223372036854775807) (htb : t.length ≤ 9223372036854775807) :
    Does Try.prog 4 [.agg #[arv, rsv], tv, .int .i64 (st), .int .i64 (n)] F (L) (fun v F' L' => (.bool (true) : Value) = v ∧ F = F' ∧ L = L') := by
  refine Does.of_X Try.func4 rfl rfl rfl ?_
  refine X.seq ?_
  refine X.region ?_
  refine XL.cons (XOp.box [arv, rsv] rfl rfl ?_)
  intro b1
  refine XL.cons (XOp.assign (.bool (false)) rfl ?_)
  refine XL.nil ?_
  refine X.seq ?_
  refine X.seq ?_
  refine X.region ?_
  refine XL.cons (XOp.move (tv) rfl ?_)
  refine XL.cons (XOp.lenS (v := tv) (n := (t).length) Try.runUnderlying24 rfl ht.slv ?_)
  refine XL.cons (XOp.gtr (a := (((t).length : Nat) : Int)) (b := 1048576) rfl rfl ?_)
  refine XL.nil ?_
  refine X.condD (p := ((((t).length : Nat) : Int) : Int) > 1048576) rfl (fun h1 => ?_) (fun h1 => ?_)
  · refine X.seq ?_
    refine X.region ?_
    refine XL.cons (XOp.assign (.bool (true)) rfl ?_)
    refine XL.nil ?_
    refine X.ret (thenQ_ret (retEnd (L' := L) [.bool (true)] (.bool (true)) (.tmp rfl .nil) rfl (FLe.refl _) (FLe.refl _) (Sub.drop (Sub.refl _)) ?_))
    exact ⟨rfl, rfl, rfl⟩
  · refine X.skip ?_
    refine X.seq ?_
    refine X.region ?_
    refine XL.cons (XOp.assign (.int .i64 (1048576)) rfl ?_)
    refine XL.nil ?_
    refine X.seq ?_
    refine X.region ?_
    refine XL.cons (XOp.loadN [arv, rsv] Try.isAgg41 Try.sizeOf41 rfl rfl (Rd.ownN [] rfl rfl) ?_)
    refine XL.cons (XOp.move (.int .i64 (1048576)) rfl ?_)
    refine XL.cons (XOp.call (args := [.agg #[arv, rsv], .int .i64 (1048576)]) Try.call25 rfl (szSystem_spec (z := 1048576) har hrs (hz := (by first | assumption | rfl | omega | (left; simp; done) | (right; simp; done))) (hal := (by first | assumption | rfl | omega | (left; simp; done) | (right; simp; done))) (hrl := (by first | assumption | rfl | omega | (left; simp; done) | (right; simp; done))) (hrb := (by first | assumption | rfl | omega | (left; simp; done) | (right; simp; done)))) ?_)
    rintro _ _ _ _ ⟨rfl, rfl, rfl⟩
    refine XL.cons (XOp.assign (.int .i64 (dec 1048576 (ar.length + szR rs))) rfl ?_)
    refine XL.nil ?_
    refine X.seq ?_
    refine X.seq ?_
    refine X.region ?_
    refine XL.cons (XOp.move (.int .i64 (dec 1048576 (ar.length + szR rs))) rfl ?_)
    refine XL.cons (XOp.lss (a := dec 1048576 (ar.length + szR rs)) (b := 0) rfl rfl ?_)
    refine XL.nil ?_
    refine X.condD (p := (dec 1048576 (ar.length + szR rs) : Int) < 0) rfl (fun h2 => ?_) (fun h2 => ?_)
    · refine X.seq ?_
      refine X.region ?_
      refine XL.cons (XOp.assign (.bool (true)) rfl ?_)
      refine XL.nil ?_
      refine X.ret (thenQ_ret (retEnd (L' := L) [.bool (true)] (.bool (true)) (.tmp rfl .nil) rfl (FLe.refl _) (FLe.refl _) (Sub.drop (Sub.refl _)) ?_))
      exact ⟨rfl, rfl, rfl⟩
    · have hdl := dec_le h2
      have hzr := szR_le (rs := rs)
      have hzi := hzr.2
      have hrb4 : ∀ i, i < rs.length → (rs.getD i ([], [])).1.length ≤ 4000000 ∧ (rs.getD i ([], [])).2.length ≤ 4000000 := fun i hi => by have := hzi i hi; omega
      refine X.skip ?_
      refine X.seq ?_
      refine X.region ?_
      refine XL.cons (XOp.loadN [arv, rsv] Try.isAgg41 Try.sizeOf41 rfl rfl (Rd.ownN [] rfl rfl) ?_)
      refine XL.cons (XOp.call (args := [.agg #[arv, rsv]]) Try.call27 rfl (toSystem_spec har hrs (hla := (by first | assumption | rfl | omega | (left; simp; done) | (right; simp; done))) (hrl := (by first | assumption | rfl | omega | (left; simp; done) | (right; simp; done))) (hrb := (by first | assumption | rfl | omega | (left; simp; done) | (right; simp; done)))) ?_)
      rintro _ F1 _ le1 ⟨x1, x2, rfl, hr1, hr2, rfl⟩
      replace har := har.mono le1
      replace hrs := hrs.mono le1
      replace ht := ht.mono le1
      refine XL.cons (XOp.move (tv) rfl ?_)
      refine XL.cons (XOp.frz <| XOp.call (args := [tv]) Try.call28 rfl (toInt64S_spec ht (hlx := (by first | assumption | rfl | omega | (left; simp; done) | (right; simp; done)))) ?_)
      rintro v1 _ _ _ ⟨rfl, hs1, rfl⟩
      refine ⟨_, _, rfl, fun F2 le2 hz1 => ?_⟩
      replace har := har.mono le2
      replace hrs := hrs.mono le2
      replace ht := ht.mono le2
      replace hr1 := hr1.mono le2
      replace hr2 := hr2.mono le2
      have hf1 : IntsF F2 v1 ((t)) := intsH.fz (xs := (t)) hz1
      refine XL.cons (XOp.move (.int .i64 (st)) rfl ?_)
      refine XL.cons (XOp.move (.int .i64 (n)) rfl ?_)
      refine XL.cons (XOp.call (args := [.agg #[x1, x2], v1, .int .i64 (st), .int .i64 (n)]) Try.call26 rfl (sCountBy_spec (st := st) (n := n) hr1 hr2 hf1 (hla := (by first | assumption | rfl | omega | (left; simp; done) | (right; simp; done))) (hlr := (by first | assumption | rfl | omega | (left; simp; done) | (right; simp; done))) (hrb := (by first | assumption | rfl | omega | (left; simp; done) | (right; simp; done))) (hlt := (by first | assumption | rfl | omega | (left; simp; done) | (right; simp; done)))) ?_)
      rintro _ _ _ _ ⟨rfl, rfl, rfl⟩
      refine XL.cons (XOp.assign (.int .i64 (countB ar rs ((t)) st n)) rfl ?_)
      refine XL.nil ?_
      refine X.seq ?_
      refine X.region ?_
      refine XL.cons (XOp.loadN [arv, rsv] Try.isAgg41 Try.sizeOf41 rfl rfl (Rd.ownN [] rfl rfl) ?_)
      refine XL.cons (XOp.call (args := [.agg #[arv, rsv]]) Try.call27 rfl (toSystem_spec har hrs (hla := (by first | assumption | rfl | omega | (left; simp; done) | (right; simp; done))) (hrl := (by first | assumption | rfl | omega | (left; simp; done) | (right; simp; done))) (hrb := (by first | assumption | rfl | omega | (left; simp; done) | (right; simp; done)))) ?_)
      rintro _ F3 _ le3 ⟨x3, x4, rfl, hr3, hr4, rfl⟩
      replace har := har.mono le3
      replace hrs := hrs.mono le3
      replace ht := ht.mono le3
      replace hr1 := hr1.mono le3
      replace hr2 := hr2.mono le3
      replace hf1 := hf1.mono le3
      refine XL.cons (XOp.alloc [(.slice none 0 0), (.slice none 0 0)] Try.zeroValue29 rfl ?_)
      intro b2
      refine XL.cons (XOp.storeN (vs := [x3, x4]) [] _ [x3, x4] Try.sizeOf29 rfl rfl rfl (ones_cons (one_sl (IntsF.isSl hr3)) (ones_cons (one_sl (PairsF.isSl hr4)) ones_nil)) rfl rfl rfl ?_)
      refine XL.nil ?_
      refine X.seq ?_
      refine X.region ?_
      refine XL.cons (XOp.move (tv) rfl ?_)
      refine XL.cons (XOp.frz <| XOp.call (args := [tv]) Try.call28 rfl (toInt64S_spec ht (hlx := (by first | assumption | rfl | omega | (left; simp; done) | (right; simp; done)))) ?_)
      rintro v2 _ _ _ ⟨rfl, hs2, rfl⟩
      refine ⟨_, _, rfl, fun F4 le4 hz2 => ?_⟩
      replace har := har.mono le4
      replace hrs := hrs.mono le4
      replace ht := ht.mono le4
      replace hr1 := hr1.mono le4
      replace hr2 := hr2.mono le4
      replace hf1 := hf1.mono le4
      replace hr3 := hr3.mono le4
      replace hr4 := hr4.mono le4
      have hf2 : IntsF F4 v2 ((t)) := intsH.fz (xs := (t)) hz2
      refine XL.cons (XOp.assign (v2) rfl ?_)
      refine XL.nil ?_
      refine X.seq ?_
      refine X.region ?_
      refine XL.cons (XOp.loadN [x3, x4] Try.isAgg29 Try.sizeOf29 rfl rfl (Rd.ownN [] rfl rfl) ?_)
      refine XL.cons (XOp.move (v2) rfl ?_)
      refine XL.cons (XOp.move (.int .i64 (st)) rfl ?_)
      refine XL.cons (XOp.move (.int .i64 (n)) rfl ?_)
      refine XL.cons (XOp.call (args := [.agg #[x3, x4], v2, .int .i64 (st), .int .i64 (n)]) Try.call29 rfl (CountBy_spec (st := st) (n := n) hr3 hr4 hf2) ?_)
      rintro _ _ _ _ ⟨rfl, rfl, rfl⟩
      refine XL.cons (XOp.assign (.int .i64 (countB ar rs ((t)) st n)) rfl ?_)
      refine XL.nil ?_
      refine X.seq ?_
      refine X.seq ?_
      refine X.region ?_
      refine XL.cons (XOp.move (.int .i64 (countB ar rs ((t)) st n)) rfl ?_)
      refine XL.cons (XOp.move (.int .i64 (countB ar rs ((t)) st n)) rfl ?_)
      refine XL.cons (XOp.neq (a := countB ar rs ((t)) st n) (b := countB ar rs ((t)) st n) rfl rfl ?_)
      refine XL.nil ?_
      refine X.condD (p := (countB ar rs ((t)) st n : Int) ≠ countB ar rs ((t)) st n) rfl (fun h3 => ?_) (fun h3 => ?_)
      · exact absurd rfl h3
      · refine X.skip ?_
        refine X.seq ?_
        refine X.seq ?_
        refine X.drawG [cellsH b2 [x3, x4] 29, cellsH b1 [arv, rsv] 41] L 3 [[], [], []] [[], [], [1]] [[], [], []] (phiG [fun FF us v => v = (.agg #[x3, x4] : Value), fun FF us v => v = (.agg #[arv, rsv] : Value), fun FF us v => (.agg #[((aggAt v 0)), ((aggAt v 1))] : Value) = v ∧ (IntsF FF ((aggAt v 0)) ar) ∧ (PairsF FF ((aggAt v 1)) rs)]) (ownL [fun us v => [], fun us v => [], fun us v => []]) mixed rfl rfl (by kernel_rfl) (by kernel_rfl) (MonoG.get (MonoG.cons (fun le h => h) (MonoG.cons (fun le h => h) (MonoG.cons (fun le h => ⟨h.1, h.2.1.mono le, h.2.2.mono le⟩) MonoG.nil)))) ?_ ?_
        · refine stepsG.cons (fun vals Fs R leFs hpZ => ?_) ?_
          · replace har := har.mono leFs
            replace hrs := hrs.mono leFs
            replace ht := ht.mono leFs
            replace hr1 := hr1.mono leFs
            replace hr2 := hr2.mono leFs
            replace hf1 := hf1.mono leFs
            replace hr3 := hr3.mono leFs
            replace hr4 := hr4.mono leFs
            replace hf2 := hf2.mono leFs
            refine XG.op (XOp.loadN [x3, x4] Try.isAgg29 Try.sizeOf29 rfl rfl (Rd.ownN [] rfl rfl) ?_)
            exact ⟨rfl, rfl⟩
          refine stepsG.cons (fun vals Fs R leFs hpZ => ?_) ?_
          · replace har := har.mono leFs
            replace hrs := hrs.mono leFs
            replace ht := ht.mono leFs
            replace hr1 := hr1.mono leFs
            replace hr2 := hr2.mono leFs
            replace hf1 := hf1.mono leFs
            replace hr3 := hr3.mono leFs
            replace hr4 := hr4.mono leFs
            replace hf2 := hf2.mono leFs
            refine XG.op (XOp.loadN [arv, rsv] Try.isAgg41 Try.sizeOf41 rfl rfl (Rd.ownN [_] rfl rfl) ?_)
            exact ⟨rfl, rfl⟩
          refine stepsG.cons (fun vals Fs R leFs hpZ => ?_) ?_
          · have e1 : vals 1 = (.agg #[arv, rsv] : Value) := hpZ 1 (by decide)
            replace har := har.mono leFs
            replace hrs := hrs.mono leFs
            replace ht := ht.mono leFs
            replace hr1 := hr1.mono leFs
            replace hr2 := hr2.mono leFs
            replace hf1 := hf1.mono leFs
            replace hr3 := hr3.mono leFs
            replace hr4 := hr4.mono leFs
            replace hf2 := hf2.mono leFs
            rw [(envs_of_sat (l := [(1, (.agg #[arv, rsv] : Value))]) ⟨e1, trivial⟩).symm]
            refine XG.op (XOp.call (args := [.agg #[arv, rsv]]) Try.call27 rfl (toSystem_spec har hrs (hla := (by first | assumption | rfl | omega | (left; simp; done) | (right; simp; done))) (hrl := (by first | assumption | rfl | omega | (left; simp; done) | (right; simp; done))) (hrb := (by first | assumption | rfl | omega | (left; simp; done) | (right; simp; done)))) ?_)
            rintro _ F6 _ le6 ⟨x7, x8, rfl, hr7, hr8, rfl⟩
            replace har := har.mono le6
            replace hrs := hrs.mono le6
            replace ht := ht.mono le6
            replace hr1 := hr1.mono le6
            replace hr2 := hr2.mono le6
            replace hf1 := hf1.mono le6
            replace hr3 := hr3.mono le6
            replace hr4 := hr4.mono le6
            replace hf2 := hf2.mono le6
            exact ⟨⟨rfl, hr7, hr8⟩, rfl⟩
          exact stepsG.nil
        · intro vals F7 le7 hphi
          have e0 : vals 0 = (.agg #[x3, x4] : Value) := hphi 0 (by decide)
          have e1 : vals 1 = (.agg #[arv, rsv] : Value) := hphi 1 (by decide)
          obtain ⟨e2, f2_hr1, f2_hr2⟩ := hphi 2 (by decide)
          generalize hu1 : ((aggAt (vals 2) 0)) = u1 at e0 e1 e2 f2_hr1 f2_hr2
          generalize hu2 : ((aggAt (vals 2) 1)) = u2 at e0 e1 e2 f2_hr1 f2_hr2
          rw [(envs_of_sat (l := [(0, (.agg #[x3, x4] : Value)), (1, (.agg #[arv, rsv] : Value)), (2, (.agg #[u1, u2] : Value))]) ⟨e0, e1, (e2).symm, trivial⟩).symm]
          replace har := har.mono le7
          replace hrs := hrs.mono le7
          replace ht := ht.mono le7
          replace hr1 := hr1.mono le7
          replace hr2 := hr2.mono le7
          replace hf1 := hf1.mono le7
          replace hr3 := hr3.mono le7
          replace hr4 := hr4.mono le7
          replace hf2 := hf2.mono le7
          show XL _ _ _ _ _ _ _ (cellsH b2 [x3, x4] 29 :: cellsH b1 [arv, rsv] 41 :: L)
          refine XL.cons (XOp.call (args := [.agg #[x3, x4], .agg #[u1, u2]]) Try.call30 rfl (eqSystem_spec hr3 hr4 f2_hr1 f2_hr2 (hcl := (by first | assumption | rfl | omega | (left; simp; done) | (right; simp; done))) (hal := (by first | assumption | rfl | omega | (left; simp; done) | (right; simp; done))) (hbd := (fun i hi => by have := hrb4 i hi; omega))) ?_)
          rintro _ _ _ _ ⟨rfl, rfl, rfl⟩
          refine XL.cons (XOp.notD (p := ar = ar ∧ rs = rs) rfl ?_)
          refine XL.nil ?_
          refine X.condD (p := ¬(ar = ar ∧ rs = rs)) rfl (fun h4 => ?_) (fun h4 => ?_)
          · exact absurd ⟨rfl, rfl⟩ h4
          · refine X.skip ?_
            refine X.seq ?_
            refine X.seq ?_
            refine X.region ?_
            refine XL.cons (XOp.move (v2) rfl ?_)
            refine XL.cons (XOp.move (tv) rfl ?_)
            refine XL.cons (XOp.frz <| XOp.call (args := [tv]) Try.call28 rfl (toInt64S_spec ht (hlx := (by first | assumption | rfl | omega | (left; simp; done) | (right; simp; done)))) ?_)
            rintro v3 _ _ _ ⟨rfl, hs3, rfl⟩
            refine ⟨_, _, rfl, fun F8 le8 hz3 => ?_⟩
            replace har := har.mono le8
            replace hrs := hrs.mono le8
            replace ht := ht.mono le8
            replace hr1 := hr1.mono le8
            replace hr2 := hr2.mono le8
            replace hf1 := hf1.mono le8
            replace hr3 := hr3.mono le8
            replace hr4 := hr4.mono le8
            replace hf2 := hf2.mono le8
            replace f2_hr1 := f2_hr1.mono le8
            replace f2_hr2 := f2_hr2.mono le8
            have hf3 : IntsF F8 v3 ((t)) := intsH.fz (xs := (t)) hz3
            refine XL.cons (XOp.call (args := [v2, v3]) Try.call31 rfl (eqInt64S_spec hf2 hf3 (hbd := (by first | assumption | rfl | omega | (left; simp; done) | (right; simp; done)))) ?_)
            rintro _ _ _ _ ⟨rfl, rfl, rfl⟩
            refine XL.cons (XOp.notD (p := ((t)) = ((t))) rfl ?_)
            refine XL.nil ?_
            refine X.condD (p := ¬(((t)) = ((t)))) rfl (fun h5 => ?_) (fun h5 => ?_)
            · exact absurd rfl h5
            · refine X.skip ?_
              refine X.seq ?_
              refine X.region ?_
              refine XL.cons (XOp.assign (.bool (true)) rfl ?_)
              refine XL.nil ?_
              refine X.ret (retEnd (L' := L) [.bool (true)] (.bool (true)) (.tmp rfl .nil) rfl (FLe.refl _) (FLe.trans (FLe.trans (FLe.trans (FLe.trans (FLe.trans le1 le2) le3) le4) le7) le8) (Sub.drop (Sub.drop (Sub.refl _))) ?_)
              exact ⟨rfl, rfl, rfl⟩
end Go.Proofs.Ytacbenjncjcglaa
