/-
  Statements, walked: WalkBy.
-/
import Derived.Test.YtacbenjncjcglaaQaFt
set_option linter.unusedSimpArgs false
set_option linter.unusedVariables false
namespace Go.Proofs.Ytacbenjncjcglaa
open Go X M

/- laws.FnExactWalkBy -/
set_option maxRecDepth 20000 in
theorem FnExactWalkBy_does {F : FH} {L : List HP} {arv : Value} {ar : List Int} (har : IntsF F arv ar) {rsv : Value} {rs : List (List Int × List Int)} (hrs : PairsF F rsv rs) {tv : Value} {t : List Int} (ht : IntsF F tv t) {st : Int} {n : Int} (hlar : ar.length ≤ 9223372036854775807) (hlrs : rs.length ≤ 9223372036854775807) (hbrs : ∀ i, i < rs.length → (rs.getD i ([], [])).1.length ≤ 9223372036854775807 ∧ (rs.getD i ([], [])).2.length ≤ 9223372036854775807) (hlt : t.length ≤ 9223372036854775807) :
    Does Try.prog 11 [.agg #[arv, rsv], tv, .int .i64 (st), .int .i64 (n)] F (L) (fun v F' L' => (.bool (true) : Value) = v ∧ F = F' ∧ L = L') := by
  refine Does.of_X Try.func11 rfl rfl rfl ?_
  have hnb := walkB_len (ar := ar) (rs := rs) (t := t) (st := st) (n := n)
  have hnc := walkB_bounds (ar := ar) (rs := rs) (t := t) (st := st) (n := n)
  have hnd := hnc.2.1
  have hne := hnc.2.2
  refine X.seq ?_
  refine X.region ?_
  refine XL.cons (XOp.box [arv, rsv] rfl rfl ?_)
  intro b1
  refine XL.cons (XOp.assign (.bool (false)) rfl ?_)
  refine XL.nil ?_
  refine X.seq ?_
  refine X.seq ?_
  refine X.region ?_
  refine XL.cons (XOp.move (tv) rfl ?_)
  refine XL.cons (XOp.lenS (v := tv) (n := (t).length) Try.runUnderlying24 rfl ht.slv ?_)
  refine XL.cons (XOp.gtr (a := (((t).length : Nat) : Int)) (b := 1048576) rfl rfl ?_)
  refine XL.nil ?_
  refine X.condD (p := ((((t).length : Nat) : Int) : Int) > 1048576) rfl (fun h1 => ?_) (fun h1 => ?_)
  · refine X.seq ?_
    refine X.region ?_
    refine XL.cons (XOp.assign (.bool (true)) rfl ?_)
    refine XL.nil ?_
    refine X.ret (thenQ_ret (retEnd (L' := L) [.bool (true)] (.bool (true)) (.tmp rfl .nil) rfl (FLe.refl _) (FLe.refl _) (Sub.drop (Sub.refl _)) ?_))
    exact ⟨rfl, rfl, rfl⟩
  · refine X.skip ?_
    refine X.seq ?_
    refine X.region ?_
    refine XL.cons (XOp.assign (.int .i64 (1048576)) rfl ?_)
    refine XL.nil ?_
    refine X.seq ?_
    refine X.region ?_
    refine XL.cons (XOp.loadN [arv, rsv] Try.isAgg41 Try.sizeOf41 rfl rfl (Rd.ownN [] rfl rfl) ?_)
    refine XL.cons (XOp.move (.int .i64 (1048576)) rfl ?_)
    refine XL.cons (XOp.call (args := [.agg #[arv, rsv], .int .i64 (1048576)]) Try.call25 rfl (szSystem_spec (z := 1048576) har hrs (hz := (by first | assumption | rfl | omega | (left; simp; done) | (right; simp; done))) (hal := (by first | assumption | rfl | omega | (left; simp; done) | (right; simp; done))) (hrl := (by first | assumption | rfl | omega | (left; simp; done) | (right; simp; done))) (hrb := (by first | assumption | rfl | omega | (left; simp; done) | (right; simp; done)))) ?_)
    rintro _ _ _ _ ⟨rfl, rfl, rfl⟩
    refine XL.cons (XOp.assign (.int .i64 (dec 1048576 (ar.length + szR rs))) rfl ?_)
    refine XL.nil ?_
    refine X.seq ?_
    refine X.seq ?_
    refine X.region ?_
    refine XL.cons (XOp.move (.int .i64 (dec 1048576 (ar.length + szR rs))) rfl ?_)
    refine XL.cons (XOp.lss (a := dec 1048576 (ar.length + szR rs)) (b := 0) rfl rfl ?_)
    refine XL.nil ?_
    refine X.condD (p := (dec 1048576 (ar.length + szR rs) : Int) < 0) rfl (fun h2 => ?_) (fun h2 => ?_)
    · refine X.seq ?_
      refine X.region ?_
      refine XL.cons (XOp.assign (.bool (true)) rfl ?_)
      refine XL.nil ?_
      refine X.ret (thenQ_ret (retEnd (L' := L) [.bool (true)] (.bool (true)) (.tmp rfl .nil) rfl (FLe.refl _) (FLe.refl _) (Sub.drop (Sub.refl _)) ?_))
      exact ⟨rfl, rfl, rfl⟩
    · have hd1 := dec_le2 h2 (by omega)
      have hzrs := szR_le (rs := rs)
      have hirs := hzrs.2
      have hcrs : ∀ i, i < rs.length → (rs.getD i ([], [])).1.length ≤ 4000000 ∧ (rs.getD i ([], [])).2.length ≤ 4000000 := fun i hi => by have := hirs i hi; omega
      have hfrs := flatPair_len rs
      refine X.skip ?_
      refine X.seq ?_
      refine X.region ?_
      refine XL.cons (XOp.loadN [arv, rsv] Try.isAgg41 Try.sizeOf41 rfl rfl (Rd.ownN [] rfl rfl) ?_)
      refine XL.cons (XOp.thawL ?_)
      refine id (XOp.call (args := [.agg #[arv, rsv]]) Try.call27 rfl (toSystem_spec har hrs (hla := (by first | assumption | rfl | omega | (left; simp; done) | (right; simp; done))) (hrl := (by first | assumption | rfl | omega | (left; simp; done) | (right; simp; done))) (hrb := (by first | assumption | rfl | omega | (left; simp; done) | (right; simp; done)))) ?_)
      rintro _ F1 _ le1 ⟨x1, x2, rfl, hr1, hr2, hr3, rfl⟩
      refine ⟨[intsH 2 x1 ar, pairsD 2 156 x2 rs], hr3, ?_⟩
      show XL _ _ _ _ _ _ _ (intsH 2 x1 ar :: pairsD 2 156 x2 rs :: cellsH b1 [arv, rsv] 41 :: L)
      refine XL.cons (XOp.move (tv) rfl ?_)
      refine XL.cons (XOp.call (args := [tv]) Try.call28 rfl (toInt64S_spec ht (hlx := (by first | assumption | rfl | omega | (left; simp; done) | (right; simp; done)))) ?_)
      rintro v1 _ _ _ ⟨rfl, hs1, rfl⟩
      refine XL.cons (XOp.move (.int .i64 (st)) rfl ?_)
      refine XL.cons (XOp.move (.int .i64 (n)) rfl ?_)
      refine XL.freezeF [_] _ _ rfl (fun F2 le2 hz1 => ?_)
      replace har := har.mono le2
      replace hrs := hrs.mono le2
      replace ht := ht.mono le2
      have hf1 : IntsF F2 x1 ar := intsH.fz (xs := ar) hz1.fz
      refine XL.freezeF [_] _ _ rfl (fun F3 le3 hz2 => ?_)
      replace har := har.mono le3
      replace hrs := hrs.mono le3
      replace ht := ht.mono le3
      replace hf1 := hf1.mono le3
      have hf2 : PairsF F3 x2 rs := pairsD.fz hz2.fz
      refine XL.freezeF [] _ _ rfl (fun F4 le4 hz3 => ?_)
      replace har := har.mono le4
      replace hrs := hrs.mono le4
      replace ht := ht.mono le4
      replace hf1 := hf1.mono le4
      replace hf2 := hf2.mono le4
      have hf3 : IntsF F4 v1 ((t)) := intsH.fz (xs := (t)) hz3.fz
      refine XL.cons (XOp.call (args := [.agg #[x1, x2], v1, .int .i64 (st), .int .i64 (n)]) Try.call61 rfl (sWalkBy_spec (st := st) (n := n) hf1 hf2 hf3 (hla := (by first | assumption | rfl | omega | (left; simp; done) | (right; simp; done))) (hlr := (by first | assumption | rfl | omega | (left; simp; done) | (right; simp; done))) (hrb := (by first | assumption | rfl | omega | (left; simp; done) | (right; simp; done))) (hlt := (by first | assumption | rfl | omega | (left; simp; done) | (right; simp; done)))) ?_)
      rintro _ F5 _ le5 ⟨x3, x4, rfl, hr4, hr5, rfl⟩
      replace har := har.mono le5
      replace hrs := hrs.mono le5
      replace ht := ht.mono le5
      replace hf1 := hf1.mono le5
      replace hf2 := hf2.mono le5
      replace hf3 := hf3.mono le5
      refine XL.cons (XOp.move (.tuple #[.agg #[x3, x4], .bool ((walkB ar rs ((t)) st n).2.2)]) rfl ?_)
      refine XL.cons (XOp.extract (.agg #[x3, x4]) rfl rfl ?_)
      refine XL.cons (XOp.extract (.bool ((walkB ar rs ((t)) st n).2.2)) rfl rfl ?_)
      refine XL.cons (XOp.alloc [(.slice none 0 0), (.slice none 0 0)] Try.zeroValue63 rfl ?_)
      intro b2
      refine XL.cons (XOp.storeN (vs := [x3, x4]) [] _ [x3, x4] Try.sizeOf63 rfl rfl rfl (ones_cons (one_sl (IntsF.isSl hr4)) (ones_cons (one_sl (StepsF.isSl hr5)) ones_nil)) rfl rfl rfl ?_)
      refine XL.cons (XOp.assign (.bool ((walkB ar rs ((t)) st n).2.2)) rfl ?_)
      refine XL.nil ?_
      refine X.seq ?_
      refine X.region ?_
      refine XL.cons (XOp.loadN [arv, rsv] Try.isAgg41 Try.sizeOf41 rfl rfl (Rd.ownN [_] rfl rfl) ?_)
      refine XL.cons (XOp.thawL ?_)
      refine id (XOp.call (args := [.agg #[arv, rsv]]) Try.call27 rfl (toSystem_spec har hrs (hla := (by first | assumption | rfl | omega | (left; simp; done) | (right; simp; done))) (hrl := (by first | assumption | rfl | omega | (left; simp; done) | (right; simp; done))) (hrb := (by first | assumption | rfl | omega | (left; simp; done) | (right; simp; done)))) ?_)
      rintro _ F6 _ le6 ⟨x5, x6, rfl, hr6, hr7, hr8, rfl⟩
      refine ⟨[intsH 2 x5 ar, pairsD 2 156 x6 rs], hr8, ?_⟩
      show XL _ _ _ _ _ _ _ (intsH 2 x5 ar :: pairsD 2 156 x6 rs :: cellsH b2 [x3, x4] 63 :: cellsH b1 [arv, rsv] 41 :: L)
      refine XL.cons (XOp.alloc [(.slice none 0 0), (.slice none 0 0)] Try.zeroValue29 rfl ?_)
      intro b3
      refine XL.cons (XOp.storeN (vs := [x5, x6]) [] _ [x5, x6] Try.sizeOf29 rfl rfl rfl (ones_cons (one_sl (IntsF.isSl hr6)) (ones_cons (one_sl (PairsF.isSl hr7)) ones_nil)) rfl rfl rfl ?_)
      refine XL.nil ?_
      refine X.seq ?_
      refine X.region ?_
      refine XL.cons (XOp.move (tv) rfl ?_)
      refine XL.cons (XOp.call (args := [tv]) Try.call28 rfl (toInt64S_spec ht (hlx := (by first | assumption | rfl | omega | (left; simp; done) | (right; simp; done)))) ?_)
      rintro v2 _ _ _ ⟨rfl, hs2, rfl⟩
      refine XL.cons (XOp.assign (v2) rfl ?_)
      refine XL.nil ?_
      refine X.seq ?_
      refine X.region ?_
      refine XL.cons (XOp.loadN [x5, x6] Try.isAgg29 Try.sizeOf29 rfl rfl (Rd.ownN [_] rfl rfl) ?_)
      refine XL.cons (XOp.move (v2) rfl ?_)
      refine XL.cons (XOp.move (.int .i64 (st)) rfl ?_)
      refine XL.cons (XOp.move (.int .i64 (n)) rfl ?_)
      refine XL.cons (XOp.lend [_, _] _ _ rfl (fun F7 le7 hz4 => ?_))
      refine id (XOp.lend [_, _] _ _ rfl (fun F8 le8 hz5 => ?_))
      refine id (XOp.lend [] _ _ rfl (fun F9 le9 hz6 => ?_))
      have hf4 : IntsF _ x5 ar := (intsH.fz (xs := ar) hz4).mono (FLe.trans le8 le9)
      have hf5 : PairsF _ x6 rs := (pairsD.fz hz5).mono le9
      have hf6 : IntsF _ v2 ((t)) := intsH.fz (xs := (t)) hz6
      refine id (XOp.thawL ?_)
      refine id (XOp.call (args := [.agg #[x5, x6], v2, .int .i64 (st), .int .i64 (n)]) Try.call62 rfl (WalkBy_spec (st := st) (n := n) hf4 hf5 hf6) ?_)
      rintro _ F10 _ le10 ⟨x7, x8, rfl, hr9, hr10, hr11, rfl⟩
      refine ⟨[intsH 2 x7 ((walkB ar rs ((t)) st n).1), stepsD 2 74 x8 ((walkB ar rs ((t)) st n).2.1)], hr11, ?_⟩
      show XL _ _ _ _ _ _ _ (intsH 2 x5 ar :: pairsD 2 156 x6 rs :: intsH 2 v2 ((t)) :: intsH 2 x7 ((walkB ar rs ((t)) st n).1) :: stepsD 2 74 x8 ((walkB ar rs ((t)) st n).2.1) :: cellsH b3 [x5, x6] 29 :: cellsH b2 [x3, x4] 63 :: cellsH b1 [arv, rsv] 41 :: L)
      refine XL.cons (XOp.move (.tuple #[.agg #[x7, x8], .bool ((walkB ar rs ((t)) st n).2.2)]) rfl ?_)
      refine XL.cons (XOp.extract (.agg #[x7, x8]) rfl rfl ?_)
      refine XL.cons (XOp.extract (.bool ((walkB ar rs ((t)) st n).2.2)) rfl rfl ?_)
      refine XL.cons (XOp.alloc [(.slice none 0 0), (.slice none 0 0)] Try.zeroValue63 rfl ?_)
      intro b4
      refine XL.cons (XOp.storeN (vs := [x7, x8]) [] _ [x7, x8] Try.sizeOf63 rfl rfl rfl (ones_cons (one_sl (IntsF.isSl hr9)) (ones_cons (one_sl (StepsF.isSl hr10)) ones_nil)) rfl rfl rfl ?_)
      refine XL.cons (XOp.assign (.bool ((walkB ar rs ((t)) st n).2.2)) rfl ?_)
      refine XL.nil ?_
      refine X.seq ?_
      refine X.seq ?_
      refine X.region ?_
      refine XL.cons (XOp.loadN [x7, x8] Try.isAgg63 Try.sizeOf63 rfl rfl (Rd.ownN [] rfl rfl) ?_)
      refine XL.cons (XOp.loadN [x3, x4] Try.isAgg63 Try.sizeOf63 rfl rfl (Rd.ownN [_, _, _, _, _, _, _] rfl rfl) ?_)
      refine XL.cons (XOp.lend [_, _, _, _] _ _ rfl (fun F11 le11 hz7 => ?_))
      refine id (XOp.lend [_, _, _, _] _ _ rfl (fun F12 le12 hz8 => ?_))
      have hf7 : IntsF _ x7 ((walkB ar rs ((t)) st n).1) := (intsH.fz (xs := (walkB ar rs ((t)) st n).1) hz7).mono le12
      have hf8 : StepsF _ x8 ((walkB ar rs ((t)) st n).2.1) := stepsD.fz hz8
      refine id (XOp.call (args := [.agg #[x7, x8], .agg #[x3, x4]]) Try.call43 rfl (eqWalk_spec hf7 hf8 ((hr4.mono (FLe.trans le11 le12))) ((hr5.mono (FLe.trans le11 le12))) (hfl := (by first | assumption | rfl | omega | (left; simp; done) | (right; simp; done))) (hal := (by first | assumption | rfl | omega | (left; simp; done) | (right; simp; done))) (hbd := (by first | assumption | exact fun i hi => by have := hnd i hi; omega))) ?_)
      rintro _ _ _ _ ⟨rfl, rfl, rfl⟩
      show XL _ _ _ _ _ _ _ (intsH 2 x7 ((walkB ar rs ((t)) st n).1) :: stepsD 2 74 x8 ((walkB ar rs ((t)) st n).2.1) :: cellsH b4 [x7, x8] 63 :: intsH 2 x5 ar :: pairsD 2 156 x6 rs :: intsH 2 v2 ((t)) :: cellsH b3 [x5, x6] 29 :: cellsH b2 [x3, x4] 63 :: cellsH b1 [arv, rsv] 41 :: L)
      refine XL.cons (XOp.notD (p := ((walkB ar rs ((t)) st n).1) = ((walkB ar rs ((t)) st n).1) ∧ ((walkB ar rs ((t)) st n).2.1) = ((walkB ar rs ((t)) st n).2.1)) rfl ?_)
      refine XL.cons (XOp.move (.bool (decide (¬(((walkB ar rs ((t)) st n).1) = ((walkB ar rs ((t)) st n).1) ∧ ((walkB ar rs ((t)) st n).2.1) = ((walkB ar rs ((t)) st n).2.1))))) rfl ?_)
      by_cases h3 : ¬(((walkB ar rs ((t)) st n).1) = ((walkB ar rs ((t)) st n).1) ∧ ((walkB ar rs ((t)) st n).2.1) = ((walkB ar rs ((t)) st n).2.1))
      · exact absurd (by first | rfl | exact ⟨rfl, rfl⟩) h3
      · refine XL.yes (t := 55) rfl (congrArg Value.bool (decide_eq_false h3)) (XOp.move (.bool ((walkB ar rs ((t)) st n).2.2)) rfl ?_)
        refine XL.yes (t := 55) rfl (congrArg Value.bool (decide_eq_false h3)) (XOp.move (.bool ((walkB ar rs ((t)) st n).2.2)) rfl ?_)
        refine XL.yes (t := 55) rfl (congrArg Value.bool (decide_eq_false h3)) (XOp.neB (a := (walkB ar rs ((t)) st n).2.2) (b := (walkB ar rs ((t)) st n).2.2) Try.runUnderlying4 rfl rfl ?_)
        refine XL.cons (XOp.pickF (.bool (decide (((walkB ar rs ((t)) st n).2.2) ≠ ((walkB ar rs ((t)) st n).2.2)))) (congrArg Value.bool (decide_eq_false h3)) rfl ?_)
        refine XL.nil ?_
        refine X.condD (p := ((walkB ar rs ((t)) st n).2.2) ≠ ((walkB ar rs ((t)) st n).2.2)) rfl (fun h4 => ?_) (fun h4 => ?_)
        · exact absurd rfl h4
        · refine X.skip ?_
          refine X.seq ?_
          refine X.seq ?_
          refine X.drawG [intsH 2 x7 ((walkB ar rs ((t)) st n).1), stepsD 2 74 x8 ((walkB ar rs ((t)) st n).2.1), cellsH b4 [x7, x8] 63, intsH 2 x5 ar, pairsD 2 156 x6 rs, intsH 2 v2 ((t)), cellsH b3 [x5, x6] 29, cellsH b2 [x3, x4] 63, cellsH b1 [arv, rsv] 41] L 3 [[], [], []] [[], [], [1]] [[], [], []] (phiG [fun FF us v => v = (.agg #[x5, x6] : Value), fun FF us v => v = (.agg #[arv, rsv] : Value), fun FF us v => (.agg #[((aggAt v 0)), ((aggAt v 1))] : Value) = v ∧ (IntsF FF ((aggAt v 0)) ar) ∧ (PairsF FF ((aggAt v 1)) rs)]) (ownL [fun us v => [], fun us v => [], fun us v => []]) mixed rfl rfl (by kernel_rfl) (by kernel_rfl) (MonoG.get (MonoG.cons (fun le h => h) (MonoG.cons (fun le h => h) (MonoG.cons (fun le h => ⟨h.1, h.2.1.mono le, h.2.2.mono le⟩) MonoG.nil)))) ?_ ?_
          · refine stepsG.cons (fun vals Fs R leFs hpZ => ?_) ?_
            · replace har := har.mono leFs
              replace hrs := hrs.mono leFs
              replace ht := ht.mono leFs
              replace hf1 := hf1.mono leFs
              replace hf2 := hf2.mono leFs
              replace hf3 := hf3.mono leFs
              replace hr4 := hr4.mono leFs
              replace hr5 := hr5.mono leFs
              refine XG.op (XOp.loadN [x5, x6] Try.isAgg29 Try.sizeOf29 rfl rfl (Rd.ownN [_, _, _, _, _, _] rfl rfl) ?_)
              exact ⟨rfl, rfl⟩
            refine stepsG.cons (fun vals Fs R leFs hpZ => ?_) ?_
            · replace har := har.mono leFs
              replace hrs := hrs.mono leFs
              replace ht := ht.mono leFs
              replace hf1 := hf1.mono leFs
              replace hf2 := hf2.mono leFs
              replace hf3 := hf3.mono leFs
              replace hr4 := hr4.mono leFs
              replace hr5 := hr5.mono leFs
              refine XG.op (XOp.loadN [arv, rsv] Try.isAgg41 Try.sizeOf41 rfl rfl (Rd.ownN [_, _, _, _, _, _, _, _] rfl rfl) ?_)
              exact ⟨rfl, rfl⟩
            refine stepsG.cons (fun vals Fs R leFs hpZ => ?_) ?_
            · have e1 : vals 1 = (.agg #[arv, rsv] : Value) := hpZ 1 (by decide)
              replace har := har.mono leFs
              replace hrs := hrs.mono leFs
              replace ht := ht.mono leFs
              replace hf1 := hf1.mono leFs
              replace hf2 := hf2.mono leFs
              replace hf3 := hf3.mono leFs
              replace hr4 := hr4.mono leFs
              replace hr5 := hr5.mono leFs
              rw [(envs_of_sat (l := [(1, (.agg #[arv, rsv] : Value))]) ⟨e1, trivial⟩).symm]
              refine XG.op (XOp.call (args := [.agg #[arv, rsv]]) Try.call27 rfl (toSystem_spec har hrs (hla := (by first | assumption | rfl | omega | (left; simp; done) | (right; simp; done))) (hrl := (by first | assumption | rfl | omega | (left; simp; done) | (right; simp; done))) (hrb := (by first | assumption | rfl | omega | (left; simp; done) | (right; simp; done)))) ?_)
              rintro _ F14 _ le14 ⟨x11, x12, rfl, hr15, hr16, hr17, rfl⟩
              replace har := har.mono le14
              replace hrs := hrs.mono le14
              replace ht := ht.mono le14
              replace hf1 := hf1.mono le14
              replace hf2 := hf2.mono le14
              replace hf3 := hf3.mono le14
              replace hr4 := hr4.mono le14
              replace hr5 := hr5.mono le14
              exact ⟨⟨rfl, hr15, hr16⟩, rfl⟩
            exact stepsG.nil
          · intro vals F15 le15 hphi
            have e0 : vals 0 = (.agg #[x5, x6] : Value) := hphi 0 (by decide)
            have e1 : vals 1 = (.agg #[arv, rsv] : Value) := hphi 1 (by decide)
            obtain ⟨e2, f2_1hr1, f2_1hr2⟩ := hphi 2 (by decide)
            generalize hu1 : ((aggAt (vals 2) 0)) = u1 at e0 e1 e2 f2_1hr1 f2_1hr2
            generalize hu2 : ((aggAt (vals 2) 1)) = u2 at e0 e1 e2 f2_1hr1 f2_1hr2
            rw [(envs_of_sat (l := [(0, (.agg #[x5, x6] : Value)), (1, (.agg #[arv, rsv] : Value)), (2, (.agg #[u1, u2] : Value))]) ⟨e0, e1, (e2).symm, trivial⟩).symm]
            replace har := har.mono le15
            replace hrs := hrs.mono le15
            replace ht := ht.mono le15
            replace hf1 := hf1.mono le15
            replace hf2 := hf2.mono le15
            replace hf3 := hf3.mono le15
            replace hr4 := hr4.mono le15
            replace hr5 := hr5.mono le15
            show XL _ _ _ _ _ _ _ (intsH 2 x7 ((walkB ar rs ((t)) st n).1) :: stepsD 2 74 x8 ((walkB ar rs ((t)) st n).2.1) :: cellsH b4 [x7, x8] 63 :: intsH 2 x5 ar :: pairsD 2 156 x6 rs :: intsH 2 v2 ((t)) :: cellsH b3 [x5, x6] 29 :: cellsH b2 [x3, x4] 63 :: cellsH b1 [arv, rsv] 41 :: L)
            refine XL.cons (XOp.lend [_, _, _] _ _ rfl (fun F16 le16 hz9 => ?_))
            refine id (XOp.lend [_, _, _] _ _ rfl (fun F17 le17 hz10 => ?_))
            have hf9 : IntsF _ x5 ar := (intsH.fz (xs := ar) hz9).mono le17
            have hf10 : PairsF _ x6 rs := pairsD.fz hz10
            refine id (XOp.call (args := [.agg #[x5, x6], .agg #[u1, u2]]) Try.call30 rfl (eqSystem_spec hf9 hf10 ((f2_1hr1.mono (FLe.trans le16 le17))) ((f2_1hr2.mono (FLe.trans le16 le17))) (hcl := (by first | assumption | rfl | omega | (left; simp; done) | (right; simp; done))) (hal := (by first | assumption | rfl | omega | (left; simp; done) | (right; simp; done))) (hbd := (by first | assumption | rfl | omega | (left; simp; done) | (right; simp; done)))) ?_)
            rintro _ _ _ _ ⟨rfl, rfl, rfl⟩
            show XL _ _ _ _ _ _ _ (intsH 2 x5 ar :: pairsD 2 156 x6 rs :: intsH 2 x7 ((walkB ar rs ((t)) st n).1) :: stepsD 2 74 x8 ((walkB ar rs ((t)) st n).2.1) :: cellsH b4 [x7, x8] 63 :: intsH 2 v2 ((t)) :: cellsH b3 [x5, x6] 29 :: cellsH b2 [x3, x4] 63 :: cellsH b1 [arv, rsv] 41 :: L)
            refine XL.cons (XOp.notD (p := ar = ar ∧ rs = rs) rfl ?_)
            refine XL.nil ?_
            refine X.condD (p := ¬(ar = ar ∧ rs = rs)) rfl (fun h5 => ?_) (fun h5 => ?_)
            · exact absurd (by first | rfl | exact ⟨rfl, rfl⟩) h5
            · refine X.skip ?_
              refine X.seq ?_
              refine X.seq ?_
              refine X.region ?_
              refine XL.cons (XOp.move (v2) rfl ?_)
              refine XL.cons (XOp.move (tv) rfl ?_)
              refine XL.cons (XOp.call (args := [tv]) Try.call28 rfl (toInt64S_spec ht (hlx := (by first | assumption | rfl | omega | (left; simp; done) | (right; simp; done)))) ?_)
              rintro v3 _ _ _ ⟨rfl, hs3, rfl⟩
              refine XL.cons (XOp.lend [_, _, _, _, _, _] _ _ rfl (fun F18 le18 hz11 => ?_))
              refine id (XOp.lend [] _ _ rfl (fun F19 le19 hz12 => ?_))
              have hf11 : IntsF _ v2 ((t)) := (intsH.fz (xs := (t)) hz11).mono le19
              have hf12 : IntsF _ v3 ((t)) := intsH.fz (xs := (t)) hz12
              refine id (XOp.call (args := [v2, v3]) Try.call31 rfl (eqInt64S_spec hf11 hf12 (hbd := (by first | assumption | rfl | omega | (left; simp; done) | (right; simp; done)))) ?_)
              rintro _ _ _ _ ⟨rfl, rfl, rfl⟩
              show XL _ _ _ _ _ _ _ (intsH 2 v2 ((t)) :: intsH 2 v3 ((t)) :: intsH 2 x5 ar :: pairsD 2 156 x6 rs :: intsH 2 x7 ((walkB ar rs ((t)) st n).1) :: stepsD 2 74 x8 ((walkB ar rs ((t)) st n).2.1) :: cellsH b4 [x7, x8] 63 :: cellsH b3 [x5, x6] 29 :: cellsH b2 [x3, x4] 63 :: cellsH b1 [arv, rsv] 41 :: L)
              refine XL.cons (XOp.notD (p := ((t)) = ((t))) rfl ?_)
              refine XL.nil ?_
              refine X.condD (p := ¬(((t)) = ((t)))) rfl (fun h6 => ?_) (fun h6 => ?_)
              · exact absurd (by first | rfl | exact ⟨rfl, rfl⟩) h6
              · refine X.skip ?_
                refine X.seq ?_
                refine X.region ?_
                refine XL.cons (XOp.assign (.int .i64 (1)) rfl ?_)
                refine XL.nil ?_
                refine X.seq ?_
                refine X.region ?_
                refine XL.cons (XOp.loadN [x5, x6] Try.isAgg29 Try.sizeOf29 rfl rfl (Rd.ownN [_, _, _, _, _, _, _] rfl rfl) ?_)
                refine XL.cons (XOp.move (.int .i64 (1)) rfl ?_)
                refine XL.weaken (Sub.front (A := [_, _, _])) ?_
                show XL _ _ _ _ _ _ _ (pairsD 2 156 x6 rs :: intsH 2 v2 ((t)) :: intsH 2 v3 ((t)) :: intsH 2 x5 ar :: intsH 2 x7 ((walkB ar rs ((t)) st n).1) :: stepsD 2 74 x8 ((walkB ar rs ((t)) st n).2.1) :: cellsH b4 [x7, x8] 63 :: cellsH b3 [x5, x6] 29 :: cellsH b2 [x3, x4] 63 :: cellsH b1 [arv, rsv] 41 :: L)
                refine XL.weaken (Sub.front (A := [_, _, _])) ?_
                show XL _ _ _ _ _ _ _ (intsH 2 x5 ar :: pairsD 2 156 x6 rs :: intsH 2 v2 ((t)) :: intsH 2 v3 ((t)) :: intsH 2 x7 ((walkB ar rs ((t)) st n).1) :: stepsD 2 74 x8 ((walkB ar rs ((t)) st n).2.1) :: cellsH b4 [x7, x8] 63 :: cellsH b3 [x5, x6] 29 :: cellsH b2 [x3, x4] 63 :: cellsH b1 [arv, rsv] 41 :: L)
                refine XL.cons (XOp.call (args := [.agg #[x5, x6], .int .i64 (1)]) Try.call35 rfl (markSystem_spec (by (try simp only [List.length_append]); omega) (by omega)) ?_)
                rintro _ _ _ _ ⟨m1, m2, hm1, hk1, rfl, rfl, rfl⟩
                have hml1 := congrArg List.length hm1
                rw [iota_len] at hml1
                try simp only [List.length_append] at hml1
                refine XL.cons (XOp.assign (.int .i64 (1 + (((ar) ++ (rs.flatMap flatPair)).length : Int))) rfl ?_)
                refine XL.nil ?_
                refine X.seq ?_
                refine X.region ?_
                refine XL.cons (XOp.move (v2) rfl ?_)
                refine XL.cons (XOp.move (.int .i64 (1 + (((ar) ++ (rs.flatMap flatPair)).length : Int))) rfl ?_)
                refine XL.weaken (Sub.front (A := [_, _])) ?_
                show XL _ _ _ _ _ _ _ (intsH 2 v2 ((t)) :: intsH 2 x5 m1 :: pairsD 2 156 x6 m2 :: intsH 2 v3 ((t)) :: intsH 2 x7 ((walkB ar rs ((t)) st n).1) :: stepsD 2 74 x8 ((walkB ar rs ((t)) st n).2.1) :: cellsH b4 [x7, x8] 63 :: cellsH b3 [x5, x6] 29 :: cellsH b2 [x3, x4] 63 :: cellsH b1 [arv, rsv] 41 :: L)
                refine XL.cons (XOp.call (args := [v2, .int .i64 (1 + (((ar) ++ (rs.flatMap flatPair)).length : Int))]) Try.call36 rfl (markInt64S_spec (by (try simp only [List.length_append]); omega)) ?_)
                rintro _ _ _ _ ⟨m3, hm2, rfl, rfl, rfl⟩
                have hml2 := congrArg List.length hm2
                rw [iota_len] at hml2
                try simp only [List.length_append] at hml2
                refine XL.cons (XOp.assign (.int .i64 ((1 + (((ar) ++ (rs.flatMap flatPair)).length : Int)) + (((((t)))).length : Int))) rfl ?_)
                refine XL.nil ?_
                refine X.seq ?_
                refine X.seq ?_
                refine X.region ?_
                refine XL.cons (XOp.move (.int .i64 ((1 + (((ar) ++ (rs.flatMap flatPair)).length : Int)) + (((((t)))).length : Int))) rfl ?_)
                refine XL.cons (XOp.lss (a := (1 + (((ar) ++ (rs.flatMap flatPair)).length : Int)) + (((((t)))).length : Int)) (b := 0) rfl rfl ?_)
                refine XL.cons (XOp.move (.bool (decide (((1 + (((ar) ++ (rs.flatMap flatPair)).length : Int)) + (((((t)))).length : Int) : Int) < 0))) rfl ?_)
                by_cases h7 : ((1 + (((ar) ++ (rs.flatMap flatPair)).length : Int)) + (((((t)))).length : Int) : Int) < 0
                · exact absurd h7 (by omega)
                · refine XL.yes (t := 78) rfl (congrArg Value.bool (decide_eq_false h7)) (XOp.loadN [x7, x8] Try.isAgg63 Try.sizeOf63 rfl rfl (Rd.ownN [_, _, _, _, _, _] rfl rfl) ?_)
                  refine XL.yes (t := 78) rfl (congrArg Value.bool (decide_eq_false h7)) (XOp.loadN [x3, x4] Try.isAgg63 Try.sizeOf63 rfl rfl (Rd.ownN [_, _, _, _, _, _, _, _] rfl rfl) ?_)
                  refine XL.yes (t := 78) rfl (congrArg Value.bool (decide_eq_false h7)) (XOp.lend [_, _, _, _] _ _ rfl (fun F20 le20 hz13 => ?_))
                  refine id (XOp.lend [_, _, _, _] _ _ rfl (fun F21 le21 hz14 => ?_))
                  have hf13 : IntsF _ x7 ((walkB ar rs ((t)) st n).1) := (intsH.fz (xs := (walkB ar rs ((t)) st n).1) hz13).mono le21
                  have hf14 : StepsF _ x8 ((walkB ar rs ((t)) st n).2.1) := stepsD.fz hz14
                  refine id (XOp.call (args := [.agg #[x7, x8], .agg #[x3, x4]]) Try.call43 rfl (eqWalk_spec hf13 hf14 ((hr4.mono (FLe.trans le20 le21))) ((hr5.mono (FLe.trans le20 le21))) (hfl := (by first | assumption | rfl | omega | (left; simp; done) | (right; simp; done))) (hal := (by first | assumption | rfl | omega | (left; simp; done) | (right; simp; done))) (hbd := (by first | assumption | exact fun i hi => by have := hnd i hi; omega))) ?_)
                  rintro _ _ _ _ ⟨rfl, rfl, rfl⟩
                  show XL _ _ _ _ _ _ _ (intsH 2 x7 ((walkB ar rs ((t)) st n).1) :: stepsD 2 74 x8 ((walkB ar rs ((t)) st n).2.1) :: intsH 2 v2 m3 :: intsH 2 x5 m1 :: pairsD 2 156 x6 m2 :: intsH 2 v3 ((t)) :: cellsH b4 [x7, x8] 63 :: cellsH b3 [x5, x6] 29 :: cellsH b2 [x3, x4] 63 :: cellsH b1 [arv, rsv] 41 :: L)
                  refine XL.yes (t := 78) rfl (congrArg Value.bool (decide_eq_false h7)) (XOp.notD (p := ((walkB ar rs ((t)) st n).1) = ((walkB ar rs ((t)) st n).1) ∧ ((walkB ar rs ((t)) st n).2.1) = ((walkB ar rs ((t)) st n).2.1)) rfl ?_)
                  refine XL.cons (XOp.pickF (.bool (decide (¬(((walkB ar rs ((t)) st n).1) = ((walkB ar rs ((t)) st n).1) ∧ ((walkB ar rs ((t)) st n).2.1) = ((walkB ar rs ((t)) st n).2.1))))) (congrArg Value.bool (decide_eq_false h7)) rfl ?_)
                  refine XL.cons (XOp.move (.bool (decide (¬(((walkB ar rs ((t)) st n).1) = ((walkB ar rs ((t)) st n).1) ∧ ((walkB ar rs ((t)) st n).2.1) = ((walkB ar rs ((t)) st n).2.1))))) rfl ?_)
                  refine XL.yes (t := 84) rfl (congrArg Value.bool (decide_eq_false h3)) (XOp.move (.bool ((walkB ar rs ((t)) st n).2.2)) rfl ?_)
                  refine XL.yes (t := 84) rfl (congrArg Value.bool (decide_eq_false h3)) (XOp.move (.bool ((walkB ar rs ((t)) st n).2.2)) rfl ?_)
                  refine XL.yes (t := 84) rfl (congrArg Value.bool (decide_eq_false h3)) (XOp.neB (a := (walkB ar rs ((t)) st n).2.2) (b := (walkB ar rs ((t)) st n).2.2) Try.runUnderlying4 rfl rfl ?_)
                  refine XL.cons (XOp.pickF (.bool (decide (((walkB ar rs ((t)) st n).2.2) ≠ ((walkB ar rs ((t)) st n).2.2)))) (congrArg Value.bool (decide_eq_false h3)) rfl ?_)
                  refine XL.nil ?_
                  refine X.condF (congrArg Value.bool (decide_eq_false h4)) ?_
                  refine X.skip ?_
                  refine X.seq ?_
                  refine X.region ?_
                  refine XL.cons (XOp.assign (.int .i64 (1)) rfl ?_)
                  refine XL.nil ?_
                  refine X.seq ?_
                  refine X.region ?_
                  refine XL.cons (XOp.loadN [x7, x8] Try.isAgg63 Try.sizeOf63 rfl rfl (Rd.ownN [_, _, _, _, _, _] rfl rfl) ?_)
                  refine XL.cons (XOp.move (.int .i64 (1)) rfl ?_)
                  refine XL.weaken (Sub.front (A := [_])) ?_
                  show XL _ _ _ _ _ _ _ (stepsD 2 74 x8 ((walkB ar rs ((t)) st n).2.1) :: intsH 2 x7 ((walkB ar rs ((t)) st n).1) :: intsH 2 v2 m3 :: intsH 2 x5 m1 :: pairsD 2 156 x6 m2 :: intsH 2 v3 ((t)) :: cellsH b4 [x7, x8] 63 :: cellsH b3 [x5, x6] 29 :: cellsH b2 [x3, x4] 63 :: cellsH b1 [arv, rsv] 41 :: L)
                  refine XL.weaken (Sub.front (A := [_])) ?_
                  show XL _ _ _ _ _ _ _ (intsH 2 x7 ((walkB ar rs ((t)) st n).1) :: stepsD 2 74 x8 ((walkB ar rs ((t)) st n).2.1) :: intsH 2 v2 m3 :: intsH 2 x5 m1 :: pairsD 2 156 x6 m2 :: intsH 2 v3 ((t)) :: cellsH b4 [x7, x8] 63 :: cellsH b3 [x5, x6] 29 :: cellsH b2 [x3, x4] 63 :: cellsH b1 [arv, rsv] 41 :: L)
                  refine XL.cons (XOp.call (args := [.agg #[x7, x8], .int .i64 (1)]) Try.call44 rfl (markWalk_spec (by (try simp only [List.length_append]); omega) (by omega)) ?_)
                  rintro _ _ _ _ ⟨m4, m5, hm3, hk2, rfl, rfl, rfl⟩
                  have hml3 := congrArg List.length hm3
                  rw [iota_len] at hml3
                  try simp only [List.length_append] at hml3
                  refine XL.cons (XOp.assign (.int .i64 (1 + (((((walkB ar rs ((t)) st n).1)) ++ (((walkB ar rs ((t)) st n).2.1).flatMap flatStep)).length : Int))) rfl ?_)
                  refine XL.nil ?_
                  refine X.seq ?_
                  refine X.region ?_
                  refine XL.cons (XOp.assign (.int .i64 (1)) rfl ?_)
                  refine XL.nil ?_
                  refine X.seq ?_
                  refine X.region ?_
                  refine XL.cons (XOp.loadN [x7, x8] Try.isAgg63 Try.sizeOf63 rfl rfl (Rd.ownN [_, _, _, _, _, _] rfl rfl) ?_)
                  refine XL.cons (XOp.move (.int .i64 (1)) rfl ?_)
                  refine XL.cons (XOp.lend [] _ _ rfl (fun F22 le22 hz15 => ?_))
                  refine id (XOp.lend [] _ _ rfl (fun F23 le23 hz16 => ?_))
                  have hf15 : IntsF _ x7 m4 := (intsH.fz (xs := m4) hz15).mono le23
                  have hf16 : StepsF _ x8 m5 := stepsD.fz hz16
                  refine id (XOp.call (args := [.agg #[x7, x8], .int .i64 (1)]) Try.call58 rfl (heldWalk_spec (z := 1) hf15 hf16 (hzb := (by first | assumption | rfl | omega | (left; simp; done) | (right; simp; done))) (hxl := (by first | assumption | rfl | omega | (left; simp; done) | (right; simp; done)))) ?_)
                  rintro _ _ _ _ ⟨rfl, rfl, rfl⟩
                  show XL _ _ _ _ _ _ _ (intsH 2 x7 m4 :: stepsD 2 74 x8 m5 :: intsH 2 v2 m3 :: intsH 2 x5 m1 :: pairsD 2 156 x6 m2 :: intsH 2 v3 ((t)) :: cellsH b4 [x7, x8] 63 :: cellsH b3 [x5, x6] 29 :: cellsH b2 [x3, x4] 63 :: cellsH b1 [arv, rsv] 41 :: L)
                  refine XL.cons (XOp.assign (.int .i64 (heldF (m4 ++ m5.flatMap flatStep) 1)) rfl ?_)
                  refine XL.nil ?_
                  refine X.seq ?_
                  refine X.seq ?_
                  refine X.region ?_
                  refine XL.cons (XOp.move (.int .i64 (heldF (m4 ++ m5.flatMap flatStep) 1)) rfl ?_)
                  refine XL.cons (XOp.lss (a := heldF (m4 ++ m5.flatMap flatStep) 1) (b := 0) rfl rfl ?_)
                  refine XL.nil ?_
                  refine X.condD (p := (heldF (m4 ++ m5.flatMap flatStep) 1 : Int) < 0) rfl (fun h8 => ?_) (fun h8 => ?_)
                  · rw [hm3, heldF_iota] at h8
                    exact absurd h8 (by omega)
                  · refine X.skip ?_
                    refine X.seq ?_
                    refine X.seq ?_
                    refine X.region ?_
                    refine XL.cons (XOp.move (.int .i64 (heldF (m4 ++ m5.flatMap flatStep) 1)) rfl ?_)
                    refine XL.cons (XOp.move (.int .i64 (1 + (((((walkB ar rs ((t)) st n).1)) ++ (((walkB ar rs ((t)) st n).2.1).flatMap flatStep)).length : Int))) rfl ?_)
                    refine XL.cons (XOp.neq (a := heldF (m4 ++ m5.flatMap flatStep) 1) (b := 1 + (((((walkB ar rs ((t)) st n).1)) ++ (((walkB ar rs ((t)) st n).2.1).flatMap flatStep)).length : Int)) rfl rfl ?_)
                    refine XL.nil ?_
                    refine X.condD (p := (heldF (m4 ++ m5.flatMap flatStep) 1 : Int) ≠ 1 + (((((walkB ar rs ((t)) st n).1)) ++ (((walkB ar rs ((t)) st n).2.1).flatMap flatStep)).length : Int)) rfl (fun h9 => ?_) (fun h9 => ?_)
                    · exact absurd (by rw [hm3, heldF_iota]) h9
                    · refine X.skip ?_
                      refine X.seq ?_
                      refine X.region ?_
                      refine XL.cons (XOp.loadN [arv, rsv] Try.isAgg41 Try.sizeOf41 rfl rfl (Rd.ownN [_, _, _, _, _, _, _, _, _] rfl rfl) ?_)
                      refine XL.cons (XOp.thawL ?_)
                      refine id (XOp.call (args := [.agg #[arv, rsv]]) Try.call27 rfl (toSystem_spec har hrs (hla := (by first | assumption | rfl | omega | (left; simp; done) | (right; simp; done))) (hrl := (by first | assumption | rfl | omega | (left; simp; done) | (right; simp; done))) (hrb := (by first | assumption | rfl | omega | (left; simp; done) | (right; simp; done)))) ?_)
                      rintro _ F24 _ le24 ⟨x13, x14, rfl, hr18, hr19, hr20, rfl⟩
                      refine ⟨[intsH 2 x13 ar, pairsD 2 156 x14 rs], hr20, ?_⟩
                      show XL _ _ _ _ _ _ _ (intsH 2 x13 ar :: pairsD 2 156 x14 rs :: intsH 2 x7 m4 :: stepsD 2 74 x8 m5 :: intsH 2 v2 m3 :: intsH 2 x5 m1 :: pairsD 2 156 x6 m2 :: intsH 2 v3 ((t)) :: cellsH b4 [x7, x8] 63 :: cellsH b3 [x5, x6] 29 :: cellsH b2 [x3, x4] 63 :: cellsH b1 [arv, rsv] 41 :: L)
                      refine XL.cons (XOp.move (tv) rfl ?_)
                      refine XL.cons (XOp.call (args := [tv]) Try.call28 rfl (toInt64S_spec ht (hlx := (by first | assumption | rfl | omega | (left; simp; done) | (right; simp; done)))) ?_)
                      rintro v4 _ _ _ ⟨rfl, hs4, rfl⟩
                      refine XL.cons (XOp.move (.int .i64 (st)) rfl ?_)
                      refine XL.cons (XOp.move (.int .i64 (n)) rfl ?_)
                      refine XL.cons (XOp.lend [_] _ _ rfl (fun F25 le25 hz17 => ?_))
                      refine id (XOp.lend [_] _ _ rfl (fun F26 le26 hz18 => ?_))
                      refine id (XOp.lend [] _ _ rfl (fun F27 le27 hz19 => ?_))
                      have hf17 : IntsF _ x13 ar := (intsH.fz (xs := ar) hz17).mono (FLe.trans le26 le27)
                      have hf18 : PairsF _ x14 rs := (pairsD.fz hz18).mono le27
                      have hf19 : IntsF _ v4 ((t)) := intsH.fz (xs := (t)) hz19
                      refine id (XOp.thawL ?_)
                      refine id (XOp.call (args := [.agg #[x13, x14], v4, .int .i64 (st), .int .i64 (n)]) Try.call62 rfl (WalkBy_spec (st := st) (n := n) hf17 hf18 hf19) ?_)
                      rintro _ F28 _ le28 ⟨x15, x16, rfl, hr21, hr22, hr23, rfl⟩
                      refine ⟨[intsH 2 x15 ((walkB ar rs ((t)) st n).1), stepsD 2 74 x16 ((walkB ar rs ((t)) st n).2.1)], hr23, ?_⟩
                      show XL _ _ _ _ _ _ _ (intsH 2 x13 ar :: pairsD 2 156 x14 rs :: intsH 2 v4 ((t)) :: intsH 2 x15 ((walkB ar rs ((t)) st n).1) :: stepsD 2 74 x16 ((walkB ar rs ((t)) st n).2.1) :: intsH 2 x7 m4 :: stepsD 2 74 x8 m5 :: intsH 2 v2 m3 :: intsH 2 x5 m1 :: pairsD 2 156 x6 m2 :: intsH 2 v3 ((t)) :: cellsH b4 [x7, x8] 63 :: cellsH b3 [x5, x6] 29 :: cellsH b2 [x3, x4] 63 :: cellsH b1 [arv, rsv] 41 :: L)
                      refine XL.cons (XOp.move (.tuple #[.agg #[x15, x16], .bool ((walkB ar rs ((t)) st n).2.2)]) rfl ?_)
                      refine XL.cons (XOp.extract (.agg #[x15, x16]) rfl rfl ?_)
                      refine XL.cons (XOp.extract (.bool ((walkB ar rs ((t)) st n).2.2)) rfl rfl ?_)
                      refine XL.cons (XOp.alloc [(.slice none 0 0), (.slice none 0 0)] Try.zeroValue63 rfl ?_)
                      intro b5
                      refine XL.cons (XOp.storeN (vs := [x15, x16]) [] _ [x15, x16] Try.sizeOf63 rfl rfl rfl (ones_cons (one_sl (IntsF.isSl hr21)) (ones_cons (one_sl (StepsF.isSl hr22)) ones_nil)) rfl rfl rfl ?_)
                      refine XL.cons (XOp.assign (.bool ((walkB ar rs ((t)) st n).2.2)) rfl ?_)
                      refine XL.nil ?_
                      refine X.seq ?_
                      refine X.seq ?_
                      refine X.region ?_
                      refine XL.cons (XOp.loadN [x15, x16] Try.isAgg63 Try.sizeOf63 rfl rfl (Rd.ownN [] rfl rfl) ?_)
                      refine XL.cons (XOp.loadN [x3, x4] Try.isAgg63 Try.sizeOf63 rfl rfl (Rd.ownN [_, _, _, _, _, _, _, _, _, _, _, _, _, _] rfl rfl) ?_)
                      refine XL.cons (XOp.lend [_, _, _, _] _ _ rfl (fun F29 le29 hz20 => ?_))
                      refine id (XOp.lend [_, _, _, _] _ _ rfl (fun F30 le30 hz21 => ?_))
                      have hf20 : IntsF _ x15 ((walkB ar rs ((t)) st n).1) := (intsH.fz (xs := (walkB ar rs ((t)) st n).1) hz20).mono le30
                      have hf21 : StepsF _ x16 ((walkB ar rs ((t)) st n).2.1) := stepsD.fz hz21
                      refine id (XOp.call (args := [.agg #[x15, x16], .agg #[x3, x4]]) Try.call43 rfl (eqWalk_spec hf20 hf21 ((hr4.mono (FLe.trans le29 le30))) ((hr5.mono (FLe.trans le29 le30))) (hfl := (by first | assumption | rfl | omega | (left; simp; done) | (right; simp; done))) (hal := (by first | assumption | rfl | omega | (left; simp; done) | (right; simp; done))) (hbd := (by first | assumption | exact fun i hi => by have := hnd i hi; omega))) ?_)
                      rintro _ _ _ _ ⟨rfl, rfl, rfl⟩
                      show XL _ _ _ _ _ _ _ (intsH 2 x15 ((walkB ar rs ((t)) st n).1) :: stepsD 2 74 x16 ((walkB ar rs ((t)) st n).2.1) :: cellsH b5 [x15, x16] 63 :: intsH 2 x13 ar :: pairsD 2 156 x14 rs :: intsH 2 v4 ((t)) :: intsH 2 x7 m4 :: stepsD 2 74 x8 m5 :: intsH 2 v2 m3 :: intsH 2 x5 m1 :: pairsD 2 156 x6 m2 :: intsH 2 v3 ((t)) :: cellsH b4 [x7, x8] 63 :: cellsH b3 [x5, x6] 29 :: cellsH b2 [x3, x4] 63 :: cellsH b1 [arv, rsv] 41 :: L)
                      refine XL.cons (XOp.notD (p := ((walkB ar rs ((t)) st n).1) = ((walkB ar rs ((t)) st n).1) ∧ ((walkB ar rs ((t)) st n).2.1) = ((walkB ar rs ((t)) st n).2.1)) rfl ?_)
                      refine XL.cons (XOp.move (.bool (decide (¬(((walkB ar rs ((t)) st n).1) = ((walkB ar rs ((t)) st n).1) ∧ ((walkB ar rs ((t)) st n).2.1) = ((walkB ar rs ((t)) st n).2.1))))) rfl ?_)
                      refine XL.yes (t := 114) rfl (congrArg Value.bool (decide_eq_false h3)) (XOp.move (.bool ((walkB ar rs ((t)) st n).2.2)) rfl ?_)
                      refine XL.yes (t := 114) rfl (congrArg Value.bool (decide_eq_false h3)) (XOp.move (.bool ((walkB ar rs ((t)) st n).2.2)) rfl ?_)
                      refine XL.yes (t := 114) rfl (congrArg Value.bool (decide_eq_false h3)) (XOp.neB (a := (walkB ar rs ((t)) st n).2.2) (b := (walkB ar rs ((t)) st n).2.2) Try.runUnderlying4 rfl rfl ?_)
                      refine XL.cons (XOp.pickF (.bool (decide (((walkB ar rs ((t)) st n).2.2) ≠ ((walkB ar rs ((t)) st n).2.2)))) (congrArg Value.bool (decide_eq_false h3)) rfl ?_)
                      refine XL.nil ?_
                      refine X.condF (congrArg Value.bool (decide_eq_false h4)) ?_
                      refine X.skip ?_
                      refine X.seq ?_
                      refine X.region ?_
                      refine XL.cons (XOp.assign (.int .i64 (1)) rfl ?_)
                      refine XL.nil ?_
                      refine X.seq ?_
                      refine X.region ?_
                      refine XL.cons (XOp.loadN [x7, x8] Try.isAgg63 Try.sizeOf63 rfl rfl (Rd.ownN [_, _, _, _, _, _, _, _, _, _, _, _] rfl rfl) ?_)
                      refine XL.cons (XOp.move (.int .i64 (1)) rfl ?_)
                      refine XL.cons (XOp.lend [_, _, _, _, _, _] _ _ rfl (fun F31 le31 hz22 => ?_))
                      refine id (XOp.lend [_, _, _, _, _, _] _ _ rfl (fun F32 le32 hz23 => ?_))
                      have hf22 : IntsF _ x7 m4 := (intsH.fz (xs := m4) hz22).mono le32
                      have hf23 : StepsF _ x8 m5 := stepsD.fz hz23
                      refine id (XOp.call (args := [.agg #[x7, x8], .int .i64 (1)]) Try.call58 rfl (heldWalk_spec (z := 1) hf22 hf23 (hzb := (by first | assumption | rfl | omega | (left; simp; done) | (right; simp; done))) (hxl := (by first | assumption | rfl | omega | (left; simp; done) | (right; simp; done)))) ?_)
                      rintro _ _ _ _ ⟨rfl, rfl, rfl⟩
                      show XL _ _ _ _ _ _ _ (intsH 2 x7 m4 :: stepsD 2 74 x8 m5 :: intsH 2 x15 ((walkB ar rs ((t)) st n).1) :: stepsD 2 74 x16 ((walkB ar rs ((t)) st n).2.1) :: cellsH b5 [x15, x16] 63 :: intsH 2 x13 ar :: pairsD 2 156 x14 rs :: intsH 2 v4 ((t)) :: intsH 2 v2 m3 :: intsH 2 x5 m1 :: pairsD 2 156 x6 m2 :: intsH 2 v3 ((t)) :: cellsH b4 [x7, x8] 63 :: cellsH b3 [x5, x6] 29 :: cellsH b2 [x3, x4] 63 :: cellsH b1 [arv, rsv] 41 :: L)
                      refine XL.cons (XOp.assign (.int .i64 (heldF (m4 ++ m5.flatMap flatStep) 1)) rfl ?_)
                      refine XL.nil ?_
                      refine X.seq ?_
                      refine X.seq ?_
                      refine X.region ?_
                      refine XL.cons (XOp.move (.int .i64 (heldF (m4 ++ m5.flatMap flatStep) 1)) rfl ?_)
                      refine XL.cons (XOp.lss (a := heldF (m4 ++ m5.flatMap flatStep) 1) (b := 0) rfl rfl ?_)
                      refine XL.nil ?_
                      refine X.condF (congrArg Value.bool (decide_eq_false h8)) ?_
                      refine X.skip ?_
                      refine X.seq ?_
                      refine X.seq ?_
                      refine X.region ?_
                      refine XL.cons (XOp.move (.int .i64 (heldF (m4 ++ m5.flatMap flatStep) 1)) rfl ?_)
                      refine XL.cons (XOp.move (.int .i64 (1 + (((((walkB ar rs ((t)) st n).1)) ++ (((walkB ar rs ((t)) st n).2.1).flatMap flatStep)).length : Int))) rfl ?_)
                      refine XL.cons (XOp.neq (a := heldF (m4 ++ m5.flatMap flatStep) 1) (b := 1 + (((((walkB ar rs ((t)) st n).1)) ++ (((walkB ar rs ((t)) st n).2.1).flatMap flatStep)).length : Int)) rfl rfl ?_)
                      refine XL.nil ?_
                      refine X.condF (congrArg Value.bool (decide_eq_false h9)) ?_
                      refine X.skip ?_
                      refine X.seq ?_
                      refine X.region ?_
                      refine XL.cons (XOp.assign (.bool (true)) rfl ?_)
                      refine XL.nil ?_
                      refine X.ret (retEnd (L' := L) [.bool (true)] (.bool (true)) (.tmp rfl .nil) rfl (FLe.refl _) (FLe.trans (FLe.trans (FLe.trans (FLe.trans le2 le3) le4) le5) le15) (Sub.drop (Sub.drop (Sub.drop (Sub.drop (Sub.drop (Sub.drop (Sub.drop (Sub.drop (Sub.drop (Sub.drop (Sub.drop (Sub.drop (Sub.drop (Sub.drop (Sub.drop (Sub.drop (Sub.refl _))))))))))))))))) ?_)
                      exact ⟨rfl, rfl, rfl⟩
end Go.Proofs.Ytacbenjncjcglaa
