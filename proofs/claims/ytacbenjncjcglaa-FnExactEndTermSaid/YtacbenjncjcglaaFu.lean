/-
  Statements, walked: NormalBy, EndTerm.
-/
import Derived.Test.YtacbenjncjcglaaFt
set_option linter.unusedSimpArgs false
set_option linter.unusedVariables false
namespace Go.Proofs.Ytacbenjncjcglaa
open Go X M

/- laws.FnExactNormalBy -/
set_option maxRecDepth 20000 in
theorem FnExactNormalBy_does {F : FH} {L : List HP} {arv : Value} {ar : List Int} (har : IntsF F arv ar) {rsv : Value} {rs : List (List Int × List Int)} (hrs : PairsF F rsv rs) {tv : Value} {t : List Int} (ht : IntsF F tv t) {st : Int} {n : Int} (hlar : ar.length ≤ 9223372036854775807) (hlrs : rs.length ≤ 9223372036854775807) (hbrs : ∀ i, i < rs.length → (rs.getD i ([], [])).1.length ≤ 9223372036854775807 ∧ (rs.getD i ([], [])).2.length ≤ 9223372036854775807) (hlt : t.length ≤ 9223372036854775807) :
    Does Try.prog 8 [.agg #[arv, rsv], tv, .int .i64 (st), .int .i64 (n)] F (L) (fun v F' L' => (.bool (true) : Value) = v ∧ F = F' ∧ L = L') := by
  refine Does.of_X Try.func8 rfl rfl rfl ?_
  have hnb := normB_len (ar := ar) (rs := rs) (t := t) (st := st) (n := n)
  refine X.seq ?_
  refine X.region ?_
  refine XL.cons (XOp.box [arv, rsv] rfl rfl ?_)
  intro b1
  refine XL.cons (XOp.assign (.bool (false)) rfl ?_)
  refine XL.nil ?_
  refine X.seq ?_
  refine X.seq ?_
  refine X.region ?_
  refine XL.cons (XOp.move (tv) rfl ?_)
  refine XL.cons (XOp.lenS (v := tv) (n := (t).length) Try.runUnderlying24 rfl ht.slv ?_)
  refine XL.cons (XOp.gtr (a := (((t).length : Nat) : Int)) (b := 1048576) rfl rfl ?_)
  refine XL.nil ?_
  refine X.condD (p := ((((t).length : Nat) : Int) : Int) > 1048576) rfl (fun h1 => ?_) (fun h1 => ?_)
  · refine X.seq ?_
    refine X.region ?_
    refine XL.cons (XOp.assign (.bool (true)) rfl ?_)
    refine XL.nil ?_
    refine X.ret (thenQ_ret (retEnd (L' := L) [.bool (true)] (.bool (true)) (.tmp rfl .nil) rfl (FLe.refl _) (FLe.refl _) (Sub.drop (Sub.refl _)) ?_))
    exact ⟨rfl, rfl, rfl⟩
  · refine X.skip ?_
    refine X.seq ?_
    refine X.region ?_
    refine XL.cons (XOp.assign (.int .i64 (1048576)) rfl ?_)
    refine XL.nil ?_
    refine X.seq ?_
    refine X.region ?_
    refine XL.cons (XOp.loadN [arv, rsv] Try.isAgg41 Try.sizeOf41 rfl rfl (Rd.ownN [] rfl rfl) ?_)
    refine XL.cons (XOp.move (.int .i64 (1048576)) rfl ?_)
    refine XL.cons (XOp.call (args := [.agg #[arv, rsv], .int .i64 (1048576)]) Try.call25 rfl (szSystem_spec (z := 1048576) har hrs (hz := (by first | assumption | rfl | omega | (left; simp; done) | (right; simp; done))) (hal := (by first | assumption | rfl | omega | (left; simp; done) | (right; simp; done))) (hrl := (by first | assumption | rfl | omega | (left; simp; done) | (right; simp; done))) (hrb := (by first | assumption | rfl | omega | (left; simp; done) | (right; simp; done)))) ?_)
    rintro _ _ _ _ ⟨rfl, rfl, rfl⟩
    refine XL.cons (XOp.assign (.int .i64 (dec 1048576 (ar.length + szR rs))) rfl ?_)
    refine XL.nil ?_
    refine X.seq ?_
    refine X.seq ?_
    refine X.region ?_
    refine XL.cons (XOp.move (.int .i64 (dec 1048576 (ar.length + szR rs))) rfl ?_)
    refine XL.cons (XOp.lss (a := dec 1048576 (ar.length + szR rs)) (b := 0) rfl rfl ?_)
    refine XL.nil ?_
    refine X.condD (p := (dec 1048576 (ar.length + szR rs) : Int) < 0) rfl (fun h2 => ?_) (fun h2 => ?_)
    · refine X.seq ?_
      refine X.region ?_
      refine XL.cons (XOp.assign (.bool (true)) rfl ?_)
      refine XL.nil ?_
      refine X.ret (thenQ_ret (retEnd (L' := L) [.bool (true)] (.bool (true)) (.tmp rfl .nil) rfl (FLe.refl _) (FLe.refl _) (Sub.drop (Sub.refl _)) ?_))
      exact ⟨rfl, rfl, rfl⟩
    · have hd1 := dec_le2 h2 (by omega)
      have hzrs := szR_le (rs := rs)
      have hirs := hzrs.2
      have hcrs : ∀ i, i < rs.length → (rs.getD i ([], [])).1.length ≤ 4000000 ∧ (rs.getD i ([], [])).2.length ≤ 4000000 := fun i hi => by have := hirs i hi; omega
      have hfrs := flatPair_len rs
      refine X.skip ?_
      refine X.seq ?_
      refine X.region ?_
      refine XL.cons (XOp.loadN [arv, rsv] Try.isAgg41 Try.sizeOf41 rfl rfl (Rd.ownN [] rfl rfl) ?_)
      refine XL.cons (XOp.thawL ?_)
      refine id (XOp.call (args := [.agg #[arv, rsv]]) Try.call27 rfl (toSystem_spec har hrs (hla := (by first | assumption | rfl | omega | (left; simp; done) | (right; simp; done))) (hrl := (by first | assumption | rfl | omega | (left; simp; done) | (right; simp; done))) (hrb := (by first | assumption | rfl | omega | (left; simp; done) | (right; simp; done)))) ?_)
      rintro _ F1 _ le1 ⟨x1, x2, rfl, hr1, hr2, hr3, rfl⟩
      refine ⟨[intsH 2 x1 ar, pairsD 2 156 x2 rs], hr3, ?_⟩
      show XL _ _ _ _ _ _ _ (intsH 2 x1 ar :: pairsD 2 156 x2 rs :: cellsH b1 [arv, rsv] 41 :: L)
      refine XL.cons (XOp.move (tv) rfl ?_)
      refine XL.cons (XOp.call (args := [tv]) Try.call28 rfl (toInt64S_spec ht (hlx := (by first | assumption | rfl | omega | (left; simp; done) | (right; simp; done)))) ?_)
      rintro v1 _ _ _ ⟨rfl, hs1, rfl⟩
      refine XL.cons (XOp.move (.int .i64 (st)) rfl ?_)
      refine XL.cons (XOp.move (.int .i64 (n)) rfl ?_)
      refine XL.freezeF [_] _ _ rfl (fun F2 le2 hz1 => ?_)
      replace har := har.mono le2
      replace hrs := hrs.mono le2
      replace ht := ht.mono le2
      have hf1 : IntsF F2 x1 ar := intsH.fz (xs := ar) hz1.fz
      refine XL.freezeF [_] _ _ rfl (fun F3 le3 hz2 => ?_)
      replace har := har.mono le3
      replace hrs := hrs.mono le3
      replace ht := ht.mono le3
      replace hf1 := hf1.mono le3
      have hf2 : PairsF F3 x2 rs := pairsD.fz hz2.fz
      refine XL.freezeF [] _ _ rfl (fun F4 le4 hz3 => ?_)
      replace har := har.mono le4
      replace hrs := hrs.mono le4
      replace ht := ht.mono le4
      replace hf1 := hf1.mono le4
      replace hf2 := hf2.mono le4
      have hf3 : IntsF F4 v1 ((t)) := intsH.fz (xs := (t)) hz3.fz
      refine XL.cons (XOp.call (args := [.agg #[x1, x2], v1, .int .i64 (st), .int .i64 (n)]) Try.call54 rfl (sNormalBy_spec (st := st) (n := n) hf1 hf2 hf3 (hla := (by first | assumption | rfl | omega | (left; simp; done) | (right; simp; done))) (hlr := (by first | assumption | rfl | omega | (left; simp; done) | (right; simp; done))) (hrb := (by first | assumption | rfl | omega | (left; simp; done) | (right; simp; done))) (hlt := (by first | assumption | rfl | omega | (left; simp; done) | (right; simp; done)))) ?_)
      rintro _ F5 _ le5 ⟨x3, rfl, hr4, rfl⟩
      replace har := har.mono le5
      replace hrs := hrs.mono le5
      replace ht := ht.mono le5
      replace hf1 := hf1.mono le5
      replace hf2 := hf2.mono le5
      replace hf3 := hf3.mono le5
      refine XL.cons (XOp.move (.tuple #[x3, .bool ((normB ar rs ((t)) st n).2)]) rfl ?_)
      refine XL.cons (XOp.extract (x3) rfl rfl ?_)
      refine XL.cons (XOp.extract (.bool ((normB ar rs ((t)) st n).2)) rfl rfl ?_)
      refine XL.cons (XOp.assign (x3) rfl ?_)
      refine XL.cons (XOp.assign (.bool ((normB ar rs ((t)) st n).2)) rfl ?_)
      refine XL.nil ?_
      refine X.seq ?_
      refine X.region ?_
      refine XL.cons (XOp.loadN [arv, rsv] Try.isAgg41 Try.sizeOf41 rfl rfl (Rd.ownN [] rfl rfl) ?_)
      refine XL.cons (XOp.thawL ?_)
      refine id (XOp.call (args := [.agg #[arv, rsv]]) Try.call27 rfl (toSystem_spec har hrs (hla := (by first | assumption | rfl | omega | (left; simp; done) | (right; simp; done))) (hrl := (by first | assumption | rfl | omega | (left; simp; done) | (right; simp; done))) (hrb := (by first | assumption | rfl | omega | (left; simp; done) | (right; simp; done)))) ?_)
      rintro _ F6 _ le6 ⟨x4, x5, rfl, hr5, hr6, hr7, rfl⟩
      refine ⟨[intsH 2 x4 ar, pairsD 2 156 x5 rs], hr7, ?_⟩
      show XL _ _ _ _ _ _ _ (intsH 2 x4 ar :: pairsD 2 156 x5 rs :: cellsH b1 [arv, rsv] 41 :: L)
      refine XL.cons (XOp.alloc [(.slice none 0 0), (.slice none 0 0)] Try.zeroValue29 rfl ?_)
      intro b2
      refine XL.cons (XOp.storeN (vs := [x4, x5]) [] _ [x4, x5] Try.sizeOf29 rfl rfl rfl (ones_cons (one_sl (IntsF.isSl hr5)) (ones_cons (one_sl (PairsF.isSl hr6)) ones_nil)) rfl rfl rfl ?_)
      refine XL.nil ?_
      refine X.seq ?_
      refine X.region ?_
      refine XL.cons (XOp.move (tv) rfl ?_)
      refine XL.cons (XOp.call (args := [tv]) Try.call28 rfl (toInt64S_spec ht (hlx := (by first | assumption | rfl | omega | (left; simp; done) | (right; simp; done)))) ?_)
      rintro v2 _ _ _ ⟨rfl, hs2, rfl⟩
      refine XL.cons (XOp.assign (v2) rfl ?_)
      refine XL.nil ?_
      refine X.seq ?_
      refine X.region ?_
      refine XL.cons (XOp.loadN [x4, x5] Try.isAgg29 Try.sizeOf29 rfl rfl (Rd.ownN [_] rfl rfl) ?_)
      refine XL.cons (XOp.move (v2) rfl ?_)
      refine XL.cons (XOp.move (.int .i64 (st)) rfl ?_)
      refine XL.cons (XOp.move (.int .i64 (n)) rfl ?_)
      refine XL.cons (XOp.lend [_, _] _ _ rfl (fun F7 le7 hz4 => ?_))
      refine id (XOp.lend [_, _] _ _ rfl (fun F8 le8 hz5 => ?_))
      refine id (XOp.lend [] _ _ rfl (fun F9 le9 hz6 => ?_))
      have hf4 : IntsF _ x4 ar := (intsH.fz (xs := ar) hz4).mono (FLe.trans le8 le9)
      have hf5 : PairsF _ x5 rs := (pairsD.fz hz5).mono le9
      have hf6 : IntsF _ v2 ((t)) := intsH.fz (xs := (t)) hz6
      refine id (XOp.thawL ?_)
      refine id (XOp.call (args := [.agg #[x4, x5], v2, .int .i64 (st), .int .i64 (n)]) Try.call55 rfl (NormalBy_spec (st := st) (n := n) hf4 hf5 hf6) ?_)
      rintro _ F10 _ le10 ⟨x6, rfl, hr8, hr9, rfl⟩
      refine ⟨[intsH 2 x6 ((normB ar rs ((t)) st n).1)], hr9, ?_⟩
      show XL _ _ _ _ _ _ _ (intsH 2 x4 ar :: pairsD 2 156 x5 rs :: intsH 2 v2 ((t)) :: intsH 2 x6 ((normB ar rs ((t)) st n).1) :: cellsH b2 [x4, x5] 29 :: cellsH b1 [arv, rsv] 41 :: L)
      refine XL.cons (XOp.move (.tuple #[x6, .bool ((normB ar rs ((t)) st n).2)]) rfl ?_)
      refine XL.cons (XOp.extract (x6) rfl rfl ?_)
      refine XL.cons (XOp.extract (.bool ((normB ar rs ((t)) st n).2)) rfl rfl ?_)
      refine XL.cons (XOp.assign (x6) rfl ?_)
      refine XL.cons (XOp.assign (.bool ((normB ar rs ((t)) st n).2)) rfl ?_)
      refine XL.nil ?_
      refine X.seq ?_
      refine X.seq ?_
      refine X.region ?_
      refine XL.cons (XOp.move (x6) rfl ?_)
      refine XL.cons (XOp.move (x3) rfl ?_)
      refine XL.cons (XOp.lend [_, _, _] _ _ rfl (fun F11 le11 hz7 => ?_))
      have hf7 : IntsF _ x6 ((normB ar rs ((t)) st n).1) := intsH.fz (xs := (normB ar rs ((t)) st n).1) hz7
      refine id (XOp.call (args := [x6, x3]) Try.call31 rfl (eqInt64S_spec hf7 ((hr4.mono le11)) (hbd := (by first | assumption | rfl | omega | (left; simp; done) | (right; simp; done)))) ?_)
      rintro _ _ _ _ ⟨rfl, rfl, rfl⟩
      show XL _ _ _ _ _ _ _ (intsH 2 x6 ((normB ar rs ((t)) st n).1) :: intsH 2 x4 ar :: pairsD 2 156 x5 rs :: intsH 2 v2 ((t)) :: cellsH b2 [x4, x5] 29 :: cellsH b1 [arv, rsv] 41 :: L)
      refine XL.cons (XOp.notD (p := ((normB ar rs ((t)) st n).1) = ((normB ar rs ((t)) st n).1)) rfl ?_)
      refine XL.cons (XOp.move (.bool (decide (¬(((normB ar rs ((t)) st n).1) = ((normB ar rs ((t)) st n).1))))) rfl ?_)
      by_cases h3 : ¬(((normB ar rs ((t)) st n).1) = ((normB ar rs ((t)) st n).1))
      · exact absurd (by first | rfl | exact ⟨rfl, rfl⟩) h3
      · refine XL.yes (t := 55) rfl (congrArg Value.bool (decide_eq_false h3)) (XOp.move (.bool ((normB ar rs ((t)) st n).2)) rfl ?_)
        refine XL.yes (t := 55) rfl (congrArg Value.bool (decide_eq_false h3)) (XOp.move (.bool ((normB ar rs ((t)) st n).2)) rfl ?_)
        refine XL.yes (t := 55) rfl (congrArg Value.bool (decide_eq_false h3)) (XOp.neB (a := (normB ar rs ((t)) st n).2) (b := (normB ar rs ((t)) st n).2) Try.runUnderlying4 rfl rfl ?_)
        refine XL.cons (XOp.pickF (.bool (decide (((normB ar rs ((t)) st n).2) ≠ ((normB ar rs ((t)) st n).2)))) (congrArg Value.bool (decide_eq_false h3)) rfl ?_)
        refine XL.nil ?_
        refine X.condD (p := ((normB ar rs ((t)) st n).2) ≠ ((normB ar rs ((t)) st n).2)) rfl (fun h4 => ?_) (fun h4 => ?_)
        · exact absurd rfl h4
        · refine X.skip ?_
          refine X.seq ?_
          refine X.seq ?_
          refine X.drawG [intsH 2 x6 ((normB ar rs ((t)) st n).1), intsH 2 x4 ar, pairsD 2 156 x5 rs, intsH 2 v2 ((t)), cellsH b2 [x4, x5] 29, cellsH b1 [arv, rsv] 41] L 3 [[], [], []] [[], [], [1]] [[], [], []] (phiG [fun FF us v => v = (.agg #[x4, x5] : Value), fun FF us v => v = (.agg #[arv, rsv] : Value), fun FF us v => (.agg #[((aggAt v 0)), ((aggAt v 1))] : Value) = v ∧ (IntsF FF ((aggAt v 0)) ar) ∧ (PairsF FF ((aggAt v 1)) rs)]) (ownL [fun us v => [], fun us v => [], fun us v => []]) mixed rfl rfl (by kernel_rfl) (by kernel_rfl) (MonoG.get (MonoG.cons (fun le h => h) (MonoG.cons (fun le h => h) (MonoG.cons (fun le h => ⟨h.1, h.2.1.mono le, h.2.2.mono le⟩) MonoG.nil)))) ?_ ?_
          · refine stepsG.cons (fun vals Fs R leFs hpZ => ?_) ?_
            · replace har := har.mono leFs
              replace hrs := hrs.mono leFs
              replace ht := ht.mono leFs
              replace hf1 := hf1.mono leFs
              replace hf2 := hf2.mono leFs
              replace hf3 := hf3.mono leFs
              replace hr4 := hr4.mono leFs
              refine XG.op (XOp.loadN [x4, x5] Try.isAgg29 Try.sizeOf29 rfl rfl (Rd.ownN [_, _, _, _] rfl rfl) ?_)
              exact ⟨rfl, rfl⟩
            refine stepsG.cons (fun vals Fs R leFs hpZ => ?_) ?_
            · replace har := har.mono leFs
              replace hrs := hrs.mono leFs
              replace ht := ht.mono leFs
              replace hf1 := hf1.mono leFs
              replace hf2 := hf2.mono leFs
              replace hf3 := hf3.mono leFs
              replace hr4 := hr4.mono leFs
              refine XG.op (XOp.loadN [arv, rsv] Try.isAgg41 Try.sizeOf41 rfl rfl (Rd.ownN [_, _, _, _, _] rfl rfl) ?_)
              exact ⟨rfl, rfl⟩
            refine stepsG.cons (fun vals Fs R leFs hpZ => ?_) ?_
            · have e1 : vals 1 = (.agg #[arv, rsv] : Value) := hpZ 1 (by decide)
              replace har := har.mono leFs
              replace hrs := hrs.mono leFs
              replace ht := ht.mono leFs
              replace hf1 := hf1.mono leFs
              replace hf2 := hf2.mono leFs
              replace hf3 := hf3.mono leFs
              replace hr4 := hr4.mono leFs
              rw [(envs_of_sat (l := [(1, (.agg #[arv, rsv] : Value))]) ⟨e1, trivial⟩).symm]
              refine XG.op (XOp.call (args := [.agg #[arv, rsv]]) Try.call27 rfl (toSystem_spec har hrs (hla := (by first | assumption | rfl | omega | (left; simp; done) | (right; simp; done))) (hrl := (by first | assumption | rfl | omega | (left; simp; done) | (right; simp; done))) (hrb := (by first | assumption | rfl | omega | (left; simp; done) | (right; simp; done)))) ?_)
              rintro _ F13 _ le13 ⟨x9, x10, rfl, hr13, hr14, hr15, rfl⟩
              replace har := har.mono le13
              replace hrs := hrs.mono le13
              replace ht := ht.mono le13
              replace hf1 := hf1.mono le13
              replace hf2 := hf2.mono le13
              replace hf3 := hf3.mono le13
              replace hr4 := hr4.mono le13
              exact ⟨⟨rfl, hr13, hr14⟩, rfl⟩
            exact stepsG.nil
          · intro vals F14 le14 hphi
            have e0 : vals 0 = (.agg #[x4, x5] : Value) := hphi 0 (by decide)
            have e1 : vals 1 = (.agg #[arv, rsv] : Value) := hphi 1 (by decide)
            obtain ⟨e2, f2_1hr1, f2_1hr2⟩ := hphi 2 (by decide)
            generalize hu1 : ((aggAt (vals 2) 0)) = u1 at e0 e1 e2 f2_1hr1 f2_1hr2
            generalize hu2 : ((aggAt (vals 2) 1)) = u2 at e0 e1 e2 f2_1hr1 f2_1hr2
            rw [(envs_of_sat (l := [(0, (.agg #[x4, x5] : Value)), (1, (.agg #[arv, rsv] : Value)), (2, (.agg #[u1, u2] : Value))]) ⟨e0, e1, (e2).symm, trivial⟩).symm]
            replace har := har.mono le14
            replace hrs := hrs.mono le14
            replace ht := ht.mono le14
            replace hf1 := hf1.mono le14
            replace hf2 := hf2.mono le14
            replace hf3 := hf3.mono le14
            replace hr4 := hr4.mono le14
            show XL _ _ _ _ _ _ _ (intsH 2 x6 ((normB ar rs ((t)) st n).1) :: intsH 2 x4 ar :: pairsD 2 156 x5 rs :: intsH 2 v2 ((t)) :: cellsH b2 [x4, x5] 29 :: cellsH b1 [arv, rsv] 41 :: L)
            refine XL.cons (XOp.lend [_] _ _ rfl (fun F15 le15 hz8 => ?_))
            refine id (XOp.lend [_] _ _ rfl (fun F16 le16 hz9 => ?_))
            have hf8 : IntsF _ x4 ar := (intsH.fz (xs := ar) hz8).mono le16
            have hf9 : PairsF _ x5 rs := pairsD.fz hz9
            refine id (XOp.call (args := [.agg #[x4, x5], .agg #[u1, u2]]) Try.call30 rfl (eqSystem_spec hf8 hf9 ((f2_1hr1.mono (FLe.trans le15 le16))) ((f2_1hr2.mono (FLe.trans le15 le16))) (hcl := (by first | assumption | rfl | omega | (left; simp; done) | (right; simp; done))) (hal := (by first | assumption | rfl | omega | (left; simp; done) | (right; simp; done))) (hbd := (by first | assumption | rfl | omega | (left; simp; done) | (right; simp; done)))) ?_)
            rintro _ _ _ _ ⟨rfl, rfl, rfl⟩
            show XL _ _ _ _ _ _ _ (intsH 2 x4 ar :: pairsD 2 156 x5 rs :: intsH 2 x6 ((normB ar rs ((t)) st n).1) :: intsH 2 v2 ((t)) :: cellsH b2 [x4, x5] 29 :: cellsH b1 [arv, rsv] 41 :: L)
            refine XL.cons (XOp.notD (p := ar = ar ∧ rs = rs) rfl ?_)
            refine XL.nil ?_
            refine X.condD (p := ¬(ar = ar ∧ rs = rs)) rfl (fun h5 => ?_) (fun h5 => ?_)
            · exact absurd (by first | rfl | exact ⟨rfl, rfl⟩) h5
            · refine X.skip ?_
              refine X.seq ?_
              refine X.seq ?_
              refine X.region ?_
              refine XL.cons (XOp.move (v2) rfl ?_)
              refine XL.cons (XOp.move (tv) rfl ?_)
              refine XL.cons (XOp.call (args := [tv]) Try.call28 rfl (toInt64S_spec ht (hlx := (by first | assumption | rfl | omega | (left; simp; done) | (right; simp; done)))) ?_)
              rintro v3 _ _ _ ⟨rfl, hs3, rfl⟩
              refine XL.cons (XOp.lend [_, _, _, _] _ _ rfl (fun F17 le17 hz10 => ?_))
              refine id (XOp.lend [] _ _ rfl (fun F18 le18 hz11 => ?_))
              have hf10 : IntsF _ v2 ((t)) := (intsH.fz (xs := (t)) hz10).mono le18
              have hf11 : IntsF _ v3 ((t)) := intsH.fz (xs := (t)) hz11
              refine id (XOp.call (args := [v2, v3]) Try.call31 rfl (eqInt64S_spec hf10 hf11 (hbd := (by first | assumption | rfl | omega | (left; simp; done) | (right; simp; done)))) ?_)
              rintro _ _ _ _ ⟨rfl, rfl, rfl⟩
              show XL _ _ _ _ _ _ _ (intsH 2 v2 ((t)) :: intsH 2 v3 ((t)) :: intsH 2 x4 ar :: pairsD 2 156 x5 rs :: intsH 2 x6 ((normB ar rs ((t)) st n).1) :: cellsH b2 [x4, x5] 29 :: cellsH b1 [arv, rsv] 41 :: L)
              refine XL.cons (XOp.notD (p := ((t)) = ((t))) rfl ?_)
              refine XL.nil ?_
              refine X.condD (p := ¬(((t)) = ((t)))) rfl (fun h6 => ?_) (fun h6 => ?_)
              · exact absurd (by first | rfl | exact ⟨rfl, rfl⟩) h6
              · refine X.skip ?_
                refine X.seq ?_
                refine X.region ?_
                refine XL.cons (XOp.assign (.int .i64 (1)) rfl ?_)
                refine XL.nil ?_
                refine X.seq ?_
                refine X.region ?_
                refine XL.cons (XOp.loadN [x4, x5] Try.isAgg29 Try.sizeOf29 rfl rfl (Rd.ownN [_, _, _, _, _] rfl rfl) ?_)
                refine XL.cons (XOp.move (.int .i64 (1)) rfl ?_)
                refine XL.weaken (Sub.front (A := [_, _, _])) ?_
                show XL _ _ _ _ _ _ _ (pairsD 2 156 x5 rs :: intsH 2 v2 ((t)) :: intsH 2 v3 ((t)) :: intsH 2 x4 ar :: intsH 2 x6 ((normB ar rs ((t)) st n).1) :: cellsH b2 [x4, x5] 29 :: cellsH b1 [arv, rsv] 41 :: L)
                refine XL.weaken (Sub.front (A := [_, _, _])) ?_
                show XL _ _ _ _ _ _ _ (intsH 2 x4 ar :: pairsD 2 156 x5 rs :: intsH 2 v2 ((t)) :: intsH 2 v3 ((t)) :: intsH 2 x6 ((normB ar rs ((t)) st n).1) :: cellsH b2 [x4, x5] 29 :: cellsH b1 [arv, rsv] 41 :: L)
                refine XL.cons (XOp.call (args := [.agg #[x4, x5], .int .i64 (1)]) Try.call35 rfl (markSystem_spec (by (try simp only [List.length_append]); omega) (by omega)) ?_)
                rintro _ _ _ _ ⟨m1, m2, hm1, hk1, rfl, rfl, rfl⟩
                have hml1 := congrArg List.length hm1
                rw [iota_len] at hml1
                try simp only [List.length_append] at hml1
                refine XL.cons (XOp.assign (.int .i64 (1 + (((ar) ++ (rs.flatMap flatPair)).length : Int))) rfl ?_)
                refine XL.nil ?_
                refine X.seq ?_
                refine X.region ?_
                refine XL.cons (XOp.move (v2) rfl ?_)
                refine XL.cons (XOp.move (.int .i64 (1 + (((ar) ++ (rs.flatMap flatPair)).length : Int))) rfl ?_)
                refine XL.weaken (Sub.front (A := [_, _])) ?_
                show XL _ _ _ _ _ _ _ (intsH 2 v2 ((t)) :: intsH 2 x4 m1 :: pairsD 2 156 x5 m2 :: intsH 2 v3 ((t)) :: intsH 2 x6 ((normB ar rs ((t)) st n).1) :: cellsH b2 [x4, x5] 29 :: cellsH b1 [arv, rsv] 41 :: L)
                refine XL.cons (XOp.call (args := [v2, .int .i64 (1 + (((ar) ++ (rs.flatMap flatPair)).length : Int))]) Try.call36 rfl (markInt64S_spec (by (try simp only [List.length_append]); omega)) ?_)
                rintro _ _ _ _ ⟨m3, hm2, rfl, rfl, rfl⟩
                have hml2 := congrArg List.length hm2
                rw [iota_len] at hml2
                try simp only [List.length_append] at hml2
                refine XL.cons (XOp.assign (.int .i64 ((1 + (((ar) ++ (rs.flatMap flatPair)).length : Int)) + (((((t)))).length : Int))) rfl ?_)
                refine XL.nil ?_
                refine X.seq ?_
                refine X.seq ?_
                refine X.region ?_
                refine XL.cons (XOp.move (.int .i64 ((1 + (((ar) ++ (rs.flatMap flatPair)).length : Int)) + (((((t)))).length : Int))) rfl ?_)
                refine XL.cons (XOp.lss (a := (1 + (((ar) ++ (rs.flatMap flatPair)).length : Int)) + (((((t)))).length : Int)) (b := 0) rfl rfl ?_)
                refine XL.cons (XOp.move (.bool (decide (((1 + (((ar) ++ (rs.flatMap flatPair)).length : Int)) + (((((t)))).length : Int) : Int) < 0))) rfl ?_)
                by_cases h7 : ((1 + (((ar) ++ (rs.flatMap flatPair)).length : Int)) + (((((t)))).length : Int) : Int) < 0
                · exact absurd h7 (by omega)
                · refine XL.yes (t := 78) rfl (congrArg Value.bool (decide_eq_false h7)) (XOp.move (x6) rfl ?_)
                  refine XL.yes (t := 78) rfl (congrArg Value.bool (decide_eq_false h7)) (XOp.move (x3) rfl ?_)
                  refine XL.yes (t := 78) rfl (congrArg Value.bool (decide_eq_false h7)) (XOp.lend [_, _, _, _] _ _ rfl (fun F19 le19 hz12 => ?_))
                  have hf12 : IntsF _ x6 ((normB ar rs ((t)) st n).1) := intsH.fz (xs := (normB ar rs ((t)) st n).1) hz12
                  refine id (XOp.call (args := [x6, x3]) Try.call31 rfl (eqInt64S_spec hf12 ((hr4.mono le19)) (hbd := (by first | assumption | rfl | omega | (left; simp; done) | (right; simp; done)))) ?_)
                  rintro _ _ _ _ ⟨rfl, rfl, rfl⟩
                  show XL _ _ _ _ _ _ _ (intsH 2 x6 ((normB ar rs ((t)) st n).1) :: intsH 2 v2 m3 :: intsH 2 x4 m1 :: pairsD 2 156 x5 m2 :: intsH 2 v3 ((t)) :: cellsH b2 [x4, x5] 29 :: cellsH b1 [arv, rsv] 41 :: L)
                  refine XL.yes (t := 78) rfl (congrArg Value.bool (decide_eq_false h7)) (XOp.notD (p := ((normB ar rs ((t)) st n).1) = ((normB ar rs ((t)) st n).1)) rfl ?_)
                  refine XL.cons (XOp.pickF (.bool (decide (¬(((normB ar rs ((t)) st n).1) = ((normB ar rs ((t)) st n).1))))) (congrArg Value.bool (decide_eq_false h7)) rfl ?_)
                  refine XL.cons (XOp.move (.bool (decide (¬(((normB ar rs ((t)) st n).1) = ((normB ar rs ((t)) st n).1))))) rfl ?_)
                  refine XL.yes (t := 84) rfl (congrArg Value.bool (decide_eq_false h3)) (XOp.move (.bool ((normB ar rs ((t)) st n).2)) rfl ?_)
                  refine XL.yes (t := 84) rfl (congrArg Value.bool (decide_eq_false h3)) (XOp.move (.bool ((normB ar rs ((t)) st n).2)) rfl ?_)
                  refine XL.yes (t := 84) rfl (congrArg Value.bool (decide_eq_false h3)) (XOp.neB (a := (normB ar rs ((t)) st n).2) (b := (normB ar rs ((t)) st n).2) Try.runUnderlying4 rfl rfl ?_)
                  refine XL.cons (XOp.pickF (.bool (decide (((normB ar rs ((t)) st n).2) ≠ ((normB ar rs ((t)) st n).2)))) (congrArg Value.bool (decide_eq_false h3)) rfl ?_)
                  refine XL.nil ?_
                  refine X.condF (congrArg Value.bool (decide_eq_false h4)) ?_
                  refine X.skip ?_
                  refine X.seq ?_
                  refine X.region ?_
                  refine XL.cons (XOp.assign (.int .i64 (1)) rfl ?_)
                  refine XL.nil ?_
                  refine X.seq ?_
                  refine X.region ?_
                  refine XL.cons (XOp.move (x6) rfl ?_)
                  refine XL.cons (XOp.move (.int .i64 (1)) rfl ?_)
                  refine XL.cons (XOp.call (args := [x6, .int .i64 (1)]) Try.call36 rfl (markInt64S_spec (by (try simp only [List.length_append]); omega)) ?_)
                  rintro _ _ _ _ ⟨m4, hm3, rfl, rfl, rfl⟩
                  have hml3 := congrArg List.length hm3
                  rw [iota_len] at hml3
                  try simp only [List.length_append] at hml3
                  refine XL.cons (XOp.assign (.int .i64 (1 + (((((normB ar rs ((t)) st n).1))).length : Int))) rfl ?_)
                  refine XL.nil ?_
                  refine X.seq ?_
                  refine X.region ?_
                  refine XL.cons (XOp.assign (.int .i64 (1)) rfl ?_)
                  refine XL.nil ?_
                  refine X.seq ?_
                  refine X.region ?_
                  refine XL.cons (XOp.move (x6) rfl ?_)
                  refine XL.cons (XOp.move (.int .i64 (1)) rfl ?_)
                  refine XL.cons (XOp.lend [] _ _ rfl (fun F20 le20 hz13 => ?_))
                  have hf13 : IntsF _ x6 m4 := intsH.fz (xs := m4) hz13
                  refine id (XOp.call (args := [x6, .int .i64 (1)]) Try.call45 rfl (heldInt64S_spec (z := 1) hf13 (hzb := (by first | assumption | rfl | omega | (left; simp; done) | (right; simp; done)))) ?_)
                  rintro _ _ _ _ ⟨rfl, rfl, rfl⟩
                  show XL _ _ _ _ _ _ _ (intsH 2 x6 m4 :: intsH 2 v2 m3 :: intsH 2 x4 m1 :: pairsD 2 156 x5 m2 :: intsH 2 v3 ((t)) :: cellsH b2 [x4, x5] 29 :: cellsH b1 [arv, rsv] 41 :: L)
                  refine XL.cons (XOp.assign (.int .i64 (heldF m4 1)) rfl ?_)
                  refine XL.nil ?_
                  refine X.seq ?_
                  refine X.seq ?_
                  refine X.region ?_
                  refine XL.cons (XOp.move (.int .i64 (heldF m4 1)) rfl ?_)
                  refine XL.cons (XOp.lss (a := heldF m4 1) (b := 0) rfl rfl ?_)
                  refine XL.nil ?_
                  refine X.condD (p := (heldF m4 1 : Int) < 0) rfl (fun h8 => ?_) (fun h8 => ?_)
                  · rw [hm3, heldF_iota] at h8
                    exact absurd h8 (by omega)
                  · refine X.skip ?_
                    refine X.seq ?_
                    refine X.seq ?_
                    refine X.region ?_
                    refine XL.cons (XOp.move (.int .i64 (heldF m4 1)) rfl ?_)
                    refine XL.cons (XOp.move (.int .i64 (1 + (((((normB ar rs ((t)) st n).1))).length : Int))) rfl ?_)
                    refine XL.cons (XOp.neq (a := heldF m4 1) (b := 1 + (((((normB ar rs ((t)) st n).1))).length : Int)) rfl rfl ?_)
                    refine XL.nil ?_
                    refine X.condD (p := (heldF m4 1 : Int) ≠ 1 + (((((normB ar rs ((t)) st n).1))).length : Int)) rfl (fun h9 => ?_) (fun h9 => ?_)
                    · exact absurd (by rw [hm3, heldF_iota]) h9
                    · refine X.skip ?_
                      refine X.seq ?_
                      refine X.region ?_
                      refine XL.cons (XOp.loadN [arv, rsv] Try.isAgg41 Try.sizeOf41 rfl rfl (Rd.ownN [_, _, _, _, _, _] rfl rfl) ?_)
                      refine XL.cons (XOp.thawL ?_)
                      refine id (XOp.call (args := [.agg #[arv, rsv]]) Try.call27 rfl (toSystem_spec har hrs (hla := (by first | assumption | rfl | omega | (left; simp; done) | (right; simp; done))) (hrl := (by first | assumption | rfl | omega | (left; simp; done) | (right; simp; done))) (hrb := (by first | assumption | rfl | omega | (left; simp; done) | (right; simp; done)))) ?_)
                      rintro _ F21 _ le21 ⟨x11, x12, rfl, hr16, hr17, hr18, rfl⟩
                      refine ⟨[intsH 2 x11 ar, pairsD 2 156 x12 rs], hr18, ?_⟩
                      show XL _ _ _ _ _ _ _ (intsH 2 x11 ar :: pairsD 2 156 x12 rs :: intsH 2 x6 m4 :: intsH 2 v2 m3 :: intsH 2 x4 m1 :: pairsD 2 156 x5 m2 :: intsH 2 v3 ((t)) :: cellsH b2 [x4, x5] 29 :: cellsH b1 [arv, rsv] 41 :: L)
                      refine XL.cons (XOp.move (tv) rfl ?_)
                      refine XL.cons (XOp.call (args := [tv]) Try.call28 rfl (toInt64S_spec ht (hlx := (by first | assumption | rfl | omega | (left; simp; done) | (right; simp; done)))) ?_)
                      rintro v4 _ _ _ ⟨rfl, hs4, rfl⟩
                      refine XL.cons (XOp.move (.int .i64 (st)) rfl ?_)
                      refine XL.cons (XOp.move (.int .i64 (n)) rfl ?_)
                      refine XL.cons (XOp.lend [_] _ _ rfl (fun F22 le22 hz14 => ?_))
                      refine id (XOp.lend [_] _ _ rfl (fun F23 le23 hz15 => ?_))
                      refine id (XOp.lend [] _ _ rfl (fun F24 le24 hz16 => ?_))
                      have hf14 : IntsF _ x11 ar := (intsH.fz (xs := ar) hz14).mono (FLe.trans le23 le24)
                      have hf15 : PairsF _ x12 rs := (pairsD.fz hz15).mono le24
                      have hf16 : IntsF _ v4 ((t)) := intsH.fz (xs := (t)) hz16
                      refine id (XOp.thawL ?_)
                      refine id (XOp.call (args := [.agg #[x11, x12], v4, .int .i64 (st), .int .i64 (n)]) Try.call55 rfl (NormalBy_spec (st := st) (n := n) hf14 hf15 hf16) ?_)
                      rintro _ F25 _ le25 ⟨x13, rfl, hr19, hr20, rfl⟩
                      refine ⟨[intsH 2 x13 ((normB ar rs ((t)) st n).1)], hr20, ?_⟩
                      show XL _ _ _ _ _ _ _ (intsH 2 x11 ar :: pairsD 2 156 x12 rs :: intsH 2 v4 ((t)) :: intsH 2 x13 ((normB ar rs ((t)) st n).1) :: intsH 2 x6 m4 :: intsH 2 v2 m3 :: intsH 2 x4 m1 :: pairsD 2 156 x5 m2 :: intsH 2 v3 ((t)) :: cellsH b2 [x4, x5] 29 :: cellsH b1 [arv, rsv] 41 :: L)
                      refine XL.cons (XOp.move (.tuple #[x13, .bool ((normB ar rs ((t)) st n).2)]) rfl ?_)
                      refine XL.cons (XOp.extract (x13) rfl rfl ?_)
                      refine XL.cons (XOp.extract (.bool ((normB ar rs ((t)) st n).2)) rfl rfl ?_)
                      refine XL.cons (XOp.assign (x13) rfl ?_)
                      refine XL.cons (XOp.assign (.bool ((normB ar rs ((t)) st n).2)) rfl ?_)
                      refine XL.nil ?_
                      refine X.seq ?_
                      refine X.seq ?_
                      refine X.region ?_
                      refine XL.cons (XOp.move (x13) rfl ?_)
                      refine XL.cons (XOp.move (x3) rfl ?_)
                      refine XL.cons (XOp.lend [_, _, _] _ _ rfl (fun F26 le26 hz17 => ?_))
                      have hf17 : IntsF _ x13 ((normB ar rs ((t)) st n).1) := intsH.fz (xs := (normB ar rs ((t)) st n).1) hz17
                      refine id (XOp.call (args := [x13, x3]) Try.call31 rfl (eqInt64S_spec hf17 ((hr4.mono le26)) (hbd := (by first | assumption | rfl | omega | (left; simp; done) | (right; simp; done)))) ?_)
                      rintro _ _ _ _ ⟨rfl, rfl, rfl⟩
                      show XL _ _ _ _ _ _ _ (intsH 2 x13 ((normB ar rs ((t)) st n).1) :: intsH 2 x11 ar :: pairsD 2 156 x12 rs :: intsH 2 v4 ((t)) :: intsH 2 x6 m4 :: intsH 2 v2 m3 :: intsH 2 x4 m1 :: pairsD 2 156 x5 m2 :: intsH 2 v3 ((t)) :: cellsH b2 [x4, x5] 29 :: cellsH b1 [arv, rsv] 41 :: L)
                      refine XL.cons (XOp.notD (p := ((normB ar rs ((t)) st n).1) = ((normB ar rs ((t)) st n).1)) rfl ?_)
                      refine XL.cons (XOp.move (.bool (decide (¬(((normB ar rs ((t)) st n).1) = ((normB ar rs ((t)) st n).1))))) rfl ?_)
                      refine XL.yes (t := 114) rfl (congrArg Value.bool (decide_eq_false h3)) (XOp.move (.bool ((normB ar rs ((t)) st n).2)) rfl ?_)
                      refine XL.yes (t := 114) rfl (congrArg Value.bool (decide_eq_false h3)) (XOp.move (.bool ((normB ar rs ((t)) st n).2)) rfl ?_)
                      refine XL.yes (t := 114) rfl (congrArg Value.bool (decide_eq_false h3)) (XOp.neB (a := (normB ar rs ((t)) st n).2) (b := (normB ar rs ((t)) st n).2) Try.runUnderlying4 rfl rfl ?_)
                      refine XL.cons (XOp.pickF (.bool (decide (((normB ar rs ((t)) st n).2) ≠ ((normB ar rs ((t)) st n).2)))) (congrArg Value.bool (decide_eq_false h3)) rfl ?_)
                      refine XL.nil ?_
                      refine X.condF (congrArg Value.bool (decide_eq_false h4)) ?_
                      refine X.skip ?_
                      refine X.seq ?_
                      refine X.region ?_
                      refine XL.cons (XOp.assign (.int .i64 (1)) rfl ?_)
                      refine XL.nil ?_
                      refine X.seq ?_
                      refine X.region ?_
                      refine XL.cons (XOp.move (x6) rfl ?_)
                      refine XL.cons (XOp.move (.int .i64 (1)) rfl ?_)
                      refine XL.cons (XOp.lend [_, _, _, _] _ _ rfl (fun F27 le27 hz18 => ?_))
                      have hf18 : IntsF _ x6 m4 := intsH.fz (xs := m4) hz18
                      refine id (XOp.call (args := [x6, .int .i64 (1)]) Try.call45 rfl (heldInt64S_spec (z := 1) hf18 (hzb := (by first | assumption | rfl | omega | (left; simp; done) | (right; simp; done)))) ?_)
                      rintro _ _ _ _ ⟨rfl, rfl, rfl⟩
                      show XL _ _ _ _ _ _ _ (intsH 2 x6 m4 :: intsH 2 x13 ((normB ar rs ((t)) st n).1) :: intsH 2 x11 ar :: pairsD 2 156 x12 rs :: intsH 2 v4 ((t)) :: intsH 2 v2 m3 :: intsH 2 x4 m1 :: pairsD 2 156 x5 m2 :: intsH 2 v3 ((t)) :: cellsH b2 [x4, x5] 29 :: cellsH b1 [arv, rsv] 41 :: L)
                      refine XL.cons (XOp.assign (.int .i64 (heldF m4 1)) rfl ?_)
                      refine XL.nil ?_
                      refine X.seq ?_
                      refine X.seq ?_
                      refine X.region ?_
                      refine XL.cons (XOp.move (.int .i64 (heldF m4 1)) rfl ?_)
                      refine XL.cons (XOp.lss (a := heldF m4 1) (b := 0) rfl rfl ?_)
                      refine XL.nil ?_
                      refine X.condF (congrArg Value.bool (decide_eq_false h8)) ?_
                      refine X.skip ?_
                      refine X.seq ?_
                      refine X.seq ?_
                      refine X.region ?_
                      refine XL.cons (XOp.move (.int .i64 (heldF m4 1)) rfl ?_)
                      refine XL.cons (XOp.move (.int .i64 (1 + (((((normB ar rs ((t)) st n).1))).length : Int))) rfl ?_)
                      refine XL.cons (XOp.neq (a := heldF m4 1) (b := 1 + (((((normB ar rs ((t)) st n).1))).length : Int)) rfl rfl ?_)
                      refine XL.nil ?_
                      refine X.condF (congrArg Value.bool (decide_eq_false h9)) ?_
                      refine X.skip ?_
                      refine X.seq ?_
                      refine X.region ?_
                      refine XL.cons (XOp.assign (.bool (true)) rfl ?_)
                      refine XL.nil ?_
                      refine X.ret (retEnd (L' := L) [.bool (true)] (.bool (true)) (.tmp rfl .nil) rfl (FLe.refl _) (FLe.trans (FLe.trans (FLe.trans (FLe.trans le2 le3) le4) le5) le14) (Sub.drop (Sub.drop (Sub.drop (Sub.drop (Sub.drop (Sub.drop (Sub.drop (Sub.drop (Sub.drop (Sub.drop (Sub.drop (Sub.refl _)))))))))))) ?_)
                      exact ⟨rfl, rfl, rfl⟩

/- laws.FnExactEndTerm -/
set_option maxRecDepth 20000 in
theorem FnExactEndTerm_does {F : FH} {L : List HP} {arv : Value} {ar : List Int} (har : IntsF F arv ar) {rsv : Value} {rs : List (List Int × List Int)} (hrs : PairsF F rsv rs) {fv : Value} {f : List Int} (hf : IntsF F fv f) {ssv : Value} {ss : List StepT} (hss : StepsF F ssv ss) (hlar : ar.length ≤ 9223372036854775807) (hlrs : rs.length ≤ 9223372036854775807) (hbrs : ∀ i, i < rs.length → (rs.getD i ([], [])).1.length ≤ 9223372036854775807 ∧ (rs.getD i ([], [])).2.length ≤ 9223372036854775807) (hlf : f.length ≤ 9223372036854775807) (hlss : ss.length ≤ 9223372036854775807) (hbss : ∀ i, i < ss.length → (ss.getD i (0, 0, [])).2.2.length ≤ 9223372036854775807) :
    Does Try.prog 6 [.agg #[arv, rsv], .agg #[fv, ssv]] F (L) (fun v F' L' => (.bool (true) : Value) = v ∧ F = F' ∧ L = L') := by
  refine Does.of_X Try.func6 rfl rfl rfl ?_
  have hnb := endT_len (ar := ar) (rs := rs) (f := f) (ss := ss)
  refine X.seq ?_
  refine X.region ?_
  refine XL.cons (XOp.box [arv, rsv] rfl rfl ?_)
  intro b1
  refine XL.cons (XOp.box [fv, ssv] rfl rfl ?_)
  intro b2
  refine XL.cons (XOp.assign (.bool (false)) rfl ?_)
  refine XL.nil ?_
  refine X.seq ?_
  refine X.region ?_
  refine XL.cons (XOp.assign (.int .i64 (1048576)) rfl ?_)
  refine XL.nil ?_
  refine X.seq ?_
  refine X.region ?_
  refine XL.cons (XOp.loadN [arv, rsv] Try.isAgg41 Try.sizeOf41 rfl rfl (Rd.ownN [_] rfl rfl) ?_)
  refine XL.cons (XOp.move (.int .i64 (1048576)) rfl ?_)
  refine XL.cons (XOp.call (args := [.agg #[arv, rsv], .int .i64 (1048576)]) Try.call25 rfl (szSystem_spec (z := 1048576) har hrs (hz := (by first | assumption | rfl | omega | (left; simp; done) | (right; simp; done))) (hal := (by first | assumption | rfl | omega | (left; simp; done) | (right; simp; done))) (hrl := (by first | assumption | rfl | omega | (left; simp; done) | (right; simp; done))) (hrb := (by first | assumption | rfl | omega | (left; simp; done) | (right; simp; done)))) ?_)
  rintro _ _ _ _ ⟨rfl, rfl, rfl⟩
  refine XL.cons (XOp.assign (.int .i64 (dec 1048576 (ar.length + szR rs))) rfl ?_)
  refine XL.nil ?_
  refine X.seq ?_
  refine X.seq ?_
  refine X.region ?_
  refine XL.cons (XOp.move (.int .i64 (dec 1048576 (ar.length + szR rs))) rfl ?_)
  refine XL.cons (XOp.lss (a := dec 1048576 (ar.length + szR rs)) (b := 0) rfl rfl ?_)
  refine XL.nil ?_
  refine X.condD (p := (dec 1048576 (ar.length + szR rs) : Int) < 0) rfl (fun h1 => ?_) (fun h1 => ?_)
  · refine X.seq ?_
    refine X.region ?_
    refine XL.cons (XOp.assign (.bool (true)) rfl ?_)
    refine XL.nil ?_
    refine X.ret (thenQ_ret (retEnd (L' := L) [.bool (true)] (.bool (true)) (.tmp rfl .nil) rfl (FLe.refl _) (FLe.refl _) (Sub.drop (Sub.drop (Sub.refl _))) ?_))
    exact ⟨rfl, rfl, rfl⟩
  · have hd1 := dec_le2 h1 (by omega)
    have hzrs := szR_le (rs := rs)
    have hirs := hzrs.2
    have hcrs : ∀ i, i < rs.length → (rs.getD i ([], [])).1.length ≤ 4000000 ∧ (rs.getD i ([], [])).2.length ≤ 4000000 := fun i hi => by have := hirs i hi; omega
    have hfrs := flatPair_len rs
    refine X.skip ?_
    refine X.seq ?_
    refine X.region ?_
    refine XL.cons (XOp.loadN [fv, ssv] Try.isAgg58 Try.sizeOf58 rfl rfl (Rd.ownN [] rfl rfl) ?_)
    refine XL.cons (XOp.move (.int .i64 (dec 1048576 (ar.length + szR rs))) rfl ?_)
    refine XL.cons (XOp.call (args := [.agg #[fv, ssv], .int .i64 (dec 1048576 (ar.length + szR rs))]) Try.call39 rfl (szWalk_spec (z := dec 1048576 (ar.length + szR rs)) hf hss (hz := (by first | assumption | rfl | omega | (left; simp; done) | (right; simp; done))) (hal := (by first | assumption | rfl | omega | (left; simp; done) | (right; simp; done))) (hrl := (by first | assumption | rfl | omega | (left; simp; done) | (right; simp; done))) (hrb := (by first | assumption | rfl | omega | (left; simp; done) | (right; simp; done)))) ?_)
    rintro _ _ _ _ ⟨rfl, rfl, rfl⟩
    refine XL.cons (XOp.assign (.int .i64 (dec (dec 1048576 (ar.length + szR rs)) (f.length + szG lenS ss))) rfl ?_)
    refine XL.nil ?_
    refine X.seq ?_
    refine X.seq ?_
    refine X.region ?_
    refine XL.cons (XOp.move (.int .i64 (dec (dec 1048576 (ar.length + szR rs)) (f.length + szG lenS ss))) rfl ?_)
    refine XL.cons (XOp.lss (a := dec (dec 1048576 (ar.length + szR rs)) (f.length + szG lenS ss)) (b := 0) rfl rfl ?_)
    refine XL.nil ?_
    refine X.condD (p := (dec (dec 1048576 (ar.length + szR rs)) (f.length + szG lenS ss) : Int) < 0) rfl (fun h2 => ?_) (fun h2 => ?_)
    · refine X.seq ?_
      refine X.region ?_
      refine XL.cons (XOp.assign (.bool (true)) rfl ?_)
      refine XL.nil ?_
      refine X.ret (thenQ_ret (retEnd (L' := L) [.bool (true)] (.bool (true)) (.tmp rfl .nil) rfl (FLe.refl _) (FLe.refl _) (Sub.drop (Sub.drop (Sub.refl _))) ?_))
      exact ⟨rfl, rfl, rfl⟩
    · have hd2 := dec_le2 h2 (by omega)
      have hzss := szG_le (f := lenS) (l := ss) ((0 : Int), (0 : Int), ([] : List Int))
      have hiss := hzss.2
      have hcss : ∀ i, i < ss.length → (ss.getD i (0, 0, [])).2.2.length ≤ 4000000 := fun i hi => by have h9 := hiss i hi; have h8 : lenS (ss.getD i (0, 0, [])) = (ss.getD i (0, 0, [])).2.2.length := rfl; omega
      have hfss := flatStep_len ss
      have hsss : szG lenS ss = ss.length + gTo lenS ss ss.length := rfl
      refine X.skip ?_
      refine X.seq ?_
      refine X.drawG [cellsH b2 [fv, ssv] 58, cellsH b1 [arv, rsv] 41] L 3 [[], [], []] [[], [0], []] [[], [], []] (phiG [fun FF us v => v = (.agg #[arv, rsv] : Value), fun FF us v => (.agg #[((aggAt v 0)), ((aggAt v 1))] : Value) = v ∧ (IntsF FF ((aggAt v 0)) ar) ∧ (PairsF FF ((aggAt v 1)) rs), fun FF us v => v = (.agg #[fv, ssv] : Value)]) (ownL [fun us v => [], fun us v => [], fun us v => []]) mixed rfl rfl (by kernel_rfl) (by kernel_rfl) (MonoG.get (MonoG.cons (fun le h => h) (MonoG.cons (fun le h => ⟨h.1, h.2.1.mono le, h.2.2.mono le⟩) (MonoG.cons (fun le h => h) MonoG.nil)))) ?_ ?_
      · refine stepsG.cons (fun vals Fs R leFs hpZ => ?_) ?_
        · replace har := har.mono leFs
          replace hrs := hrs.mono leFs
          replace hf := hf.mono leFs
          replace hss := hss.mono leFs
          refine XG.op (XOp.loadN [arv, rsv] Try.isAgg41 Try.sizeOf41 rfl rfl (Rd.ownN [_] rfl rfl) ?_)
          exact ⟨rfl, rfl⟩
        refine stepsG.cons (fun vals Fs R leFs hpZ => ?_) ?_
        · have e0 : vals 0 = (.agg #[arv, rsv] : Value) := hpZ 0 (by decide)
          replace har := har.mono leFs
          replace hrs := hrs.mono leFs
          replace hf := hf.mono leFs
          replace hss := hss.mono leFs
          rw [(envs_of_sat (l := [(0, (.agg #[arv, rsv] : Value))]) ⟨e0, trivial⟩).symm]
          refine XG.op (XOp.call (args := [.agg #[arv, rsv]]) Try.call27 rfl (toSystem_spec har hrs (hla := (by first | assumption | rfl | omega | (left; simp; done) | (right; simp; done))) (hrl := (by first | assumption | rfl | omega | (left; simp; done) | (right; simp; done))) (hrb := (by first | assumption | rfl | omega | (left; simp; done) | (right; simp; done)))) ?_)
          rintro _ F2 _ le2 ⟨x3, x4, rfl, hr4, hr5, hr6, rfl⟩
          replace har := har.mono le2
          replace hrs := hrs.mono le2
          replace hf := hf.mono le2
          replace hss := hss.mono le2
          exact ⟨⟨rfl, hr4, hr5⟩, rfl⟩
        refine stepsG.cons (fun vals Fs R leFs hpZ => ?_) ?_
        · replace har := har.mono leFs
          replace hrs := hrs.mono leFs
          replace hf := hf.mono leFs
          replace hss := hss.mono leFs
          refine XG.op (XOp.loadN [fv, ssv] Try.isAgg58 Try.sizeOf58 rfl rfl (Rd.ownN [] rfl rfl) ?_)
          exact ⟨rfl, rfl⟩
        exact stepsG.nil
      · intro vals F3 le3 hphi
        have e0 : vals 0 = (.agg #[arv, rsv] : Value) := hphi 0 (by decide)
        obtain ⟨e1, f1_1hr1, f1_1hr2⟩ := hphi 1 (by decide)
        have e2 : vals 2 = (.agg #[fv, ssv] : Value) := hphi 2 (by decide)
        generalize hu1 : ((aggAt (vals 1) 0)) = u1 at e0 e1 f1_1hr1 f1_1hr2 e2
        generalize hu2 : ((aggAt (vals 1) 1)) = u2 at e0 e1 f1_1hr1 f1_1hr2 e2
        rw [(envs_of_sat (l := [(0, (.agg #[arv, rsv] : Value)), (1, (.agg #[u1, u2] : Value)), (2, (.agg #[fv, ssv] : Value))]) ⟨e0, (e1).symm, e2, trivial⟩).symm]
        replace har := har.mono le3
        replace hrs := hrs.mono le3
        replace hf := hf.mono le3
        replace hss := hss.mono le3
        show XL _ _ _ _ _ _ _ (cellsH b2 [fv, ssv] 58 :: cellsH b1 [arv, rsv] 41 :: L)
        refine XL.cons (XOp.thawL ?_)
        refine id (XOp.call (args := [.agg #[fv, ssv]]) Try.call41 rfl (toWalk_spec hf hss (hfl := (by first | assumption | rfl | omega | (left; simp; done) | (right; simp; done))) (hsl := (by first | assumption | rfl | omega | (left; simp; done) | (right; simp; done))) (hsb := (by first | assumption | rfl | omega | (left; simp; done) | (right; simp; done)))) ?_)
        rintro _ F4 _ le4 ⟨x5, x6, rfl, hr7, hr8, hr9, rfl⟩
        refine ⟨[intsH 2 x5 f, stepsD 2 74 x6 ss], hr9, ?_⟩
        show XL _ _ _ _ _ _ _ (intsH 2 x5 f :: stepsD 2 74 x6 ss :: cellsH b2 [fv, ssv] 58 :: cellsH b1 [arv, rsv] 41 :: L)
        refine XL.cons (XOp.lend [] _ _ rfl (fun F5 le5 hz1 => ?_))
        refine id (XOp.lend [] _ _ rfl (fun F6 le6 hz2 => ?_))
        have hf1 : IntsF _ x5 f := (intsH.fz (xs := f) hz1).mono le6
        have hf2 : StepsF _ x6 ss := stepsD.fz hz2
        refine id (XOp.call (args := [.agg #[u1, u2], .agg #[x5, x6]]) Try.call40 rfl (sEndTerm_spec ((f1_1hr1.mono (FLe.trans le5 le6))) ((f1_1hr2.mono (FLe.trans le5 le6))) hf1 hf2 (hla := (by first | assumption | rfl | omega | (left; simp; done) | (right; simp; done))) (hlr := (by first | assumption | rfl | omega | (left; simp; done) | (right; simp; done))) (hrb := (by first | assumption | rfl | omega | (left; simp; done) | (right; simp; done))) (hlf := (by first | assumption | rfl | omega | (left; simp; done) | (right; simp; done))) (hlss := (by first | assumption | rfl | omega | (left; simp; done) | (right; simp; done))) (hsb := (by first | assumption | rfl | omega | (left; simp; done) | (right; simp; done)))) ?_)
        rintro v1 _ _ _ ⟨rfl, hs1, rfl⟩
        show XL _ _ _ _ _ _ _ (intsH 2 x5 f :: stepsD 2 74 x6 ss :: intsH 2 v1 ((endT ar rs f ss)) :: cellsH b2 [fv, ssv] 58 :: cellsH b1 [arv, rsv] 41 :: L)
        refine XL.cons (XOp.assign (v1) rfl ?_)
        refine XL.nil ?_
        refine X.seq ?_
        refine X.region ?_
        refine XL.cons (XOp.loadN [arv, rsv] Try.isAgg41 Try.sizeOf41 rfl rfl (Rd.ownN [_, _, _, _] rfl rfl) ?_)
        refine XL.cons (XOp.thawL ?_)
        refine id (XOp.call (args := [.agg #[arv, rsv]]) Try.call27 rfl (toSystem_spec har hrs (hla := (by first | assumption | rfl | omega | (left; simp; done) | (right; simp; done))) (hrl := (by first | assumption | rfl | omega | (left; simp; done) | (right; simp; done))) (hrb := (by first | assumption | rfl | omega | (left; simp; done) | (right; simp; done)))) ?_)
        rintro _ F7 _ le7 ⟨x7, x8, rfl, hr10, hr11, hr12, rfl⟩
        refine ⟨[intsH 2 x7 ar, pairsD 2 156 x8 rs], hr12, ?_⟩
        show XL _ _ _ _ _ _ _ (intsH 2 x7 ar :: pairsD 2 156 x8 rs :: intsH 2 x5 f :: stepsD 2 74 x6 ss :: intsH 2 v1 ((endT ar rs f ss)) :: cellsH b2 [fv, ssv] 58 :: cellsH b1 [arv, rsv] 41 :: L)
        refine XL.cons (XOp.alloc [(.slice none 0 0), (.slice none 0 0)] Try.zeroValue29 rfl ?_)
        intro b3
        refine XL.cons (XOp.storeN (vs := [x7, x8]) [] _ [x7, x8] Try.sizeOf29 rfl rfl rfl (ones_cons (one_sl (IntsF.isSl hr10)) (ones_cons (one_sl (PairsF.isSl hr11)) ones_nil)) rfl rfl rfl ?_)
        refine XL.nil ?_
        refine X.seq ?_
        refine X.region ?_
        refine XL.cons (XOp.loadN [fv, ssv] Try.isAgg58 Try.sizeOf58 rfl rfl (Rd.ownN [_, _, _, _, _, _] rfl rfl) ?_)
        refine XL.cons (XOp.thawL ?_)
        refine id (XOp.call (args := [.agg #[fv, ssv]]) Try.call41 rfl (toWalk_spec hf hss (hfl := (by first | assumption | rfl | omega | (left; simp; done) | (right; simp; done))) (hsl := (by first | assumption | rfl | omega | (left; simp; done) | (right; simp; done))) (hsb := (by first | assumption | rfl | omega | (left; simp; done) | (right; simp; done)))) ?_)
        rintro _ F8 _ le8 ⟨x9, x10, rfl, hr13, hr14, hr15, rfl⟩
        refine ⟨[intsH 2 x9 f, stepsD 2 74 x10 ss], hr15, ?_⟩
        show XL _ _ _ _ _ _ _ (intsH 2 x9 f :: stepsD 2 74 x10 ss :: cellsH b3 [x7, x8] 29 :: intsH 2 x7 ar :: pairsD 2 156 x8 rs :: intsH 2 x5 f :: stepsD 2 74 x6 ss :: intsH 2 v1 ((endT ar rs f ss)) :: cellsH b2 [fv, ssv] 58 :: cellsH b1 [arv, rsv] 41 :: L)
        refine XL.cons (XOp.alloc [(.slice none 0 0), (.slice none 0 0)] Try.zeroValue63 rfl ?_)
        intro b4
        refine XL.cons (XOp.storeN (vs := [x9, x10]) [] _ [x9, x10] Try.sizeOf63 rfl rfl rfl (ones_cons (one_sl (IntsF.isSl hr13)) (ones_cons (one_sl (StepsF.isSl hr14)) ones_nil)) rfl rfl rfl ?_)
        refine XL.nil ?_
        refine X.seq ?_
        refine X.region ?_
        refine XL.cons (XOp.loadN [x7, x8] Try.isAgg29 Try.sizeOf29 rfl rfl (Rd.ownN [_, _, _] rfl rfl) ?_)
        refine XL.cons (XOp.loadN [x9, x10] Try.isAgg63 Try.sizeOf63 rfl rfl (Rd.ownN [] rfl rfl) ?_)
        refine XL.cons (XOp.lend [_, _, _, _] _ _ rfl (fun F9 le9 hz3 => ?_))
        refine id (XOp.lend [_, _, _, _] _ _ rfl (fun F10 le10 hz4 => ?_))
        refine id (XOp.lend [_] _ _ rfl (fun F11 le11 hz5 => ?_))
        refine id (XOp.lend [_] _ _ rfl (fun F12 le12 hz6 => ?_))
        have hf3 : IntsF _ x7 ar := (intsH.fz (xs := ar) hz3).mono (FLe.trans (FLe.trans le10 le11) le12)
        have hf4 : PairsF _ x8 rs := (pairsD.fz hz4).mono (FLe.trans le11 le12)
        have hf5 : IntsF _ x9 f := (intsH.fz (xs := f) hz5).mono le12
        have hf6 : StepsF _ x10 ss := stepsD.fz hz6
        refine id (XOp.call (args := [.agg #[x7, x8], .agg #[x9, x10]]) Try.call42 rfl (EndTerm_spec hf3 hf4 hf5 hf6 (hlf := (by first | assumption | rfl | omega | (left; simp; done) | (right; simp; done))) (hsb := (by first | assumption | rfl | omega | (left; simp; done) | (right; simp; done)))) ?_)
        rintro v2 _ _ _ ⟨rfl, hs2, rfl⟩
        show XL _ _ _ _ _ _ _ (intsH 2 x7 ar :: pairsD 2 156 x8 rs :: intsH 2 x9 f :: stepsD 2 74 x10 ss :: intsH 2 v2 ((endT ar rs f ss)) :: cellsH b4 [x9, x10] 63 :: cellsH b3 [x7, x8] 29 :: intsH 2 x5 f :: stepsD 2 74 x6 ss :: intsH 2 v1 ((endT ar rs f ss)) :: cellsH b2 [fv, ssv] 58 :: cellsH b1 [arv, rsv] 41 :: L)
        refine XL.cons (XOp.assign (v2) rfl ?_)
        refine XL.nil ?_
        refine X.seq ?_
        refine X.seq ?_
        refine X.region ?_
        refine XL.cons (XOp.move (v2) rfl ?_)
        refine XL.cons (XOp.move (v1) rfl ?_)
        refine XL.cons (XOp.lend [_, _, _, _] _ _ rfl (fun F13 le13 hz7 => ?_))
        refine id (XOp.lend [_, _, _, _, _, _, _, _] _ _ rfl (fun F14 le14 hz8 => ?_))
        have hf7 : IntsF _ v2 ((endT ar rs f ss)) := (intsH.fz (xs := (endT ar rs f ss)) hz7).mono le14
        have hf8 : IntsF _ v1 ((endT ar rs f ss)) := intsH.fz (xs := (endT ar rs f ss)) hz8
        refine id (XOp.call (args := [v2, v1]) Try.call31 rfl (eqInt64S_spec hf7 hf8 (hbd := (by first | assumption | rfl | omega | (left; simp; done) | (right; simp; done)))) ?_)
        rintro _ _ _ _ ⟨rfl, rfl, rfl⟩
        show XL _ _ _ _ _ _ _ (intsH 2 v2 ((endT ar rs f ss)) :: intsH 2 v1 ((endT ar rs f ss)) :: intsH 2 x7 ar :: pairsD 2 156 x8 rs :: intsH 2 x9 f :: stepsD 2 74 x10 ss :: cellsH b4 [x9, x10] 63 :: cellsH b3 [x7, x8] 29 :: intsH 2 x5 f :: stepsD 2 74 x6 ss :: cellsH b2 [fv, ssv] 58 :: cellsH b1 [arv, rsv] 41 :: L)
        refine XL.cons (XOp.notD (p := ((endT ar rs f ss)) = ((endT ar rs f ss))) rfl ?_)
        refine XL.nil ?_
        refine X.condD (p := ¬(((endT ar rs f ss)) = ((endT ar rs f ss)))) rfl (fun h3 => ?_) (fun h3 => ?_)
        · exact absurd (by first | rfl | exact ⟨rfl, rfl⟩) h3
        · refine X.skip ?_
          refine X.seq ?_
          refine X.seq ?_
          refine X.drawG [intsH 2 v2 ((endT ar rs f ss)), intsH 2 v1 ((endT ar rs f ss)), intsH 2 x7 ar, pairsD 2 156 x8 rs, intsH 2 x9 f, stepsD 2 74 x10 ss, cellsH b4 [x9, x10] 63, cellsH b3 [x7, x8] 29, intsH 2 x5 f, stepsD 2 74 x6 ss, cellsH b2 [fv, ssv] 58, cellsH b1 [arv, rsv] 41] L 3 [[], [], []] [[], [], [1]] [[], [], []] (phiG [fun FF us v => v = (.agg #[x7, x8] : Value), fun FF us v => v = (.agg #[arv, rsv] : Value), fun FF us v => (.agg #[((aggAt v 0)), ((aggAt v 1))] : Value) = v ∧ (IntsF FF ((aggAt v 0)) ar) ∧ (PairsF FF ((aggAt v 1)) rs)]) (ownL [fun us v => [], fun us v => [], fun us v => []]) mixed rfl rfl (by kernel_rfl) (by kernel_rfl) (MonoG.get (MonoG.cons (fun le h => h) (MonoG.cons (fun le h => h) (MonoG.cons (fun le h => ⟨h.1, h.2.1.mono le, h.2.2.mono le⟩) MonoG.nil)))) ?_ ?_
          · refine stepsG.cons (fun vals Fs R leFs hpZ => ?_) ?_
            · replace har := har.mono leFs
              replace hrs := hrs.mono leFs
              replace hf := hf.mono leFs
              replace hss := hss.mono leFs
              replace f1_1hr1 := f1_1hr1.mono leFs
              replace f1_1hr2 := f1_1hr2.mono leFs
              refine XG.op (XOp.loadN [x7, x8] Try.isAgg29 Try.sizeOf29 rfl rfl (Rd.ownN [_, _, _, _, _, _, _] rfl rfl) ?_)
              exact ⟨rfl, rfl⟩
            refine stepsG.cons (fun vals Fs R leFs hpZ => ?_) ?_
            · replace har := har.mono leFs
              replace hrs := hrs.mono leFs
              replace hf := hf.mono leFs
              replace hss := hss.mono leFs
              replace f1_1hr1 := f1_1hr1.mono leFs
              replace f1_1hr2 := f1_1hr2.mono leFs
              refine XG.op (XOp.loadN [arv, rsv] Try.isAgg41 Try.sizeOf41 rfl rfl (Rd.ownN [_, _, _, _, _, _, _, _, _, _, _] rfl rfl) ?_)
              exact ⟨rfl, rfl⟩
            refine stepsG.cons (fun vals Fs R leFs hpZ => ?_) ?_
            · have e1 : vals 1 = (.agg #[arv, rsv] : Value) := hpZ 1 (by decide)
              replace har := har.mono leFs
              replace hrs := hrs.mono leFs
              replace hf := hf.mono leFs
              replace hss := hss.mono leFs
              replace f1_1hr1 := f1_1hr1.mono leFs
              replace f1_1hr2 := f1_1hr2.mono leFs
              rw [(envs_of_sat (l := [(1, (.agg #[arv, rsv] : Value))]) ⟨e1, trivial⟩).symm]
              refine XG.op (XOp.call (args := [.agg #[arv, rsv]]) Try.call27 rfl (toSystem_spec har hrs (hla := (by first | assumption | rfl | omega | (left; simp; done) | (right; simp; done))) (hrl := (by first | assumption | rfl | omega | (left; simp; done) | (right; simp; done))) (hrb := (by first | assumption | rfl | omega | (left; simp; done) | (right; simp; done)))) ?_)
              rintro _ F16 _ le16 ⟨x13, x14, rfl, hr19, hr20, hr21, rfl⟩
              replace har := har.mono le16
              replace hrs := hrs.mono le16
              replace hf := hf.mono le16
              replace hss := hss.mono le16
              replace f1_1hr1 := f1_1hr1.mono le16
              replace f1_1hr2 := f1_1hr2.mono le16
              exact ⟨⟨rfl, hr19, hr20⟩, rfl⟩
            exact stepsG.nil
          · intro vals F17 le17 hphi
            have e0 : vals 0 = (.agg #[x7, x8] : Value) := hphi 0 (by decide)
            have e1 : vals 1 = (.agg #[arv, rsv] : Value) := hphi 1 (by decide)
            obtain ⟨e2, f2_2hr1, f2_2hr2⟩ := hphi 2 (by decide)
            generalize hu3 : ((aggAt (vals 2) 0)) = u3 at e0 e1 e2 f2_2hr1 f2_2hr2
            generalize hu4 : ((aggAt (vals 2) 1)) = u4 at e0 e1 e2 f2_2hr1 f2_2hr2
            rw [(envs_of_sat (l := [(0, (.agg #[x7, x8] : Value)), (1, (.agg #[arv, rsv] : Value)), (2, (.agg #[u3, u4] : Value))]) ⟨e0, e1, (e2).symm, trivial⟩).symm]
            replace har := har.mono le17
            replace hrs := hrs.mono le17
            replace hf := hf.mono le17
            replace hss := hss.mono le17
            replace f1_1hr1 := f1_1hr1.mono le17
            replace f1_1hr2 := f1_1hr2.mono le17
            show XL _ _ _ _ _ _ _ (intsH 2 v2 ((endT ar rs f ss)) :: intsH 2 v1 ((endT ar rs f ss)) :: intsH 2 x7 ar :: pairsD 2 156 x8 rs :: intsH 2 x9 f :: stepsD 2 74 x10 ss :: cellsH b4 [x9, x10] 63 :: cellsH b3 [x7, x8] 29 :: intsH 2 x5 f :: stepsD 2 74 x6 ss :: cellsH b2 [fv, ssv] 58 :: cellsH b1 [arv, rsv] 41 :: L)
            refine XL.cons (XOp.lend [_, _] _ _ rfl (fun F18 le18 hz9 => ?_))
            refine id (XOp.lend [_, _] _ _ rfl (fun F19 le19 hz10 => ?_))
            have hf9 : IntsF _ x7 ar := (intsH.fz (xs := ar) hz9).mono le19
            have hf10 : PairsF _ x8 rs := pairsD.fz hz10
            refine id (XOp.call (args := [.agg #[x7, x8], .agg #[u3, u4]]) Try.call30 rfl (eqSystem_spec hf9 hf10 ((f2_2hr1.mono (FLe.trans le18 le19))) ((f2_2hr2.mono (FLe.trans le18 le19))) (hcl := (by first | assumption | rfl | omega | (left; simp; done) | (right; simp; done))) (hal := (by first | assumption | rfl | omega | (left; simp; done) | (right; simp; done))) (hbd := (by first | assumption | rfl | omega | (left; simp; done) | (right; simp; done)))) ?_)
            rintro _ _ _ _ ⟨rfl, rfl, rfl⟩
            show XL _ _ _ _ _ _ _ (intsH 2 x7 ar :: pairsD 2 156 x8 rs :: intsH 2 v2 ((endT ar rs f ss)) :: intsH 2 v1 ((endT ar rs f ss)) :: intsH 2 x9 f :: stepsD 2 74 x10 ss :: cellsH b4 [x9, x10] 63 :: cellsH b3 [x7, x8] 29 :: intsH 2 x5 f :: stepsD 2 74 x6 ss :: cellsH b2 [fv, ssv] 58 :: cellsH b1 [arv, rsv] 41 :: L)
            refine XL.cons (XOp.notD (p := ar = ar ∧ rs = rs) rfl ?_)
            refine XL.nil ?_
            refine X.condD (p := ¬(ar = ar ∧ rs = rs)) rfl (fun h4 => ?_) (fun h4 => ?_)
            · exact absurd (by first | rfl | exact ⟨rfl, rfl⟩) h4
            · refine X.skip ?_
              refine X.seq ?_
              refine X.seq ?_
              refine X.drawG [intsH 2 x7 ar, pairsD 2 156 x8 rs, intsH 2 v2 ((endT ar rs f ss)), intsH 2 v1 ((endT ar rs f ss)), intsH 2 x9 f, stepsD 2 74 x10 ss, cellsH b4 [x9, x10] 63, cellsH b3 [x7, x8] 29, intsH 2 x5 f, stepsD 2 74 x6 ss, cellsH b2 [fv, ssv] 58, cellsH b1 [arv, rsv] 41] L 3 [[], [], []] [[], [], [1]] [[], [], []] (phiG [fun FF us v => v = (.agg #[x9, x10] : Value), fun FF us v => v = (.agg #[fv, ssv] : Value), fun FF us v => (.agg #[((aggAt v 0)), ((aggAt v 1))] : Value) = v ∧ (IntsF FF ((aggAt v 0)) f) ∧ (StepsF FF ((aggAt v 1)) ss)]) (ownL [fun us v => [], fun us v => [], fun us v => []]) mixed rfl rfl (by kernel_rfl) (by kernel_rfl) (MonoG.get (MonoG.cons (fun le h => h) (MonoG.cons (fun le h => h) (MonoG.cons (fun le h => ⟨h.1, h.2.1.mono le, h.2.2.mono le⟩) MonoG.nil)))) ?_ ?_
              · refine stepsG.cons (fun vals Fs R leFs hpZ => ?_) ?_
                · replace har := har.mono leFs
                  replace hrs := hrs.mono leFs
                  replace hf := hf.mono leFs
                  replace hss := hss.mono leFs
                  replace f1_1hr1 := f1_1hr1.mono leFs
                  replace f1_1hr2 := f1_1hr2.mono leFs
                  replace f2_2hr1 := f2_2hr1.mono leFs
                  replace f2_2hr2 := f2_2hr2.mono leFs
                  refine XG.op (XOp.loadN [x9, x10] Try.isAgg63 Try.sizeOf63 rfl rfl (Rd.ownN [_, _, _, _, _, _] rfl rfl) ?_)
                  exact ⟨rfl, rfl⟩
                refine stepsG.cons (fun vals Fs R leFs hpZ => ?_) ?_
                · replace har := har.mono leFs
                  replace hrs := hrs.mono leFs
                  replace hf := hf.mono leFs
                  replace hss := hss.mono leFs
                  replace f1_1hr1 := f1_1hr1.mono leFs
                  replace f1_1hr2 := f1_1hr2.mono leFs
                  replace f2_2hr1 := f2_2hr1.mono leFs
                  replace f2_2hr2 := f2_2hr2.mono leFs
                  refine XG.op (XOp.loadN [fv, ssv] Try.isAgg58 Try.sizeOf58 rfl rfl (Rd.ownN [_, _, _, _, _, _, _, _, _, _] rfl rfl) ?_)
                  exact ⟨rfl, rfl⟩
                refine stepsG.cons (fun vals Fs R leFs hpZ => ?_) ?_
                · have e1 : vals 1 = (.agg #[fv, ssv] : Value) := hpZ 1 (by decide)
                  replace har := har.mono leFs
                  replace hrs := hrs.mono leFs
                  replace hf := hf.mono leFs
                  replace hss := hss.mono leFs
                  replace f1_1hr1 := f1_1hr1.mono leFs
                  replace f1_1hr2 := f1_1hr2.mono leFs
                  replace f2_2hr1 := f2_2hr1.mono leFs
                  replace f2_2hr2 := f2_2hr2.mono leFs
                  rw [(envs_of_sat (l := [(1, (.agg #[fv, ssv] : Value))]) ⟨e1, trivial⟩).symm]
                  refine XG.op (XOp.call (args := [.agg #[fv, ssv]]) Try.call41 rfl (toWalk_spec hf hss (hfl := (by first | assumption | rfl | omega | (left; simp; done) | (right; simp; done))) (hsl := (by first | assumption | rfl | omega | (left; simp; done) | (right; simp; done))) (hsb := (by first | assumption | rfl | omega | (left; simp; done) | (right; simp; done)))) ?_)
                  rintro _ F21 _ le21 ⟨x17, x18, rfl, hr25, hr26, hr27, rfl⟩
                  replace har := har.mono le21
                  replace hrs := hrs.mono le21
                  replace hf := hf.mono le21
                  replace hss := hss.mono le21
                  replace f1_1hr1 := f1_1hr1.mono le21
                  replace f1_1hr2 := f1_1hr2.mono le21
                  replace f2_2hr1 := f2_2hr1.mono le21
                  replace f2_2hr2 := f2_2hr2.mono le21
                  exact ⟨⟨rfl, hr25, hr26⟩, rfl⟩
                exact stepsG.nil
              · intro vals F22 le22 hphi
                have e0 : vals 0 = (.agg #[x9, x10] : Value) := hphi 0 (by decide)
                have e1 : vals 1 = (.agg #[fv, ssv] : Value) := hphi 1 (by decide)
                obtain ⟨e2, f2_3hr1, f2_3hr2⟩ := hphi 2 (by decide)
                generalize hu5 : ((aggAt (vals 2) 0)) = u5 at e0 e1 e2 f2_3hr1 f2_3hr2
                generalize hu6 : ((aggAt (vals 2) 1)) = u6 at e0 e1 e2 f2_3hr1 f2_3hr2
                rw [(envs_of_sat (l := [(0, (.agg #[x9, x10] : Value)), (1, (.agg #[fv, ssv] : Value)), (2, (.agg #[u5, u6] : Value))]) ⟨e0, e1, (e2).symm, trivial⟩).symm]
                replace har := har.mono le22
                replace hrs := hrs.mono le22
                replace hf := hf.mono le22
                replace hss := hss.mono le22
                replace f1_1hr1 := f1_1hr1.mono le22
                replace f1_1hr2 := f1_1hr2.mono le22
                replace f2_2hr1 := f2_2hr1.mono le22
                replace f2_2hr2 := f2_2hr2.mono le22
                show XL _ _ _ _ _ _ _ (intsH 2 x7 ar :: pairsD 2 156 x8 rs :: intsH 2 v2 ((endT ar rs f ss)) :: intsH 2 v1 ((endT ar rs f ss)) :: intsH 2 x9 f :: stepsD 2 74 x10 ss :: cellsH b4 [x9, x10] 63 :: cellsH b3 [x7, x8] 29 :: intsH 2 x5 f :: stepsD 2 74 x6 ss :: cellsH b2 [fv, ssv] 58 :: cellsH b1 [arv, rsv] 41 :: L)
                refine XL.cons (XOp.lend [_, _, _, _] _ _ rfl (fun F23 le23 hz11 => ?_))
                refine id (XOp.lend [_, _, _, _] _ _ rfl (fun F24 le24 hz12 => ?_))
                have hf11 : IntsF _ x9 f := (intsH.fz (xs := f) hz11).mono le24
                have hf12 : StepsF _ x10 ss := stepsD.fz hz12
                refine id (XOp.call (args := [.agg #[x9, x10], .agg #[u5, u6]]) Try.call43 rfl (eqWalk_spec hf11 hf12 ((f2_3hr1.mono (FLe.trans le23 le24))) ((f2_3hr2.mono (FLe.trans le23 le24))) (hfl := (by first | assumption | rfl | omega | (left; simp; done) | (right; simp; done))) (hal := (by first | assumption | rfl | omega | (left; simp; done) | (right; simp; done))) (hbd := (by first | assumption | rfl | omega | (left; simp; done) | (right; simp; done)))) ?_)
                rintro _ _ _ _ ⟨rfl, rfl, rfl⟩
                show XL _ _ _ _ _ _ _ (intsH 2 x9 f :: stepsD 2 74 x10 ss :: intsH 2 x7 ar :: pairsD 2 156 x8 rs :: intsH 2 v2 ((endT ar rs f ss)) :: intsH 2 v1 ((endT ar rs f ss)) :: cellsH b4 [x9, x10] 63 :: cellsH b3 [x7, x8] 29 :: intsH 2 x5 f :: stepsD 2 74 x6 ss :: cellsH b2 [fv, ssv] 58 :: cellsH b1 [arv, rsv] 41 :: L)
                refine XL.cons (XOp.notD (p := f = f ∧ ss = ss) rfl ?_)
                refine XL.nil ?_
                refine X.condD (p := ¬(f = f ∧ ss = ss)) rfl (fun h5 => ?_) (fun h5 => ?_)
                · exact absurd (by first | rfl | exact ⟨rfl, rfl⟩) h5
                · refine X.skip ?_
                  refine X.seq ?_
                  refine X.region ?_
                  refine XL.cons (XOp.assign (.int .i64 (1)) rfl ?_)
                  refine XL.nil ?_
                  refine X.seq ?_
                  refine X.region ?_
                  refine XL.cons (XOp.loadN [x7, x8] Try.isAgg29 Try.sizeOf29 rfl rfl (Rd.ownN [_, _, _, _, _, _, _] rfl rfl) ?_)
                  refine XL.cons (XOp.move (.int .i64 (1)) rfl ?_)
                  refine XL.weaken (Sub.front (A := [_, _, _])) ?_
                  show XL _ _ _ _ _ _ _ (pairsD 2 156 x8 rs :: intsH 2 x9 f :: stepsD 2 74 x10 ss :: intsH 2 x7 ar :: intsH 2 v2 ((endT ar rs f ss)) :: intsH 2 v1 ((endT ar rs f ss)) :: cellsH b4 [x9, x10] 63 :: cellsH b3 [x7, x8] 29 :: intsH 2 x5 f :: stepsD 2 74 x6 ss :: cellsH b2 [fv, ssv] 58 :: cellsH b1 [arv, rsv] 41 :: L)
                  refine XL.weaken (Sub.front (A := [_, _, _])) ?_
                  show XL _ _ _ _ _ _ _ (intsH 2 x7 ar :: pairsD 2 156 x8 rs :: intsH 2 x9 f :: stepsD 2 74 x10 ss :: intsH 2 v2 ((endT ar rs f ss)) :: intsH 2 v1 ((endT ar rs f ss)) :: cellsH b4 [x9, x10] 63 :: cellsH b3 [x7, x8] 29 :: intsH 2 x5 f :: stepsD 2 74 x6 ss :: cellsH b2 [fv, ssv] 58 :: cellsH b1 [arv, rsv] 41 :: L)
                  refine XL.cons (XOp.call (args := [.agg #[x7, x8], .int .i64 (1)]) Try.call35 rfl (markSystem_spec (by (try simp only [List.length_append]); omega) (by omega)) ?_)
                  rintro _ _ _ _ ⟨m1, m2, hm1, hk1, rfl, rfl, rfl⟩
                  have hml1 := congrArg List.length hm1
                  rw [iota_len] at hml1
                  try simp only [List.length_append] at hml1
                  refine XL.cons (XOp.assign (.int .i64 (1 + (((ar) ++ (rs.flatMap flatPair)).length : Int))) rfl ?_)
                  refine XL.nil ?_
                  refine X.seq ?_
                  refine X.region ?_
                  refine XL.cons (XOp.loadN [x9, x10] Try.isAgg63 Try.sizeOf63 rfl rfl (Rd.ownN [_, _, _, _, _, _] rfl rfl) ?_)
                  refine XL.cons (XOp.move (.int .i64 (1 + (((ar) ++ (rs.flatMap flatPair)).length : Int))) rfl ?_)
                  refine XL.weaken (Sub.front (A := [_, _, _])) ?_
                  show XL _ _ _ _ _ _ _ (stepsD 2 74 x10 ss :: intsH 2 x7 m1 :: pairsD 2 156 x8 m2 :: intsH 2 x9 f :: intsH 2 v2 ((endT ar rs f ss)) :: intsH 2 v1 ((endT ar rs f ss)) :: cellsH b4 [x9, x10] 63 :: cellsH b3 [x7, x8] 29 :: intsH 2 x5 f :: stepsD 2 74 x6 ss :: cellsH b2 [fv, ssv] 58 :: cellsH b1 [arv, rsv] 41 :: L)
                  refine XL.weaken (Sub.front (A := [_, _, _])) ?_
                  show XL _ _ _ _ _ _ _ (intsH 2 x9 f :: stepsD 2 74 x10 ss :: intsH 2 x7 m1 :: pairsD 2 156 x8 m2 :: intsH 2 v2 ((endT ar rs f ss)) :: intsH 2 v1 ((endT ar rs f ss)) :: cellsH b4 [x9, x10] 63 :: cellsH b3 [x7, x8] 29 :: intsH 2 x5 f :: stepsD 2 74 x6 ss :: cellsH b2 [fv, ssv] 58 :: cellsH b1 [arv, rsv] 41 :: L)
                  refine XL.cons (XOp.call (args := [.agg #[x9, x10], .int .i64 (1 + (((ar) ++ (rs.flatMap flatPair)).length : Int))]) Try.call44 rfl (markWalk_spec (by (try simp only [List.length_append]); omega) (by omega)) ?_)
                  rintro _ _ _ _ ⟨m3, m4, hm2, hk2, rfl, rfl, rfl⟩
                  have hml2 := congrArg List.length hm2
                  rw [iota_len] at hml2
                  try simp only [List.length_append] at hml2
                  refine XL.cons (XOp.assign (.int .i64 ((1 + (((ar) ++ (rs.flatMap flatPair)).length : Int)) + (((f) ++ (ss.flatMap flatStep)).length : Int))) rfl ?_)
                  refine XL.nil ?_
                  refine X.seq ?_
                  refine X.seq ?_
                  refine X.region ?_
                  refine XL.cons (XOp.move (.int .i64 ((1 + (((ar) ++ (rs.flatMap flatPair)).length : Int)) + (((f) ++ (ss.flatMap flatStep)).length : Int))) rfl ?_)
                  refine XL.cons (XOp.lss (a := (1 + (((ar) ++ (rs.flatMap flatPair)).length : Int)) + (((f) ++ (ss.flatMap flatStep)).length : Int)) (b := 0) rfl rfl ?_)
                  refine XL.cons (XOp.move (.bool (decide (((1 + (((ar) ++ (rs.flatMap flatPair)).length : Int)) + (((f) ++ (ss.flatMap flatStep)).length : Int) : Int) < 0))) rfl ?_)
                  by_cases h6 : ((1 + (((ar) ++ (rs.flatMap flatPair)).length : Int)) + (((f) ++ (ss.flatMap flatStep)).length : Int) : Int) < 0
                  · exact absurd h6 (by omega)
                  · refine XL.yes (t := 58) rfl (congrArg Value.bool (decide_eq_false h6)) (XOp.move (v2) rfl ?_)
                    refine XL.yes (t := 58) rfl (congrArg Value.bool (decide_eq_false h6)) (XOp.move (v1) rfl ?_)
                    refine XL.yes (t := 58) rfl (congrArg Value.bool (decide_eq_false h6)) (XOp.lend [_, _, _, _] _ _ rfl (fun F25 le25 hz13 => ?_))
                    refine id (XOp.lend [_, _, _, _] _ _ rfl (fun F26 le26 hz14 => ?_))
                    have hf13 : IntsF _ v2 ((endT ar rs f ss)) := (intsH.fz (xs := (endT ar rs f ss)) hz13).mono le26
                    have hf14 : IntsF _ v1 ((endT ar rs f ss)) := intsH.fz (xs := (endT ar rs f ss)) hz14
                    refine id (XOp.call (args := [v2, v1]) Try.call31 rfl (eqInt64S_spec hf13 hf14 (hbd := (by first | assumption | rfl | omega | (left; simp; done) | (right; simp; done)))) ?_)
                    rintro _ _ _ _ ⟨rfl, rfl, rfl⟩
                    show XL _ _ _ _ _ _ _ (intsH 2 v2 ((endT ar rs f ss)) :: intsH 2 v1 ((endT ar rs f ss)) :: intsH 2 x9 m3 :: stepsD 2 74 x10 m4 :: intsH 2 x7 m1 :: pairsD 2 156 x8 m2 :: cellsH b4 [x9, x10] 63 :: cellsH b3 [x7, x8] 29 :: intsH 2 x5 f :: stepsD 2 74 x6 ss :: cellsH b2 [fv, ssv] 58 :: cellsH b1 [arv, rsv] 41 :: L)
                    refine XL.yes (t := 58) rfl (congrArg Value.bool (decide_eq_false h6)) (XOp.notD (p := ((endT ar rs f ss)) = ((endT ar rs f ss))) rfl ?_)
                    refine XL.cons (XOp.pickF (.bool (decide (¬(((endT ar rs f ss)) = ((endT ar rs f ss)))))) (congrArg Value.bool (decide_eq_false h6)) rfl ?_)
                    refine XL.nil ?_
                    refine X.condF (congrArg Value.bool (decide_eq_false h3)) ?_
                    refine X.skip ?_
                    refine X.seq ?_
                    refine X.region ?_
                    refine XL.cons (XOp.assign (.int .i64 (1)) rfl ?_)
                    refine XL.nil ?_
                    refine X.seq ?_
                    refine X.region ?_
                    refine XL.cons (XOp.move (v2) rfl ?_)
                    refine XL.cons (XOp.move (.int .i64 (1)) rfl ?_)
                    refine XL.cons (XOp.call (args := [v2, .int .i64 (1)]) Try.call36 rfl (markInt64S_spec (by (try simp only [List.length_append]); omega)) ?_)
                    rintro _ _ _ _ ⟨m5, hm3, rfl, rfl, rfl⟩
                    have hml3 := congrArg List.length hm3
                    rw [iota_len] at hml3
                    try simp only [List.length_append] at hml3
                    refine XL.cons (XOp.assign (.int .i64 (1 + (((((endT ar rs f ss)))).length : Int))) rfl ?_)
                    refine XL.nil ?_
                    refine X.seq ?_
                    refine X.region ?_
                    refine XL.cons (XOp.assign (.int .i64 (1)) rfl ?_)
                    refine XL.nil ?_
                    refine X.seq ?_
                    refine X.region ?_
                    refine XL.cons (XOp.move (v2) rfl ?_)
                    refine XL.cons (XOp.move (.int .i64 (1)) rfl ?_)
                    refine XL.cons (XOp.lend [] _ _ rfl (fun F27 le27 hz15 => ?_))
                    have hf15 : IntsF _ v2 m5 := intsH.fz (xs := m5) hz15
                    refine id (XOp.call (args := [v2, .int .i64 (1)]) Try.call45 rfl (heldInt64S_spec (z := 1) hf15 (hzb := (by first | assumption | rfl | omega | (left; simp; done) | (right; simp; done)))) ?_)
                    rintro _ _ _ _ ⟨rfl, rfl, rfl⟩
                    show XL _ _ _ _ _ _ _ (intsH 2 v2 m5 :: intsH 2 v1 ((endT ar rs f ss)) :: intsH 2 x9 m3 :: stepsD 2 74 x10 m4 :: intsH 2 x7 m1 :: pairsD 2 156 x8 m2 :: cellsH b4 [x9, x10] 63 :: cellsH b3 [x7, x8] 29 :: intsH 2 x5 f :: stepsD 2 74 x6 ss :: cellsH b2 [fv, ssv] 58 :: cellsH b1 [arv, rsv] 41 :: L)
                    refine XL.cons (XOp.assign (.int .i64 (heldF m5 1)) rfl ?_)
                    refine XL.nil ?_
                    refine X.seq ?_
                    refine X.seq ?_
                    refine X.region ?_
                    refine XL.cons (XOp.move (.int .i64 (heldF m5 1)) rfl ?_)
                    refine XL.cons (XOp.lss (a := heldF m5 1) (b := 0) rfl rfl ?_)
                    refine XL.nil ?_
                    refine X.condD (p := (heldF m5 1 : Int) < 0) rfl (fun h7 => ?_) (fun h7 => ?_)
                    · rw [hm3, heldF_iota] at h7
                      exact absurd h7 (by omega)
                    · refine X.skip ?_
                      refine X.seq ?_
                      refine X.seq ?_
                      refine X.region ?_
                      refine XL.cons (XOp.move (.int .i64 (heldF m5 1)) rfl ?_)
                      refine XL.cons (XOp.move (.int .i64 (1 + (((((endT ar rs f ss)))).length : Int))) rfl ?_)
                      refine XL.cons (XOp.neq (a := heldF m5 1) (b := 1 + (((((endT ar rs f ss)))).length : Int)) rfl rfl ?_)
                      refine XL.nil ?_
                      refine X.condD (p := (heldF m5 1 : Int) ≠ 1 + (((((endT ar rs f ss)))).length : Int)) rfl (fun h8 => ?_) (fun h8 => ?_)
                      · exact absurd (by rw [hm3, heldF_iota]) h8
                      · refine X.skip ?_
                        refine X.seq ?_
                        refine X.drawG [intsH 2 v2 m5, intsH 2 v1 ((endT ar rs f ss)), intsH 2 x9 m3, stepsD 2 74 x10 m4, intsH 2 x7 m1, pairsD 2 156 x8 m2, cellsH b4 [x9, x10] 63, cellsH b3 [x7, x8] 29, intsH 2 x5 f, stepsD 2 74 x6 ss, cellsH b2 [fv, ssv] 58, cellsH b1 [arv, rsv] 41] L 3 [[], [], []] [[], [0], []] [[], [], []] (phiG [fun FF us v => v = (.agg #[arv, rsv] : Value), fun FF us v => (.agg #[((aggAt v 0)), ((aggAt v 1))] : Value) = v ∧ (IntsF FF ((aggAt v 0)) ar) ∧ (PairsF FF ((aggAt v 1)) rs), fun FF us v => v = (.agg #[fv, ssv] : Value)]) (ownL [fun us v => [], fun us v => [], fun us v => []]) mixed rfl rfl (by kernel_rfl) (by kernel_rfl) (MonoG.get (MonoG.cons (fun le h => h) (MonoG.cons (fun le h => ⟨h.1, h.2.1.mono le, h.2.2.mono le⟩) (MonoG.cons (fun le h => h) MonoG.nil)))) ?_ ?_
                        · refine stepsG.cons (fun vals Fs R leFs hpZ => ?_) ?_
                          · replace har := har.mono leFs
                            replace hrs := hrs.mono leFs
                            replace hf := hf.mono leFs
                            replace hss := hss.mono leFs
                            replace f1_1hr1 := f1_1hr1.mono leFs
                            replace f1_1hr2 := f1_1hr2.mono leFs
                            replace f2_2hr1 := f2_2hr1.mono leFs
                            replace f2_2hr2 := f2_2hr2.mono leFs
                            replace f2_3hr1 := f2_3hr1.mono leFs
                            replace f2_3hr2 := f2_3hr2.mono leFs
                            refine XG.op (XOp.loadN [arv, rsv] Try.isAgg41 Try.sizeOf41 rfl rfl (Rd.ownN [_, _, _, _, _, _, _, _, _, _, _] rfl rfl) ?_)
                            exact ⟨rfl, rfl⟩
                          refine stepsG.cons (fun vals Fs R leFs hpZ => ?_) ?_
                          · have e0 : vals 0 = (.agg #[arv, rsv] : Value) := hpZ 0 (by decide)
                            replace har := har.mono leFs
                            replace hrs := hrs.mono leFs
                            replace hf := hf.mono leFs
                            replace hss := hss.mono leFs
                            replace f1_1hr1 := f1_1hr1.mono leFs
                            replace f1_1hr2 := f1_1hr2.mono leFs
                            replace f2_2hr1 := f2_2hr1.mono leFs
                            replace f2_2hr2 := f2_2hr2.mono leFs
                            replace f2_3hr1 := f2_3hr1.mono leFs
                            replace f2_3hr2 := f2_3hr2.mono leFs
                            rw [(envs_of_sat (l := [(0, (.agg #[arv, rsv] : Value))]) ⟨e0, trivial⟩).symm]
                            refine XG.op (XOp.call (args := [.agg #[arv, rsv]]) Try.call27 rfl (toSystem_spec har hrs (hla := (by first | assumption | rfl | omega | (left; simp; done) | (right; simp; done))) (hrl := (by first | assumption | rfl | omega | (left; simp; done) | (right; simp; done))) (hrb := (by first | assumption | rfl | omega | (left; simp; done) | (right; simp; done)))) ?_)
                            rintro _ F29 _ le29 ⟨x21, x22, rfl, hr31, hr32, hr33, rfl⟩
                            replace har := har.mono le29
                            replace hrs := hrs.mono le29
                            replace hf := hf.mono le29
                            replace hss := hss.mono le29
                            replace f1_1hr1 := f1_1hr1.mono le29
                            replace f1_1hr2 := f1_1hr2.mono le29
                            replace f2_2hr1 := f2_2hr1.mono le29
                            replace f2_2hr2 := f2_2hr2.mono le29
                            replace f2_3hr1 := f2_3hr1.mono le29
                            replace f2_3hr2 := f2_3hr2.mono le29
                            exact ⟨⟨rfl, hr31, hr32⟩, rfl⟩
                          refine stepsG.cons (fun vals Fs R leFs hpZ => ?_) ?_
                          · replace har := har.mono leFs
                            replace hrs := hrs.mono leFs
                            replace hf := hf.mono leFs
                            replace hss := hss.mono leFs
                            replace f1_1hr1 := f1_1hr1.mono leFs
                            replace f1_1hr2 := f1_1hr2.mono leFs
                            replace f2_2hr1 := f2_2hr1.mono leFs
                            replace f2_2hr2 := f2_2hr2.mono leFs
                            replace f2_3hr1 := f2_3hr1.mono leFs
                            replace f2_3hr2 := f2_3hr2.mono leFs
                            refine XG.op (XOp.loadN [fv, ssv] Try.isAgg58 Try.sizeOf58 rfl rfl (Rd.ownN [_, _, _, _, _, _, _, _, _, _] rfl rfl) ?_)
                            exact ⟨rfl, rfl⟩
                          exact stepsG.nil
                        · intro vals F30 le30 hphi
                          have e0 : vals 0 = (.agg #[arv, rsv] : Value) := hphi 0 (by decide)
                          obtain ⟨e1, f1_4hr1, f1_4hr2⟩ := hphi 1 (by decide)
                          have e2 : vals 2 = (.agg #[fv, ssv] : Value) := hphi 2 (by decide)
                          generalize hu7 : ((aggAt (vals 1) 0)) = u7 at e0 e1 f1_4hr1 f1_4hr2 e2
                          generalize hu8 : ((aggAt (vals 1) 1)) = u8 at e0 e1 f1_4hr1 f1_4hr2 e2
                          rw [(envs_of_sat (l := [(0, (.agg #[arv, rsv] : Value)), (1, (.agg #[u7, u8] : Value)), (2, (.agg #[fv, ssv] : Value))]) ⟨e0, (e1).symm, e2, trivial⟩).symm]
                          replace har := har.mono le30
                          replace hrs := hrs.mono le30
                          replace hf := hf.mono le30
                          replace hss := hss.mono le30
                          replace f1_1hr1 := f1_1hr1.mono le30
                          replace f1_1hr2 := f1_1hr2.mono le30
                          replace f2_2hr1 := f2_2hr1.mono le30
                          replace f2_2hr2 := f2_2hr2.mono le30
                          replace f2_3hr1 := f2_3hr1.mono le30
                          replace f2_3hr2 := f2_3hr2.mono le30
                          show XL _ _ _ _ _ _ _ (intsH 2 v2 m5 :: intsH 2 v1 ((endT ar rs f ss)) :: intsH 2 x9 m3 :: stepsD 2 74 x10 m4 :: intsH 2 x7 m1 :: pairsD 2 156 x8 m2 :: cellsH b4 [x9, x10] 63 :: cellsH b3 [x7, x8] 29 :: intsH 2 x5 f :: stepsD 2 74 x6 ss :: cellsH b2 [fv, ssv] 58 :: cellsH b1 [arv, rsv] 41 :: L)
                          refine XL.cons (XOp.thawL ?_)
                          refine id (XOp.call (args := [.agg #[fv, ssv]]) Try.call41 rfl (toWalk_spec hf hss (hfl := (by first | assumption | rfl | omega | (left; simp; done) | (right; simp; done))) (hsl := (by first | assumption | rfl | omega | (left; simp; done) | (right; simp; done))) (hsb := (by first | assumption | rfl | omega | (left; simp; done) | (right; simp; done)))) ?_)
                          rintro _ F31 _ le31 ⟨x23, x24, rfl, hr34, hr35, hr36, rfl⟩
                          refine ⟨[intsH 2 x23 f, stepsD 2 74 x24 ss], hr36, ?_⟩
                          show XL _ _ _ _ _ _ _ (intsH 2 x23 f :: stepsD 2 74 x24 ss :: intsH 2 v2 m5 :: intsH 2 v1 ((endT ar rs f ss)) :: intsH 2 x9 m3 :: stepsD 2 74 x10 m4 :: intsH 2 x7 m1 :: pairsD 2 156 x8 m2 :: cellsH b4 [x9, x10] 63 :: cellsH b3 [x7, x8] 29 :: intsH 2 x5 f :: stepsD 2 74 x6 ss :: cellsH b2 [fv, ssv] 58 :: cellsH b1 [arv, rsv] 41 :: L)
                          refine XL.cons (XOp.lend [] _ _ rfl (fun F32 le32 hz16 => ?_))
                          refine id (XOp.lend [] _ _ rfl (fun F33 le33 hz17 => ?_))
                          have hf16 : IntsF _ x23 f := (intsH.fz (xs := f) hz16).mono le33
                          have hf17 : StepsF _ x24 ss := stepsD.fz hz17
                          refine id (XOp.call (args := [.agg #[u7, u8], .agg #[x23, x24]]) Try.call42 rfl (EndTerm_spec ((f1_4hr1.mono (FLe.trans le32 le33))) ((f1_4hr2.mono (FLe.trans le32 le33))) hf16 hf17 (hlf := (by first | assumption | rfl | omega | (left; simp; done) | (right; simp; done))) (hsb := (by first | assumption | rfl | omega | (left; simp; done) | (right; simp; done)))) ?_)
                          rintro v3 _ _ _ ⟨rfl, hs3, rfl⟩
                          show XL _ _ _ _ _ _ _ (intsH 2 x23 f :: stepsD 2 74 x24 ss :: intsH 2 v3 ((endT ar rs f ss)) :: intsH 2 v2 m5 :: intsH 2 v1 ((endT ar rs f ss)) :: intsH 2 x9 m3 :: stepsD 2 74 x10 m4 :: intsH 2 x7 m1 :: pairsD 2 156 x8 m2 :: cellsH b4 [x9, x10] 63 :: cellsH b3 [x7, x8] 29 :: intsH 2 x5 f :: stepsD 2 74 x6 ss :: cellsH b2 [fv, ssv] 58 :: cellsH b1 [arv, rsv] 41 :: L)
                          refine XL.cons (XOp.assign (v3) rfl ?_)
                          refine XL.nil ?_
                          refine X.seq ?_
                          refine X.seq ?_
                          refine X.region ?_
                          refine XL.cons (XOp.move (v3) rfl ?_)
                          refine XL.cons (XOp.move (v1) rfl ?_)
                          refine XL.cons (XOp.lend [_, _] _ _ rfl (fun F34 le34 hz18 => ?_))
                          refine id (XOp.lend [_, _, _] _ _ rfl (fun F35 le35 hz19 => ?_))
                          have hf18 : IntsF _ v3 ((endT ar rs f ss)) := (intsH.fz (xs := (endT ar rs f ss)) hz18).mono le35
                          have hf19 : IntsF _ v1 ((endT ar rs f ss)) := intsH.fz (xs := (endT ar rs f ss)) hz19
                          refine id (XOp.call (args := [v3, v1]) Try.call31 rfl (eqInt64S_spec hf18 hf19 (hbd := (by first | assumption | rfl | omega | (left; simp; done) | (right; simp; done)))) ?_)
                          rintro _ _ _ _ ⟨rfl, rfl, rfl⟩
                          show XL _ _ _ _ _ _ _ (intsH 2 v3 ((endT ar rs f ss)) :: intsH 2 v1 ((endT ar rs f ss)) :: intsH 2 x23 f :: stepsD 2 74 x24 ss :: intsH 2 v2 m5 :: intsH 2 x9 m3 :: stepsD 2 74 x10 m4 :: intsH 2 x7 m1 :: pairsD 2 156 x8 m2 :: cellsH b4 [x9, x10] 63 :: cellsH b3 [x7, x8] 29 :: intsH 2 x5 f :: stepsD 2 74 x6 ss :: cellsH b2 [fv, ssv] 58 :: cellsH b1 [arv, rsv] 41 :: L)
                          refine XL.cons (XOp.notD (p := ((endT ar rs f ss)) = ((endT ar rs f ss))) rfl ?_)
                          refine XL.nil ?_
                          refine X.condF (congrArg Value.bool (decide_eq_false h3)) ?_
                          refine X.skip ?_
                          refine X.seq ?_
                          refine X.region ?_
                          refine XL.cons (XOp.assign (.int .i64 (1)) rfl ?_)
                          refine XL.nil ?_
                          refine X.seq ?_
                          refine X.region ?_
                          refine XL.cons (XOp.move (v2) rfl ?_)
                          refine XL.cons (XOp.move (.int .i64 (1)) rfl ?_)
                          refine XL.cons (XOp.lend [_, _, _, _] _ _ rfl (fun F36 le36 hz20 => ?_))
                          have hf20 : IntsF _ v2 m5 := intsH.fz (xs := m5) hz20
                          refine id (XOp.call (args := [v2, .int .i64 (1)]) Try.call45 rfl (heldInt64S_spec (z := 1) hf20 (hzb := (by first | assumption | rfl | omega | (left; simp; done) | (right; simp; done)))) ?_)
                          rintro _ _ _ _ ⟨rfl, rfl, rfl⟩
                          show XL _ _ _ _ _ _ _ (intsH 2 v2 m5 :: intsH 2 v3 ((endT ar rs f ss)) :: intsH 2 v1 ((endT ar rs f ss)) :: intsH 2 x23 f :: stepsD 2 74 x24 ss :: intsH 2 x9 m3 :: stepsD 2 74 x10 m4 :: intsH 2 x7 m1 :: pairsD 2 156 x8 m2 :: cellsH b4 [x9, x10] 63 :: cellsH b3 [x7, x8] 29 :: intsH 2 x5 f :: stepsD 2 74 x6 ss :: cellsH b2 [fv, ssv] 58 :: cellsH b1 [arv, rsv] 41 :: L)
                          refine XL.cons (XOp.assign (.int .i64 (heldF m5 1)) rfl ?_)
                          refine XL.nil ?_
                          refine X.seq ?_
                          refine X.seq ?_
                          refine X.region ?_
                          refine XL.cons (XOp.move (.int .i64 (heldF m5 1)) rfl ?_)
                          refine XL.cons (XOp.lss (a := heldF m5 1) (b := 0) rfl rfl ?_)
                          refine XL.nil ?_
                          refine X.condF (congrArg Value.bool (decide_eq_false h7)) ?_
                          refine X.skip ?_
                          refine X.seq ?_
                          refine X.seq ?_
                          refine X.region ?_
                          refine XL.cons (XOp.move (.int .i64 (heldF m5 1)) rfl ?_)
                          refine XL.cons (XOp.move (.int .i64 (1 + (((((endT ar rs f ss)))).length : Int))) rfl ?_)
                          refine XL.cons (XOp.neq (a := heldF m5 1) (b := 1 + (((((endT ar rs f ss)))).length : Int)) rfl rfl ?_)
                          refine XL.nil ?_
                          refine X.condF (congrArg Value.bool (decide_eq_false h8)) ?_
                          refine X.skip ?_
                          refine X.seq ?_
                          refine X.region ?_
                          refine XL.cons (XOp.assign (.bool (true)) rfl ?_)
                          refine XL.nil ?_
                          refine X.ret (retEnd (L' := L) [.bool (true)] (.bool (true)) (.tmp rfl .nil) rfl (FLe.refl _) (FLe.trans (FLe.trans (FLe.trans le3 le17) le22) le30) (Sub.drop (Sub.drop (Sub.drop (Sub.drop (Sub.drop (Sub.drop (Sub.drop (Sub.drop (Sub.drop (Sub.drop (Sub.drop (Sub.drop (Sub.drop (Sub.drop (Sub.drop (Sub.refl _)))))))))))))))) ?_)
                          exact ⟨rfl, rfl, rfl⟩
end Go.Proofs.Ytacbenjncjcglaa
