/-
  Walks, one after the other (part 4).
-/
import Derived.Test.YtnloeeaidknblaaQoB2
set_option linter.unusedSimpArgs false
set_option linter.unusedVariables false
namespace Go.Proofs.Ytnloeeaidknblaa
open Go X M

/- laws.FnExactReachOf -/
set_option maxRecDepth 20000 in
theorem FnExactReachOf_does {F : FH} {L : List HP} {arv : Value} {ar : List Int} (har : IntsF F arv ar) {rsv : Value} {rs : List (List Int × List Int)} (hrs : PairsF F rsv rs) {tv : Value} {t : List Int} (ht : IntsF F tv t) {n : Int} (hlar : ar.length ≤ 9223372036854775807) (hlrs : rs.length ≤ 9223372036854775807) (hbrs : ∀ i, i < rs.length → (rs.getD i ([], [])).1.length ≤ 9223372036854775807 ∧ (rs.getD i ([], [])).2.length ≤ 9223372036854775807) (hlt : t.length ≤ 9223372036854775807) :
    Does Try.prog 5 [.agg #[arv, rsv], tv, .int .i64 (n)] F (L) (fun v F' L' => (.bool (true) : Value) = v ∧ F = F' ∧ L = L') := by
 refine Does.of_X Try.func5 rfl rfl rfl ?_
 have hnl := (reachF_len (ar := ar) (rs := rs) (t := t) (n := n)).1
 have hnb := (reachF_len (ar := ar) (rs := rs) (t := t) (n := n)).2
 have hnf := flat_le hnb
 refine X.seq ?_
 refine X.region ?_
 refine XL.cons (XOp.box [arv, rsv] rfl rfl ?_)
 intro b1
 refine XL.cons (XOp.assign (.bool (false)) rfl ?_)
 refine XL.nil ?_
 refine X.seq ?_
 refine X.seq ?_
 refine X.region ?_
 refine XL.cons (XOp.move (tv) rfl ?_)
 refine XL.cons (XOp.lenS (v := tv) (n := (t).length) Try.runUnderlying22 rfl ht.slv ?_)
 refine XL.cons (XOp.gtr (a := (((t).length : Nat) : Int)) (b := 1048576) rfl rfl ?_)
 refine XL.nil ?_
 refine X.condD (p := ((((t).length : Nat) : Int) : Int) > 1048576) rfl (fun h1 => ?_) (fun h1 => ?_)
 ·refine X.seq ?_
  refine X.region ?_
  refine XL.cons (XOp.assign (.bool (true)) rfl ?_)
  refine XL.nil ?_
  refine X.ret (thenQ_ret (retEnd (L' := L) [.bool (true)] (.bool (true)) (.tmp rfl .nil) rfl (FLe.refl _) (FLe.refl _) (Sub.drop (Sub.refl _)) ?_))
  exact ⟨rfl, rfl, rfl⟩
 ·refine X.skip ?_
  refine X.seq ?_
  refine X.region ?_
  refine XL.cons (XOp.assign (.int .i64 (1048576)) rfl ?_)
  refine XL.nil ?_
  refine X.seq ?_
  refine X.region ?_
  refine XL.cons (XOp.loadN [arv, rsv] Try.isAgg27 Try.sizeOf27 rfl rfl (Rd.ownN [] rfl rfl) ?_)
  refine XL.cons (XOp.move (.int .i64 (1048576)) rfl ?_)
  refine XL.cons (XOp.call (args := [.agg #[arv, rsv], .int .i64 (1048576)]) Try.call11 rfl (szSystem_spec (z := 1048576) har hrs (hz := (by first | assumption | rfl | omega | (left; simp; done) | (right; simp; done))) (hal := (by first | assumption | rfl | omega | (left; simp; done) | (right; simp; done))) (hrl := (by first | assumption | rfl | omega | (left; simp; done) | (right; simp; done))) (hrb := (by first | assumption | rfl | omega | (left; simp; done) | (right; simp; done)))) ?_)
  rintro _ _ _ _ ⟨rfl, rfl, rfl⟩
  refine XL.cons (XOp.assign (.int .i64 (dec 1048576 (ar.length + szR rs))) rfl ?_)
  refine XL.nil ?_
  refine X.seq ?_
  refine X.seq ?_
  refine X.region ?_
  refine XL.cons (XOp.move (.int .i64 (dec 1048576 (ar.length + szR rs))) rfl ?_)
  refine XL.cons (XOp.lss (a := dec 1048576 (ar.length + szR rs)) (b := 0) rfl rfl ?_)
  refine XL.nil ?_
  refine X.condD (p := (dec 1048576 (ar.length + szR rs) : Int) < 0) rfl (fun h2 => ?_) (fun h2 => ?_)
  ·refine X.seq ?_
   refine X.region ?_
   refine XL.cons (XOp.assign (.bool (true)) rfl ?_)
   refine XL.nil ?_
   refine X.ret (thenQ_ret (retEnd (L' := L) [.bool (true)] (.bool (true)) (.tmp rfl .nil) rfl (FLe.refl _) (FLe.refl _) (Sub.drop (Sub.refl _)) ?_))
   exact ⟨rfl, rfl, rfl⟩
  ·have hd1 := dec_le2 h2 (by omega)
   have hzrs := szR_le (rs := rs)
   have hirs := hzrs.2
   have hcrs : ∀ i, i < rs.length → (rs.getD i ([], [])).1.length ≤ 4000000 ∧ (rs.getD i ([], [])).2.length ≤ 4000000 := fun i hi => by have := hirs i hi; omega
   have hfrs := flatPair_len rs
   refine X.skip ?_
   refine X.seq ?_
   refine X.region ?_
   refine XL.cons (XOp.loadN [arv, rsv] Try.isAgg27 Try.sizeOf27 rfl rfl (Rd.ownN [] rfl rfl) ?_)
   refine XL.cons (XOp.thawL ?_)
   refine id (XOp.call (args := [.agg #[arv, rsv]]) Try.call14 rfl (toSystem_spec har hrs (hla := (by first | assumption | rfl | omega | (left; simp; done) | (right; simp; done))) (hrl := (by first | assumption | rfl | omega | (left; simp; done) | (right; simp; done))) (hrb := (by first | assumption | rfl | omega | (left; simp; done) | (right; simp; done)))) ?_)
   rintro _ F1 _ le1 ⟨x1, x2, rfl, hr1, hr2, hr3, rfl⟩
   refine ⟨[intsH 2 x1 ar, pairsD 2 98 x2 rs], hr3, ?_⟩
   show XL _ _ _ _ _ _ _ (intsH 2 x1 ar :: pairsD 2 98 x2 rs :: cellsH b1 [arv, rsv] 27 :: L)
   refine XL.cons (XOp.move (tv) rfl ?_)
   refine XL.cons (XOp.call (args := [tv]) Try.call20 rfl (toInt64S_spec ht (hlx := (by first | assumption | rfl | omega | (left; simp; done) | (right; simp; done)))) ?_)
   rintro v1 _ _ _ ⟨rfl, hs1, rfl⟩
   refine XL.cons (XOp.move (.int .i64 (n)) rfl ?_)
   refine XL.freezeF [_] _ _ rfl (fun F2 le2 hz1 => ?_)
   replace har := har.mono le2
   replace hrs := hrs.mono le2
   replace ht := ht.mono le2
   have hf1 : IntsF F2 x1 ar := intsH.fz (xs := ar) hz1.fz
   refine XL.freezeF [_] _ _ rfl (fun F3 le3 hz2 => ?_)
   replace har := har.mono le3
   replace hrs := hrs.mono le3
   replace ht := ht.mono le3
   replace hf1 := hf1.mono le3
   have hf2 : PairsF F3 x2 rs := pairsD.fz hz2.fz
   refine XL.freezeF [] _ _ rfl (fun F4 le4 hz3 => ?_)
   replace har := har.mono le4
   replace hrs := hrs.mono le4
   replace ht := ht.mono le4
   replace hf1 := hf1.mono le4
   replace hf2 := hf2.mono le4
   have hf3 : IntsF F4 v1 ((t)) := intsH.fz (xs := (t)) hz3.fz
   refine XL.cons (XOp.call (args := [.agg #[x1, x2], v1, .int .i64 (n)]) Try.call23 rfl (sReachOf_spec (n := n) hf1 hf2 hf3 (hla := (by first | assumption | rfl | omega | (left; simp; done) | (right; simp; done))) (hlr := (by first | assumption | rfl | omega | (left; simp; done) | (right; simp; done))) (hrb := (by first | assumption | rfl | omega | (left; simp; done) | (right; simp; done))) (hlt := (by first | assumption | rfl | omega | (left; simp; done) | (right; simp; done)))) ?_)
   rintro _ F5 _ le5 ⟨x3, rfl, hr4, rfl⟩
   replace har := har.mono le5
   replace hrs := hrs.mono le5
   replace ht := ht.mono le5
   replace hf1 := hf1.mono le5
   replace hf2 := hf2.mono le5
   replace hf3 := hf3.mono le5
   refine XL.cons (XOp.move (.tuple #[x3, .bool ((reachF ar rs ((t)) n).2)]) rfl ?_)
   refine XL.cons (XOp.extract (x3) rfl rfl ?_)
   refine XL.cons (XOp.extract (.bool ((reachF ar rs ((t)) n).2)) rfl rfl ?_)
   refine XL.cons (XOp.assign (x3) rfl ?_)
   refine XL.cons (XOp.assign (.bool ((reachF ar rs ((t)) n).2)) rfl ?_)
   refine XL.nil ?_
   refine X.seq ?_
   refine X.region ?_
   refine XL.cons (XOp.loadN [arv, rsv] Try.isAgg27 Try.sizeOf27 rfl rfl (Rd.ownN [] rfl rfl) ?_)
   refine XL.cons (XOp.thawL ?_)
   refine id (XOp.call (args := [.agg #[arv, rsv]]) Try.call14 rfl (toSystem_spec har hrs (hla := (by first | assumption | rfl | omega | (left; simp; done) | (right; simp; done))) (hrl := (by first | assumption | rfl | omega | (left; simp; done) | (right; simp; done))) (hrb := (by first | assumption | rfl | omega | (left; simp; done) | (right; simp; done)))) ?_)
   rintro _ F6 _ le6 ⟨x4, x5, rfl, hr5, hr6, hr7, rfl⟩
   refine ⟨[intsH 2 x4 ar, pairsD 2 98 x5 rs], hr7, ?_⟩
   show XL _ _ _ _ _ _ _ (intsH 2 x4 ar :: pairsD 2 98 x5 rs :: cellsH b1 [arv, rsv] 27 :: L)
   refine XL.cons (XOp.alloc [(.slice none 0 0), (.slice none 0 0)] Try.zeroValue36 rfl ?_)
   intro b2
   refine XL.cons (XOp.storeN (vs := [x4, x5]) [] _ [x4, x5] Try.sizeOf36 rfl rfl rfl (ones_cons (one_sl (IntsF.isSl hr5)) (ones_cons (one_sl (PairsF.isSl hr6)) ones_nil)) rfl rfl rfl ?_)
   refine XL.nil ?_
   refine X.seq ?_
   refine X.region ?_
   refine XL.cons (XOp.move (tv) rfl ?_)
   refine XL.cons (XOp.call (args := [tv]) Try.call20 rfl (toInt64S_spec ht (hlx := (by first | assumption | rfl | omega | (left; simp; done) | (right; simp; done)))) ?_)
   rintro v2 _ _ _ ⟨rfl, hs2, rfl⟩
   refine XL.cons (XOp.assign (v2) rfl ?_)
   refine XL.nil ?_
   refine X.seq ?_
   refine X.region ?_
   refine XL.cons (XOp.loadN [x4, x5] Try.isAgg36 Try.sizeOf36 rfl rfl (Rd.ownN [_] rfl rfl) ?_)
   refine XL.cons (XOp.move (v2) rfl ?_)
   refine XL.cons (XOp.move (.int .i64 (n)) rfl ?_)
   refine XL.cons (XOp.lend [_, _] _ _ rfl (fun F7 le7 hz4 => ?_))
   refine id (XOp.lend [_, _] _ _ rfl (fun F8 le8 hz5 => ?_))
   refine id (XOp.lend [] _ _ rfl (fun F9 le9 hz6 => ?_))
   have hf4 : IntsF _ x4 ar := (intsH.fz (xs := ar) hz4).mono (FLe.trans le8 le9)
   have hf5 : PairsF _ x5 rs := (pairsD.fz hz5).mono le9
   have hf6 : IntsF _ v2 ((t)) := intsH.fz (xs := (t)) hz6
   refine id (XOp.thawL ?_)
   refine id (XOp.call (args := [.agg #[x4, x5], v2, .int .i64 (n)]) Try.call24 rfl (ReachOf_spec (n := n) hf4 hf5 hf6 (hlt9 := (by first | assumption | rfl | omega | (left; simp; done) | (right; simp; done)))) ?_)
   rintro _ F10 _ le10 ⟨x6, rfl, hr8, hr9, rfl⟩
   refine ⟨[rowsD 2 22 x6 (terms (reachF ar rs ((t)) n).1)], hr9, ?_⟩
   show XL _ _ _ _ _ _ _ (intsH 2 x4 ar :: pairsD 2 98 x5 rs :: intsH 2 v2 ((t)) :: rowsD 2 22 x6 (terms (reachF ar rs ((t)) n).1) :: cellsH b2 [x4, x5] 36 :: cellsH b1 [arv, rsv] 27 :: L)
   refine XL.cons (XOp.move (.tuple #[x6, .bool ((reachF ar rs ((t)) n).2)]) rfl ?_)
   refine XL.cons (XOp.extract (x6) rfl rfl ?_)
   refine XL.cons (XOp.extract (.bool ((reachF ar rs ((t)) n).2)) rfl rfl ?_)
   refine XL.cons (XOp.assign (x6) rfl ?_)
   refine XL.cons (XOp.assign (.bool ((reachF ar rs ((t)) n).2)) rfl ?_)
   refine XL.nil ?_
   refine X.seq ?_
   refine X.seq ?_
   refine X.region ?_
   refine XL.cons (XOp.move (x6) rfl ?_)
   refine XL.cons (XOp.move (x3) rfl ?_)
   refine XL.cons (XOp.lend [_, _, _] _ _ rfl (fun F11 le11 hz7 => ?_))
   have hf7 : RowsF _ x6 (terms (reachF ar rs ((t)) n).1) := rowsD.fz hz7
   refine id (XOp.call (args := [x6, x3]) Try.call25 rfl (eqInt64SS_spec hf7 ((hr4.mono le11)) (hal := (by first | assumption | rfl | omega | (left; simp; done) | (right; simp; done))) (hbd := (fun i hi => by have := hnb i; omega))) ?_)
   rintro _ _ _ _ ⟨rfl, rfl, rfl⟩
   show XL _ _ _ _ _ _ _ (rowsD 2 22 x6 (terms (reachF ar rs ((t)) n).1) :: intsH 2 x4 ar :: pairsD 2 98 x5 rs :: intsH 2 v2 ((t)) :: cellsH b2 [x4, x5] 36 :: cellsH b1 [arv, rsv] 27 :: L)
   refine XL.cons (XOp.notD (p := (terms (reachF ar rs ((t)) n).1) = (terms (reachF ar rs ((t)) n).1)) rfl ?_)
   refine XL.cons (XOp.move (.bool (decide (¬((terms (reachF ar rs ((t)) n).1) = (terms (reachF ar rs ((t)) n).1))))) rfl ?_)
   by_cases h3 : ¬((terms (reachF ar rs ((t)) n).1) = (terms (reachF ar rs ((t)) n).1))
   ·exact absurd (by first | rfl | exact ⟨rfl, rfl⟩ | exact ⟨⟨rfl, rfl⟩, rfl, rfl⟩ | simp) h3
   ·refine XL.yes (t := 51) rfl (congrArg Value.bool (decide_eq_false h3)) (XOp.move (.bool ((reachF ar rs ((t)) n).2)) rfl ?_)
    refine XL.yes (t := 51) rfl (congrArg Value.bool (decide_eq_false h3)) (XOp.move (.bool ((reachF ar rs ((t)) n).2)) rfl ?_)
    refine XL.yes (t := 51) rfl (congrArg Value.bool (decide_eq_false h3)) (XOp.neB (a := (reachF ar rs ((t)) n).2) (b := (reachF ar rs ((t)) n).2) Try.runUnderlying4 rfl rfl ?_)
    refine XL.cons (XOp.pickF (.bool (decide (((reachF ar rs ((t)) n).2) ≠ ((reachF ar rs ((t)) n).2)))) (congrArg Value.bool (decide_eq_false h3)) rfl ?_)
    refine XL.nil ?_
    refine X.condD (p := ((reachF ar rs ((t)) n).2) ≠ ((reachF ar rs ((t)) n).2)) rfl (fun h4 => ?_) (fun h4 => ?_)
    ·exact absurd rfl h4
    ·refine X.skip ?_
     refine X.seq ?_
     refine X.seq ?_
     refine X.drawG [rowsD 2 22 x6 (terms (reachF ar rs ((t)) n).1), intsH 2 x4 ar, pairsD 2 98 x5 rs, intsH 2 v2 ((t)), cellsH b2 [x4, x5] 36, cellsH b1 [arv, rsv] 27] L 3 [[], [], []] [[], [], [1]] [[], [], []] (phiG [fun FF us v => v = (.agg #[x4, x5] : Value), fun FF us v => v = (.agg #[arv, rsv] : Value), fun FF us v => (.agg #[((aggAt v 0)), ((aggAt v 1))] : Value) = v ∧ (IntsF FF ((aggAt v 0)) ar) ∧ (PairsF FF ((aggAt v 1)) rs)]) (ownL [fun us v => [], fun us v => [], fun us v => []]) mixed rfl rfl (by kernel_rfl) (by kernel_rfl) (MonoG.get (MonoG.cons (fun le h => h) (MonoG.cons (fun le h => h) (MonoG.cons (fun le h => ⟨h.1, h.2.1.mono le, h.2.2.mono le⟩) MonoG.nil)))) ?_ ?_
     ·refine stepsG.cons (fun vals Fs R leFs hpZ => ?_) ?_
      ·replace har := har.mono leFs
       replace hrs := hrs.mono leFs
       replace ht := ht.mono leFs
       replace hf1 := hf1.mono leFs
       replace hf2 := hf2.mono leFs
       replace hf3 := hf3.mono leFs
       replace hr4 := hr4.mono leFs
       refine XG.op (XOp.loadN [x4, x5] Try.isAgg36 Try.sizeOf36 rfl rfl (Rd.ownN [_, _, _, _] rfl rfl) ?_)
       exact ⟨rfl, rfl⟩
      refine stepsG.cons (fun vals Fs R leFs hpZ => ?_) ?_
      ·replace har := har.mono leFs
       replace hrs := hrs.mono leFs
       replace ht := ht.mono leFs
       replace hf1 := hf1.mono leFs
       replace hf2 := hf2.mono leFs
       replace hf3 := hf3.mono leFs
       replace hr4 := hr4.mono leFs
       refine XG.op (XOp.loadN [arv, rsv] Try.isAgg27 Try.sizeOf27 rfl rfl (Rd.ownN [_, _, _, _, _] rfl rfl) ?_)
       exact ⟨rfl, rfl⟩
      refine stepsG.cons (fun vals Fs R leFs hpZ => ?_) ?_
      ·have e1 : vals 1 = (.agg #[arv, rsv] : Value) := hpZ 1 (by decide)
       replace har := har.mono leFs
       replace hrs := hrs.mono leFs
       replace ht := ht.mono leFs
       replace hf1 := hf1.mono leFs
       replace hf2 := hf2.mono leFs
       replace hf3 := hf3.mono leFs
       replace hr4 := hr4.mono leFs
       rw [(envs_of_sat (l := [(1, (.agg #[arv, rsv] : Value))]) ⟨e1, trivial⟩).symm]
       refine XG.op (XOp.call (args := [.agg #[arv, rsv]]) Try.call14 rfl (toSystem_spec har hrs (hla := (by first | assumption | rfl | omega | (left; simp; done) | (right; simp; done))) (hrl := (by first | assumption | rfl | omega | (left; simp; done) | (right; simp; done))) (hrb := (by first | assumption | rfl | omega | (left; simp; done) | (right; simp; done)))) ?_)
       rintro _ F13 _ le13 ⟨x9, x10, rfl, hr13, hr14, hr15, rfl⟩
       replace har := har.mono le13
       replace hrs := hrs.mono le13
       replace ht := ht.mono le13
       replace hf1 := hf1.mono le13
       replace hf2 := hf2.mono le13
       replace hf3 := hf3.mono le13
       replace hr4 := hr4.mono le13
       exact ⟨⟨rfl, hr13, hr14⟩, rfl⟩
      exact stepsG.nil
     ·intro vals F14 le14 hphi
      have e0 : vals 0 = (.agg #[x4, x5] : Value) := hphi 0 (by decide)
      have e1 : vals 1 = (.agg #[arv, rsv] : Value) := hphi 1 (by decide)
      obtain ⟨e2, f2_1hr1, f2_1hr2⟩ := hphi 2 (by decide)
      generalize hu1 : ((aggAt (vals 2) 0)) = u1 at e0 e1 e2 f2_1hr1 f2_1hr2
      generalize hu2 : ((aggAt (vals 2) 1)) = u2 at e0 e1 e2 f2_1hr1 f2_1hr2
      rw [(envs_of_sat (l := [(0, (.agg #[x4, x5] : Value)), (1, (.agg #[arv, rsv] : Value)), (2, (.agg #[u1, u2] : Value))]) ⟨e0, e1, (e2).symm, trivial⟩).symm]
      replace har := har.mono le14
      replace hrs := hrs.mono le14
      replace ht := ht.mono le14
      replace hf1 := hf1.mono le14
      replace hf2 := hf2.mono le14
      replace hf3 := hf3.mono le14
      replace hr4 := hr4.mono le14
      show XL _ _ _ _ _ _ _ (rowsD 2 22 x6 (terms (reachF ar rs ((t)) n).1) :: intsH 2 x4 ar :: pairsD 2 98 x5 rs :: intsH 2 v2 ((t)) :: cellsH b2 [x4, x5] 36 :: cellsH b1 [arv, rsv] 27 :: L)
      refine XL.cons (XOp.lend [_] _ _ rfl (fun F15 le15 hz8 => ?_))
      refine id (XOp.lend [_] _ _ rfl (fun F16 le16 hz9 => ?_))
      have hf8 : IntsF _ x4 ar := (intsH.fz (xs := ar) hz8).mono le16
      have hf9 : PairsF _ x5 rs := pairsD.fz hz9
      refine id (XOp.call (args := [.agg #[x4, x5], .agg #[u1, u2]]) Try.call17 rfl (eqSystem_spec hf8 hf9 ((f2_1hr1.mono (FLe.trans le15 le16))) ((f2_1hr2.mono (FLe.trans le15 le16))) (hcl := (by first | assumption | rfl | omega | (left; simp; done) | (right; simp; done))) (hal := (by first | assumption | rfl | omega | (left; simp; done) | (right; simp; done))) (hbd := (by first | assumption | rfl | omega | (left; simp; done) | (right; simp; done)))) ?_)
      rintro _ _ _ _ ⟨rfl, rfl, rfl⟩
      show XL _ _ _ _ _ _ _ (intsH 2 x4 ar :: pairsD 2 98 x5 rs :: rowsD 2 22 x6 (terms (reachF ar rs ((t)) n).1) :: intsH 2 v2 ((t)) :: cellsH b2 [x4, x5] 36 :: cellsH b1 [arv, rsv] 27 :: L)
      refine XL.cons (XOp.notD (p := ar = ar ∧ rs = rs) rfl ?_)
      refine XL.nil ?_
      refine X.condD (p := ¬(ar = ar ∧ rs = rs)) rfl (fun h5 => ?_) (fun h5 => ?_)
      ·exact absurd (by first | rfl | exact ⟨rfl, rfl⟩ | exact ⟨⟨rfl, rfl⟩, rfl, rfl⟩ | simp) h5
      ·refine X.skip ?_
       refine X.seq ?_
       refine X.seq ?_
       refine X.region ?_
       refine XL.cons (XOp.move (v2) rfl ?_)
       refine XL.cons (XOp.move (tv) rfl ?_)
       refine XL.cons (XOp.call (args := [tv]) Try.call20 rfl (toInt64S_spec ht (hlx := (by first | assumption | rfl | omega | (left; simp; done) | (right; simp; done)))) ?_)
       rintro v3 _ _ _ ⟨rfl, hs3, rfl⟩
       refine XL.cons (XOp.lend [_, _, _, _] _ _ rfl (fun F17 le17 hz10 => ?_))
       refine id (XOp.lend [] _ _ rfl (fun F18 le18 hz11 => ?_))
       have hf10 : IntsF _ v2 ((t)) := (intsH.fz (xs := (t)) hz10).mono le18
       have hf11 : IntsF _ v3 ((t)) := intsH.fz (xs := (t)) hz11
       refine id (XOp.call (args := [v2, v3]) Try.call22 rfl (eqInt64S_spec hf10 hf11 (hbd := (by first | assumption | rfl | omega | (left; simp; done) | (right; simp; done)))) ?_)
       rintro _ _ _ _ ⟨rfl, rfl, rfl⟩
       show XL _ _ _ _ _ _ _ (intsH 2 v2 ((t)) :: intsH 2 v3 ((t)) :: intsH 2 x4 ar :: pairsD 2 98 x5 rs :: rowsD 2 22 x6 (terms (reachF ar rs ((t)) n).1) :: cellsH b2 [x4, x5] 36 :: cellsH b1 [arv, rsv] 27 :: L)
       refine XL.cons (XOp.notD (p := ((t)) = ((t))) rfl ?_)
       refine XL.nil ?_
       refine X.condD (p := ¬(((t)) = ((t)))) rfl (fun h6 => ?_) (fun h6 => ?_)
       ·exact absurd (by first | rfl | exact ⟨rfl, rfl⟩ | exact ⟨⟨rfl, rfl⟩, rfl, rfl⟩ | simp) h6
       ·refine X.skip ?_
        refine X.seq ?_
        refine X.region ?_
        refine XL.cons (XOp.assign (.int .i64 (1)) rfl ?_)
        refine XL.nil ?_
        refine X.seq ?_
        refine X.region ?_
        refine XL.cons (XOp.loadN [x4, x5] Try.isAgg36 Try.sizeOf36 rfl rfl (Rd.ownN [_, _, _, _, _] rfl rfl) ?_)
        refine XL.cons (XOp.move (.int .i64 (1)) rfl ?_)
        refine XL.weaken (Sub.front (A := [_, _, _])) ?_
        show XL _ _ _ _ _ _ _ (pairsD 2 98 x5 rs :: intsH 2 v2 ((t)) :: intsH 2 v3 ((t)) :: intsH 2 x4 ar :: rowsD 2 22 x6 (terms (reachF ar rs ((t)) n).1) :: cellsH b2 [x4, x5] 36 :: cellsH b1 [arv, rsv] 27 :: L)
        refine XL.weaken (Sub.front (A := [_, _, _])) ?_
        show XL _ _ _ _ _ _ _ (intsH 2 x4 ar :: pairsD 2 98 x5 rs :: intsH 2 v2 ((t)) :: intsH 2 v3 ((t)) :: rowsD 2 22 x6 (terms (reachF ar rs ((t)) n).1) :: cellsH b2 [x4, x5] 36 :: cellsH b1 [arv, rsv] 27 :: L)
        refine XL.cons (XOp.call (args := [.agg #[x4, x5], .int .i64 (1)]) Try.call26 rfl (markSystem_spec (by (try simp only [List.length_append]); omega) (by omega)) ?_)
        rintro _ _ _ _ ⟨m1, m2, hm1, hk1, rfl, rfl, rfl⟩
        have hml1 := congrArg List.length hm1
        rw [iota_len] at hml1
        try simp only [List.length_append] at hml1
        refine XL.cons (XOp.assign (.int .i64 (1 + (((ar) ++ (rs.flatMap flatPair)).length : Int))) rfl ?_)
        refine XL.nil ?_
        refine X.seq ?_
        refine X.region ?_
        refine XL.cons (XOp.move (v2) rfl ?_)
        refine XL.cons (XOp.move (.int .i64 (1 + (((ar) ++ (rs.flatMap flatPair)).length : Int))) rfl ?_)
        refine XL.weaken (Sub.front (A := [_, _])) ?_
        show XL _ _ _ _ _ _ _ (intsH 2 v2 ((t)) :: intsH 2 x4 m1 :: pairsD 2 98 x5 m2 :: intsH 2 v3 ((t)) :: rowsD 2 22 x6 (terms (reachF ar rs ((t)) n).1) :: cellsH b2 [x4, x5] 36 :: cellsH b1 [arv, rsv] 27 :: L)
        refine XL.cons (XOp.call (args := [v2, .int .i64 (1 + (((ar) ++ (rs.flatMap flatPair)).length : Int))]) Try.call27 rfl (markInt64S_spec (by (try simp only [List.length_append]); omega)) ?_)
        rintro _ _ _ _ ⟨m3, hm2, rfl, rfl, rfl⟩
        have hml2 := congrArg List.length hm2
        rw [iota_len] at hml2
        try simp only [List.length_append] at hml2
        refine XL.cons (XOp.assign (.int .i64 ((1 + (((ar) ++ (rs.flatMap flatPair)).length : Int)) + (((((t)))).length : Int))) rfl ?_)
        refine XL.nil ?_
        refine X.seq ?_
        refine X.seq ?_
        refine X.region ?_
        refine XL.cons (XOp.move (.int .i64 ((1 + (((ar) ++ (rs.flatMap flatPair)).length : Int)) + (((((t)))).length : Int))) rfl ?_)
        refine XL.cons (XOp.lss (a := (1 + (((ar) ++ (rs.flatMap flatPair)).length : Int)) + (((((t)))).length : Int)) (b := 0) rfl rfl ?_)
        refine XL.cons (XOp.move (.bool (decide (((1 + (((ar) ++ (rs.flatMap flatPair)).length : Int)) + (((((t)))).length : Int) : Int) < 0))) rfl ?_)
        by_cases h7 : ((1 + (((ar) ++ (rs.flatMap flatPair)).length : Int)) + (((((t)))).length : Int) : Int) < 0
        ·exact absurd h7 (by omega)
        ·refine XL.yes (t := 74) rfl (congrArg Value.bool (decide_eq_false h7)) (XOp.move (x6) rfl ?_)
         refine XL.yes (t := 74) rfl (congrArg Value.bool (decide_eq_false h7)) (XOp.move (x3) rfl ?_)
         refine XL.yes (t := 74) rfl (congrArg Value.bool (decide_eq_false h7)) (XOp.lend [_, _, _, _] _ _ rfl (fun F19 le19 hz12 => ?_))
         have hf12 : RowsF _ x6 (terms (reachF ar rs ((t)) n).1) := rowsD.fz hz12
         refine id (XOp.call (args := [x6, x3]) Try.call25 rfl (eqInt64SS_spec hf12 ((hr4.mono le19)) (hal := (by first | assumption | rfl | omega | (left; simp; done) | (right; simp; done))) (hbd := (fun i hi => by have := hnb i; omega))) ?_)
         rintro _ _ _ _ ⟨rfl, rfl, rfl⟩
         show XL _ _ _ _ _ _ _ (rowsD 2 22 x6 (terms (reachF ar rs ((t)) n).1) :: intsH 2 v2 m3 :: intsH 2 x4 m1 :: pairsD 2 98 x5 m2 :: intsH 2 v3 ((t)) :: cellsH b2 [x4, x5] 36 :: cellsH b1 [arv, rsv] 27 :: L)
         refine XL.yes (t := 74) rfl (congrArg Value.bool (decide_eq_false h7)) (XOp.notD (p := (terms (reachF ar rs ((t)) n).1) = (terms (reachF ar rs ((t)) n).1)) rfl ?_)
         refine XL.cons (XOp.pickF (.bool (decide (¬((terms (reachF ar rs ((t)) n).1) = (terms (reachF ar rs ((t)) n).1))))) (congrArg Value.bool (decide_eq_false h7)) rfl ?_)
         refine XL.cons (XOp.move (.bool (decide (¬((terms (reachF ar rs ((t)) n).1) = (terms (reachF ar rs ((t)) n).1))))) rfl ?_)
         refine XL.yes (t := 80) rfl (congrArg Value.bool (decide_eq_false h3)) (XOp.move (.bool ((reachF ar rs ((t)) n).2)) rfl ?_)
         refine XL.yes (t := 80) rfl (congrArg Value.bool (decide_eq_false h3)) (XOp.move (.bool ((reachF ar rs ((t)) n).2)) rfl ?_)
         refine XL.yes (t := 80) rfl (congrArg Value.bool (decide_eq_false h3)) (XOp.neB (a := (reachF ar rs ((t)) n).2) (b := (reachF ar rs ((t)) n).2) Try.runUnderlying4 rfl rfl ?_)
         refine XL.cons (XOp.pickF (.bool (decide (((reachF ar rs ((t)) n).2) ≠ ((reachF ar rs ((t)) n).2)))) (congrArg Value.bool (decide_eq_false h3)) rfl ?_)
         refine XL.nil ?_
         refine X.condF (congrArg Value.bool (decide_eq_false h4)) ?_
         refine X.skip ?_
         refine X.seq ?_
         refine X.region ?_
         refine XL.cons (XOp.assign (.int .i64 (1)) rfl ?_)
         refine XL.nil ?_
         refine X.seq ?_
         refine X.region ?_
         refine XL.cons (XOp.move (x6) rfl ?_)
         refine XL.cons (XOp.move (.int .i64 (1)) rfl ?_)
         refine XL.cons (XOp.call (args := [x6, .int .i64 (1)]) Try.call28 rfl (markInt64SS_spec (by (try simp only [List.length_append]); omega) (by omega)) ?_)
         rintro _ _ _ _ ⟨m4, hm3, hk2, rfl, rfl, rfl⟩
         have hml3 := congrArg List.length hm3
         rw [iota_len] at hml3
         try simp only [List.length_append] at hml3
         refine XL.cons (XOp.assign (.int .i64 (1 + ((((terms (reachF ar rs ((t)) n).1).flatMap flatRow)).length : Int))) rfl ?_)
         refine XL.nil ?_
         refine X.seq ?_
         refine X.region ?_
         refine XL.cons (XOp.assign (.int .i64 (1)) rfl ?_)
         refine XL.nil ?_
         refine X.seq ?_
         refine X.region ?_
         refine XL.cons (XOp.move (x6) rfl ?_)
         refine XL.cons (XOp.move (.int .i64 (1)) rfl ?_)
         refine XL.cons (XOp.lend [] _ _ rfl (fun F20 le20 hz13 => ?_))
         have hf13 : RowsF _ x6 m4 := rowsD.fz hz13
         refine id (XOp.call (args := [x6, .int .i64 (1)]) Try.call29 rfl (heldInt64SS_spec (z := 1) hf13 (hzb := (by constructor <;> omega)) (hxl := (by first | assumption | rfl | omega | (left; simp; done) | (right; simp; done)))) ?_)
         rintro _ _ _ _ ⟨rfl, rfl, rfl⟩
         show XL _ _ _ _ _ _ _ (rowsD 2 22 x6 m4 :: intsH 2 v2 m3 :: intsH 2 x4 m1 :: pairsD 2 98 x5 m2 :: intsH 2 v3 ((t)) :: cellsH b2 [x4, x5] 36 :: cellsH b1 [arv, rsv] 27 :: L)
         refine XL.cons (XOp.assign (.int .i64 (heldF (m4.flatMap flatRow) 1)) rfl ?_)
         refine XL.nil ?_
         refine X.seq ?_
         refine X.seq ?_
         refine X.region ?_
         refine XL.cons (XOp.move (.int .i64 (heldF (m4.flatMap flatRow) 1)) rfl ?_)
         refine XL.cons (XOp.lss (a := heldF (m4.flatMap flatRow) 1) (b := 0) rfl rfl ?_)
         refine XL.nil ?_
         refine X.condD (p := (heldF (m4.flatMap flatRow) 1 : Int) < 0) rfl (fun h8 => ?_) (fun h8 => ?_)
         ·rw [hm3, heldF_iota] at h8
          exact absurd h8 (by omega)
         ·have hh2 := (fun (l : List Int) (k k2 : Int) (n : Nat) (h : l = iota k n) (hk : k2 = k) => show heldF l k2 = k + n from (by subst hk; rw [h, heldF_iota])) _ _ (1) _ hm3 (by first | rfl | omega)
          have hh2l := hh2
          try simp only [List.length_append] at hh2l
          refine X.skip ?_
          refine X.seq ?_
          refine X.seq ?_
          refine X.region ?_
          refine XL.cons (XOp.move (.int .i64 (heldF (m4.flatMap flatRow) 1)) rfl ?_)
          refine XL.cons (XOp.move (.int .i64 (1 + ((((terms (reachF ar rs ((t)) n).1).flatMap flatRow)).length : Int))) rfl ?_)
          refine XL.cons (XOp.neq (a := heldF (m4.flatMap flatRow) 1) (b := 1 + ((((terms (reachF ar rs ((t)) n).1).flatMap flatRow)).length : Int)) rfl rfl ?_)
          refine XL.nil ?_
          refine X.condD (p := (heldF (m4.flatMap flatRow) 1 : Int) ≠ 1 + ((((terms (reachF ar rs ((t)) n).1).flatMap flatRow)).length : Int)) rfl (fun h9 => ?_) (fun h9 => ?_)
          ·exact absurd (by rw [hm3, heldF_iota]) h9
          ·refine X.skip ?_
           refine X.seq ?_
           refine X.region ?_
           refine XL.cons (XOp.loadN [arv, rsv] Try.isAgg27 Try.sizeOf27 rfl rfl (Rd.ownN [_, _, _, _, _, _] rfl rfl) ?_)
           refine XL.cons (XOp.thawL ?_)
           refine id (XOp.call (args := [.agg #[arv, rsv]]) Try.call14 rfl (toSystem_spec har hrs (hla := (by first | assumption | rfl | omega | (left; simp; done) | (right; simp; done))) (hrl := (by first | assumption | rfl | omega | (left; simp; done) | (right; simp; done))) (hrb := (by first | assumption | rfl | omega | (left; simp; done) | (right; simp; done)))) ?_)
           rintro _ F21 _ le21 ⟨x11, x12, rfl, hr16, hr17, hr18, rfl⟩
           refine ⟨[intsH 2 x11 ar, pairsD 2 98 x12 rs], hr18, ?_⟩
           show XL _ _ _ _ _ _ _ (intsH 2 x11 ar :: pairsD 2 98 x12 rs :: rowsD 2 22 x6 m4 :: intsH 2 v2 m3 :: intsH 2 x4 m1 :: pairsD 2 98 x5 m2 :: intsH 2 v3 ((t)) :: cellsH b2 [x4, x5] 36 :: cellsH b1 [arv, rsv] 27 :: L)
           refine XL.cons (XOp.move (tv) rfl ?_)
           refine XL.cons (XOp.call (args := [tv]) Try.call20 rfl (toInt64S_spec ht (hlx := (by first | assumption | rfl | omega | (left; simp; done) | (right; simp; done)))) ?_)
           rintro v4 _ _ _ ⟨rfl, hs4, rfl⟩
           refine XL.cons (XOp.move (.int .i64 (n)) rfl ?_)
           refine XL.cons (XOp.lend [_] _ _ rfl (fun F22 le22 hz14 => ?_))
           refine id (XOp.lend [_] _ _ rfl (fun F23 le23 hz15 => ?_))
           refine id (XOp.lend [] _ _ rfl (fun F24 le24 hz16 => ?_))
           have hf14 : IntsF _ x11 ar := (intsH.fz (xs := ar) hz14).mono (FLe.trans le23 le24)
           have hf15 : PairsF _ x12 rs := (pairsD.fz hz15).mono le24
           have hf16 : IntsF _ v4 ((t)) := intsH.fz (xs := (t)) hz16
           refine id (XOp.thawL ?_)
           refine id (XOp.call (args := [.agg #[x11, x12], v4, .int .i64 (n)]) Try.call24 rfl (ReachOf_spec (n := n) hf14 hf15 hf16 (hlt9 := (by first | assumption | rfl | omega | (left; simp; done) | (right; simp; done)))) ?_)
           rintro _ F25 _ le25 ⟨x13, rfl, hr19, hr20, rfl⟩
           refine ⟨[rowsD 2 22 x13 (terms (reachF ar rs ((t)) n).1)], hr20, ?_⟩
           show XL _ _ _ _ _ _ _ (intsH 2 x11 ar :: pairsD 2 98 x12 rs :: intsH 2 v4 ((t)) :: rowsD 2 22 x13 (terms (reachF ar rs ((t)) n).1) :: rowsD 2 22 x6 m4 :: intsH 2 v2 m3 :: intsH 2 x4 m1 :: pairsD 2 98 x5 m2 :: intsH 2 v3 ((t)) :: cellsH b2 [x4, x5] 36 :: cellsH b1 [arv, rsv] 27 :: L)
           refine XL.cons (XOp.move (.tuple #[x13, .bool ((reachF ar rs ((t)) n).2)]) rfl ?_)
           refine XL.cons (XOp.extract (x13) rfl rfl ?_)
           refine XL.cons (XOp.extract (.bool ((reachF ar rs ((t)) n).2)) rfl rfl ?_)
           refine XL.cons (XOp.assign (x13) rfl ?_)
           refine XL.cons (XOp.assign (.bool ((reachF ar rs ((t)) n).2)) rfl ?_)
           refine XL.nil ?_
           refine X.seq ?_
           refine X.seq ?_
           refine X.region ?_
           refine XL.cons (XOp.move (x13) rfl ?_)
           refine XL.cons (XOp.move (x3) rfl ?_)
           refine XL.cons (XOp.lend [_, _, _] _ _ rfl (fun F26 le26 hz17 => ?_))
           have hf17 : RowsF _ x13 (terms (reachF ar rs ((t)) n).1) := rowsD.fz hz17
           refine id (XOp.call (args := [x13, x3]) Try.call25 rfl (eqInt64SS_spec hf17 ((hr4.mono le26)) (hal := (by first | assumption | rfl | omega | (left; simp; done) | (right; simp; done))) (hbd := (fun i hi => by have := hnb i; omega))) ?_)
           rintro _ _ _ _ ⟨rfl, rfl, rfl⟩
           show XL _ _ _ _ _ _ _ (rowsD 2 22 x13 (terms (reachF ar rs ((t)) n).1) :: intsH 2 x11 ar :: pairsD 2 98 x12 rs :: intsH 2 v4 ((t)) :: rowsD 2 22 x6 m4 :: intsH 2 v2 m3 :: intsH 2 x4 m1 :: pairsD 2 98 x5 m2 :: intsH 2 v3 ((t)) :: cellsH b2 [x4, x5] 36 :: cellsH b1 [arv, rsv] 27 :: L)
           refine XL.cons (XOp.notD (p := (terms (reachF ar rs ((t)) n).1) = (terms (reachF ar rs ((t)) n).1)) rfl ?_)
           refine XL.cons (XOp.move (.bool (decide (¬((terms (reachF ar rs ((t)) n).1) = (terms (reachF ar rs ((t)) n).1))))) rfl ?_)
           refine XL.yes (t := 109) rfl (congrArg Value.bool (decide_eq_false h3)) (XOp.move (.bool ((reachF ar rs ((t)) n).2)) rfl ?_)
           refine XL.yes (t := 109) rfl (congrArg Value.bool (decide_eq_false h3)) (XOp.move (.bool ((reachF ar rs ((t)) n).2)) rfl ?_)
           refine XL.yes (t := 109) rfl (congrArg Value.bool (decide_eq_false h3)) (XOp.neB (a := (reachF ar rs ((t)) n).2) (b := (reachF ar rs ((t)) n).2) Try.runUnderlying4 rfl rfl ?_)
           refine XL.cons (XOp.pickF (.bool (decide (((reachF ar rs ((t)) n).2) ≠ ((reachF ar rs ((t)) n).2)))) (congrArg Value.bool (decide_eq_false h3)) rfl ?_)
           refine XL.nil ?_
           refine X.condF (congrArg Value.bool (decide_eq_false h4)) ?_
           refine X.skip ?_
           refine X.seq ?_
           refine X.region ?_
           refine XL.cons (XOp.assign (.int .i64 (1)) rfl ?_)
           refine XL.nil ?_
           refine X.seq ?_
           refine X.region ?_
           refine XL.cons (XOp.move (x6) rfl ?_)
           refine XL.cons (XOp.move (.int .i64 (1)) rfl ?_)
           refine XL.cons (XOp.lend [_, _, _, _] _ _ rfl (fun F27 le27 hz18 => ?_))
           have hf18 : RowsF _ x6 m4 := rowsD.fz hz18
           refine id (XOp.call (args := [x6, .int .i64 (1)]) Try.call29 rfl (heldInt64SS_spec (z := 1) hf18 (hzb := (by constructor <;> omega)) (hxl := (by first | assumption | rfl | omega | (left; simp; done) | (right; simp; done)))) ?_)
           rintro _ _ _ _ ⟨rfl, rfl, rfl⟩
           show XL _ _ _ _ _ _ _ (rowsD 2 22 x6 m4 :: rowsD 2 22 x13 (terms (reachF ar rs ((t)) n).1) :: intsH 2 x11 ar :: pairsD 2 98 x12 rs :: intsH 2 v4 ((t)) :: intsH 2 v2 m3 :: intsH 2 x4 m1 :: pairsD 2 98 x5 m2 :: intsH 2 v3 ((t)) :: cellsH b2 [x4, x5] 36 :: cellsH b1 [arv, rsv] 27 :: L)
           refine XL.cons (XOp.assign (.int .i64 (heldF (m4.flatMap flatRow) 1)) rfl ?_)
           refine XL.nil ?_
           refine X.seq ?_
           refine X.seq ?_
           refine X.region ?_
           refine XL.cons (XOp.move (.int .i64 (heldF (m4.flatMap flatRow) 1)) rfl ?_)
           refine XL.cons (XOp.lss (a := heldF (m4.flatMap flatRow) 1) (b := 0) rfl rfl ?_)
           refine XL.nil ?_
           refine X.condF (congrArg Value.bool (decide_eq_false h8)) ?_
           refine X.skip ?_
           refine X.seq ?_
           refine X.seq ?_
           refine X.region ?_
           refine XL.cons (XOp.move (.int .i64 (heldF (m4.flatMap flatRow) 1)) rfl ?_)
           refine XL.cons (XOp.move (.int .i64 (1 + ((((terms (reachF ar rs ((t)) n).1).flatMap flatRow)).length : Int))) rfl ?_)
           refine XL.cons (XOp.neq (a := heldF (m4.flatMap flatRow) 1) (b := 1 + ((((terms (reachF ar rs ((t)) n).1).flatMap flatRow)).length : Int)) rfl rfl ?_)
           refine XL.nil ?_
           refine X.condF (congrArg Value.bool (decide_eq_false h9)) ?_
           refine X.skip ?_
           refine X.seq ?_
           refine X.region ?_
           refine XL.cons (XOp.assign (.bool (true)) rfl ?_)
           refine XL.nil ?_
           refine X.ret (retEnd (L' := L) [.bool (true)] (.bool (true)) (.tmp rfl .nil) rfl (FLe.refl _) (FLe.trans (FLe.trans (FLe.trans (FLe.trans le2 le3) le4) le5) le14) (Sub.drop (Sub.drop (Sub.drop (Sub.drop (Sub.drop (Sub.drop (Sub.drop (Sub.drop (Sub.drop (Sub.drop (Sub.drop (Sub.refl _)))))))))))) ?_)
           exact ⟨rfl, rfl, rfl⟩
end Go.Proofs.Ytnloeeaidknblaa
