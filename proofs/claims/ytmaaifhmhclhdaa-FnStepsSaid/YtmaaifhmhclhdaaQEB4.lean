/-
  Walks, one after the other (part 5).
-/
import Derived.Test.YtmaaifhmhclhdaaQEL1
import Derived.Test.YtmaaifhmhclhdaaQEB1
import Derived.Test.YtmaaifhmhclhdaaQEB3
set_option linter.unusedSimpArgs false
set_option linter.unusedVariables false
namespace Go.Proofs.Ytmaaifhmhclhdaa
open Go X M Try

/- laws.big -/
theorem big_spec {F : FH} {L : List HP} {bsv : Value} {bs : List Int} (hbs : BytesF F bsv bs) :
    Does prog 8 [bsv] F (L) (fun v F' L' => (.bool (decide ((bs.length : Int) > 4096)) : Value) = v ∧ F = F' ∧ L = L') := by
 refine Does.of_X func8 rfl rfl rfl ?_
 refine X.seq (X.region ?_)
 refine XL.as (.bool (false)) rfl ?_
 refine XL.nil (X.seq (X.region ?_))
 refine XL.mv (bsv) rfl ?_
 refine cX (XOp.lenS (v := bsv) (n := (bs).length) runUnderlying22 rfl hbs.slv ?_)
 refine cX (XOp.gtr (a := (bs.length : Int)) (b := 4096) rfl rfl ?_)
 refine XL.as (.bool (decide (((bs.length : Int) : Int) > 4096))) rfl ?_
 refine XL.nil ?_
 refine X.ret (retEnd (L' := L) [.bool (decide (((bs.length : Int) : Int) > 4096))] (.bool (decide (((bs.length : Int) : Int) > 4096))) (.tmp rfl .nil) rfl rF rF sR ?_)
 exact ⟨rfl, rfl, rfl⟩

/- impl.StepsFrom -/
theorem iStepsFrom_spec {F : FH} {L : List HP} {arv : Value} {ar : List Int} (har : IntsF F arv ar) {rsv : Value} {rs : List (List Int × List Int)} (hrs : PairsF F rsv rs) {tv : Value} {t : List Int} (ht : IntsF F tv t) :
    Does prog 29 [.agg #[arv, rsv], tv] F (L) (fun v F' L' => ∃ (a : Value), (a : Value) = v ∧ (StepsF F' a (stepsS ar rs t)) ∧ L = L') := by
 refine Does.of_X func29 rfl rfl rfl ?_
 refine X.seq (X.region ?_)
 refine cX (XOp.box [arv, rsv] rfl rfl ?_)
 intro b1
 refine XL.as ((.slice none 0 0)) rfl ?_
 refine XL.nil (X.seq (X.seq (X.region ?_)))
 refine cX (XOp.loadN [arv, rsv] isAgg29 sizeOf29 rfl rfl (Rd.ownN [] rfl rfl) ?_)
 refine cX (XOp.call (args := [.agg #[arv, rsv]]) call51 rfl (SystemOk_spec har hrs) ?_)
 rintro _ _ _ _ ⟨rfl, rfl, rfl⟩
 refine cX (XOp.notB (b := sysOk ar rs) rfl ?_)
 refine XL.mv (.bool (!(sysOk ar rs))) rfl ?_
 by_cases h1 : (!(sysOk ar rs)) = true
 ·refine XL.no (t := 10) rfl (vB h1) ?_
  refine XL.no (t := 10) rfl (vB h1) ?_
  refine XL.no (t := 10) rfl (vB h1) ?_
  refine XL.no (t := 10) rfl (vB h1) ?_
  refine XL.no (t := 10) rfl (vB h1) ?_
  refine cX (XOp.pickT (.bool (true)) (vB h1) rfl ?_)
  refine XL.nil ?_
  refine X.condT rfl ?_
  refine X.seq (X.region ?_)
  refine XL.as ((.slice none 0 0)) rfl ?_
  refine XL.nil ?_
  refine X.ret (thenQ_ret (retEnd (L' := L) [(.slice none 0 0)] ((.slice none 0 0)) (.tmp rfl .nil) rfl rF rF (sD sR) ?_))
  have hri : rightB ar rs t = false := by unfold rightB; simp_all
  rw [stepsS_no hri]
  exact ⟨_, rfl, SlOf.nilV, rfl⟩
 rw [Bool.not_eq_true] at h1
 refine XL.yes (t := 10) rfl (vB h1) (XOp.fieldP (b := b1) (0) runUnderlying29 rfl sizeOf26 (by decide) rfl rfl ?_)
 refine XL.yes (t := 10) rfl (vB h1) (XOp.loadN [arv] isAgg26 sizeOf26 rfl rfl (Rd.ownN [] rfl rfl) ?_)
 refine XL.yes (t := 10) rfl (vB h1) (XOp.move (tv) rfl ?_)
 refine XL.yes (t := 10) rfl (vB h1) (XOp.call (args := [.agg #[arv], tv]) call52 rfl (TermOk_spec har ht) ?_)
 rintro _ _ _ _ ⟨rfl, rfl, rfl⟩
 refine XL.yes (t := 10) rfl (vB h1) (XOp.notB (b := termOk ar t) rfl ?_)
 refine cX (XOp.pickF (.bool (!(termOk ar t))) (vB h1) rfl ?_)
 refine XL.nil ?_
 refine X.cond (t := !(termOk ar t)) rfl (fun h2 => ?_) (fun h2 => ?_)
 ·refine X.seq (X.region ?_)
  refine XL.as ((.slice none 0 0)) rfl ?_
  refine XL.nil ?_
  refine X.ret (thenQ_ret (retEnd (L' := L) [(.slice none 0 0)] ((.slice none 0 0)) (.tmp rfl .nil) rfl rF rF (sD sR) ?_))
  have hri : rightB ar rs t = false := by unfold rightB; simp_all
  rw [stepsS_no hri]
  exact ⟨_, rfl, SlOf.nilV, rfl⟩
 have hri : rightB ar rs t = true := by unfold rightB; simp_all
 have hsys := (right_iff.1 hri).1
 have ho := (right_iff.1 hri).2
 refine X.skip (X.seq (X.region ?_))
 refine cX (XOp.loadN [arv, rsv] isAgg29 sizeOf29 rfl rfl (Rd.ownN [] rfl rfl) ?_)
 refine XL.mv (tv) rfl ?_
 refine cX (XOp.call (args := [.agg #[arv, rsv], tv]) call78 rfl (stepsFrom_spec har hrs ht (hsys := (by first | assumption | rfl | omega | (left; simp; done) | (right; simp; done))) (ho := (by first | assumption | rfl | omega | (left; simp; done) | (right; simp; done)))) ?_)
 rintro _ F1 _ le1 ⟨x1, rfl, hx1, rfl⟩
 refine XL.mv (.tuple #[x1, .bool (longL ar rs t)]) rfl ?_
 refine cX (XOp.extract (x1) rfl rfl ?_)
 refine cX (XOp.extract (.bool (longL ar rs t)) rfl rfl ?_)
 refine XL.as (x1) rfl ?_
 refine XL.as (.bool (longL ar rs t)) rfl ?_
 refine XL.nil (X.seq (X.region ?_))
 refine XL.mv (x1) rfl ?_
 refine XL.as (x1) rfl ?_
 refine XL.nil ?_
 refine X.ret (retEnd (L' := L) [x1] (x1) (.tmp rfl .nil) rfl le1 rF (sD sR) ?_)
 rw [stepsS_yes hri]
 exact ⟨_, rfl, hx1.steps, rfl⟩

/- spec.StepsFrom -/
theorem sStepsFromS_spec {F : FH} {L : List HP} {arv : Value} {ar : List Int} (har : IntsF F arv ar) {rsv : Value} {rs : List (List Int × List Int)} (hrs : PairsF F rsv rs) {tv : Value} {t : List Int} (ht : IntsF F tv t) (hla : ar.length ≤ 4000000) (hlr : rs.length ≤ 4000000) (hrb : ∀ i, i < rs.length → (rs.getD i ([], [])).1.length ≤ 4000000 ∧ (rs.getD i ([], [])).2.length ≤ 4000000) (hlt : t.length ≤ 4000000) :
    Does prog 24 [.agg #[arv, rsv], tv] F (L) (fun v F' L' => ∃ (a : Value), (a : Value) = v ∧ (StepsF F' a (stepsS ar rs t)) ∧ L = L') := by
 refine Does.of_X func24 rfl rfl rfl ?_
 refine X.seq (X.region ?_)
 refine cX (XOp.box [arv, rsv] rfl rfl ?_)
 intro b1
 refine XL.as ((.slice none 0 0)) rfl ?_
 refine XL.nil (X.seq (X.seq (X.region ?_)))
 refine cX (XOp.loadN [arv, rsv] isAgg29 sizeOf29 rfl rfl (Rd.ownN [] rfl rfl) ?_)
 refine XL.mv (tv) rfl ?_
 refine cX (XOp.call (args := [.agg #[arv, rsv], tv]) call57 rfl (l7Right_spec har hrs ht (hla := (by first | assumption | rfl | omega | simp)) (hlr := (by first | assumption | rfl | omega | simp)) (hrb := (by first | assumption | rfl | omega | simp)) (hlt := (by first | assumption | rfl | omega | simp))) ?_)
 rintro _ _ _ _ ⟨rfl, rfl, rfl⟩
 refine cX (XOp.notB (b := rightB ar rs t) rfl ?_)
 refine XL.nil ?_
 refine X.cond (t := !(rightB ar rs t)) rfl (fun h1 => ?_) (fun h1 => ?_)
 ·refine X.seq (X.region ?_)
  refine cX (XOp.buildSlice (s := 3) [] [.int .i64 (0), .int .i64 (0), (.slice none 0 0)] [] runUnderlying45 sizeOf48 zeroValue48 rfl (by decide) rfl CellsAre.nil rfl ?_)
  intro v1 hv1
  refine XL.as (v1) rfl ?_
  refine XL.nil ?_
  have hc1 : StepsC F [] ([] : List StepT) := (CO.nil : StepsC F [] [])
  refine X.freezeF [] _ _ rfl (fun F1 le1 hz1 => ?_)
  replace har := har.mono le1
  replace hrs := hrs.mono le1
  replace ht := ht.mono le1
  replace hc1 := hc1.mono le1
  have hf1 : StepsF F1 v1 (([] : List StepT)) := CO.fz hc1 (by first | rfl | simp | omega) hz1.fz
  refine X.ret (thenQ_ret (retEnd (L' := L) [v1] (v1) (.tmp rfl .nil) rfl le1 rF (sD sR) ?_))
  have hri : rightB ar rs t = false := by simp_all
  rw [stepsS_no hri]
  exact ⟨_, rfl, hf1, rfl⟩
 have hri : rightB ar rs t = true := by simpa using h1
 have hsys := (right_iff.1 hri).1
 have ho := (right_iff.1 hri).2
 refine X.skip (X.seq (X.region ?_))
 refine cX (XOp.loadN [arv, rsv] isAgg29 sizeOf29 rfl rfl (Rd.ownN [] rfl rfl) ?_)
 refine XL.mv (tv) rfl ?_
 refine cX (XOp.call (args := [.agg #[arv, rsv], tv]) call68 rfl (l7Steps_spec har hrs ht (hsys := (by first | assumption | rfl | omega | simp)) (ho := (by first | assumption | rfl | omega | simp))) ?_)
 rintro _ F2 _ le2 ⟨x1, rfl, hr1, rfl⟩
 refine XL.as (x1) rfl ?_
 refine XL.nil ?_
 refine X.ret (retEnd (L' := L) [x1] (x1) (.tmp rfl .nil) rfl le2 rF (sD sR) ?_)
 rw [stepsS_yes hri]
 exact ⟨_, rfl, hr1, rfl⟩

/- impl.NormalIn -/
theorem iNormalIn_spec {F : FH} {L : List HP} {arv : Value} {ar : List Int} (har : IntsF F arv ar) {rsv : Value} {rs : List (List Int × List Int)} (hrs : PairsF F rsv rs) {tv : Value} {t : List Int} (ht : IntsF F tv t) :
    Does prog 30 [.agg #[arv, rsv], tv] F (L) (fun v F' L' => (.bool ((rightB ar rs t && normalL ar rs t)) : Value) = v ∧ F = F' ∧ L = L') := by
 refine Does.of_X func30 rfl rfl rfl ?_
 refine X.seq (X.region ?_)
 refine cX (XOp.box [arv, rsv] rfl rfl ?_)
 intro b1
 refine XL.as (.bool (false)) rfl ?_
 refine XL.nil (X.seq (X.region ?_))
 refine cX (XOp.loadN [arv, rsv] isAgg29 sizeOf29 rfl rfl (Rd.ownN [] rfl rfl) ?_)
 refine cX (XOp.call (args := [.agg #[arv, rsv]]) call51 rfl (SystemOk_spec har hrs) ?_)
 rintro _ _ _ _ ⟨rfl, rfl, rfl⟩
 refine XL.mv (.bool (sysOk ar rs)) rfl ?_
 by_cases h1 : (sysOk ar rs) = true
 ·refine XL.yes (t := 7) rfl (vB h1) (XOp.fieldP (b := b1) (0) runUnderlying29 rfl sizeOf26 (by decide) rfl rfl ?_)
  refine XL.yes (t := 7) rfl (vB h1) (XOp.loadN [arv] isAgg26 sizeOf26 rfl rfl (Rd.ownN [] rfl rfl) ?_)
  refine XL.yes (t := 7) rfl (vB h1) (XOp.move (tv) rfl ?_)
  refine XL.yes (t := 7) rfl (vB h1) (XOp.call (args := [.agg #[arv], tv]) call52 rfl (TermOk_spec har ht) ?_)
  rintro _ _ _ _ ⟨rfl, rfl, rfl⟩
  refine cX (XOp.pickT (.bool (termOk ar t)) (vB h1) rfl ?_)
  refine XL.mv (.bool (termOk ar t)) rfl ?_
  by_cases h2 : (termOk ar t) = true
  ·refine XL.yes (t := 13) rfl (vB h2) (XOp.loadN [arv, rsv] isAgg29 sizeOf29 rfl rfl (Rd.ownN [] rfl rfl) ?_)
   refine XL.yes (t := 13) rfl (vB h2) (XOp.move (tv) rfl ?_)
   refine XL.yes (t := 13) rfl (vB h2) (XOp.call (args := [.agg #[arv, rsv], tv]) call79 rfl (normal_spec har hrs ht (hsys := (by first | assumption | rfl | omega | simp)) (ho := (by first | assumption | rfl | omega | simp))) ?_)
   rintro _ _ _ _ ⟨rfl, rfl, rfl⟩
   refine cX (XOp.pickT (.bool (normalL ar rs t)) (vB h2) rfl ?_)
   refine XL.as (.bool (normalL ar rs t)) rfl ?_
   refine XL.nil ?_
   refine X.ret (retEnd (L' := L) [.bool (normalL ar rs t)] (.bool (normalL ar rs t)) (.tmp rfl .nil) rfl rF rF (sD sR) ?_)
   exact ⟨(vB (by unfold rightB; simp_all)), rfl, rfl⟩
  rw [Bool.not_eq_true] at h2
  refine XL.no (t := 13) rfl (vB h2) ?_
  refine XL.no (t := 13) rfl (vB h2) ?_
  refine XL.no (t := 13) rfl (vB h2) ?_
  refine cX (XOp.pickF (.bool (false)) (vB h2) rfl ?_)
  refine XL.as (.bool (false)) rfl ?_
  refine XL.nil ?_
  refine X.ret (retEnd (L' := L) [.bool (false)] (.bool (false)) (.tmp rfl .nil) rfl rF rF (sD sR) ?_)
  exact ⟨(vB (by unfold rightB; simp_all)), rfl, rfl⟩
 rw [Bool.not_eq_true] at h1
 refine XL.no (t := 7) rfl (vB h1) ?_
 refine XL.no (t := 7) rfl (vB h1) ?_
 refine XL.no (t := 7) rfl (vB h1) ?_
 refine XL.no (t := 7) rfl (vB h1) ?_
 refine cX (XOp.pickF (.bool (false)) (vB h1) rfl ?_)
 refine XL.mv (.bool (false)) rfl ?_
 refine XL.no (t := 13) rfl rfl ?_
 refine XL.no (t := 13) rfl rfl ?_
 refine XL.no (t := 13) rfl rfl ?_
 refine cX (XOp.pickF (.bool (false)) rfl rfl ?_)
 refine XL.as (.bool (false)) rfl ?_
 refine XL.nil ?_
 refine X.ret (retEnd (L' := L) [.bool (false)] (.bool (false)) (.tmp rfl .nil) rfl rF rF (sD sR) ?_)
 exact ⟨(vB (by unfold rightB; simp_all)), rfl, rfl⟩

/- impl.SameTerm -/
theorem iSameTerm_spec {F : FH} {L : List HP} {av : Value} {a : List Int} (ha : IntsF F av a) {bv : Value} {b : List Int} (hb : IntsF F bv b) (hbd : a.length ≤ 9223372036854775807 ∨ b.length ≤ 9223372036854775807) :
    Does prog 34 [av, bv] F (L) (fun v F' L' => (.bool (decide (a = b)) : Value) = v ∧ F = F' ∧ L = L') := by
 refine Does.of_X func34 rfl rfl rfl ?_
 refine X.seq (X.region ?_)
 refine XL.as (.bool (false)) rfl ?_
 refine XL.nil (X.seq (X.region ?_))
 refine XL.mv (av) rfl ?_
 refine XL.mv (bv) rfl ?_
 refine cX (XOp.call (args := [av, bv]) call73 rfl (Equal_spec ha hb (hbd := (by first | assumption | rfl | omega | (left; simp; done) | (right; simp; done)))) ?_)
 rintro _ _ _ _ ⟨rfl, rfl, rfl⟩
 refine XL.as (.bool (decide (a = b))) rfl ?_
 refine XL.nil ?_
 refine X.ret (retEnd (L' := L) [.bool (decide (a = b))] (.bool (decide (a = b))) (.tmp rfl .nil) rfl rF rF sR ?_)
 exact ⟨rfl, rfl, rfl⟩

/- impl.RedexAt -/
theorem RedexAt_spec {F : FH} {L : List HP} {arv : Value} {ar : List Int} (har : IntsF F arv ar) {rsv : Value} {rs : List (List Int × List Int)} (hrs : PairsF F rsv rs) {tv : Value} {t : List Int} (ht : IntsF F tv t) {p : Int} {r : Int} :
    Does prog 19 [.agg #[arv, rsv], tv, .int .i64 (p), .int .i64 (r)] F (L) (fun v F' L' => (.bool (redAtL ar rs t p r) : Value) = v ∧ F = F' ∧ L = L') := by
 refine Does.of_X func19 rfl rfl rfl ?_
 refine X.seq (X.region ?_)
 refine cX (XOp.box [arv, rsv] rfl rfl ?_)
 intro b1
 refine XL.as (.bool (false)) rfl ?_
 refine XL.nil (X.seq (X.region ?_))
 refine cX (XOp.loadN [arv, rsv] isAgg29 sizeOf29 rfl rfl (Rd.ownN [] rfl rfl) ?_)
 refine XL.mv (tv) rfl ?_
 refine XL.mv (.int .i64 (p)) rfl ?_
 refine XL.mv (.int .i64 (r)) rfl ?_
 refine cX (XOp.call (args := [.agg #[arv, rsv], tv, .int .i64 (p), .int .i64 (r)]) call65 rfl (stepArgs_spec (p := p) (r := r) har hrs ht) ?_)
 rintro _ _ _ _ ⟨rfl, rfl, rfl⟩
 refine XL.mv (.bool (stepAtOk ar rs t p r)) rfl ?_
 by_cases h1 : (stepAtOk ar rs t p r) = true
 ·have hok2 : stepAtOk ar rs t p r = true := h1
  unfold stepAtOk rightB at hok2
  simp only [Bool.and_eq_true, decide_eq_true_eq] at hok2
  obtain ⟨⟨⟨hsys, ho⟩, hp1⟩, hr1⟩ := hok2
  refine XL.yes (t := 14) rfl (vB h1) (XOp.loadN [arv, rsv] isAgg29 sizeOf29 rfl rfl (Rd.ownN [] rfl rfl) ?_)
  refine XL.yes (t := 14) rfl (vB h1) (XOp.move (tv) rfl ?_)
  refine XL.yes (t := 14) rfl (vB h1) (XOp.move (.int .i64 (p)) rfl ?_)
  refine XL.yes (t := 14) rfl (vB h1) (XOp.move (.int .i64 (r)) rfl ?_)
  refine XL.yes (t := 14) rfl (vB h1) (XOp.call (args := [.agg #[arv, rsv], tv, .int .i64 (((p).toNat : Nat) : Int), .int .i64 (((r).toNat : Nat) : Int)]) call66 (by rw [show (((p).toNat : Nat) : Int) = p from by omega, show (((r).toNat : Nat) : Int) = r from by omega]; rfl) (redex_spec (p := (p).toNat) (r := (r).toNat) har hrs ht (hsys := (by first | assumption | rfl | omega | simp)) (ho := (by first | assumption | rfl | omega | simp)) (hp := (by first | assumption | rfl | omega | simp)) (hr := (by first | assumption | rfl | omega | simp))) ?_)
  rintro _ _ _ _ ⟨rfl, rfl, rfl⟩
  refine cX (XOp.pickT (.bool (isRedex ar rs t ((p).toNat) ((r).toNat))) (vB h1) rfl ?_)
  refine XL.as (.bool (isRedex ar rs t ((p).toNat) ((r).toNat))) rfl ?_
  refine XL.nil ?_
  refine X.ret (retEnd (L' := L) [.bool (isRedex ar rs t ((p).toNat) ((r).toNat))] (.bool (isRedex ar rs t ((p).toNat) ((r).toNat))) (.tmp rfl .nil) rfl rF rF (sD sR) ?_)
  exact ⟨(vB (by unfold redAtL; simp_all)), rfl, rfl⟩
 rw [Bool.not_eq_true] at h1
 refine XL.no (t := 14) rfl (vB h1) ?_
 refine XL.no (t := 14) rfl (vB h1) ?_
 refine XL.no (t := 14) rfl (vB h1) ?_
 refine XL.no (t := 14) rfl (vB h1) ?_
 refine XL.no (t := 14) rfl (vB h1) ?_
 refine cX (XOp.pickF (.bool (false)) (vB h1) rfl ?_)
 refine XL.as (.bool (false)) rfl ?_
 refine XL.nil ?_
 refine X.ret (retEnd (L' := L) [.bool (false)] (.bool (false)) (.tmp rfl .nil) rfl rF rF (sD sR) ?_)
 exact ⟨(vB (by unfold redAtL; simp_all)), rfl, rfl⟩

/- laws.w5Steps -/
set_option maxRecDepth 20000 in
theorem w5Steps_spec {F : FH} {L : List HP} {xsv : Value} {xs : List StepT} (hxs : StepsF F xsv xs) {ysv : Value} (hys : StepsF F ysv xs) (hbd : xs.length ≤ 4000000) (hbe : ∀ i, i < xs.length → (xs.getD i (0, 0, [])).2.2.length ≤ 4000000) :
    Does prog 31 [xsv, ysv] F (L) (fun v F' L' => (.bool (true) : Value) = v ∧ F = F' ∧ L = L') := by
 refine Does.of_X func31 rfl rfl rfl ?_
 refine X.seq (X.region ?_)
 refine XL.as (.bool (false)) rfl ?_
 refine XL.nil (X.seq (X.seq (X.region ?_)))
 refine XL.mv (xsv) rfl ?_
 refine cX (XOp.lenS (v := xsv) (n := (xs).length) runUnderlying45 rfl hxs.slv ?_)
 refine XL.mv (ysv) rfl ?_
 refine cX (XOp.lenS (v := ysv) (n := (xs).length) runUnderlying45 rfl hys.slv ?_)
 refine cX (XOp.neq (a := (xs.length : Int)) (b := (xs.length : Int)) rfl rfl ?_)
 refine XL.nil ?_
 refine X.condD (p := ((xs.length : Int) : Int) ≠ (xs.length : Int)) rfl (fun h1 => ?_) (fun h1 => ?_)
 ·exact absurd rfl h1
 refine X.skip (X.seq (X.seq (X.region ?_)))
 refine XL.as (.int .i64 (0)) rfl ?_
 refine XL.nil (X.block ?_)
 refine X.loop (α := Nat) (fun k => [(0, xsv), (1, ysv), (5, .int .i64 ((k : Int)))]) (fun k => L) (fun k F' => F = F' ∧ (k ≤ xs.length)) (fun k => xs.length - k) 0 ⟨rfl, rfl, rfl, trivial⟩ sR ⟨rfl, (Nat.zero_le _)⟩ ?_
 rintro k rE _ _ ⟨rfl, hk⟩
 show X _ _ _ _ (envs [(0, xsv), (1, ysv), (5, .int .i64 ((k : Int)))] rE) _ (L)
 refine X.seq (X.seq (X.region ?_))
 refine XL.mv (.int .i64 ((k : Int))) rfl ?_
 refine XL.mv (xsv) rfl ?_
 refine cX (XOp.lenS (v := xsv) (n := (xs).length) runUnderlying45 rfl hxs.slv ?_)
 refine cX (XOp.lss (a := (k : Int)) (b := (xs.length : Int)) rfl rfl ?_)
 refine XL.nil ?_
 refine X.condD (p := (k : Int) < (xs.length : Int)) rfl (fun h2 => ?_) (fun h2 => ?_)
 ·refine X.skip (X.seq (X.block (X.seq ?_)))
  obtain ⟨a1, ha1, hr1, hr2, hr3⟩ := hxs.rd (i := k) (by omega)
  obtain ⟨a2, ha2, hr4, hr5, hr6⟩ := hys.rd (i := k) (by omega)
  by_cases h3 : ((xs.getD k (0, 0, [])).1 : Int) ≠ (xs.getD k (0, 0, [])).1
  ·exact absurd rfl h3
  by_cases h4 : ((xs.getD k (0, 0, [])).2.1 : Int) ≠ (xs.getD k (0, 0, [])).2.1
  ·exact absurd rfl h4
  refine X.draw [] L 35 [[], [], [], [], [], [], [], [], [], [], [], [], [], [], [], [], [], [], [], [], [], [], [], [], [], [], [], [], [], [], [], [], [], [], []] [[], [], [0, 1], [2], [3], [], [], [5, 6], [7], [8], [4, 9], [10], [11], [11], [11, 12, 13], [11, 14], [11, 15], [11], [11], [11, 17, 18], [11, 19], [11, 20], [11, 16, 21], [11, 22], [23], [24], [24], [24, 25, 26], [24, 27], [24, 28], [24], [24], [24, 30, 31], [24, 32], [24, 33]] (phiL [fun us v => v = xsv, fun us v => v = (.int .i64 ((k : Int)) : Value), fun us v => v = (.pointer (some (elemA xsv (k * 3))) : Value), fun us v => v = (.pointer (some (elemA xsv (k * 3))) : Value), fun us v => v = (.int .i64 ((xs.getD k (0, 0, [])).1) : Value), fun us v => v = ysv, fun us v => v = (.int .i64 ((k : Int)) : Value), fun us v => v = (.pointer (some (elemA ysv (k * 3))) : Value), fun us v => v = (.pointer (some (elemA ysv (k * 3))) : Value), fun us v => v = (.int .i64 ((xs.getD k (0, 0, [])).1) : Value), fun us v => v = (.bool (decide (((xs.getD k (0, 0, [])).1 : Int) ≠ (xs.getD k (0, 0, [])).1)) : Value), fun us v => v = (.bool (decide (((xs.getD k (0, 0, [])).1 : Int) ≠ (xs.getD k (0, 0, [])).1)) : Value), fun us v => v = xsv, fun us v => v = (.int .i64 ((k : Int)) : Value), fun us v => v = (.pointer (some (elemA xsv (k * 3))) : Value), fun us v => v = (.pointer (some (elemA xsv (k * 3 + 1))) : Value), fun us v => v = (.int .i64 ((xs.getD k (0, 0, [])).2.1) : Value), fun us v => v = ysv, fun us v => v = (.int .i64 ((k : Int)) : Value), fun us v => v = (.pointer (some (elemA ysv (k * 3))) : Value), fun us v => v = (.pointer (some (elemA ysv (k * 3 + 1))) : Value), fun us v => v = (.int .i64 ((xs.getD k (0, 0, [])).2.1) : Value), fun us v => v = (.bool (decide (((xs.getD k (0, 0, [])).2.1 : Int) ≠ (xs.getD k (0, 0, [])).2.1)) : Value), fun us v => v = (.bool (decide (((xs.getD k (0, 0, [])).2.1 : Int) ≠ (xs.getD k (0, 0, [])).2.1)) : Value), fun us v => v = (.bool (decide (((xs.getD k (0, 0, [])).2.1 : Int) ≠ (xs.getD k (0, 0, [])).2.1)) : Value), fun us v => v = xsv, fun us v => v = (.int .i64 ((k : Int)) : Value), fun us v => v = (.pointer (some (elemA xsv (k * 3))) : Value), fun us v => v = (.pointer (some (elemA xsv (k * 3 + 2))) : Value), fun us v => v = a1, fun us v => v = ysv, fun us v => v = (.int .i64 ((k : Int)) : Value), fun us v => v = (.pointer (some (elemA ysv (k * 3))) : Value), fun us v => v = (.pointer (some (elemA ysv (k * 3 + 2))) : Value), fun us v => v = a2]) (ownL [fun us v => [], fun us v => [], fun us v => [], fun us v => [], fun us v => [], fun us v => [], fun us v => [], fun us v => [], fun us v => [], fun us v => [], fun us v => [], fun us v => [], fun us v => [], fun us v => [], fun us v => [], fun us v => [], fun us v => [], fun us v => [], fun us v => [], fun us v => [], fun us v => [], fun us v => [], fun us v => [], fun us v => [], fun us v => [], fun us v => [], fun us v => [], fun us v => [], fun us v => [], fun us v => [], fun us v => [], fun us v => [], fun us v => [], fun us v => [], fun us v => []]) mixed rfl rfl (by kernel_rfl) ?_ ?_
  ·refine pC (fun vals R hpZ => ?_) ?_
   ·refine XG.op (XOp.move (xsv) rfl ?_)
    exact ⟨rfl, rfl, rfl⟩
   refine pC (fun vals R hpZ => ?_) ?_
   ·refine XG.op (XOp.move (.int .i64 ((k : Int))) rfl ?_)
    exact ⟨rfl, rfl, rfl⟩
   refine pC (fun vals R hpZ => ?_) ?_
   ·rw [eS (l := [(0, xsv), (1, (.int .i64 ((k : Int)) : Value))]) ⟨hpZ 0 (by decide), hpZ 1 (by decide), trivial⟩]
    refine XG.op (XOp.indexS (v := xsv) (i := (k : Int)) (n := (xs).length) k runUnderlying45 sizeOf48 rfl rfl rfl hxs.slv (by omega) rfl ?_)
    exact ⟨rfl, rfl, rfl⟩
   refine pC (fun vals R hpZ => ?_) ?_
   ·rw [eS (l := [(2, (.pointer (some (elemA xsv (k * 3))) : Value))]) ⟨hpZ 2 (by decide), trivial⟩]
    refine XG.op (XOp.fieldE (v := xsv) (k * 3) runUnderlying48 rfl sizeOf2 (by decide) rfl rfl ?_)
    exact ⟨rfl, rfl, rfl⟩
   refine pC (fun vals R hpZ => ?_) ?_
   ·rw [eS (l := [(3, (.pointer (some (elemA xsv (k * 3))) : Value))]) ⟨hpZ 3 (by decide), trivial⟩]
    refine XG.op (XOp.load1 (v := .int .i64 ((xs.getD k (0, 0, [])).1)) isAgg2 rfl (hr1 _) ?_)
    exact ⟨rfl, rfl, rfl⟩
   refine pC (fun vals R hpZ => ?_) ?_
   ·refine XG.op (XOp.move (ysv) rfl ?_)
    exact ⟨rfl, rfl, rfl⟩
   refine pC (fun vals R hpZ => ?_) ?_
   ·refine XG.op (XOp.move (.int .i64 ((k : Int))) rfl ?_)
    exact ⟨rfl, rfl, rfl⟩
   refine pC (fun vals R hpZ => ?_) ?_
   ·rw [eS (l := [(5, ysv), (6, (.int .i64 ((k : Int)) : Value))]) ⟨hpZ 5 (by decide), hpZ 6 (by decide), trivial⟩]
    refine XG.op (XOp.indexS (v := ysv) (i := (k : Int)) (n := (xs).length) k runUnderlying45 sizeOf48 rfl rfl rfl hys.slv (by omega) rfl ?_)
    exact ⟨rfl, rfl, rfl⟩
   refine pC (fun vals R hpZ => ?_) ?_
   ·rw [eS (l := [(7, (.pointer (some (elemA ysv (k * 3))) : Value))]) ⟨hpZ 7 (by decide), trivial⟩]
    refine XG.op (XOp.fieldE (v := ysv) (k * 3) runUnderlying48 rfl sizeOf2 (by decide) rfl rfl ?_)
    exact ⟨rfl, rfl, rfl⟩
   refine pC (fun vals R hpZ => ?_) ?_
   ·rw [eS (l := [(8, (.pointer (some (elemA ysv (k * 3))) : Value))]) ⟨hpZ 8 (by decide), trivial⟩]
    refine XG.op (XOp.load1 (v := .int .i64 ((xs.getD k (0, 0, [])).1)) isAgg2 rfl (hr4 _) ?_)
    exact ⟨rfl, rfl, rfl⟩
   refine pC (fun vals R hpZ => ?_) ?_
   ·rw [eS (l := [(4, (.int .i64 ((xs.getD k (0, 0, [])).1) : Value)), (9, (.int .i64 ((xs.getD k (0, 0, [])).1) : Value))]) ⟨hpZ 4 (by decide), hpZ 9 (by decide), trivial⟩]
    refine XG.op (XOp.neq (a := (xs.getD k (0, 0, [])).1) (b := (xs.getD k (0, 0, [])).1) rfl rfl ?_)
    exact ⟨rfl, rfl, rfl⟩
   refine pC (fun vals R hpZ => ?_) ?_
   ·rw [eS (l := [(10, (.bool (decide (((xs.getD k (0, 0, [])).1 : Int) ≠ (xs.getD k (0, 0, [])).1)) : Value))]) ⟨hpZ 10 (by decide), trivial⟩]
    refine XG.op (XOp.move (.bool (decide (((xs.getD k (0, 0, [])).1 : Int) ≠ (xs.getD k (0, 0, [])).1))) rfl ?_)
    exact ⟨rfl, rfl, rfl⟩
   refine pC (fun vals R hpZ => ?_) ?_
   ·rw [eS (l := [(11, (.bool (decide (((xs.getD k (0, 0, [])).1 : Int) ≠ (xs.getD k (0, 0, [])).1)) : Value))]) ⟨hpZ 11 (by decide), trivial⟩]
    refine XG.yes (t := 28) rfl (vF h3) (XOp.move (xsv) rfl ?_)
    exact ⟨rfl, rfl, rfl⟩
   refine pC (fun vals R hpZ => ?_) ?_
   ·rw [eS (l := [(11, (.bool (decide (((xs.getD k (0, 0, [])).1 : Int) ≠ (xs.getD k (0, 0, [])).1)) : Value))]) ⟨hpZ 11 (by decide), trivial⟩]
    refine XG.yes (t := 28) rfl (vF h3) (XOp.move (.int .i64 ((k : Int))) rfl ?_)
    exact ⟨rfl, rfl, rfl⟩
   refine pC (fun vals R hpZ => ?_) ?_
   ·rw [eS (l := [(11, (.bool (decide (((xs.getD k (0, 0, [])).1 : Int) ≠ (xs.getD k (0, 0, [])).1)) : Value)), (12, xsv), (13, (.int .i64 ((k : Int)) : Value))]) ⟨hpZ 11 (by decide), hpZ 12 (by decide), hpZ 13 (by decide), trivial⟩]
    refine XG.yes (t := 28) rfl (vF h3) (XOp.indexS (v := xsv) (i := (k : Int)) (n := (xs).length) k runUnderlying45 sizeOf48 rfl rfl rfl hxs.slv (by omega) rfl ?_)
    exact ⟨rfl, rfl, rfl⟩
   refine pC (fun vals R hpZ => ?_) ?_
   ·rw [eS (l := [(11, (.bool (decide (((xs.getD k (0, 0, [])).1 : Int) ≠ (xs.getD k (0, 0, [])).1)) : Value)), (14, (.pointer (some (elemA xsv (k * 3))) : Value))]) ⟨hpZ 11 (by decide), hpZ 14 (by decide), trivial⟩]
    refine XG.yes (t := 28) rfl (vF h3) (XOp.fieldE (v := xsv) (k * 3 + 1) runUnderlying48 rfl sizeOf2 (by decide) rfl rfl ?_)
    exact ⟨rfl, rfl, rfl⟩
   refine pC (fun vals R hpZ => ?_) ?_
   ·rw [eS (l := [(11, (.bool (decide (((xs.getD k (0, 0, [])).1 : Int) ≠ (xs.getD k (0, 0, [])).1)) : Value)), (15, (.pointer (some (elemA xsv (k * 3 + 1))) : Value))]) ⟨hpZ 11 (by decide), hpZ 15 (by decide), trivial⟩]
    refine XG.yes (t := 28) rfl (vF h3) (XOp.load1 (v := .int .i64 ((xs.getD k (0, 0, [])).2.1)) isAgg2 rfl (hr2 _) ?_)
    exact ⟨rfl, rfl, rfl⟩
   refine pC (fun vals R hpZ => ?_) ?_
   ·rw [eS (l := [(11, (.bool (decide (((xs.getD k (0, 0, [])).1 : Int) ≠ (xs.getD k (0, 0, [])).1)) : Value))]) ⟨hpZ 11 (by decide), trivial⟩]
    refine XG.yes (t := 28) rfl (vF h3) (XOp.move (ysv) rfl ?_)
    exact ⟨rfl, rfl, rfl⟩
   refine pC (fun vals R hpZ => ?_) ?_
   ·rw [eS (l := [(11, (.bool (decide (((xs.getD k (0, 0, [])).1 : Int) ≠ (xs.getD k (0, 0, [])).1)) : Value))]) ⟨hpZ 11 (by decide), trivial⟩]
    refine XG.yes (t := 28) rfl (vF h3) (XOp.move (.int .i64 ((k : Int))) rfl ?_)
    exact ⟨rfl, rfl, rfl⟩
   refine pC (fun vals R hpZ => ?_) ?_
   ·rw [eS (l := [(11, (.bool (decide (((xs.getD k (0, 0, [])).1 : Int) ≠ (xs.getD k (0, 0, [])).1)) : Value)), (17, ysv), (18, (.int .i64 ((k : Int)) : Value))]) ⟨hpZ 11 (by decide), hpZ 17 (by decide), hpZ 18 (by decide), trivial⟩]
    refine XG.yes (t := 28) rfl (vF h3) (XOp.indexS (v := ysv) (i := (k : Int)) (n := (xs).length) k runUnderlying45 sizeOf48 rfl rfl rfl hys.slv (by omega) rfl ?_)
    exact ⟨rfl, rfl, rfl⟩
   refine pC (fun vals R hpZ => ?_) ?_
   ·rw [eS (l := [(11, (.bool (decide (((xs.getD k (0, 0, [])).1 : Int) ≠ (xs.getD k (0, 0, [])).1)) : Value)), (19, (.pointer (some (elemA ysv (k * 3))) : Value))]) ⟨hpZ 11 (by decide), hpZ 19 (by decide), trivial⟩]
    refine XG.yes (t := 28) rfl (vF h3) (XOp.fieldE (v := ysv) (k * 3 + 1) runUnderlying48 rfl sizeOf2 (by decide) rfl rfl ?_)
    exact ⟨rfl, rfl, rfl⟩
   refine pC (fun vals R hpZ => ?_) ?_
   ·rw [eS (l := [(11, (.bool (decide (((xs.getD k (0, 0, [])).1 : Int) ≠ (xs.getD k (0, 0, [])).1)) : Value)), (20, (.pointer (some (elemA ysv (k * 3 + 1))) : Value))]) ⟨hpZ 11 (by decide), hpZ 20 (by decide), trivial⟩]
    refine XG.yes (t := 28) rfl (vF h3) (XOp.load1 (v := .int .i64 ((xs.getD k (0, 0, [])).2.1)) isAgg2 rfl (hr5 _) ?_)
    exact ⟨rfl, rfl, rfl⟩
   refine pC (fun vals R hpZ => ?_) ?_
   ·rw [eS (l := [(11, (.bool (decide (((xs.getD k (0, 0, [])).1 : Int) ≠ (xs.getD k (0, 0, [])).1)) : Value)), (16, (.int .i64 ((xs.getD k (0, 0, [])).2.1) : Value)), (21, (.int .i64 ((xs.getD k (0, 0, [])).2.1) : Value))]) ⟨hpZ 11 (by decide), hpZ 16 (by decide), hpZ 21 (by decide), trivial⟩]
    refine XG.yes (t := 28) rfl (vF h3) (XOp.neq (a := (xs.getD k (0, 0, [])).2.1) (b := (xs.getD k (0, 0, [])).2.1) rfl rfl ?_)
    exact ⟨rfl, rfl, rfl⟩
   refine pC (fun vals R hpZ => ?_) ?_
   ·rw [eS (l := [(11, (.bool (decide (((xs.getD k (0, 0, [])).1 : Int) ≠ (xs.getD k (0, 0, [])).1)) : Value)), (22, (.bool (decide (((xs.getD k (0, 0, [])).2.1 : Int) ≠ (xs.getD k (0, 0, [])).2.1)) : Value))]) ⟨hpZ 11 (by decide), hpZ 22 (by decide), trivial⟩]
    refine XG.op (XOp.pickF (.bool (decide (((xs.getD k (0, 0, [])).2.1 : Int) ≠ (xs.getD k (0, 0, [])).2.1))) (vF h3) rfl ?_)
    exact ⟨rfl, rfl, rfl⟩
   refine pC (fun vals R hpZ => ?_) ?_
   ·rw [eS (l := [(23, (.bool (decide (((xs.getD k (0, 0, [])).2.1 : Int) ≠ (xs.getD k (0, 0, [])).2.1)) : Value))]) ⟨hpZ 23 (by decide), trivial⟩]
    refine XG.op (XOp.move (.bool (decide (((xs.getD k (0, 0, [])).2.1 : Int) ≠ (xs.getD k (0, 0, [])).2.1))) rfl ?_)
    exact ⟨rfl, rfl, rfl⟩
   refine pC (fun vals R hpZ => ?_) ?_
   ·rw [eS (l := [(24, (.bool (decide (((xs.getD k (0, 0, [])).2.1 : Int) ≠ (xs.getD k (0, 0, [])).2.1)) : Value))]) ⟨hpZ 24 (by decide), trivial⟩]
    refine XG.yes (t := 41) rfl (vF h4) (XOp.move (xsv) rfl ?_)
    exact ⟨rfl, rfl, rfl⟩
   refine pC (fun vals R hpZ => ?_) ?_
   ·rw [eS (l := [(24, (.bool (decide (((xs.getD k (0, 0, [])).2.1 : Int) ≠ (xs.getD k (0, 0, [])).2.1)) : Value))]) ⟨hpZ 24 (by decide), trivial⟩]
    refine XG.yes (t := 41) rfl (vF h4) (XOp.move (.int .i64 ((k : Int))) rfl ?_)
    exact ⟨rfl, rfl, rfl⟩
   refine pC (fun vals R hpZ => ?_) ?_
   ·rw [eS (l := [(24, (.bool (decide (((xs.getD k (0, 0, [])).2.1 : Int) ≠ (xs.getD k (0, 0, [])).2.1)) : Value)), (25, xsv), (26, (.int .i64 ((k : Int)) : Value))]) ⟨hpZ 24 (by decide), hpZ 25 (by decide), hpZ 26 (by decide), trivial⟩]
    refine XG.yes (t := 41) rfl (vF h4) (XOp.indexS (v := xsv) (i := (k : Int)) (n := (xs).length) k runUnderlying45 sizeOf48 rfl rfl rfl hxs.slv (by omega) rfl ?_)
    exact ⟨rfl, rfl, rfl⟩
   refine pC (fun vals R hpZ => ?_) ?_
   ·rw [eS (l := [(24, (.bool (decide (((xs.getD k (0, 0, [])).2.1 : Int) ≠ (xs.getD k (0, 0, [])).2.1)) : Value)), (27, (.pointer (some (elemA xsv (k * 3))) : Value))]) ⟨hpZ 24 (by decide), hpZ 27 (by decide), trivial⟩]
    refine XG.yes (t := 41) rfl (vF h4) (XOp.fieldE (v := xsv) (k * 3 + 2) runUnderlying48 rfl sizeOf24 (by decide) rfl rfl ?_)
    exact ⟨rfl, rfl, rfl⟩
   refine pC (fun vals R hpZ => ?_) ?_
   ·rw [eS (l := [(24, (.bool (decide (((xs.getD k (0, 0, [])).2.1 : Int) ≠ (xs.getD k (0, 0, [])).2.1)) : Value)), (28, (.pointer (some (elemA xsv (k * 3 + 2))) : Value))]) ⟨hpZ 24 (by decide), hpZ 28 (by decide), trivial⟩]
    refine XG.yes (t := 41) rfl (vF h4) (XOp.load1 (v := a1) isAgg24 rfl (hr3 _) ?_)
    exact ⟨rfl, rfl, rfl⟩
   refine pC (fun vals R hpZ => ?_) ?_
   ·rw [eS (l := [(24, (.bool (decide (((xs.getD k (0, 0, [])).2.1 : Int) ≠ (xs.getD k (0, 0, [])).2.1)) : Value))]) ⟨hpZ 24 (by decide), trivial⟩]
    refine XG.yes (t := 41) rfl (vF h4) (XOp.move (ysv) rfl ?_)
    exact ⟨rfl, rfl, rfl⟩
   refine pC (fun vals R hpZ => ?_) ?_
   ·rw [eS (l := [(24, (.bool (decide (((xs.getD k (0, 0, [])).2.1 : Int) ≠ (xs.getD k (0, 0, [])).2.1)) : Value))]) ⟨hpZ 24 (by decide), trivial⟩]
    refine XG.yes (t := 41) rfl (vF h4) (XOp.move (.int .i64 ((k : Int))) rfl ?_)
    exact ⟨rfl, rfl, rfl⟩
   refine pC (fun vals R hpZ => ?_) ?_
   ·rw [eS (l := [(24, (.bool (decide (((xs.getD k (0, 0, [])).2.1 : Int) ≠ (xs.getD k (0, 0, [])).2.1)) : Value)), (30, ysv), (31, (.int .i64 ((k : Int)) : Value))]) ⟨hpZ 24 (by decide), hpZ 30 (by decide), hpZ 31 (by decide), trivial⟩]
    refine XG.yes (t := 41) rfl (vF h4) (XOp.indexS (v := ysv) (i := (k : Int)) (n := (xs).length) k runUnderlying45 sizeOf48 rfl rfl rfl hys.slv (by omega) rfl ?_)
    exact ⟨rfl, rfl, rfl⟩
   refine pC (fun vals R hpZ => ?_) ?_
   ·rw [eS (l := [(24, (.bool (decide (((xs.getD k (0, 0, [])).2.1 : Int) ≠ (xs.getD k (0, 0, [])).2.1)) : Value)), (32, (.pointer (some (elemA ysv (k * 3))) : Value))]) ⟨hpZ 24 (by decide), hpZ 32 (by decide), trivial⟩]
    refine XG.yes (t := 41) rfl (vF h4) (XOp.fieldE (v := ysv) (k * 3 + 2) runUnderlying48 rfl sizeOf24 (by decide) rfl rfl ?_)
    exact ⟨rfl, rfl, rfl⟩
   refine pC (fun vals R hpZ => ?_) ?_
   ·rw [eS (l := [(24, (.bool (decide (((xs.getD k (0, 0, [])).2.1 : Int) ≠ (xs.getD k (0, 0, [])).2.1)) : Value)), (33, (.pointer (some (elemA ysv (k * 3 + 2))) : Value))]) ⟨hpZ 24 (by decide), hpZ 33 (by decide), trivial⟩]
    refine XG.yes (t := 41) rfl (vF h4) (XOp.load1 (v := a2) isAgg24 rfl (hr6 _) ?_)
    exact ⟨rfl, rfl, rfl⟩
   exact stepsP.nil
  intro vals hphi
  rw [eS (l := [(24, (.bool (decide (((xs.getD k (0, 0, [])).2.1 : Int) ≠ (xs.getD k (0, 0, [])).2.1)) : Value)), (29, a1), (34, a2)]) ⟨(hphi 24 (by decide)), (hphi 29 (by decide)), (hphi 34 (by decide)), trivial⟩]
  show XL _ _ _ _ _ _ _ (L)
  refine XL.yes (t := 41) rfl (vF h4) (XOp.call (args := [a1, a2]) call13 rfl (likeInts_spec ha1 ha2 (hbd := (.inl (by have := hbe k (by omega); omega)))) ?_)
  rintro _ _ _ _ ⟨rfl, rfl, rfl⟩
  refine XL.yes (t := 41) rfl (vF h4) (XOp.notD (p := ((xs.getD k (0, 0, [])).2.2) = ((xs.getD k (0, 0, [])).2.2)) rfl ?_)
  refine cX (XOp.pickF (.bool (decide (¬(((xs.getD k (0, 0, [])).2.2) = ((xs.getD k (0, 0, [])).2.2))))) (vF h4) rfl ?_)
  refine XL.nil ?_
  refine X.condD (p := ¬(((xs.getD k (0, 0, [])).2.2) = ((xs.getD k (0, 0, [])).2.2))) rfl (fun h5 => ?_) (fun h5 => ?_)
  ·exact absurd rfl h5
  refine X.skip (X.region ?_)
  refine XL.mv (.int .i64 ((k : Int))) rfl ?_
  refine cX (XOp.addR (a := (k : Int)) (b := 1) (((k + 1 : Nat) : Int)) rfl rfl (by omega) (by omega) ?_)
  refine XL.as (.int .i64 (((k + 1 : Nat) : Int))) rfl ?_
  refine XL.nil ?_
  exact ⟨k + 1, _, FLe.refl _, rF, ⟨rfl, rfl, rfl, trivial⟩, sR, ⟨rfl, (by (try dsimp only) <;> omega)⟩, (by omega)⟩
 refine X.exit (thenQ_exit (thenQ_exit (blockQ_exit ?_)))
 refine X.seq (X.region ?_)
 refine XL.as (.bool (true)) rfl ?_
 refine XL.nil ?_
 refine X.ret (retEnd (L' := L) [.bool (true)] (.bool (true)) (.tmp rfl .nil) rfl rF rF sR ?_)
 exact ⟨rfl, rfl, rfl⟩

/- laws.FnSteps -/
set_option maxRecDepth 20000 in
theorem FnSteps_does {F : FH} {L : List HP} {bsv : Value} {bs : List Int} (hbs : BytesF F bsv bs) (hlb : bs.length ≤ 9223372036854775807) :
    Does prog 5 [bsv] F (L) (fun v F' L' => (.bool (true) : Value) = v ∧ F = F' ∧ L = L') := by
 refine Does.of_X func5 rfl rfl rfl ?_
 refine X.seq (X.region ?_)
 refine XL.as (.bool (false)) rfl ?_
 refine XL.nil (X.seq (X.seq (X.region ?_)))
 refine XL.mv (bsv) rfl ?_
 refine cX (XOp.call (args := [bsv]) call8 rfl (big_spec hbs) ?_)
 rintro _ _ _ _ ⟨rfl, rfl, rfl⟩
 refine XL.nil ?_
 refine X.condD (p := (bs.length : Int) > 4096) rfl (fun h1 => ?_) (fun h1 => ?_)
 ·refine X.seq (X.region ?_)
  refine XL.as (.bool (true)) rfl ?_
  refine XL.nil ?_
  refine X.ret (thenQ_ret (retEnd (L' := L) [.bool (true)] (.bool (true)) (.tmp rfl .nil) rfl rF rF sR ?_))
  exact ⟨rfl, rfl, rfl⟩
 have hbl2 : bs.length ≤ 4000000 := by omega
 refine X.skip (X.seq (X.region ?_))
 refine XL.mv (bsv) rfl ?_
 refine cX (XOp.call (args := [bsv]) call28 rfl (DrawStepsFrom_spec hbs (hbl := (by first | assumption | rfl | omega | simp))) ?_)
 rintro _ F1 _ le1 ⟨x1, x2, x3, x4, x5, x6, rfl, hr1, hr2, hr3, hr4, hr5, rfl⟩
 replace hbs := hbs.mono le1
 have hla := hr4.la
 have hlr := hr4.lr
 have hrb := hr4.each
 have hlt9 : x6.length ≤ 4000000 := by omega
 refine XL.mv (.tuple #[.agg #[x1, x2], x3]) rfl ?_
 refine cX (XOp.extract (.agg #[x1, x2]) rfl rfl ?_)
 refine cX (XOp.extract (x3) rfl rfl ?_)
 refine cX (XOp.alloc [(.slice none 0 0), (.slice none 0 0)] zeroValue29 rfl ?_)
 intro b1
 refine cX (XOp.storeN (vs := [x1, x2]) [] _ [x1, x2] sizeOf29 rfl rfl rfl (ones_cons (one_sl (IntsF.isSl hr1)) (ones_cons (one_sl (PairsF.isSl hr2)) ones_nil)) rfl rfl rfl ?_)
 refine XL.as (x3) rfl ?_
 refine XL.nil (X.seq (X.region ?_))
 refine cX (XOp.loadN [x1, x2] isAgg29 sizeOf29 rfl rfl (Rd.ownN [] rfl rfl) ?_)
 refine XL.mv (x3) rfl ?_
 refine cX (XOp.call (args := [.agg #[x1, x2], x3]) call29 rfl (iStepsFrom_spec hr1 hr2 hr3) ?_)
 rintro _ F2 _ le2 ⟨x7, rfl, hr6, rfl⟩
 replace hbs := hbs.mono le2
 replace hr1 := hr1.mono le2
 replace hr2 := hr2.mono le2
 replace hr3 := hr3.mono le2
 have hsl9 := stepsS_len (ar := x4) (rs := x5) (t := x6)
 have hse : ∀ i, i < (stepsS x4 x5 x6).length → ((stepsS x4 x5 x6).getD i (0, 0, [])).2.2.length ≤ 60 := fun i hi => (termOk_len (right_iff.1 (stepAtL_ok (steps_law hi).1).1).2).2
 refine XL.as (x7) rfl ?_
 refine XL.nil (X.seq (X.region ?_))
 refine cX (XOp.loadN [x1, x2] isAgg29 sizeOf29 rfl rfl (Rd.ownN [] rfl rfl) ?_)
 refine XL.mv (x3) rfl ?_
 refine cX (XOp.call (args := [.agg #[x1, x2], x3]) call30 rfl (iNormalIn_spec hr1 hr2 hr3) ?_)
 rintro _ _ _ _ ⟨rfl, rfl, rfl⟩
 refine XL.as (.bool ((rightB x4 x5 x6 && normalL x4 x5 x6))) rfl ?_
 refine XL.nil (X.seq (X.seq (X.region ?_)))
 refine XL.mv (x7) rfl ?_
 refine cX (XOp.loadN [x1, x2] isAgg29 sizeOf29 rfl rfl (Rd.ownN [] rfl rfl) ?_)
 refine XL.mv (x3) rfl ?_
 refine cX (XOp.call (args := [.agg #[x1, x2], x3]) call24 rfl (sStepsFromS_spec hr1 hr2 hr3 (hla := (by first | assumption | rfl | omega | simp)) (hlr := (by first | assumption | rfl | omega | simp)) (hrb := (by first | assumption | rfl | omega | simp)) (hlt := (by first | assumption | rfl | omega | simp))) ?_)
 rintro _ F3 _ le3 ⟨x8, rfl, hr7, rfl⟩
 replace hbs := hbs.mono le3
 replace hr1 := hr1.mono le3
 replace hr2 := hr2.mono le3
 replace hr3 := hr3.mono le3
 replace hr6 := hr6.mono le3
 refine cX (XOp.call (args := [x7, x8]) call31 rfl (w5Steps_spec hr6 hr7 (hbd := (hsl9)) (hbe := (fun i hi => by have := hse i hi; omega))) ?_)
 rintro _ _ _ _ ⟨rfl, rfl, rfl⟩
 refine cX (XOp.notB (b := true) rfl ?_)
 refine XL.mv (.bool (false)) rfl ?_
 refine XL.yes (t := 29) rfl rfl (XOp.move (.bool ((rightB x4 x5 x6 && normalL x4 x5 x6))) rfl ?_)
 refine XL.yes (t := 29) rfl rfl (XOp.loadN [x1, x2] isAgg29 sizeOf29 rfl rfl (Rd.ownN [] rfl rfl) ?_)
 refine XL.yes (t := 29) rfl rfl (XOp.move (x3) rfl ?_)
 refine XL.yes (t := 29) rfl rfl (XOp.call (args := [.agg #[x1, x2], x3]) call32 rfl (sNormalIn_spec hr1 hr2 hr3 (hla := (by first | assumption | rfl | omega | simp)) (hlr := (by first | assumption | rfl | omega | simp)) (hrb := (by first | assumption | rfl | omega | simp)) (hlt := (by first | assumption | rfl | omega | simp))) ?_)
 rintro _ _ _ _ ⟨rfl, rfl, rfl⟩
 refine XL.yes (t := 29) rfl rfl (XOp.neB (a := (rightB x4 x5 x6 && normalL x4 x5 x6)) (b := (rightB x4 x5 x6 && normalL x4 x5 x6)) runUnderlying4 rfl rfl ?_)
 refine cX (XOp.pickF (.bool (decide (((rightB x4 x5 x6 && normalL x4 x5 x6)) ≠ ((rightB x4 x5 x6 && normalL x4 x5 x6))))) rfl rfl ?_)
 refine XL.mv (.bool (decide (((rightB x4 x5 x6 && normalL x4 x5 x6)) ≠ ((rightB x4 x5 x6 && normalL x4 x5 x6))))) rfl ?_
 by_cases h2 : ((rightB x4 x5 x6 && normalL x4 x5 x6)) ≠ ((rightB x4 x5 x6 && normalL x4 x5 x6))
 ·exact absurd rfl h2
 refine XL.yes (t := 36) rfl (vF h2) (XOp.move (.bool ((rightB x4 x5 x6 && normalL x4 x5 x6))) rfl ?_)
 refine XL.yes (t := 36) rfl (vF h2) (XOp.move (.bool ((rightB x4 x5 x6 && normalL x4 x5 x6))) rfl ?_)
 by_cases h3 : ((rightB x4 x5 x6 && normalL x4 x5 x6)) = true
 ·have hno := normal_nosteps h3
  have hnz := congrArg List.length hno
  simp only [List.length_nil] at hnz
  refine XL.yes (t := 38) rfl (vB h3) (XOp.move (x7) rfl ?_)
  refine XL.yes (t := 38) rfl (vB h3) (XOp.lenS (v := x7) (n := (stepsS x4 x5 x6).length) runUnderlying45 rfl hr6.slv ?_)
  refine XL.yes (t := 38) rfl (vB h3) (XOp.gtr (a := (((stepsS x4 x5 x6).length : Nat) : Int)) (b := 0) rfl rfl ?_)
  refine XL.yes (t := 36) rfl (vF h2) (XOp.pickT (.bool (decide (((((stepsS x4 x5 x6).length : Nat) : Int) : Int) > 0))) (vB h3) rfl ?_)
  refine cX (XOp.pickF (.bool (decide (((((stepsS x4 x5 x6).length : Nat) : Int) : Int) > 0))) (vF h2) rfl ?_)
  refine XL.nil ?_
  refine X.condD (p := ((((stepsS x4 x5 x6).length : Nat) : Int) : Int) > 0) rfl (fun h4 => ?_) (fun h4 => ?_)
  ·exfalso
   omega
  refine X.skip (X.seq (X.seq (X.region ?_)))
  refine XL.as (.int .i64 (0)) rfl ?_
  refine XL.nil (X.block ?_)
  refine X.loop (α := Nat) (fun k => [(3, ptr b1 0), (4, x3), (5, x7), (7, .int .i64 ((k : Int)))]) (fun k => cellsH b1 [x1, x2] 29 :: L) (fun k F' => F3 = F' ∧ (k ≤ (stepsS x4 x5 x6).length)) (fun k => (stepsS x4 x5 x6).length - k) 0 ⟨rfl, rfl, rfl, rfl, trivial⟩ (sC sR) ⟨rfl, (Nat.zero_le _)⟩ ?_
  rintro k rE _ _ ⟨rfl, hk⟩
  show X _ _ _ _ (envs [(3, ptr b1 0), (4, x3), (5, x7), (7, .int .i64 ((k : Int)))] rE) _ (cellsH b1 [x1, x2] 29 :: L)
  have hst := fun (h : k < (stepsS x4 x5 x6).length) => steps_law h
  refine X.seq (X.seq (X.region ?_))
  refine XL.mv (.int .i64 ((k : Int))) rfl ?_
  refine XL.mv (x7) rfl ?_
  refine cX (XOp.lenS (v := x7) (n := (stepsS x4 x5 x6).length) runUnderlying45 rfl hr6.slv ?_)
  refine cX (XOp.lss (a := (k : Int)) (b := (((stepsS x4 x5 x6).length : Nat) : Int)) rfl rfl ?_)
  refine XL.nil ?_
  refine X.condD (p := (k : Int) < (((stepsS x4 x5 x6).length : Nat) : Int)) rfl (fun h5 => ?_) (fun h5 => ?_)
  ·refine X.skip (X.seq (X.block (X.seq ?_)))
   obtain ⟨a1, ha1, hr8, hr9, hr10⟩ := hr6.rd (i := k) (by omega)
   refine X.drawG [cellsH b1 [x1, x2] 29] L 17 [[], [], [], [], [], [], [], [], [], [], [], [], [], [12], [12], [], [12]] [[], [], [], [], [2, 3], [4], [5], [], [], [7, 8], [9], [10], [0, 1, 6, 11], [12], [12, 13], [12, 13], [12, 14]] [[], [], [], [], [], [], [], [], [], [], [], [], [], [], [], [], []] (phiG [fun FF us v => v = (.agg #[x1, x2] : Value), fun FF us v => v = x3, fun FF us v => v = x7, fun FF us v => v = (.int .i64 ((k : Int)) : Value), fun FF us v => v = (.pointer (some (elemA x7 (k * 3))) : Value), fun FF us v => v = (.pointer (some (elemA x7 (k * 3))) : Value), fun FF us v => v = (.int .i64 (((stepsS x4 x5 x6).getD k (0, 0, [])).1) : Value), fun FF us v => v = x7, fun FF us v => v = (.int .i64 ((k : Int)) : Value), fun FF us v => v = (.pointer (some (elemA x7 (k * 3))) : Value), fun FF us v => v = (.pointer (some (elemA x7 (k * 3 + 1))) : Value), fun FF us v => v = (.int .i64 (((stepsS x4 x5 x6).getD k (0, 0, [])).2.1) : Value), fun FF us v => (.tuple #[((tupAt v 0)), .bool ((stepAtL x4 x5 x6 (((stepsS x4 x5 x6).getD k (0, 0, [])).1) (((stepsS x4 x5 x6).getD k (0, 0, [])).2.1)).isSome)] : Value) = v ∧ (IntsF FF ((tupAt v 0)) ((stepAtL x4 x5 x6 (((stepsS x4 x5 x6).getD k (0, 0, [])).1) (((stepsS x4 x5 x6).getD k (0, 0, [])).2.1)).getD [])), fun FF us v => v = (.tuple #[((tupAt (us.getD 0 undef) 0)), .bool ((stepAtL x4 x5 x6 (((stepsS x4 x5 x6).getD k (0, 0, [])).1) (((stepsS x4 x5 x6).getD k (0, 0, [])).2.1)).isSome)] : Value), fun FF us v => v = ((tupAt (us.getD 0 undef) 0)), fun FF us v => v = (.bool ((stepAtL x4 x5 x6 (((stepsS x4 x5 x6).getD k (0, 0, [])).1) (((stepsS x4 x5 x6).getD k (0, 0, [])).2.1)).isSome) : Value), fun FF us v => v = ((tupAt (us.getD 0 undef) 0))]) (ownL [fun us v => [], fun us v => [], fun us v => [], fun us v => [], fun us v => [], fun us v => [], fun us v => [], fun us v => [], fun us v => [], fun us v => [], fun us v => [], fun us v => [], fun us v => [], fun us v => [], fun us v => [], fun us v => [], fun us v => []]) mixed rfl rfl (by kernel_rfl) (by kernel_rfl) (MonoG.get (mC (fun le h => h) (mC (fun le h => h) (mC (fun le h => h) (mC (fun le h => h) (mC (fun le h => h) (mC (fun le h => h) (mC (fun le h => h) (mC (fun le h => h) (mC (fun le h => h) (mC (fun le h => h) (mC (fun le h => h) (mC (fun le h => h) (mC (fun le h => ⟨h.1, h.2.mono le⟩) (mC (fun le h => h) (mC (fun le h => h) (mC (fun le h => h) (mC (fun le h => h) MonoG.nil)))))))))))))))))) ?_ ?_
   ·refine gC (fun vals Fs R leFs hpZ => ?_) ?_
    ·replace hbs := hbs.mono leFs
     replace hr1 := hr1.mono leFs
     replace hr2 := hr2.mono leFs
     replace hr3 := hr3.mono leFs
     replace hr6 := hr6.mono leFs
     replace ha1 := ha1.mono leFs
     replace hr8 := Rd.monoA hr8 leFs
     replace hr9 := Rd.monoA hr9 leFs
     replace hr10 := Rd.monoA hr10 leFs
     refine XG.op (XOp.loadN [x1, x2] isAgg29 sizeOf29 rfl rfl (Rd.ownN [] rfl rfl) ?_)
     exact ⟨rfl, rfl⟩
    refine gC (fun vals Fs R leFs hpZ => ?_) ?_
    ·refine XG.op (XOp.move (x3) rfl ?_)
     exact ⟨rfl, rfl⟩
    refine gC (fun vals Fs R leFs hpZ => ?_) ?_
    ·refine XG.op (XOp.move (x7) rfl ?_)
     exact ⟨rfl, rfl⟩
    refine gC (fun vals Fs R leFs hpZ => ?_) ?_
    ·refine XG.op (XOp.move (.int .i64 ((k : Int))) rfl ?_)
     exact ⟨rfl, rfl⟩
    refine gC (fun vals Fs R leFs hpZ => ?_) ?_
    ·replace hbs := hbs.mono leFs
     replace hr1 := hr1.mono leFs
     replace hr2 := hr2.mono leFs
     replace hr3 := hr3.mono leFs
     replace hr6 := hr6.mono leFs
     replace ha1 := ha1.mono leFs
     replace hr8 := Rd.monoA hr8 leFs
     replace hr9 := Rd.monoA hr9 leFs
     replace hr10 := Rd.monoA hr10 leFs
     rw [eS (l := [(2, x7), (3, (.int .i64 ((k : Int)) : Value))]) ⟨(hpZ 2 (by decide)), (hpZ 3 (by decide)), trivial⟩]
     refine XG.op (XOp.indexS (v := x7) (i := (k : Int)) (n := (stepsS x4 x5 x6).length) k runUnderlying45 sizeOf48 rfl rfl rfl hr6.slv (by omega) rfl ?_)
     exact ⟨rfl, rfl⟩
    refine gC (fun vals Fs R leFs hpZ => ?_) ?_
    ·rw [eS (l := [(4, (.pointer (some (elemA x7 (k * 3))) : Value))]) ⟨(hpZ 4 (by decide)), trivial⟩]
     refine XG.op (XOp.fieldE (v := x7) (k * 3) runUnderlying48 rfl sizeOf2 (by decide) rfl rfl ?_)
     exact ⟨rfl, rfl⟩
    refine gC (fun vals Fs R leFs hpZ => ?_) ?_
    ·replace hbs := hbs.mono leFs
     replace hr1 := hr1.mono leFs
     replace hr2 := hr2.mono leFs
     replace hr3 := hr3.mono leFs
     replace hr6 := hr6.mono leFs
     replace ha1 := ha1.mono leFs
     replace hr8 := Rd.monoA hr8 leFs
     replace hr9 := Rd.monoA hr9 leFs
     replace hr10 := Rd.monoA hr10 leFs
     rw [eS (l := [(5, (.pointer (some (elemA x7 (k * 3))) : Value))]) ⟨(hpZ 5 (by decide)), trivial⟩]
     refine XG.op (XOp.load1 (v := .int .i64 (((stepsS x4 x5 x6).getD k (0, 0, [])).1)) isAgg2 rfl (hr8 _) ?_)
     exact ⟨rfl, rfl⟩
    refine gC (fun vals Fs R leFs hpZ => ?_) ?_
    ·refine XG.op (XOp.move (x7) rfl ?_)
     exact ⟨rfl, rfl⟩
    refine gC (fun vals Fs R leFs hpZ => ?_) ?_
    ·refine XG.op (XOp.move (.int .i64 ((k : Int))) rfl ?_)
     exact ⟨rfl, rfl⟩
    refine gC (fun vals Fs R leFs hpZ => ?_) ?_
    ·replace hbs := hbs.mono leFs
     replace hr1 := hr1.mono leFs
     replace hr2 := hr2.mono leFs
     replace hr3 := hr3.mono leFs
     replace hr6 := hr6.mono leFs
     replace ha1 := ha1.mono leFs
     replace hr8 := Rd.monoA hr8 leFs
     replace hr9 := Rd.monoA hr9 leFs
     replace hr10 := Rd.monoA hr10 leFs
     rw [eS (l := [(7, x7), (8, (.int .i64 ((k : Int)) : Value))]) ⟨(hpZ 7 (by decide)), (hpZ 8 (by decide)), trivial⟩]
     refine XG.op (XOp.indexS (v := x7) (i := (k : Int)) (n := (stepsS x4 x5 x6).length) k runUnderlying45 sizeOf48 rfl rfl rfl hr6.slv (by omega) rfl ?_)
     exact ⟨rfl, rfl⟩
    refine gC (fun vals Fs R leFs hpZ => ?_) ?_
    ·rw [eS (l := [(9, (.pointer (some (elemA x7 (k * 3))) : Value))]) ⟨(hpZ 9 (by decide)), trivial⟩]
     refine XG.op (XOp.fieldE (v := x7) (k * 3 + 1) runUnderlying48 rfl sizeOf2 (by decide) rfl rfl ?_)
     exact ⟨rfl, rfl⟩
    refine gC (fun vals Fs R leFs hpZ => ?_) ?_
    ·replace hbs := hbs.mono leFs
     replace hr1 := hr1.mono leFs
     replace hr2 := hr2.mono leFs
     replace hr3 := hr3.mono leFs
     replace hr6 := hr6.mono leFs
     replace ha1 := ha1.mono leFs
     replace hr8 := Rd.monoA hr8 leFs
     replace hr9 := Rd.monoA hr9 leFs
     replace hr10 := Rd.monoA hr10 leFs
     rw [eS (l := [(10, (.pointer (some (elemA x7 (k * 3 + 1))) : Value))]) ⟨(hpZ 10 (by decide)), trivial⟩]
     refine XG.op (XOp.load1 (v := .int .i64 (((stepsS x4 x5 x6).getD k (0, 0, [])).2.1)) isAgg2 rfl (hr9 _) ?_)
     exact ⟨rfl, rfl⟩
    refine gC (fun vals Fs R leFs hpZ => ?_) ?_
    ·replace hbs := hbs.mono leFs
     replace hr1 := hr1.mono leFs
     replace hr2 := hr2.mono leFs
     replace hr3 := hr3.mono leFs
     replace hr6 := hr6.mono leFs
     replace ha1 := ha1.mono leFs
     replace hr8 := Rd.monoA hr8 leFs
     replace hr9 := Rd.monoA hr9 leFs
     replace hr10 := Rd.monoA hr10 leFs
     rw [eS (l := [(0, (.agg #[x1, x2] : Value)), (1, x3), (6, (.int .i64 (((stepsS x4 x5 x6).getD k (0, 0, [])).1) : Value)), (11, (.int .i64 (((stepsS x4 x5 x6).getD k (0, 0, [])).2.1) : Value))]) ⟨(hpZ 0 (by decide)), (hpZ 1 (by decide)), (hpZ 6 (by decide)), (hpZ 11 (by decide)), trivial⟩]
     refine XG.op (XOp.call (args := [.agg #[x1, x2], x3, .int .i64 (((stepsS x4 x5 x6).getD k (0, 0, [])).1), .int .i64 (((stepsS x4 x5 x6).getD k (0, 0, [])).2.1)]) call33 rfl (StepAt_spec (p := ((stepsS x4 x5 x6).getD k (0, 0, [])).1) (r := ((stepsS x4 x5 x6).getD k (0, 0, [])).2.1) hr1 hr2 hr3) ?_)
     rintro _ F5 _ le5 ⟨x10, rfl, hr13, hr14, rfl⟩
     replace hbs := hbs.mono le5
     replace hr1 := hr1.mono le5
     replace hr2 := hr2.mono le5
     replace hr3 := hr3.mono le5
     replace hr6 := hr6.mono le5
     replace ha1 := ha1.mono le5
     replace hr8 := Rd.monoA hr8 le5
     replace hr9 := Rd.monoA hr9 le5
     replace hr10 := Rd.monoA hr10 le5
     exact ⟨⟨rfl, hr13⟩, rfl⟩
    refine gC (fun vals Fs R leFs hpZ => ?_) ?_
    ·obtain ⟨e12, f12_1hr⟩ := hpZ 12 (by decide)
     rw [eS (l := [(12, (.tuple #[((tupAt (vals 12) 0)), .bool ((stepAtL x4 x5 x6 (((stepsS x4 x5 x6).getD k (0, 0, [])).1) (((stepsS x4 x5 x6).getD k (0, 0, [])).2.1)).isSome)] : Value))]) ⟨(e12).symm, trivial⟩]
     refine XG.op (XOp.move (.tuple #[((tupAt (vals 12) 0)), .bool ((stepAtL x4 x5 x6 (((stepsS x4 x5 x6).getD k (0, 0, [])).1) (((stepsS x4 x5 x6).getD k (0, 0, [])).2.1)).isSome)]) rfl ?_)
     exact ⟨rfl, rfl⟩
    refine gC (fun vals Fs R leFs hpZ => ?_) ?_
    ·obtain ⟨e12, f12_1hr⟩ := hpZ 12 (by decide)
     have e13 : vals 13 = (.tuple #[((tupAt (vals 12) 0)), .bool ((stepAtL x4 x5 x6 (((stepsS x4 x5 x6).getD k (0, 0, [])).1) (((stepsS x4 x5 x6).getD k (0, 0, [])).2.1)).isSome)] : Value) := hpZ 13 (by decide)
     rw [eS (l := [(12, (.tuple #[((tupAt (vals 12) 0)), .bool ((stepAtL x4 x5 x6 (((stepsS x4 x5 x6).getD k (0, 0, [])).1) (((stepsS x4 x5 x6).getD k (0, 0, [])).2.1)).isSome)] : Value)), (13, (.tuple #[((tupAt (vals 12) 0)), .bool ((stepAtL x4 x5 x6 (((stepsS x4 x5 x6).getD k (0, 0, [])).1) (((stepsS x4 x5 x6).getD k (0, 0, [])).2.1)).isSome)] : Value))]) ⟨(e12).symm, e13, trivial⟩]
     refine XG.op (XOp.extract (((tupAt (vals 12) 0))) rfl rfl ?_)
     exact ⟨rfl, rfl⟩
    refine gC (fun vals Fs R leFs hpZ => ?_) ?_
    ·obtain ⟨e12, f12_1hr⟩ := hpZ 12 (by decide)
     have e13 : vals 13 = (.tuple #[((tupAt (vals 12) 0)), .bool ((stepAtL x4 x5 x6 (((stepsS x4 x5 x6).getD k (0, 0, [])).1) (((stepsS x4 x5 x6).getD k (0, 0, [])).2.1)).isSome)] : Value) := hpZ 13 (by decide)
     rw [eS (l := [(12, (.tuple #[((tupAt (vals 12) 0)), .bool ((stepAtL x4 x5 x6 (((stepsS x4 x5 x6).getD k (0, 0, [])).1) (((stepsS x4 x5 x6).getD k (0, 0, [])).2.1)).isSome)] : Value)), (13, (.tuple #[((tupAt (vals 12) 0)), .bool ((stepAtL x4 x5 x6 (((stepsS x4 x5 x6).getD k (0, 0, [])).1) (((stepsS x4 x5 x6).getD k (0, 0, [])).2.1)).isSome)] : Value))]) ⟨(e12).symm, e13, trivial⟩]
     refine XG.op (XOp.extract (.bool ((stepAtL x4 x5 x6 (((stepsS x4 x5 x6).getD k (0, 0, [])).1) (((stepsS x4 x5 x6).getD k (0, 0, [])).2.1)).isSome)) rfl rfl ?_)
     exact ⟨rfl, rfl⟩
    refine gC (fun vals Fs R leFs hpZ => ?_) ?_
    ·obtain ⟨e12, f12_1hr⟩ := hpZ 12 (by decide)
     have e14 : vals 14 = ((tupAt (vals 12) 0)) := hpZ 14 (by decide)
     rw [eS (l := [(12, (.tuple #[((tupAt (vals 12) 0)), .bool ((stepAtL x4 x5 x6 (((stepsS x4 x5 x6).getD k (0, 0, [])).1) (((stepsS x4 x5 x6).getD k (0, 0, [])).2.1)).isSome)] : Value)), (14, ((tupAt (vals 12) 0)))]) ⟨(e12).symm, e14, trivial⟩]
     refine XG.op (XOp.assign (((tupAt (vals 12) 0))) rfl ?_)
     exact ⟨rfl, rfl⟩
    exact stepsG.nil
   intro vals F6 le6 hphi
   obtain ⟨e12, f12_1hr⟩ := hphi 12 (by decide)
   have e13 : vals 13 = (.tuple #[((tupAt (vals 12) 0)), .bool ((stepAtL x4 x5 x6 (((stepsS x4 x5 x6).getD k (0, 0, [])).1) (((stepsS x4 x5 x6).getD k (0, 0, [])).2.1)).isSome)] : Value) := hphi 13 (by decide)
   have e14 : vals 14 = ((tupAt (vals 12) 0)) := hphi 14 (by decide)
   have e16 : vals 16 = ((tupAt (vals 12) 0)) := hphi 16 (by decide)
   generalize hu1 : ((tupAt (vals 12) 0)) = u1 at e12 f12_1hr e13 e14 e16
   rw [eS (l := [(12, (.tuple #[u1, .bool ((stepAtL x4 x5 x6 (((stepsS x4 x5 x6).getD k (0, 0, [])).1) (((stepsS x4 x5 x6).getD k (0, 0, [])).2.1)).isSome)] : Value)), (15, (.bool ((stepAtL x4 x5 x6 (((stepsS x4 x5 x6).getD k (0, 0, [])).1) (((stepsS x4 x5 x6).getD k (0, 0, [])).2.1)).isSome) : Value)), (16, u1)]) ⟨(e12).symm, (hphi 15 (by decide)), e16, trivial⟩]
   replace hbs := hbs.mono le6
   replace hr1 := hr1.mono le6
   replace hr2 := hr2.mono le6
   replace hr3 := hr3.mono le6
   replace hr6 := hr6.mono le6
   replace ha1 := ha1.mono le6
   replace hr8 := Rd.monoA hr8 le6
   replace hr9 := Rd.monoA hr9 le6
   replace hr10 := Rd.monoA hr10 le6
   show XL _ _ _ _ _ _ _ (cellsH b1 [x1, x2] 29 :: L)
   refine XL.as (.bool ((stepAtL x4 x5 x6 (((stepsS x4 x5 x6).getD k (0, 0, [])).1) (((stepsS x4 x5 x6).getD k (0, 0, [])).2.1)).isSome)) rfl ?_
   refine XL.nil (X.seq ?_)
   by_cases h6 : (!((stepAtL x4 x5 x6 (((stepsS x4 x5 x6).getD k (0, 0, [])).1) (((stepsS x4 x5 x6).getD k (0, 0, [])).2.1)).isSome)) = true
   ·exact absurd h6 (by rw [(hst (by omega)).1]; simp)
   rw [Bool.not_eq_true] at h6
   by_cases h7 : ¬(((stepAtL x4 x5 x6 (((stepsS x4 x5 x6).getD k (0, 0, [])).1) (((stepsS x4 x5 x6).getD k (0, 0, [])).2.1)).getD []) = (((stepsS x4 x5 x6).getD k (0, 0, [])).2.2))
   ·exact absurd (by rw [(hst (by omega)).1]; rfl) h7
   refine X.draw [cellsH b1 [x1, x2] 29] L 25 [[], [], [], [], [], [], [], [], [], [], [], [], [], [], [], [], [], [], [], [], [], [], [], [], []] [[], [0], [1], [2], [2], [2], [2, 4, 5], [2, 6], [2, 7], [2, 3, 8], [2, 9], [2, 10], [11], [12], [12], [12], [12], [12, 15, 16], [12, 17], [12, 18], [12], [12], [12, 20, 21], [12, 22], [12, 23]] (phiL [fun us v => v = (.bool ((stepAtL x4 x5 x6 (((stepsS x4 x5 x6).getD k (0, 0, [])).1) (((stepsS x4 x5 x6).getD k (0, 0, [])).2.1)).isSome) : Value), fun us v => v = (.bool (!((stepAtL x4 x5 x6 (((stepsS x4 x5 x6).getD k (0, 0, [])).1) (((stepsS x4 x5 x6).getD k (0, 0, [])).2.1)).isSome)) : Value), fun us v => v = (.bool (!((stepAtL x4 x5 x6 (((stepsS x4 x5 x6).getD k (0, 0, [])).1) (((stepsS x4 x5 x6).getD k (0, 0, [])).2.1)).isSome)) : Value), fun us v => v = u1, fun us v => v = x7, fun us v => v = (.int .i64 ((k : Int)) : Value), fun us v => v = (.pointer (some (elemA x7 (k * 3))) : Value), fun us v => v = (.pointer (some (elemA x7 (k * 3 + 2))) : Value), fun us v => v = a1, fun us v => v = (.bool (decide (((stepAtL x4 x5 x6 (((stepsS x4 x5 x6).getD k (0, 0, [])).1) (((stepsS x4 x5 x6).getD k (0, 0, [])).2.1)).getD []) = (((stepsS x4 x5 x6).getD k (0, 0, [])).2.2))) : Value), fun us v => v = (.bool (decide (¬(((stepAtL x4 x5 x6 (((stepsS x4 x5 x6).getD k (0, 0, [])).1) (((stepsS x4 x5 x6).getD k (0, 0, [])).2.1)).getD []) = (((stepsS x4 x5 x6).getD k (0, 0, [])).2.2)))) : Value), fun us v => v = (.bool (decide (¬(((stepAtL x4 x5 x6 (((stepsS x4 x5 x6).getD k (0, 0, [])).1) (((stepsS x4 x5 x6).getD k (0, 0, [])).2.1)).getD []) = (((stepsS x4 x5 x6).getD k (0, 0, [])).2.2)))) : Value), fun us v => v = (.bool (decide (¬(((stepAtL x4 x5 x6 (((stepsS x4 x5 x6).getD k (0, 0, [])).1) (((stepsS x4 x5 x6).getD k (0, 0, [])).2.1)).getD []) = (((stepsS x4 x5 x6).getD k (0, 0, [])).2.2)))) : Value), fun us v => v = (.agg #[x1, x2] : Value), fun us v => v = x3, fun us v => v = x7, fun us v => v = (.int .i64 ((k : Int)) : Value), fun us v => v = (.pointer (some (elemA x7 (k * 3))) : Value), fun us v => v = (.pointer (some (elemA x7 (k * 3))) : Value), fun us v => v = (.int .i64 (((stepsS x4 x5 x6).getD k (0, 0, [])).1) : Value), fun us v => v = x7, fun us v => v = (.int .i64 ((k : Int)) : Value), fun us v => v = (.pointer (some (elemA x7 (k * 3))) : Value), fun us v => v = (.pointer (some (elemA x7 (k * 3 + 1))) : Value), fun us v => v = (.int .i64 (((stepsS x4 x5 x6).getD k (0, 0, [])).2.1) : Value)]) (ownL [fun us v => [], fun us v => [], fun us v => [], fun us v => [], fun us v => [], fun us v => [], fun us v => [], fun us v => [], fun us v => [], fun us v => [], fun us v => [], fun us v => [], fun us v => [], fun us v => [], fun us v => [], fun us v => [], fun us v => [], fun us v => [], fun us v => [], fun us v => [], fun us v => [], fun us v => [], fun us v => [], fun us v => [], fun us v => []]) mixed rfl rfl (by kernel_rfl) ?_ ?_
   ·refine pC (fun vals R hpZ => ?_) ?_
    ·refine XG.op (XOp.move (.bool ((stepAtL x4 x5 x6 (((stepsS x4 x5 x6).getD k (0, 0, [])).1) (((stepsS x4 x5 x6).getD k (0, 0, [])).2.1)).isSome)) rfl ?_)
     exact ⟨rfl, rfl, rfl⟩
    refine pC (fun vals R hpZ => ?_) ?_
    ·rw [eS (l := [(0, (.bool ((stepAtL x4 x5 x6 (((stepsS x4 x5 x6).getD k (0, 0, [])).1) (((stepsS x4 x5 x6).getD k (0, 0, [])).2.1)).isSome) : Value))]) ⟨hpZ 0 (by decide), trivial⟩]
     refine XG.op (XOp.notB (b := (stepAtL x4 x5 x6 (((stepsS x4 x5 x6).getD k (0, 0, [])).1) (((stepsS x4 x5 x6).getD k (0, 0, [])).2.1)).isSome) rfl ?_)
     exact ⟨rfl, rfl, rfl⟩
    refine pC (fun vals R hpZ => ?_) ?_
    ·rw [eS (l := [(1, (.bool (!((stepAtL x4 x5 x6 (((stepsS x4 x5 x6).getD k (0, 0, [])).1) (((stepsS x4 x5 x6).getD k (0, 0, [])).2.1)).isSome)) : Value))]) ⟨hpZ 1 (by decide), trivial⟩]
     refine XG.op (XOp.move (.bool (!((stepAtL x4 x5 x6 (((stepsS x4 x5 x6).getD k (0, 0, [])).1) (((stepsS x4 x5 x6).getD k (0, 0, [])).2.1)).isSome))) rfl ?_)
     exact ⟨rfl, rfl, rfl⟩
    refine pC (fun vals R hpZ => ?_) ?_
    ·rw [eS (l := [(2, (.bool (!((stepAtL x4 x5 x6 (((stepsS x4 x5 x6).getD k (0, 0, [])).1) (((stepsS x4 x5 x6).getD k (0, 0, [])).2.1)).isSome)) : Value))]) ⟨hpZ 2 (by decide), trivial⟩]
     refine XG.yes (t := 68) rfl (vB h6) (XOp.move (u1) rfl ?_)
     exact ⟨rfl, rfl, rfl⟩
    refine pC (fun vals R hpZ => ?_) ?_
    ·rw [eS (l := [(2, (.bool (!((stepAtL x4 x5 x6 (((stepsS x4 x5 x6).getD k (0, 0, [])).1) (((stepsS x4 x5 x6).getD k (0, 0, [])).2.1)).isSome)) : Value))]) ⟨hpZ 2 (by decide), trivial⟩]
     refine XG.yes (t := 68) rfl (vB h6) (XOp.move (x7) rfl ?_)
     exact ⟨rfl, rfl, rfl⟩
    refine pC (fun vals R hpZ => ?_) ?_
    ·rw [eS (l := [(2, (.bool (!((stepAtL x4 x5 x6 (((stepsS x4 x5 x6).getD k (0, 0, [])).1) (((stepsS x4 x5 x6).getD k (0, 0, [])).2.1)).isSome)) : Value))]) ⟨hpZ 2 (by decide), trivial⟩]
     refine XG.yes (t := 68) rfl (vB h6) (XOp.move (.int .i64 ((k : Int))) rfl ?_)
     exact ⟨rfl, rfl, rfl⟩
    refine pC (fun vals R hpZ => ?_) ?_
    ·rw [eS (l := [(2, (.bool (!((stepAtL x4 x5 x6 (((stepsS x4 x5 x6).getD k (0, 0, [])).1) (((stepsS x4 x5 x6).getD k (0, 0, [])).2.1)).isSome)) : Value)), (4, x7), (5, (.int .i64 ((k : Int)) : Value))]) ⟨hpZ 2 (by decide), hpZ 4 (by decide), hpZ 5 (by decide), trivial⟩]
     refine XG.yes (t := 68) rfl (vB h6) (XOp.indexS (v := x7) (i := (k : Int)) (n := (stepsS x4 x5 x6).length) k runUnderlying45 sizeOf48 rfl rfl rfl hr6.slv (by omega) rfl ?_)
     exact ⟨rfl, rfl, rfl⟩
    refine pC (fun vals R hpZ => ?_) ?_
    ·rw [eS (l := [(2, (.bool (!((stepAtL x4 x5 x6 (((stepsS x4 x5 x6).getD k (0, 0, [])).1) (((stepsS x4 x5 x6).getD k (0, 0, [])).2.1)).isSome)) : Value)), (6, (.pointer (some (elemA x7 (k * 3))) : Value))]) ⟨hpZ 2 (by decide), hpZ 6 (by decide), trivial⟩]
     refine XG.yes (t := 68) rfl (vB h6) (XOp.fieldE (v := x7) (k * 3 + 2) runUnderlying48 rfl sizeOf24 (by decide) rfl rfl ?_)
     exact ⟨rfl, rfl, rfl⟩
    refine pC (fun vals R hpZ => ?_) ?_
    ·rw [eS (l := [(2, (.bool (!((stepAtL x4 x5 x6 (((stepsS x4 x5 x6).getD k (0, 0, [])).1) (((stepsS x4 x5 x6).getD k (0, 0, [])).2.1)).isSome)) : Value)), (7, (.pointer (some (elemA x7 (k * 3 + 2))) : Value))]) ⟨hpZ 2 (by decide), hpZ 7 (by decide), trivial⟩]
     refine XG.yes (t := 68) rfl (vB h6) (XOp.load1 (v := a1) isAgg24 rfl (hr10 _) ?_)
     exact ⟨rfl, rfl, rfl⟩
    refine pC (fun vals R hpZ => ?_) ?_
    ·rw [eS (l := [(2, (.bool (!((stepAtL x4 x5 x6 (((stepsS x4 x5 x6).getD k (0, 0, [])).1) (((stepsS x4 x5 x6).getD k (0, 0, [])).2.1)).isSome)) : Value)), (3, u1), (8, a1)]) ⟨hpZ 2 (by decide), hpZ 3 (by decide), hpZ 8 (by decide), trivial⟩]
     refine XG.yes (t := 68) rfl (vB h6) (XOp.call (args := [u1, a1]) call34 rfl (iSameTerm_spec f12_1hr ha1 (hbd := (.inr (by have := hse k (by omega); omega)))) ?_)
     rintro _ _ _ _ ⟨rfl, rfl, rfl⟩
     exact ⟨rfl, rfl, rfl⟩
    refine pC (fun vals R hpZ => ?_) ?_
    ·rw [eS (l := [(2, (.bool (!((stepAtL x4 x5 x6 (((stepsS x4 x5 x6).getD k (0, 0, [])).1) (((stepsS x4 x5 x6).getD k (0, 0, [])).2.1)).isSome)) : Value)), (9, (.bool (decide (((stepAtL x4 x5 x6 (((stepsS x4 x5 x6).getD k (0, 0, [])).1) (((stepsS x4 x5 x6).getD k (0, 0, [])).2.1)).getD []) = (((stepsS x4 x5 x6).getD k (0, 0, [])).2.2))) : Value))]) ⟨hpZ 2 (by decide), hpZ 9 (by decide), trivial⟩]
     refine XG.yes (t := 68) rfl (vB h6) (XOp.notD (p := ((stepAtL x4 x5 x6 (((stepsS x4 x5 x6).getD k (0, 0, [])).1) (((stepsS x4 x5 x6).getD k (0, 0, [])).2.1)).getD []) = (((stepsS x4 x5 x6).getD k (0, 0, [])).2.2)) rfl ?_)
     exact ⟨rfl, rfl, rfl⟩
    refine pC (fun vals R hpZ => ?_) ?_
    ·rw [eS (l := [(2, (.bool (!((stepAtL x4 x5 x6 (((stepsS x4 x5 x6).getD k (0, 0, [])).1) (((stepsS x4 x5 x6).getD k (0, 0, [])).2.1)).isSome)) : Value)), (10, (.bool (decide (¬(((stepAtL x4 x5 x6 (((stepsS x4 x5 x6).getD k (0, 0, [])).1) (((stepsS x4 x5 x6).getD k (0, 0, [])).2.1)).getD []) = (((stepsS x4 x5 x6).getD k (0, 0, [])).2.2)))) : Value))]) ⟨hpZ 2 (by decide), hpZ 10 (by decide), trivial⟩]
     refine XG.op (XOp.pickF (.bool (decide (¬(((stepAtL x4 x5 x6 (((stepsS x4 x5 x6).getD k (0, 0, [])).1) (((stepsS x4 x5 x6).getD k (0, 0, [])).2.1)).getD []) = (((stepsS x4 x5 x6).getD k (0, 0, [])).2.2))))) (vB h6) rfl ?_)
     exact ⟨rfl, rfl, rfl⟩
    refine pC (fun vals R hpZ => ?_) ?_
    ·rw [eS (l := [(11, (.bool (decide (¬(((stepAtL x4 x5 x6 (((stepsS x4 x5 x6).getD k (0, 0, [])).1) (((stepsS x4 x5 x6).getD k (0, 0, [])).2.1)).getD []) = (((stepsS x4 x5 x6).getD k (0, 0, [])).2.2)))) : Value))]) ⟨hpZ 11 (by decide), trivial⟩]
     refine XG.op (XOp.move (.bool (decide (¬(((stepAtL x4 x5 x6 (((stepsS x4 x5 x6).getD k (0, 0, [])).1) (((stepsS x4 x5 x6).getD k (0, 0, [])).2.1)).getD []) = (((stepsS x4 x5 x6).getD k (0, 0, [])).2.2))))) rfl ?_)
     exact ⟨rfl, rfl, rfl⟩
    refine pC (fun vals R hpZ => ?_) ?_
    ·rw [eS (l := [(12, (.bool (decide (¬(((stepAtL x4 x5 x6 (((stepsS x4 x5 x6).getD k (0, 0, [])).1) (((stepsS x4 x5 x6).getD k (0, 0, [])).2.1)).getD []) = (((stepsS x4 x5 x6).getD k (0, 0, [])).2.2)))) : Value))]) ⟨hpZ 12 (by decide), trivial⟩]
     refine XG.yes (t := 78) rfl (vF h7) (XOp.loadN [x1, x2] isAgg29 sizeOf29 rfl rfl (Rd.ownN [] rfl rfl) ?_)
     exact ⟨rfl, rfl, rfl⟩
    refine pC (fun vals R hpZ => ?_) ?_
    ·rw [eS (l := [(12, (.bool (decide (¬(((stepAtL x4 x5 x6 (((stepsS x4 x5 x6).getD k (0, 0, [])).1) (((stepsS x4 x5 x6).getD k (0, 0, [])).2.1)).getD []) = (((stepsS x4 x5 x6).getD k (0, 0, [])).2.2)))) : Value))]) ⟨hpZ 12 (by decide), trivial⟩]
     refine XG.yes (t := 78) rfl (vF h7) (XOp.move (x3) rfl ?_)
     exact ⟨rfl, rfl, rfl⟩
    refine pC (fun vals R hpZ => ?_) ?_
    ·rw [eS (l := [(12, (.bool (decide (¬(((stepAtL x4 x5 x6 (((stepsS x4 x5 x6).getD k (0, 0, [])).1) (((stepsS x4 x5 x6).getD k (0, 0, [])).2.1)).getD []) = (((stepsS x4 x5 x6).getD k (0, 0, [])).2.2)))) : Value))]) ⟨hpZ 12 (by decide), trivial⟩]
     refine XG.yes (t := 78) rfl (vF h7) (XOp.move (x7) rfl ?_)
     exact ⟨rfl, rfl, rfl⟩
    refine pC (fun vals R hpZ => ?_) ?_
    ·rw [eS (l := [(12, (.bool (decide (¬(((stepAtL x4 x5 x6 (((stepsS x4 x5 x6).getD k (0, 0, [])).1) (((stepsS x4 x5 x6).getD k (0, 0, [])).2.1)).getD []) = (((stepsS x4 x5 x6).getD k (0, 0, [])).2.2)))) : Value))]) ⟨hpZ 12 (by decide), trivial⟩]
     refine XG.yes (t := 78) rfl (vF h7) (XOp.move (.int .i64 ((k : Int))) rfl ?_)
     exact ⟨rfl, rfl, rfl⟩
    refine pC (fun vals R hpZ => ?_) ?_
    ·rw [eS (l := [(12, (.bool (decide (¬(((stepAtL x4 x5 x6 (((stepsS x4 x5 x6).getD k (0, 0, [])).1) (((stepsS x4 x5 x6).getD k (0, 0, [])).2.1)).getD []) = (((stepsS x4 x5 x6).getD k (0, 0, [])).2.2)))) : Value)), (15, x7), (16, (.int .i64 ((k : Int)) : Value))]) ⟨hpZ 12 (by decide), hpZ 15 (by decide), hpZ 16 (by decide), trivial⟩]
     refine XG.yes (t := 78) rfl (vF h7) (XOp.indexS (v := x7) (i := (k : Int)) (n := (stepsS x4 x5 x6).length) k runUnderlying45 sizeOf48 rfl rfl rfl hr6.slv (by omega) rfl ?_)
     exact ⟨rfl, rfl, rfl⟩
    refine pC (fun vals R hpZ => ?_) ?_
    ·rw [eS (l := [(12, (.bool (decide (¬(((stepAtL x4 x5 x6 (((stepsS x4 x5 x6).getD k (0, 0, [])).1) (((stepsS x4 x5 x6).getD k (0, 0, [])).2.1)).getD []) = (((stepsS x4 x5 x6).getD k (0, 0, [])).2.2)))) : Value)), (17, (.pointer (some (elemA x7 (k * 3))) : Value))]) ⟨hpZ 12 (by decide), hpZ 17 (by decide), trivial⟩]
     refine XG.yes (t := 78) rfl (vF h7) (XOp.fieldE (v := x7) (k * 3) runUnderlying48 rfl sizeOf2 (by decide) rfl rfl ?_)
     exact ⟨rfl, rfl, rfl⟩
    refine pC (fun vals R hpZ => ?_) ?_
    ·rw [eS (l := [(12, (.bool (decide (¬(((stepAtL x4 x5 x6 (((stepsS x4 x5 x6).getD k (0, 0, [])).1) (((stepsS x4 x5 x6).getD k (0, 0, [])).2.1)).getD []) = (((stepsS x4 x5 x6).getD k (0, 0, [])).2.2)))) : Value)), (18, (.pointer (some (elemA x7 (k * 3))) : Value))]) ⟨hpZ 12 (by decide), hpZ 18 (by decide), trivial⟩]
     refine XG.yes (t := 78) rfl (vF h7) (XOp.load1 (v := .int .i64 (((stepsS x4 x5 x6).getD k (0, 0, [])).1)) isAgg2 rfl (hr8 _) ?_)
     exact ⟨rfl, rfl, rfl⟩
    refine pC (fun vals R hpZ => ?_) ?_
    ·rw [eS (l := [(12, (.bool (decide (¬(((stepAtL x4 x5 x6 (((stepsS x4 x5 x6).getD k (0, 0, [])).1) (((stepsS x4 x5 x6).getD k (0, 0, [])).2.1)).getD []) = (((stepsS x4 x5 x6).getD k (0, 0, [])).2.2)))) : Value))]) ⟨hpZ 12 (by decide), trivial⟩]
     refine XG.yes (t := 78) rfl (vF h7) (XOp.move (x7) rfl ?_)
     exact ⟨rfl, rfl, rfl⟩
    refine pC (fun vals R hpZ => ?_) ?_
    ·rw [eS (l := [(12, (.bool (decide (¬(((stepAtL x4 x5 x6 (((stepsS x4 x5 x6).getD k (0, 0, [])).1) (((stepsS x4 x5 x6).getD k (0, 0, [])).2.1)).getD []) = (((stepsS x4 x5 x6).getD k (0, 0, [])).2.2)))) : Value))]) ⟨hpZ 12 (by decide), trivial⟩]
     refine XG.yes (t := 78) rfl (vF h7) (XOp.move (.int .i64 ((k : Int))) rfl ?_)
     exact ⟨rfl, rfl, rfl⟩
    refine pC (fun vals R hpZ => ?_) ?_
    ·rw [eS (l := [(12, (.bool (decide (¬(((stepAtL x4 x5 x6 (((stepsS x4 x5 x6).getD k (0, 0, [])).1) (((stepsS x4 x5 x6).getD k (0, 0, [])).2.1)).getD []) = (((stepsS x4 x5 x6).getD k (0, 0, [])).2.2)))) : Value)), (20, x7), (21, (.int .i64 ((k : Int)) : Value))]) ⟨hpZ 12 (by decide), hpZ 20 (by decide), hpZ 21 (by decide), trivial⟩]
     refine XG.yes (t := 78) rfl (vF h7) (XOp.indexS (v := x7) (i := (k : Int)) (n := (stepsS x4 x5 x6).length) k runUnderlying45 sizeOf48 rfl rfl rfl hr6.slv (by omega) rfl ?_)
     exact ⟨rfl, rfl, rfl⟩
    refine pC (fun vals R hpZ => ?_) ?_
    ·rw [eS (l := [(12, (.bool (decide (¬(((stepAtL x4 x5 x6 (((stepsS x4 x5 x6).getD k (0, 0, [])).1) (((stepsS x4 x5 x6).getD k (0, 0, [])).2.1)).getD []) = (((stepsS x4 x5 x6).getD k (0, 0, [])).2.2)))) : Value)), (22, (.pointer (some (elemA x7 (k * 3))) : Value))]) ⟨hpZ 12 (by decide), hpZ 22 (by decide), trivial⟩]
     refine XG.yes (t := 78) rfl (vF h7) (XOp.fieldE (v := x7) (k * 3 + 1) runUnderlying48 rfl sizeOf2 (by decide) rfl rfl ?_)
     exact ⟨rfl, rfl, rfl⟩
    refine pC (fun vals R hpZ => ?_) ?_
    ·rw [eS (l := [(12, (.bool (decide (¬(((stepAtL x4 x5 x6 (((stepsS x4 x5 x6).getD k (0, 0, [])).1) (((stepsS x4 x5 x6).getD k (0, 0, [])).2.1)).getD []) = (((stepsS x4 x5 x6).getD k (0, 0, [])).2.2)))) : Value)), (23, (.pointer (some (elemA x7 (k * 3 + 1))) : Value))]) ⟨hpZ 12 (by decide), hpZ 23 (by decide), trivial⟩]
     refine XG.yes (t := 78) rfl (vF h7) (XOp.load1 (v := .int .i64 (((stepsS x4 x5 x6).getD k (0, 0, [])).2.1)) isAgg2 rfl (hr9 _) ?_)
     exact ⟨rfl, rfl, rfl⟩
    exact stepsP.nil
   intro vals hphi
   rw [eS (l := [(12, (.bool (decide (¬(((stepAtL x4 x5 x6 (((stepsS x4 x5 x6).getD k (0, 0, [])).1) (((stepsS x4 x5 x6).getD k (0, 0, [])).2.1)).getD []) = (((stepsS x4 x5 x6).getD k (0, 0, [])).2.2)))) : Value)), (13, (.agg #[x1, x2] : Value)), (14, x3), (19, (.int .i64 (((stepsS x4 x5 x6).getD k (0, 0, [])).1) : Value)), (24, (.int .i64 (((stepsS x4 x5 x6).getD k (0, 0, [])).2.1) : Value))]) ⟨(hphi 12 (by decide)), (hphi 13 (by decide)), (hphi 14 (by decide)), (hphi 19 (by decide)), (hphi 24 (by decide)), trivial⟩]
   show XL _ _ _ _ _ _ _ (cellsH b1 [x1, x2] 29 :: L)
   refine XL.yes (t := 78) rfl (vF h7) (XOp.call (args := [.agg #[x1, x2], x3, .int .i64 (((stepsS x4 x5 x6).getD k (0, 0, [])).1), .int .i64 (((stepsS x4 x5 x6).getD k (0, 0, [])).2.1)]) call19 rfl (RedexAt_spec (p := ((stepsS x4 x5 x6).getD k (0, 0, [])).1) (r := ((stepsS x4 x5 x6).getD k (0, 0, [])).2.1) hr1 hr2 hr3) ?_)
   rintro _ _ _ _ ⟨rfl, rfl, rfl⟩
   refine XL.yes (t := 78) rfl (vF h7) (XOp.notB (b := redAtL x4 x5 x6 (((stepsS x4 x5 x6).getD k (0, 0, [])).1) (((stepsS x4 x5 x6).getD k (0, 0, [])).2.1)) rfl ?_)
   refine cX (XOp.pickF (.bool (!(redAtL x4 x5 x6 (((stepsS x4 x5 x6).getD k (0, 0, [])).1) (((stepsS x4 x5 x6).getD k (0, 0, [])).2.1)))) (vF h7) rfl ?_)
   refine XL.nil ?_
   refine X.cond (t := !(redAtL x4 x5 x6 (((stepsS x4 x5 x6).getD k (0, 0, [])).1) (((stepsS x4 x5 x6).getD k (0, 0, [])).2.1))) rfl (fun h8 => ?_) (fun h8 => ?_)
   ·exact absurd h8 (by rw [(hst (by omega)).2]; simp)
   refine X.skip (X.region ?_)
   refine XL.mv (.int .i64 ((k : Int))) rfl ?_
   refine cX (XOp.addR (a := (k : Int)) (b := 1) (((k + 1 : Nat) : Int)) rfl rfl (by omega) (by omega) ?_)
   refine XL.as (.int .i64 (((k + 1 : Nat) : Int))) rfl ?_
   refine XL.nil ?_
   exact ⟨k + 1, _, FLe.refl _, le6, ⟨rfl, rfl, rfl, rfl, trivial⟩, (sC sR), ⟨rfl, (by (try dsimp only) <;> omega)⟩, (by omega)⟩
  refine X.exit (thenQ_exit (thenQ_exit (blockQ_exit ?_)))
  refine X.seq (X.region ?_)
  refine XL.as (.bool (true)) rfl ?_
  refine XL.nil ?_
  refine X.ret (retEnd (L' := L) [.bool (true)] (.bool (true)) (.tmp rfl .nil) rfl rF (FLe.trans (FLe.trans le1 le2) le3) (sD sR) ?_)
  exact ⟨rfl, rfl, rfl⟩
 rw [Bool.not_eq_true] at h3
 refine XL.no (t := 38) rfl (vB h3) ?_
 refine XL.no (t := 38) rfl (vB h3) ?_
 refine XL.no (t := 38) rfl (vB h3) ?_
 refine XL.yes (t := 36) rfl (vF h2) (XOp.pickF (.bool (false)) (vB h3) rfl ?_)
 refine cX (XOp.pickF (.bool (false)) (vF h2) rfl ?_)
 refine XL.nil ?_
 refine X.condF rfl ?_
 refine X.skip (X.seq (X.seq (X.region ?_)))
 refine XL.as (.int .i64 (0)) rfl ?_
 refine XL.nil (X.block ?_)
 refine X.loop (α := Nat) (fun k => [(3, ptr b1 0), (4, x3), (5, x7), (7, .int .i64 ((k : Int)))]) (fun k => cellsH b1 [x1, x2] 29 :: L) (fun k F' => F3 = F' ∧ (k ≤ (stepsS x4 x5 x6).length)) (fun k => (stepsS x4 x5 x6).length - k) 0 ⟨rfl, rfl, rfl, rfl, trivial⟩ (sC sR) ⟨rfl, (Nat.zero_le _)⟩ ?_
 rintro k rE _ _ ⟨rfl, hk⟩
 show X _ _ _ _ (envs [(3, ptr b1 0), (4, x3), (5, x7), (7, .int .i64 ((k : Int)))] rE) _ (cellsH b1 [x1, x2] 29 :: L)
 have hst := fun (h : k < (stepsS x4 x5 x6).length) => steps_law h
 refine X.seq (X.seq (X.region ?_))
 refine XL.mv (.int .i64 ((k : Int))) rfl ?_
 refine XL.mv (x7) rfl ?_
 refine cX (XOp.lenS (v := x7) (n := (stepsS x4 x5 x6).length) runUnderlying45 rfl hr6.slv ?_)
 refine cX (XOp.lss (a := (k : Int)) (b := (((stepsS x4 x5 x6).length : Nat) : Int)) rfl rfl ?_)
 refine XL.nil ?_
 refine X.condD (p := (k : Int) < (((stepsS x4 x5 x6).length : Nat) : Int)) rfl (fun h9 => ?_) (fun h9 => ?_)
 ·refine X.skip (X.seq (X.block (X.seq ?_)))
  obtain ⟨a2, ha2, hr15, hr16, hr17⟩ := hr6.rd (i := k) (by omega)
  refine X.drawG [cellsH b1 [x1, x2] 29] L 17 [[], [], [], [], [], [], [], [], [], [], [], [], [], [12], [12], [], [12]] [[], [], [], [], [2, 3], [4], [5], [], [], [7, 8], [9], [10], [0, 1, 6, 11], [12], [12, 13], [12, 13], [12, 14]] [[], [], [], [], [], [], [], [], [], [], [], [], [], [], [], [], []] (phiG [fun FF us v => v = (.agg #[x1, x2] : Value), fun FF us v => v = x3, fun FF us v => v = x7, fun FF us v => v = (.int .i64 ((k : Int)) : Value), fun FF us v => v = (.pointer (some (elemA x7 (k * 3))) : Value), fun FF us v => v = (.pointer (some (elemA x7 (k * 3))) : Value), fun FF us v => v = (.int .i64 (((stepsS x4 x5 x6).getD k (0, 0, [])).1) : Value), fun FF us v => v = x7, fun FF us v => v = (.int .i64 ((k : Int)) : Value), fun FF us v => v = (.pointer (some (elemA x7 (k * 3))) : Value), fun FF us v => v = (.pointer (some (elemA x7 (k * 3 + 1))) : Value), fun FF us v => v = (.int .i64 (((stepsS x4 x5 x6).getD k (0, 0, [])).2.1) : Value), fun FF us v => (.tuple #[((tupAt v 0)), .bool ((stepAtL x4 x5 x6 (((stepsS x4 x5 x6).getD k (0, 0, [])).1) (((stepsS x4 x5 x6).getD k (0, 0, [])).2.1)).isSome)] : Value) = v ∧ (IntsF FF ((tupAt v 0)) ((stepAtL x4 x5 x6 (((stepsS x4 x5 x6).getD k (0, 0, [])).1) (((stepsS x4 x5 x6).getD k (0, 0, [])).2.1)).getD [])), fun FF us v => v = (.tuple #[((tupAt (us.getD 0 undef) 0)), .bool ((stepAtL x4 x5 x6 (((stepsS x4 x5 x6).getD k (0, 0, [])).1) (((stepsS x4 x5 x6).getD k (0, 0, [])).2.1)).isSome)] : Value), fun FF us v => v = ((tupAt (us.getD 0 undef) 0)), fun FF us v => v = (.bool ((stepAtL x4 x5 x6 (((stepsS x4 x5 x6).getD k (0, 0, [])).1) (((stepsS x4 x5 x6).getD k (0, 0, [])).2.1)).isSome) : Value), fun FF us v => v = ((tupAt (us.getD 0 undef) 0))]) (ownL [fun us v => [], fun us v => [], fun us v => [], fun us v => [], fun us v => [], fun us v => [], fun us v => [], fun us v => [], fun us v => [], fun us v => [], fun us v => [], fun us v => [], fun us v => [], fun us v => [], fun us v => [], fun us v => [], fun us v => []]) mixed rfl rfl (by kernel_rfl) (by kernel_rfl) (MonoG.get (mC (fun le h => h) (mC (fun le h => h) (mC (fun le h => h) (mC (fun le h => h) (mC (fun le h => h) (mC (fun le h => h) (mC (fun le h => h) (mC (fun le h => h) (mC (fun le h => h) (mC (fun le h => h) (mC (fun le h => h) (mC (fun le h => h) (mC (fun le h => ⟨h.1, h.2.mono le⟩) (mC (fun le h => h) (mC (fun le h => h) (mC (fun le h => h) (mC (fun le h => h) MonoG.nil)))))))))))))))))) ?_ ?_
  ·refine gC (fun vals Fs R leFs hpZ => ?_) ?_
   ·replace hbs := hbs.mono leFs
    replace hr1 := hr1.mono leFs
    replace hr2 := hr2.mono leFs
    replace hr3 := hr3.mono leFs
    replace hr6 := hr6.mono leFs
    replace ha2 := ha2.mono leFs
    replace hr15 := Rd.monoA hr15 leFs
    replace hr16 := Rd.monoA hr16 leFs
    replace hr17 := Rd.monoA hr17 leFs
    refine XG.op (XOp.loadN [x1, x2] isAgg29 sizeOf29 rfl rfl (Rd.ownN [] rfl rfl) ?_)
    exact ⟨rfl, rfl⟩
   refine gC (fun vals Fs R leFs hpZ => ?_) ?_
   ·refine XG.op (XOp.move (x3) rfl ?_)
    exact ⟨rfl, rfl⟩
   refine gC (fun vals Fs R leFs hpZ => ?_) ?_
   ·refine XG.op (XOp.move (x7) rfl ?_)
    exact ⟨rfl, rfl⟩
   refine gC (fun vals Fs R leFs hpZ => ?_) ?_
   ·refine XG.op (XOp.move (.int .i64 ((k : Int))) rfl ?_)
    exact ⟨rfl, rfl⟩
   refine gC (fun vals Fs R leFs hpZ => ?_) ?_
   ·replace hbs := hbs.mono leFs
    replace hr1 := hr1.mono leFs
    replace hr2 := hr2.mono leFs
    replace hr3 := hr3.mono leFs
    replace hr6 := hr6.mono leFs
    replace ha2 := ha2.mono leFs
    replace hr15 := Rd.monoA hr15 leFs
    replace hr16 := Rd.monoA hr16 leFs
    replace hr17 := Rd.monoA hr17 leFs
    rw [eS (l := [(2, x7), (3, (.int .i64 ((k : Int)) : Value))]) ⟨(hpZ 2 (by decide)), (hpZ 3 (by decide)), trivial⟩]
    refine XG.op (XOp.indexS (v := x7) (i := (k : Int)) (n := (stepsS x4 x5 x6).length) k runUnderlying45 sizeOf48 rfl rfl rfl hr6.slv (by omega) rfl ?_)
    exact ⟨rfl, rfl⟩
   refine gC (fun vals Fs R leFs hpZ => ?_) ?_
   ·rw [eS (l := [(4, (.pointer (some (elemA x7 (k * 3))) : Value))]) ⟨(hpZ 4 (by decide)), trivial⟩]
    refine XG.op (XOp.fieldE (v := x7) (k * 3) runUnderlying48 rfl sizeOf2 (by decide) rfl rfl ?_)
    exact ⟨rfl, rfl⟩
   refine gC (fun vals Fs R leFs hpZ => ?_) ?_
   ·replace hbs := hbs.mono leFs
    replace hr1 := hr1.mono leFs
    replace hr2 := hr2.mono leFs
    replace hr3 := hr3.mono leFs
    replace hr6 := hr6.mono leFs
    replace ha2 := ha2.mono leFs
    replace hr15 := Rd.monoA hr15 leFs
    replace hr16 := Rd.monoA hr16 leFs
    replace hr17 := Rd.monoA hr17 leFs
    rw [eS (l := [(5, (.pointer (some (elemA x7 (k * 3))) : Value))]) ⟨(hpZ 5 (by decide)), trivial⟩]
    refine XG.op (XOp.load1 (v := .int .i64 (((stepsS x4 x5 x6).getD k (0, 0, [])).1)) isAgg2 rfl (hr15 _) ?_)
    exact ⟨rfl, rfl⟩
   refine gC (fun vals Fs R leFs hpZ => ?_) ?_
   ·refine XG.op (XOp.move (x7) rfl ?_)
    exact ⟨rfl, rfl⟩
   refine gC (fun vals Fs R leFs hpZ => ?_) ?_
   ·refine XG.op (XOp.move (.int .i64 ((k : Int))) rfl ?_)
    exact ⟨rfl, rfl⟩
   refine gC (fun vals Fs R leFs hpZ => ?_) ?_
   ·replace hbs := hbs.mono leFs
    replace hr1 := hr1.mono leFs
    replace hr2 := hr2.mono leFs
    replace hr3 := hr3.mono leFs
    replace hr6 := hr6.mono leFs
    replace ha2 := ha2.mono leFs
    replace hr15 := Rd.monoA hr15 leFs
    replace hr16 := Rd.monoA hr16 leFs
    replace hr17 := Rd.monoA hr17 leFs
    rw [eS (l := [(7, x7), (8, (.int .i64 ((k : Int)) : Value))]) ⟨(hpZ 7 (by decide)), (hpZ 8 (by decide)), trivial⟩]
    refine XG.op (XOp.indexS (v := x7) (i := (k : Int)) (n := (stepsS x4 x5 x6).length) k runUnderlying45 sizeOf48 rfl rfl rfl hr6.slv (by omega) rfl ?_)
    exact ⟨rfl, rfl⟩
   refine gC (fun vals Fs R leFs hpZ => ?_) ?_
   ·rw [eS (l := [(9, (.pointer (some (elemA x7 (k * 3))) : Value))]) ⟨(hpZ 9 (by decide)), trivial⟩]
    refine XG.op (XOp.fieldE (v := x7) (k * 3 + 1) runUnderlying48 rfl sizeOf2 (by decide) rfl rfl ?_)
    exact ⟨rfl, rfl⟩
   refine gC (fun vals Fs R leFs hpZ => ?_) ?_
   ·replace hbs := hbs.mono leFs
    replace hr1 := hr1.mono leFs
    replace hr2 := hr2.mono leFs
    replace hr3 := hr3.mono leFs
    replace hr6 := hr6.mono leFs
    replace ha2 := ha2.mono leFs
    replace hr15 := Rd.monoA hr15 leFs
    replace hr16 := Rd.monoA hr16 leFs
    replace hr17 := Rd.monoA hr17 leFs
    rw [eS (l := [(10, (.pointer (some (elemA x7 (k * 3 + 1))) : Value))]) ⟨(hpZ 10 (by decide)), trivial⟩]
    refine XG.op (XOp.load1 (v := .int .i64 (((stepsS x4 x5 x6).getD k (0, 0, [])).2.1)) isAgg2 rfl (hr16 _) ?_)
    exact ⟨rfl, rfl⟩
   refine gC (fun vals Fs R leFs hpZ => ?_) ?_
   ·replace hbs := hbs.mono leFs
    replace hr1 := hr1.mono leFs
    replace hr2 := hr2.mono leFs
    replace hr3 := hr3.mono leFs
    replace hr6 := hr6.mono leFs
    replace ha2 := ha2.mono leFs
    replace hr15 := Rd.monoA hr15 leFs
    replace hr16 := Rd.monoA hr16 leFs
    replace hr17 := Rd.monoA hr17 leFs
    rw [eS (l := [(0, (.agg #[x1, x2] : Value)), (1, x3), (6, (.int .i64 (((stepsS x4 x5 x6).getD k (0, 0, [])).1) : Value)), (11, (.int .i64 (((stepsS x4 x5 x6).getD k (0, 0, [])).2.1) : Value))]) ⟨(hpZ 0 (by decide)), (hpZ 1 (by decide)), (hpZ 6 (by decide)), (hpZ 11 (by decide)), trivial⟩]
    refine XG.op (XOp.call (args := [.agg #[x1, x2], x3, .int .i64 (((stepsS x4 x5 x6).getD k (0, 0, [])).1), .int .i64 (((stepsS x4 x5 x6).getD k (0, 0, [])).2.1)]) call33 rfl (StepAt_spec (p := ((stepsS x4 x5 x6).getD k (0, 0, [])).1) (r := ((stepsS x4 x5 x6).getD k (0, 0, [])).2.1) hr1 hr2 hr3) ?_)
    rintro _ F8 _ le8 ⟨x12, rfl, hr20, hr21, rfl⟩
    replace hr1 := hr1.mono le8
    replace hr2 := hr2.mono le8
    replace hr3 := hr3.mono le8
    replace hr6 := hr6.mono le8
    replace ha2 := ha2.mono le8
    replace hr15 := Rd.monoA hr15 le8
    replace hr16 := Rd.monoA hr16 le8
    replace hr17 := Rd.monoA hr17 le8
    exact ⟨⟨rfl, hr20⟩, rfl⟩
   refine gC (fun vals Fs R leFs hpZ => ?_) ?_
   ·obtain ⟨e12, f12_5hr⟩ := hpZ 12 (by decide)
    rw [eS (l := [(12, (.tuple #[((tupAt (vals 12) 0)), .bool ((stepAtL x4 x5 x6 (((stepsS x4 x5 x6).getD k (0, 0, [])).1) (((stepsS x4 x5 x6).getD k (0, 0, [])).2.1)).isSome)] : Value))]) ⟨(e12).symm, trivial⟩]
    refine XG.op (XOp.move (.tuple #[((tupAt (vals 12) 0)), .bool ((stepAtL x4 x5 x6 (((stepsS x4 x5 x6).getD k (0, 0, [])).1) (((stepsS x4 x5 x6).getD k (0, 0, [])).2.1)).isSome)]) rfl ?_)
    exact ⟨rfl, rfl⟩
   refine gC (fun vals Fs R leFs hpZ => ?_) ?_
   ·obtain ⟨e12, f12_5hr⟩ := hpZ 12 (by decide)
    have e13 : vals 13 = (.tuple #[((tupAt (vals 12) 0)), .bool ((stepAtL x4 x5 x6 (((stepsS x4 x5 x6).getD k (0, 0, [])).1) (((stepsS x4 x5 x6).getD k (0, 0, [])).2.1)).isSome)] : Value) := hpZ 13 (by decide)
    rw [eS (l := [(12, (.tuple #[((tupAt (vals 12) 0)), .bool ((stepAtL x4 x5 x6 (((stepsS x4 x5 x6).getD k (0, 0, [])).1) (((stepsS x4 x5 x6).getD k (0, 0, [])).2.1)).isSome)] : Value)), (13, (.tuple #[((tupAt (vals 12) 0)), .bool ((stepAtL x4 x5 x6 (((stepsS x4 x5 x6).getD k (0, 0, [])).1) (((stepsS x4 x5 x6).getD k (0, 0, [])).2.1)).isSome)] : Value))]) ⟨(e12).symm, e13, trivial⟩]
    refine XG.op (XOp.extract (((tupAt (vals 12) 0))) rfl rfl ?_)
    exact ⟨rfl, rfl⟩
   refine gC (fun vals Fs R leFs hpZ => ?_) ?_
   ·obtain ⟨e12, f12_5hr⟩ := hpZ 12 (by decide)
    have e13 : vals 13 = (.tuple #[((tupAt (vals 12) 0)), .bool ((stepAtL x4 x5 x6 (((stepsS x4 x5 x6).getD k (0, 0, [])).1) (((stepsS x4 x5 x6).getD k (0, 0, [])).2.1)).isSome)] : Value) := hpZ 13 (by decide)
    rw [eS (l := [(12, (.tuple #[((tupAt (vals 12) 0)), .bool ((stepAtL x4 x5 x6 (((stepsS x4 x5 x6).getD k (0, 0, [])).1) (((stepsS x4 x5 x6).getD k (0, 0, [])).2.1)).isSome)] : Value)), (13, (.tuple #[((tupAt (vals 12) 0)), .bool ((stepAtL x4 x5 x6 (((stepsS x4 x5 x6).getD k (0, 0, [])).1) (((stepsS x4 x5 x6).getD k (0, 0, [])).2.1)).isSome)] : Value))]) ⟨(e12).symm, e13, trivial⟩]
    refine XG.op (XOp.extract (.bool ((stepAtL x4 x5 x6 (((stepsS x4 x5 x6).getD k (0, 0, [])).1) (((stepsS x4 x5 x6).getD k (0, 0, [])).2.1)).isSome)) rfl rfl ?_)
    exact ⟨rfl, rfl⟩
   refine gC (fun vals Fs R leFs hpZ => ?_) ?_
   ·obtain ⟨e12, f12_5hr⟩ := hpZ 12 (by decide)
    have e14 : vals 14 = ((tupAt (vals 12) 0)) := hpZ 14 (by decide)
    rw [eS (l := [(12, (.tuple #[((tupAt (vals 12) 0)), .bool ((stepAtL x4 x5 x6 (((stepsS x4 x5 x6).getD k (0, 0, [])).1) (((stepsS x4 x5 x6).getD k (0, 0, [])).2.1)).isSome)] : Value)), (14, ((tupAt (vals 12) 0)))]) ⟨(e12).symm, e14, trivial⟩]
    refine XG.op (XOp.assign (((tupAt (vals 12) 0))) rfl ?_)
    exact ⟨rfl, rfl⟩
   exact stepsG.nil
  intro vals F9 le9 hphi
  obtain ⟨e12, f12_5hr⟩ := hphi 12 (by decide)
  have e13 : vals 13 = (.tuple #[((tupAt (vals 12) 0)), .bool ((stepAtL x4 x5 x6 (((stepsS x4 x5 x6).getD k (0, 0, [])).1) (((stepsS x4 x5 x6).getD k (0, 0, [])).2.1)).isSome)] : Value) := hphi 13 (by decide)
  have e14 : vals 14 = ((tupAt (vals 12) 0)) := hphi 14 (by decide)
  have e16 : vals 16 = ((tupAt (vals 12) 0)) := hphi 16 (by decide)
  generalize hu2 : ((tupAt (vals 12) 0)) = u2 at e12 f12_5hr e13 e14 e16
  rw [eS (l := [(12, (.tuple #[u2, .bool ((stepAtL x4 x5 x6 (((stepsS x4 x5 x6).getD k (0, 0, [])).1) (((stepsS x4 x5 x6).getD k (0, 0, [])).2.1)).isSome)] : Value)), (15, (.bool ((stepAtL x4 x5 x6 (((stepsS x4 x5 x6).getD k (0, 0, [])).1) (((stepsS x4 x5 x6).getD k (0, 0, [])).2.1)).isSome) : Value)), (16, u2)]) ⟨(e12).symm, (hphi 15 (by decide)), e16, trivial⟩]
  replace hr1 := hr1.mono le9
  replace hr2 := hr2.mono le9
  replace hr3 := hr3.mono le9
  replace hr6 := hr6.mono le9
  replace ha2 := ha2.mono le9
  replace hr15 := Rd.monoA hr15 le9
  replace hr16 := Rd.monoA hr16 le9
  replace hr17 := Rd.monoA hr17 le9
  show XL _ _ _ _ _ _ _ (cellsH b1 [x1, x2] 29 :: L)
  refine XL.as (.bool ((stepAtL x4 x5 x6 (((stepsS x4 x5 x6).getD k (0, 0, [])).1) (((stepsS x4 x5 x6).getD k (0, 0, [])).2.1)).isSome)) rfl ?_
  refine XL.nil (X.seq ?_)
  by_cases h10 : (!((stepAtL x4 x5 x6 (((stepsS x4 x5 x6).getD k (0, 0, [])).1) (((stepsS x4 x5 x6).getD k (0, 0, [])).2.1)).isSome)) = true
  ·exact absurd h10 (by rw [(hst (by omega)).1]; simp)
  rw [Bool.not_eq_true] at h10
  by_cases h11 : ¬(((stepAtL x4 x5 x6 (((stepsS x4 x5 x6).getD k (0, 0, [])).1) (((stepsS x4 x5 x6).getD k (0, 0, [])).2.1)).getD []) = (((stepsS x4 x5 x6).getD k (0, 0, [])).2.2))
  ·exact absurd (by rw [(hst (by omega)).1]; rfl) h11
  refine X.draw [cellsH b1 [x1, x2] 29] L 25 [[], [], [], [], [], [], [], [], [], [], [], [], [], [], [], [], [], [], [], [], [], [], [], [], []] [[], [0], [1], [2], [2], [2], [2, 4, 5], [2, 6], [2, 7], [2, 3, 8], [2, 9], [2, 10], [11], [12], [12], [12], [12], [12, 15, 16], [12, 17], [12, 18], [12], [12], [12, 20, 21], [12, 22], [12, 23]] (phiL [fun us v => v = (.bool ((stepAtL x4 x5 x6 (((stepsS x4 x5 x6).getD k (0, 0, [])).1) (((stepsS x4 x5 x6).getD k (0, 0, [])).2.1)).isSome) : Value), fun us v => v = (.bool (!((stepAtL x4 x5 x6 (((stepsS x4 x5 x6).getD k (0, 0, [])).1) (((stepsS x4 x5 x6).getD k (0, 0, [])).2.1)).isSome)) : Value), fun us v => v = (.bool (!((stepAtL x4 x5 x6 (((stepsS x4 x5 x6).getD k (0, 0, [])).1) (((stepsS x4 x5 x6).getD k (0, 0, [])).2.1)).isSome)) : Value), fun us v => v = u2, fun us v => v = x7, fun us v => v = (.int .i64 ((k : Int)) : Value), fun us v => v = (.pointer (some (elemA x7 (k * 3))) : Value), fun us v => v = (.pointer (some (elemA x7 (k * 3 + 2))) : Value), fun us v => v = a2, fun us v => v = (.bool (decide (((stepAtL x4 x5 x6 (((stepsS x4 x5 x6).getD k (0, 0, [])).1) (((stepsS x4 x5 x6).getD k (0, 0, [])).2.1)).getD []) = (((stepsS x4 x5 x6).getD k (0, 0, [])).2.2))) : Value), fun us v => v = (.bool (decide (¬(((stepAtL x4 x5 x6 (((stepsS x4 x5 x6).getD k (0, 0, [])).1) (((stepsS x4 x5 x6).getD k (0, 0, [])).2.1)).getD []) = (((stepsS x4 x5 x6).getD k (0, 0, [])).2.2)))) : Value), fun us v => v = (.bool (decide (¬(((stepAtL x4 x5 x6 (((stepsS x4 x5 x6).getD k (0, 0, [])).1) (((stepsS x4 x5 x6).getD k (0, 0, [])).2.1)).getD []) = (((stepsS x4 x5 x6).getD k (0, 0, [])).2.2)))) : Value), fun us v => v = (.bool (decide (¬(((stepAtL x4 x5 x6 (((stepsS x4 x5 x6).getD k (0, 0, [])).1) (((stepsS x4 x5 x6).getD k (0, 0, [])).2.1)).getD []) = (((stepsS x4 x5 x6).getD k (0, 0, [])).2.2)))) : Value), fun us v => v = (.agg #[x1, x2] : Value), fun us v => v = x3, fun us v => v = x7, fun us v => v = (.int .i64 ((k : Int)) : Value), fun us v => v = (.pointer (some (elemA x7 (k * 3))) : Value), fun us v => v = (.pointer (some (elemA x7 (k * 3))) : Value), fun us v => v = (.int .i64 (((stepsS x4 x5 x6).getD k (0, 0, [])).1) : Value), fun us v => v = x7, fun us v => v = (.int .i64 ((k : Int)) : Value), fun us v => v = (.pointer (some (elemA x7 (k * 3))) : Value), fun us v => v = (.pointer (some (elemA x7 (k * 3 + 1))) : Value), fun us v => v = (.int .i64 (((stepsS x4 x5 x6).getD k (0, 0, [])).2.1) : Value)]) (ownL [fun us v => [], fun us v => [], fun us v => [], fun us v => [], fun us v => [], fun us v => [], fun us v => [], fun us v => [], fun us v => [], fun us v => [], fun us v => [], fun us v => [], fun us v => [], fun us v => [], fun us v => [], fun us v => [], fun us v => [], fun us v => [], fun us v => [], fun us v => [], fun us v => [], fun us v => [], fun us v => [], fun us v => [], fun us v => []]) mixed rfl rfl (by kernel_rfl) ?_ ?_
  ·refine pC (fun vals R hpZ => ?_) ?_
   ·refine XG.op (XOp.move (.bool ((stepAtL x4 x5 x6 (((stepsS x4 x5 x6).getD k (0, 0, [])).1) (((stepsS x4 x5 x6).getD k (0, 0, [])).2.1)).isSome)) rfl ?_)
    exact ⟨rfl, rfl, rfl⟩
   refine pC (fun vals R hpZ => ?_) ?_
   ·rw [eS (l := [(0, (.bool ((stepAtL x4 x5 x6 (((stepsS x4 x5 x6).getD k (0, 0, [])).1) (((stepsS x4 x5 x6).getD k (0, 0, [])).2.1)).isSome) : Value))]) ⟨hpZ 0 (by decide), trivial⟩]
    refine XG.op (XOp.notB (b := (stepAtL x4 x5 x6 (((stepsS x4 x5 x6).getD k (0, 0, [])).1) (((stepsS x4 x5 x6).getD k (0, 0, [])).2.1)).isSome) rfl ?_)
    exact ⟨rfl, rfl, rfl⟩
   refine pC (fun vals R hpZ => ?_) ?_
   ·rw [eS (l := [(1, (.bool (!((stepAtL x4 x5 x6 (((stepsS x4 x5 x6).getD k (0, 0, [])).1) (((stepsS x4 x5 x6).getD k (0, 0, [])).2.1)).isSome)) : Value))]) ⟨hpZ 1 (by decide), trivial⟩]
    refine XG.op (XOp.move (.bool (!((stepAtL x4 x5 x6 (((stepsS x4 x5 x6).getD k (0, 0, [])).1) (((stepsS x4 x5 x6).getD k (0, 0, [])).2.1)).isSome))) rfl ?_)
    exact ⟨rfl, rfl, rfl⟩
   refine pC (fun vals R hpZ => ?_) ?_
   ·rw [eS (l := [(2, (.bool (!((stepAtL x4 x5 x6 (((stepsS x4 x5 x6).getD k (0, 0, [])).1) (((stepsS x4 x5 x6).getD k (0, 0, [])).2.1)).isSome)) : Value))]) ⟨hpZ 2 (by decide), trivial⟩]
    refine XG.yes (t := 68) rfl (vB h10) (XOp.move (u2) rfl ?_)
    exact ⟨rfl, rfl, rfl⟩
   refine pC (fun vals R hpZ => ?_) ?_
   ·rw [eS (l := [(2, (.bool (!((stepAtL x4 x5 x6 (((stepsS x4 x5 x6).getD k (0, 0, [])).1) (((stepsS x4 x5 x6).getD k (0, 0, [])).2.1)).isSome)) : Value))]) ⟨hpZ 2 (by decide), trivial⟩]
    refine XG.yes (t := 68) rfl (vB h10) (XOp.move (x7) rfl ?_)
    exact ⟨rfl, rfl, rfl⟩
   refine pC (fun vals R hpZ => ?_) ?_
   ·rw [eS (l := [(2, (.bool (!((stepAtL x4 x5 x6 (((stepsS x4 x5 x6).getD k (0, 0, [])).1) (((stepsS x4 x5 x6).getD k (0, 0, [])).2.1)).isSome)) : Value))]) ⟨hpZ 2 (by decide), trivial⟩]
    refine XG.yes (t := 68) rfl (vB h10) (XOp.move (.int .i64 ((k : Int))) rfl ?_)
    exact ⟨rfl, rfl, rfl⟩
   refine pC (fun vals R hpZ => ?_) ?_
   ·rw [eS (l := [(2, (.bool (!((stepAtL x4 x5 x6 (((stepsS x4 x5 x6).getD k (0, 0, [])).1) (((stepsS x4 x5 x6).getD k (0, 0, [])).2.1)).isSome)) : Value)), (4, x7), (5, (.int .i64 ((k : Int)) : Value))]) ⟨hpZ 2 (by decide), hpZ 4 (by decide), hpZ 5 (by decide), trivial⟩]
    refine XG.yes (t := 68) rfl (vB h10) (XOp.indexS (v := x7) (i := (k : Int)) (n := (stepsS x4 x5 x6).length) k runUnderlying45 sizeOf48 rfl rfl rfl hr6.slv (by omega) rfl ?_)
    exact ⟨rfl, rfl, rfl⟩
   refine pC (fun vals R hpZ => ?_) ?_
   ·rw [eS (l := [(2, (.bool (!((stepAtL x4 x5 x6 (((stepsS x4 x5 x6).getD k (0, 0, [])).1) (((stepsS x4 x5 x6).getD k (0, 0, [])).2.1)).isSome)) : Value)), (6, (.pointer (some (elemA x7 (k * 3))) : Value))]) ⟨hpZ 2 (by decide), hpZ 6 (by decide), trivial⟩]
    refine XG.yes (t := 68) rfl (vB h10) (XOp.fieldE (v := x7) (k * 3 + 2) runUnderlying48 rfl sizeOf24 (by decide) rfl rfl ?_)
    exact ⟨rfl, rfl, rfl⟩
   refine pC (fun vals R hpZ => ?_) ?_
   ·rw [eS (l := [(2, (.bool (!((stepAtL x4 x5 x6 (((stepsS x4 x5 x6).getD k (0, 0, [])).1) (((stepsS x4 x5 x6).getD k (0, 0, [])).2.1)).isSome)) : Value)), (7, (.pointer (some (elemA x7 (k * 3 + 2))) : Value))]) ⟨hpZ 2 (by decide), hpZ 7 (by decide), trivial⟩]
    refine XG.yes (t := 68) rfl (vB h10) (XOp.load1 (v := a2) isAgg24 rfl (hr17 _) ?_)
    exact ⟨rfl, rfl, rfl⟩
   refine pC (fun vals R hpZ => ?_) ?_
   ·rw [eS (l := [(2, (.bool (!((stepAtL x4 x5 x6 (((stepsS x4 x5 x6).getD k (0, 0, [])).1) (((stepsS x4 x5 x6).getD k (0, 0, [])).2.1)).isSome)) : Value)), (3, u2), (8, a2)]) ⟨hpZ 2 (by decide), hpZ 3 (by decide), hpZ 8 (by decide), trivial⟩]
    refine XG.yes (t := 68) rfl (vB h10) (XOp.call (args := [u2, a2]) call34 rfl (iSameTerm_spec f12_5hr ha2 (hbd := (.inr (by have := hse k (by omega); omega)))) ?_)
    rintro _ _ _ _ ⟨rfl, rfl, rfl⟩
    exact ⟨rfl, rfl, rfl⟩
   refine pC (fun vals R hpZ => ?_) ?_
   ·rw [eS (l := [(2, (.bool (!((stepAtL x4 x5 x6 (((stepsS x4 x5 x6).getD k (0, 0, [])).1) (((stepsS x4 x5 x6).getD k (0, 0, [])).2.1)).isSome)) : Value)), (9, (.bool (decide (((stepAtL x4 x5 x6 (((stepsS x4 x5 x6).getD k (0, 0, [])).1) (((stepsS x4 x5 x6).getD k (0, 0, [])).2.1)).getD []) = (((stepsS x4 x5 x6).getD k (0, 0, [])).2.2))) : Value))]) ⟨hpZ 2 (by decide), hpZ 9 (by decide), trivial⟩]
    refine XG.yes (t := 68) rfl (vB h10) (XOp.notD (p := ((stepAtL x4 x5 x6 (((stepsS x4 x5 x6).getD k (0, 0, [])).1) (((stepsS x4 x5 x6).getD k (0, 0, [])).2.1)).getD []) = (((stepsS x4 x5 x6).getD k (0, 0, [])).2.2)) rfl ?_)
    exact ⟨rfl, rfl, rfl⟩
   refine pC (fun vals R hpZ => ?_) ?_
   ·rw [eS (l := [(2, (.bool (!((stepAtL x4 x5 x6 (((stepsS x4 x5 x6).getD k (0, 0, [])).1) (((stepsS x4 x5 x6).getD k (0, 0, [])).2.1)).isSome)) : Value)), (10, (.bool (decide (¬(((stepAtL x4 x5 x6 (((stepsS x4 x5 x6).getD k (0, 0, [])).1) (((stepsS x4 x5 x6).getD k (0, 0, [])).2.1)).getD []) = (((stepsS x4 x5 x6).getD k (0, 0, [])).2.2)))) : Value))]) ⟨hpZ 2 (by decide), hpZ 10 (by decide), trivial⟩]
    refine XG.op (XOp.pickF (.bool (decide (¬(((stepAtL x4 x5 x6 (((stepsS x4 x5 x6).getD k (0, 0, [])).1) (((stepsS x4 x5 x6).getD k (0, 0, [])).2.1)).getD []) = (((stepsS x4 x5 x6).getD k (0, 0, [])).2.2))))) (vB h10) rfl ?_)
    exact ⟨rfl, rfl, rfl⟩
   refine pC (fun vals R hpZ => ?_) ?_
   ·rw [eS (l := [(11, (.bool (decide (¬(((stepAtL x4 x5 x6 (((stepsS x4 x5 x6).getD k (0, 0, [])).1) (((stepsS x4 x5 x6).getD k (0, 0, [])).2.1)).getD []) = (((stepsS x4 x5 x6).getD k (0, 0, [])).2.2)))) : Value))]) ⟨hpZ 11 (by decide), trivial⟩]
    refine XG.op (XOp.move (.bool (decide (¬(((stepAtL x4 x5 x6 (((stepsS x4 x5 x6).getD k (0, 0, [])).1) (((stepsS x4 x5 x6).getD k (0, 0, [])).2.1)).getD []) = (((stepsS x4 x5 x6).getD k (0, 0, [])).2.2))))) rfl ?_)
    exact ⟨rfl, rfl, rfl⟩
   refine pC (fun vals R hpZ => ?_) ?_
   ·rw [eS (l := [(12, (.bool (decide (¬(((stepAtL x4 x5 x6 (((stepsS x4 x5 x6).getD k (0, 0, [])).1) (((stepsS x4 x5 x6).getD k (0, 0, [])).2.1)).getD []) = (((stepsS x4 x5 x6).getD k (0, 0, [])).2.2)))) : Value))]) ⟨hpZ 12 (by decide), trivial⟩]
    refine XG.yes (t := 78) rfl (vF h11) (XOp.loadN [x1, x2] isAgg29 sizeOf29 rfl rfl (Rd.ownN [] rfl rfl) ?_)
    exact ⟨rfl, rfl, rfl⟩
   refine pC (fun vals R hpZ => ?_) ?_
   ·rw [eS (l := [(12, (.bool (decide (¬(((stepAtL x4 x5 x6 (((stepsS x4 x5 x6).getD k (0, 0, [])).1) (((stepsS x4 x5 x6).getD k (0, 0, [])).2.1)).getD []) = (((stepsS x4 x5 x6).getD k (0, 0, [])).2.2)))) : Value))]) ⟨hpZ 12 (by decide), trivial⟩]
    refine XG.yes (t := 78) rfl (vF h11) (XOp.move (x3) rfl ?_)
    exact ⟨rfl, rfl, rfl⟩
   refine pC (fun vals R hpZ => ?_) ?_
   ·rw [eS (l := [(12, (.bool (decide (¬(((stepAtL x4 x5 x6 (((stepsS x4 x5 x6).getD k (0, 0, [])).1) (((stepsS x4 x5 x6).getD k (0, 0, [])).2.1)).getD []) = (((stepsS x4 x5 x6).getD k (0, 0, [])).2.2)))) : Value))]) ⟨hpZ 12 (by decide), trivial⟩]
    refine XG.yes (t := 78) rfl (vF h11) (XOp.move (x7) rfl ?_)
    exact ⟨rfl, rfl, rfl⟩
   refine pC (fun vals R hpZ => ?_) ?_
   ·rw [eS (l := [(12, (.bool (decide (¬(((stepAtL x4 x5 x6 (((stepsS x4 x5 x6).getD k (0, 0, [])).1) (((stepsS x4 x5 x6).getD k (0, 0, [])).2.1)).getD []) = (((stepsS x4 x5 x6).getD k (0, 0, [])).2.2)))) : Value))]) ⟨hpZ 12 (by decide), trivial⟩]
    refine XG.yes (t := 78) rfl (vF h11) (XOp.move (.int .i64 ((k : Int))) rfl ?_)
    exact ⟨rfl, rfl, rfl⟩
   refine pC (fun vals R hpZ => ?_) ?_
   ·rw [eS (l := [(12, (.bool (decide (¬(((stepAtL x4 x5 x6 (((stepsS x4 x5 x6).getD k (0, 0, [])).1) (((stepsS x4 x5 x6).getD k (0, 0, [])).2.1)).getD []) = (((stepsS x4 x5 x6).getD k (0, 0, [])).2.2)))) : Value)), (15, x7), (16, (.int .i64 ((k : Int)) : Value))]) ⟨hpZ 12 (by decide), hpZ 15 (by decide), hpZ 16 (by decide), trivial⟩]
    refine XG.yes (t := 78) rfl (vF h11) (XOp.indexS (v := x7) (i := (k : Int)) (n := (stepsS x4 x5 x6).length) k runUnderlying45 sizeOf48 rfl rfl rfl hr6.slv (by omega) rfl ?_)
    exact ⟨rfl, rfl, rfl⟩
   refine pC (fun vals R hpZ => ?_) ?_
   ·rw [eS (l := [(12, (.bool (decide (¬(((stepAtL x4 x5 x6 (((stepsS x4 x5 x6).getD k (0, 0, [])).1) (((stepsS x4 x5 x6).getD k (0, 0, [])).2.1)).getD []) = (((stepsS x4 x5 x6).getD k (0, 0, [])).2.2)))) : Value)), (17, (.pointer (some (elemA x7 (k * 3))) : Value))]) ⟨hpZ 12 (by decide), hpZ 17 (by decide), trivial⟩]
    refine XG.yes (t := 78) rfl (vF h11) (XOp.fieldE (v := x7) (k * 3) runUnderlying48 rfl sizeOf2 (by decide) rfl rfl ?_)
    exact ⟨rfl, rfl, rfl⟩
   refine pC (fun vals R hpZ => ?_) ?_
   ·rw [eS (l := [(12, (.bool (decide (¬(((stepAtL x4 x5 x6 (((stepsS x4 x5 x6).getD k (0, 0, [])).1) (((stepsS x4 x5 x6).getD k (0, 0, [])).2.1)).getD []) = (((stepsS x4 x5 x6).getD k (0, 0, [])).2.2)))) : Value)), (18, (.pointer (some (elemA x7 (k * 3))) : Value))]) ⟨hpZ 12 (by decide), hpZ 18 (by decide), trivial⟩]
    refine XG.yes (t := 78) rfl (vF h11) (XOp.load1 (v := .int .i64 (((stepsS x4 x5 x6).getD k (0, 0, [])).1)) isAgg2 rfl (hr15 _) ?_)
    exact ⟨rfl, rfl, rfl⟩
   refine pC (fun vals R hpZ => ?_) ?_
   ·rw [eS (l := [(12, (.bool (decide (¬(((stepAtL x4 x5 x6 (((stepsS x4 x5 x6).getD k (0, 0, [])).1) (((stepsS x4 x5 x6).getD k (0, 0, [])).2.1)).getD []) = (((stepsS x4 x5 x6).getD k (0, 0, [])).2.2)))) : Value))]) ⟨hpZ 12 (by decide), trivial⟩]
    refine XG.yes (t := 78) rfl (vF h11) (XOp.move (x7) rfl ?_)
    exact ⟨rfl, rfl, rfl⟩
   refine pC (fun vals R hpZ => ?_) ?_
   ·rw [eS (l := [(12, (.bool (decide (¬(((stepAtL x4 x5 x6 (((stepsS x4 x5 x6).getD k (0, 0, [])).1) (((stepsS x4 x5 x6).getD k (0, 0, [])).2.1)).getD []) = (((stepsS x4 x5 x6).getD k (0, 0, [])).2.2)))) : Value))]) ⟨hpZ 12 (by decide), trivial⟩]
    refine XG.yes (t := 78) rfl (vF h11) (XOp.move (.int .i64 ((k : Int))) rfl ?_)
    exact ⟨rfl, rfl, rfl⟩
   refine pC (fun vals R hpZ => ?_) ?_
   ·rw [eS (l := [(12, (.bool (decide (¬(((stepAtL x4 x5 x6 (((stepsS x4 x5 x6).getD k (0, 0, [])).1) (((stepsS x4 x5 x6).getD k (0, 0, [])).2.1)).getD []) = (((stepsS x4 x5 x6).getD k (0, 0, [])).2.2)))) : Value)), (20, x7), (21, (.int .i64 ((k : Int)) : Value))]) ⟨hpZ 12 (by decide), hpZ 20 (by decide), hpZ 21 (by decide), trivial⟩]
    refine XG.yes (t := 78) rfl (vF h11) (XOp.indexS (v := x7) (i := (k : Int)) (n := (stepsS x4 x5 x6).length) k runUnderlying45 sizeOf48 rfl rfl rfl hr6.slv (by omega) rfl ?_)
    exact ⟨rfl, rfl, rfl⟩
   refine pC (fun vals R hpZ => ?_) ?_
   ·rw [eS (l := [(12, (.bool (decide (¬(((stepAtL x4 x5 x6 (((stepsS x4 x5 x6).getD k (0, 0, [])).1) (((stepsS x4 x5 x6).getD k (0, 0, [])).2.1)).getD []) = (((stepsS x4 x5 x6).getD k (0, 0, [])).2.2)))) : Value)), (22, (.pointer (some (elemA x7 (k * 3))) : Value))]) ⟨hpZ 12 (by decide), hpZ 22 (by decide), trivial⟩]
    refine XG.yes (t := 78) rfl (vF h11) (XOp.fieldE (v := x7) (k * 3 + 1) runUnderlying48 rfl sizeOf2 (by decide) rfl rfl ?_)
    exact ⟨rfl, rfl, rfl⟩
   refine pC (fun vals R hpZ => ?_) ?_
   ·rw [eS (l := [(12, (.bool (decide (¬(((stepAtL x4 x5 x6 (((stepsS x4 x5 x6).getD k (0, 0, [])).1) (((stepsS x4 x5 x6).getD k (0, 0, [])).2.1)).getD []) = (((stepsS x4 x5 x6).getD k (0, 0, [])).2.2)))) : Value)), (23, (.pointer (some (elemA x7 (k * 3 + 1))) : Value))]) ⟨hpZ 12 (by decide), hpZ 23 (by decide), trivial⟩]
    refine XG.yes (t := 78) rfl (vF h11) (XOp.load1 (v := .int .i64 (((stepsS x4 x5 x6).getD k (0, 0, [])).2.1)) isAgg2 rfl (hr16 _) ?_)
    exact ⟨rfl, rfl, rfl⟩
   exact stepsP.nil
  intro vals hphi
  rw [eS (l := [(12, (.bool (decide (¬(((stepAtL x4 x5 x6 (((stepsS x4 x5 x6).getD k (0, 0, [])).1) (((stepsS x4 x5 x6).getD k (0, 0, [])).2.1)).getD []) = (((stepsS x4 x5 x6).getD k (0, 0, [])).2.2)))) : Value)), (13, (.agg #[x1, x2] : Value)), (14, x3), (19, (.int .i64 (((stepsS x4 x5 x6).getD k (0, 0, [])).1) : Value)), (24, (.int .i64 (((stepsS x4 x5 x6).getD k (0, 0, [])).2.1) : Value))]) ⟨(hphi 12 (by decide)), (hphi 13 (by decide)), (hphi 14 (by decide)), (hphi 19 (by decide)), (hphi 24 (by decide)), trivial⟩]
  show XL _ _ _ _ _ _ _ (cellsH b1 [x1, x2] 29 :: L)
  refine XL.yes (t := 78) rfl (vF h11) (XOp.call (args := [.agg #[x1, x2], x3, .int .i64 (((stepsS x4 x5 x6).getD k (0, 0, [])).1), .int .i64 (((stepsS x4 x5 x6).getD k (0, 0, [])).2.1)]) call19 rfl (RedexAt_spec (p := ((stepsS x4 x5 x6).getD k (0, 0, [])).1) (r := ((stepsS x4 x5 x6).getD k (0, 0, [])).2.1) hr1 hr2 hr3) ?_)
  rintro _ _ _ _ ⟨rfl, rfl, rfl⟩
  refine XL.yes (t := 78) rfl (vF h11) (XOp.notB (b := redAtL x4 x5 x6 (((stepsS x4 x5 x6).getD k (0, 0, [])).1) (((stepsS x4 x5 x6).getD k (0, 0, [])).2.1)) rfl ?_)
  refine cX (XOp.pickF (.bool (!(redAtL x4 x5 x6 (((stepsS x4 x5 x6).getD k (0, 0, [])).1) (((stepsS x4 x5 x6).getD k (0, 0, [])).2.1)))) (vF h11) rfl ?_)
  refine XL.nil ?_
  refine X.cond (t := !(redAtL x4 x5 x6 (((stepsS x4 x5 x6).getD k (0, 0, [])).1) (((stepsS x4 x5 x6).getD k (0, 0, [])).2.1))) rfl (fun h12 => ?_) (fun h12 => ?_)
  ·exact absurd h12 (by rw [(hst (by omega)).2]; simp)
  refine X.skip (X.region ?_)
  refine XL.mv (.int .i64 ((k : Int))) rfl ?_
  refine cX (XOp.addR (a := (k : Int)) (b := 1) (((k + 1 : Nat) : Int)) rfl rfl (by omega) (by omega) ?_)
  refine XL.as (.int .i64 (((k + 1 : Nat) : Int))) rfl ?_
  refine XL.nil ?_
  exact ⟨k + 1, _, FLe.refl _, le9, ⟨rfl, rfl, rfl, rfl, trivial⟩, (sC sR), ⟨rfl, (by (try dsimp only) <;> omega)⟩, (by omega)⟩
 refine X.exit (thenQ_exit (thenQ_exit (blockQ_exit ?_)))
 refine X.seq (X.region ?_)
 refine XL.as (.bool (true)) rfl ?_
 refine XL.nil ?_
 refine X.ret (retEnd (L' := L) [.bool (true)] (.bool (true)) (.tmp rfl .nil) rfl rF (FLe.trans (FLe.trans le1 le2) le3) (sD sR) ?_)
 exact ⟨rfl, rfl, rfl⟩
end Go.Proofs.Ytmaaifhmhclhdaa
