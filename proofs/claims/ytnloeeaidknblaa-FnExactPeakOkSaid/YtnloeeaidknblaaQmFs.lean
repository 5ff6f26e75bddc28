/-
  Walks: the statements' own helpers for steps; rewrite sequences.
-/
import Derived.Test.YtnloeeaidknblaaQmFr
import Derived.Test.YtnloeeaidknblaaP9
set_option linter.unusedSimpArgs false
set_option linter.unusedVariables false
namespace Go.Proofs.Ytnloeeaidknblaa
open Go X M

/- impl.stepArgs -/
theorem stepArgs_spec {F : FH} {L : List HP} {arv : Value} {ar : List Int} (har : IntsF F arv ar) {rsv : Value} {rs : List (List Int × List Int)} (hrs : PairsF F rsv rs) {tv : Value} {t : List Int} (ht : IntsF F tv t) {p : Int} {r : Int} :
    Does Try.prog 166 [.agg #[arv, rsv], tv, .int .i64 (p), .int .i64 (r)] F (L) (fun v F' L' => (.bool (stepAtOk ar rs t p r) : Value) = v ∧ F = F' ∧ L = L') := by
  refine Does.of_X Try.func166 rfl rfl rfl ?_
  refine X.seq ?_
  refine X.region ?_
  refine XL.cons (XOp.box [arv, rsv] rfl rfl ?_)
  intro b1
  refine XL.cons (XOp.assign (.bool (false)) rfl ?_)
  refine XL.nil ?_
  refine X.seq ?_
  refine X.region ?_
  refine XL.cons (XOp.loadN [arv, rsv] Try.isAgg36 Try.sizeOf36 rfl rfl (Rd.ownN [] rfl rfl) ?_)
  refine XL.cons (XOp.call (args := [.agg #[arv, rsv]]) Try.call65 rfl (SystemOk_spec har hrs) ?_)
  rintro _ _ _ _ ⟨rfl, rfl, rfl⟩
  refine XL.cons (XOp.move (.bool (sysOk ar rs)) rfl ?_)
  by_cases h1 : (sysOk ar rs) = true
  · refine XL.yes (t := 11) rfl (congrArg Value.bool h1) (XOp.fieldP (b := b1) (0) Try.runUnderlying36 rfl Try.sizeOf33 (by decide) rfl rfl ?_)
    refine XL.yes (t := 11) rfl (congrArg Value.bool h1) (XOp.loadN [arv] Try.isAgg33 Try.sizeOf33 rfl rfl (Rd.ownN [] rfl rfl) ?_)
    refine XL.yes (t := 11) rfl (congrArg Value.bool h1) (XOp.move (tv) rfl ?_)
    refine XL.yes (t := 11) rfl (congrArg Value.bool h1) (XOp.move (.int .i64 (p)) rfl ?_)
    refine XL.yes (t := 11) rfl (congrArg Value.bool h1) (XOp.call (args := [.agg #[arv], tv, .int .i64 (p)]) Try.call189 rfl (posOk_spec (n := p) har ht) ?_)
    rintro _ _ _ _ ⟨rfl, rfl, rfl⟩
    refine XL.cons (XOp.pickT (.bool (posOk ar t p)) (congrArg Value.bool h1) rfl ?_)
    refine XL.cons (XOp.move (.bool (posOk ar t p)) rfl ?_)
    by_cases h2 : (posOk ar t p) = true
    · refine XL.yes (t := 18) rfl (congrArg Value.bool h2) (XOp.move (.int .i64 (r)) rfl ?_)
      refine XL.yes (t := 18) rfl (congrArg Value.bool h2) (XOp.geq (a := r) (b := 0) rfl rfl ?_)
      refine XL.cons (XOp.pickT (.bool (decide ((r : Int) ≥ 0))) (congrArg Value.bool h2) rfl ?_)
      refine XL.cons (XOp.move (.bool (decide ((r : Int) ≥ 0))) rfl ?_)
      by_cases h3 : (r : Int) ≥ 0
      · refine XL.yes (t := 22) rfl (congrArg Value.bool (decide_eq_true h3)) (XOp.move (.int .i64 (r)) rfl ?_)
        refine XL.yes (t := 22) rfl (congrArg Value.bool (decide_eq_true h3)) (XOp.fieldP (b := b1) (1) Try.runUnderlying36 rfl Try.sizeOf34 (by decide) rfl rfl ?_)
        refine XL.yes (t := 22) rfl (congrArg Value.bool (decide_eq_true h3)) (XOp.load1 (v := rsv) Try.isAgg34 rfl (Rd.own [] rfl rfl) ?_)
        refine XL.yes (t := 22) rfl (congrArg Value.bool (decide_eq_true h3)) (XOp.lenS (v := rsv) (n := (rs).length) Try.runUnderlying34 rfl hrs.slv ?_)
        refine XL.yes (t := 22) rfl (congrArg Value.bool (decide_eq_true h3)) (XOp.lss (a := r) (b := (((rs).length : Nat) : Int)) rfl rfl ?_)
        refine XL.cons (XOp.pickT (.bool (decide ((r : Int) < (((rs).length : Nat) : Int)))) (congrArg Value.bool (decide_eq_true h3)) rfl ?_)
        refine XL.cons (XOp.assign (.bool (decide ((r : Int) < (((rs).length : Nat) : Int)))) rfl ?_)
        refine XL.nil ?_
        refine X.ret (retEnd (L' := L) [.bool (decide ((r : Int) < (((rs).length : Nat) : Int)))] (.bool (decide ((r : Int) < (((rs).length : Nat) : Int)))) (.tmp rfl .nil) rfl (FLe.refl _) (FLe.refl _) (Sub.drop (Sub.refl _)) ?_)
        exact ⟨(congrArg Value.bool (by unfold stepAtOk rightB; cases hA : sysOk ar rs <;> cases hB : termOk ar t <;> simp_all [posOk] <;> omega)), rfl, rfl⟩
      · refine XL.no (t := 22) rfl (congrArg Value.bool (decide_eq_false h3)) ?_
        refine XL.no (t := 22) rfl (congrArg Value.bool (decide_eq_false h3)) ?_
        refine XL.no (t := 22) rfl (congrArg Value.bool (decide_eq_false h3)) ?_
        refine XL.no (t := 22) rfl (congrArg Value.bool (decide_eq_false h3)) ?_
        refine XL.no (t := 22) rfl (congrArg Value.bool (decide_eq_false h3)) ?_
        refine XL.cons (XOp.pickF (.bool (false)) (congrArg Value.bool (decide_eq_false h3)) rfl ?_)
        refine XL.cons (XOp.assign (.bool (false)) rfl ?_)
        refine XL.nil ?_
        refine X.ret (retEnd (L' := L) [.bool (false)] (.bool (false)) (.tmp rfl .nil) rfl (FLe.refl _) (FLe.refl _) (Sub.drop (Sub.refl _)) ?_)
        exact ⟨(congrArg Value.bool (by unfold stepAtOk rightB; cases hA : sysOk ar rs <;> cases hB : termOk ar t <;> simp_all [posOk] <;> omega)), rfl, rfl⟩
    · rw [Bool.not_eq_true] at h2
      refine XL.no (t := 18) rfl (congrArg Value.bool h2) ?_
      refine XL.no (t := 18) rfl (congrArg Value.bool h2) ?_
      refine XL.cons (XOp.pickF (.bool (false)) (congrArg Value.bool h2) rfl ?_)
      refine XL.cons (XOp.move (.bool (false)) rfl ?_)
      refine XL.no (t := 22) rfl rfl ?_
      refine XL.no (t := 22) rfl rfl ?_
      refine XL.no (t := 22) rfl rfl ?_
      refine XL.no (t := 22) rfl rfl ?_
      refine XL.no (t := 22) rfl rfl ?_
      refine XL.cons (XOp.pickF (.bool (false)) rfl rfl ?_)
      refine XL.cons (XOp.assign (.bool (false)) rfl ?_)
      refine XL.nil ?_
      refine X.ret (retEnd (L' := L) [.bool (false)] (.bool (false)) (.tmp rfl .nil) rfl (FLe.refl _) (FLe.refl _) (Sub.drop (Sub.refl _)) ?_)
      exact ⟨(congrArg Value.bool (by unfold stepAtOk rightB; cases hA : sysOk ar rs <;> cases hB : termOk ar t <;> simp_all [posOk] <;> omega)), rfl, rfl⟩
  · rw [Bool.not_eq_true] at h1
    refine XL.no (t := 11) rfl (congrArg Value.bool h1) ?_
    refine XL.no (t := 11) rfl (congrArg Value.bool h1) ?_
    refine XL.no (t := 11) rfl (congrArg Value.bool h1) ?_
    refine XL.no (t := 11) rfl (congrArg Value.bool h1) ?_
    refine XL.no (t := 11) rfl (congrArg Value.bool h1) ?_
    refine XL.cons (XOp.pickF (.bool (false)) (congrArg Value.bool h1) rfl ?_)
    refine XL.cons (XOp.move (.bool (false)) rfl ?_)
    refine XL.no (t := 18) rfl rfl ?_
    refine XL.no (t := 18) rfl rfl ?_
    refine XL.cons (XOp.pickF (.bool (false)) rfl rfl ?_)
    refine XL.cons (XOp.move (.bool (false)) rfl ?_)
    refine XL.no (t := 22) rfl rfl ?_
    refine XL.no (t := 22) rfl rfl ?_
    refine XL.no (t := 22) rfl rfl ?_
    refine XL.no (t := 22) rfl rfl ?_
    refine XL.no (t := 22) rfl rfl ?_
    refine XL.cons (XOp.pickF (.bool (false)) rfl rfl ?_)
    refine XL.cons (XOp.assign (.bool (false)) rfl ?_)
    refine XL.nil ?_
    refine X.ret (retEnd (L' := L) [.bool (false)] (.bool (false)) (.tmp rfl .nil) rfl (FLe.refl _) (FLe.refl _) (Sub.drop (Sub.refl _)) ?_)
    exact ⟨(congrArg Value.bool (by unfold stepAtOk rightB; cases hA : sysOk ar rs <;> cases hB : termOk ar t <;> simp_all [posOk] <;> omega)), rfl, rfl⟩

/- impl.StepAt -/
theorem StepAt_spec {F : FH} {L : List HP} {arv : Value} {ar : List Int} (har : IntsF F arv ar) {rsv : Value} {rs : List (List Int × List Int)} (hrs : PairsF F rsv rs) {tv : Value} {t : List Int} (ht : IntsF F tv t) {p : Int} {r : Int} :
    Does Try.prog 121 [.agg #[arv, rsv], tv, .int .i64 (p), .int .i64 (r)] F (L) (fun v F' L' => ∃ (a : Value), (.tuple #[a, .bool ((stepAtL ar rs t p r).isSome)] : Value) = v ∧ (IntsF F' a ((stepAtL ar rs t p r).getD [])) ∧ (Fresh F F' (intsH 2 a ((stepAtL ar rs t p r).getD []))) ∧ L = L') := by
  refine Does.of_X Try.func121 rfl rfl rfl ?_
  refine X.seq ?_
  refine X.region ?_
  refine XL.cons (XOp.box [arv, rsv] rfl rfl ?_)
  intro b1
  refine XL.cons (XOp.assign ((.slice none 0 0)) rfl ?_)
  refine XL.cons (XOp.assign (.bool (false)) rfl ?_)
  refine XL.nil ?_
  refine X.seq ?_
  refine X.seq ?_
  refine X.region ?_
  refine XL.cons (XOp.loadN [arv, rsv] Try.isAgg36 Try.sizeOf36 rfl rfl (Rd.ownN [] rfl rfl) ?_)
  refine XL.cons (XOp.move (tv) rfl ?_)
  refine XL.cons (XOp.move (.int .i64 (p)) rfl ?_)
  refine XL.cons (XOp.move (.int .i64 (r)) rfl ?_)
  refine XL.cons (XOp.call (args := [.agg #[arv, rsv], tv, .int .i64 (p), .int .i64 (r)]) Try.call166 rfl (stepArgs_spec (p := p) (r := r) har hrs ht) ?_)
  rintro _ _ _ _ ⟨rfl, rfl, rfl⟩
  refine XL.cons (XOp.notB (b := stepAtOk ar rs t p r) rfl ?_)
  refine XL.nil ?_
  refine X.cond (t := !(stepAtOk ar rs t p r)) rfl (fun h1 => ?_) (fun h1 => ?_)
  · have hz0 : stepAtL ar rs t p r = none := by rw [stepAtL, if_neg (by simpa using h1)]
    refine X.seq ?_
    refine X.region ?_
    refine XL.cons (XOp.assign ((.slice none 0 0)) rfl ?_)
    refine XL.cons (XOp.assign (.bool (false)) rfl ?_)
    refine XL.nil ?_
    refine X.ret (thenQ_ret (retEnd (L' := L) [(.slice none 0 0), .bool (false)] (.tuple #[(.slice none 0 0), .bool (false)]) (.tmp rfl (.tmp rfl .nil)) rfl (FLe.refl _) (FLe.refl _) (Sub.drop (Sub.refl _)) ?_))
    exact ⟨_, by rw [hz0]; rfl, by rw [hz0]; exact IntsF.nilV, by rw [hz0]; exact Fresh.ofNil _, rfl⟩
  · have hok : stepAtOk ar rs t p r = true := by simpa using h1
    have hok2 := hok
    unfold stepAtOk rightB at hok2
    simp only [Bool.and_eq_true, decide_eq_true_eq] at hok2
    obtain ⟨⟨⟨hsys, ho⟩, hp1⟩, hr1⟩ := hok2
    refine X.skip ?_
    refine X.seq ?_
    refine X.region ?_
    refine XL.cons (XOp.loadN [arv, rsv] Try.isAgg36 Try.sizeOf36 rfl rfl (Rd.ownN [] rfl rfl) ?_)
    refine XL.cons (XOp.move (tv) rfl ?_)
    refine XL.cons (XOp.move (.int .i64 (p)) rfl ?_)
    refine XL.cons (XOp.move (.int .i64 (r)) rfl ?_)
    refine XL.cons (XOp.call (args := [.agg #[arv, rsv], tv, .int .i64 (((p).toNat : Nat) : Int), .int .i64 (((r).toNat : Nat) : Int)]) Try.call167 (by rw [show (((p).toNat : Nat) : Int) = p from by omega, show (((r).toNat : Nat) : Int) = r from by omega]; rfl) (step_spec (p := (p).toNat) (r := (r).toNat) har hrs ht (hsys := (by first | assumption | rfl | omega | (left; simp; done) | (right; simp; done))) (ho := (by first | assumption | rfl | omega | (left; simp; done) | (right; simp; done))) (hp := (by first | assumption | rfl | omega | (left; simp; done) | (right; simp; done))) (hr := (by first | assumption | rfl | omega | (left; simp; done) | (right; simp; done)))) ?_)
    rintro _ F1 _ le1 ⟨x1, rfl, hr1, hr2, hr3, rfl⟩
    replace har := har.mono le1
    replace hrs := hrs.mono le1
    replace ht := ht.mono le1
    refine XL.cons (XOp.extract (x1) rfl rfl ?_)
    refine XL.cons (XOp.extract (.bool ((stepL ar rs t ((p).toNat) ((r).toNat)).isSome)) rfl rfl ?_)
    refine XL.cons (XOp.assign (x1) rfl ?_)
    refine XL.cons (XOp.assign (.bool ((stepL ar rs t ((p).toNat) ((r).toNat)).isSome)) rfl ?_)
    refine XL.nil ?_
    refine X.ret (retEnd (L' := L) [x1, .bool ((stepL ar rs t ((p).toNat) ((r).toNat)).isSome)] (.tuple #[x1, .bool ((stepL ar rs t ((p).toNat) ((r).toNat)).isSome)]) (.tmp rfl (.tmp rfl .nil)) rfl le1 (FLe.refl _) (Sub.drop (Sub.refl _)) ?_)
    have e := show stepAtL ar rs t p r = stepL ar rs t p.toNat r.toNat from by rw [stepAtL, if_pos hok]
    exact ⟨_, by rw [e], by rw [e]; exact hr1, by rw [e]; exact hr3, rfl⟩
end Go.Proofs.Ytnloeeaidknblaa
