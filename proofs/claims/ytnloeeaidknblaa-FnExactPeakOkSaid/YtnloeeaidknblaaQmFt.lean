/-
  Walks: rewrite sequences, of the program and of the reference.
-/
import Derived.Test.YtnloeeaidknblaaQmFs
set_option linter.unusedSimpArgs false
set_option linter.unusedVariables false
namespace Go.Proofs.Ytnloeeaidknblaa
open Go X M

/- spec.StepAt -/
theorem sStepAt_spec {F : FH} {L : List HP} {arv : Value} {ar : List Int} (har : IntsF F arv ar) {rsv : Value} {rs : List (List Int × List Int)} (hrs : PairsF F rsv rs) {tv : Value} {t : List Int} (ht : IntsF F tv t) {p : Int} {r : Int} (hla : ar.length ≤ 4000000) (hlr : rs.length ≤ 4000000) (hrb : ∀ i, i < rs.length → (rs.getD i ([], [])).1.length ≤ 4000000 ∧ (rs.getD i ([], [])).2.length ≤ 4000000) (hlt : t.length ≤ 4000000) :
    Does Try.prog 59 [.agg #[arv, rsv], tv, .int .i64 (p), .int .i64 (r)] F (L) (fun v F' L' => ∃ (a : Value), (.tuple #[a, .bool ((stepAtL ar rs t p r).isSome)] : Value) = v ∧ (IntsF F' a ((stepAtL ar rs t p r).getD [])) ∧ L = L') := by
  refine Does.of_X Try.func59 rfl rfl rfl ?_
  refine X.seq ?_
  refine X.region ?_
  refine XL.cons (XOp.box [arv, rsv] rfl rfl ?_)
  intro b1
  refine XL.cons (XOp.assign ((.slice none 0 0)) rfl ?_)
  refine XL.cons (XOp.assign (.bool (false)) rfl ?_)
  refine XL.nil ?_
  refine X.seq ?_
  refine X.seq ?_
  refine X.region ?_
  refine XL.cons (XOp.loadN [arv, rsv] Try.isAgg36 Try.sizeOf36 rfl rfl (Rd.ownN [] rfl rfl) ?_)
  refine XL.cons (XOp.move (tv) rfl ?_)
  refine XL.cons (XOp.call (args := [.agg #[arv, rsv], tv]) Try.call111 rfl (l7Right_spec har hrs ht (hla := (by first | assumption | rfl | omega | (left; simp; done) | (right; simp; done))) (hlr := (by first | assumption | rfl | omega | (left; simp; done) | (right; simp; done))) (hrb := (by first | assumption | rfl | omega | (left; simp; done) | (right; simp; done))) (hlt := (by first | assumption | rfl | omega | (left; simp; done) | (right; simp; done)))) ?_)
  rintro _ _ _ _ ⟨rfl, rfl, rfl⟩
  refine XL.cons (XOp.notB (b := rightB ar rs t) rfl ?_)
  refine XL.cons (XOp.move (.bool (!(rightB ar rs t))) rfl ?_)
  by_cases h1 : (!(rightB ar rs t)) = true
  · refine XL.no (t := 14) rfl (congrArg Value.bool h1) ?_
    refine XL.no (t := 14) rfl (congrArg Value.bool h1) ?_
    refine XL.no (t := 14) rfl (congrArg Value.bool h1) ?_
    refine XL.no (t := 14) rfl (congrArg Value.bool h1) ?_
    refine XL.cons (XOp.pickT (.bool (true)) (congrArg Value.bool h1) rfl ?_)
    refine XL.cons (XOp.move (.bool (true)) rfl ?_)
    refine XL.no (t := 20) rfl rfl ?_
    refine XL.no (t := 20) rfl rfl ?_
    refine XL.no (t := 20) rfl rfl ?_
    refine XL.no (t := 20) rfl rfl ?_
    refine XL.no (t := 20) rfl rfl ?_
    refine XL.no (t := 20) rfl rfl ?_
    refine XL.no (t := 20) rfl rfl ?_
    refine XL.cons (XOp.pickT (.bool (true)) rfl rfl ?_)
    refine XL.nil ?_
    refine X.condT rfl ?_
    refine X.seq ?_
    refine X.region ?_
    refine XL.cons (XOp.buildSlice (s := 1) [] [.int .i64 (0)] [] Try.runUnderlying22 Try.sizeOf2 Try.zeroValue2 rfl (by decide) rfl CellsAre.nil rfl ?_)
    intro v1 hv1
    refine XL.cons (XOp.assign (v1) rfl ?_)
    refine XL.cons (XOp.assign (.bool (false)) rfl ?_)
    refine XL.nil ?_
    show X _ _ _ _ _ _ (intsH 2 v1 ([] : List Int) :: cellsH b1 [arv, rsv] 36 :: L)
    refine X.freezeF [] _ _ rfl (fun F1 le1 hz1 => ?_)
    replace har := har.mono le1
    replace hrs := hrs.mono le1
    replace ht := ht.mono le1
    have hf1 : IntsF F1 v1 ([]) := intsH.fz (xs := []) hz1.fz
    refine X.ret (thenQ_ret (retEnd (L' := L) [v1, .bool (false)] (.tuple #[v1, .bool (false)]) (.tmp rfl (.tmp rfl .nil)) rfl le1 (FLe.refl _) (Sub.drop (Sub.refl _)) ?_))
    have hz0 : stepAtL ar rs t p r = none := by rw [stepAtL, if_neg (by unfold stepAtOk; cases hA : rightB ar rs t <;> simp_all <;> omega)]
    exact ⟨_, by rw [hz0]; rfl, by rw [hz0]; exact hf1, rfl⟩
  · rw [Bool.not_eq_true] at h1
    refine XL.yes (t := 14) rfl (congrArg Value.bool h1) (XOp.move (tv) rfl ?_)
    refine XL.yes (t := 14) rfl (congrArg Value.bool h1) (XOp.move (.int .i64 (p)) rfl ?_)
    refine XL.yes (t := 14) rfl (congrArg Value.bool h1) (XOp.call (args := [tv, .int .i64 (p)]) Try.call96 rfl (l1There_spec (n := p) ht (hbd := (by first | assumption | rfl | omega | (left; simp; done) | (right; simp; done)))) ?_)
    rintro _ _ _ _ ⟨rfl, rfl, rfl⟩
    refine XL.yes (t := 14) rfl (congrArg Value.bool h1) (XOp.notD (p := 0 ≤ p ∧ p < (t.length : Int)) rfl ?_)
    refine XL.cons (XOp.pickF (.bool (decide (¬(0 ≤ p ∧ p < (t.length : Int))))) (congrArg Value.bool h1) rfl ?_)
    refine XL.cons (XOp.move (.bool (decide (¬(0 ≤ p ∧ p < (t.length : Int))))) rfl ?_)
    by_cases h2 : ¬(0 ≤ p ∧ p < (t.length : Int))
    · refine XL.no (t := 20) rfl (congrArg Value.bool (decide_eq_true h2)) ?_
      refine XL.no (t := 20) rfl (congrArg Value.bool (decide_eq_true h2)) ?_
      refine XL.no (t := 20) rfl (congrArg Value.bool (decide_eq_true h2)) ?_
      refine XL.no (t := 20) rfl (congrArg Value.bool (decide_eq_true h2)) ?_
      refine XL.no (t := 20) rfl (congrArg Value.bool (decide_eq_true h2)) ?_
      refine XL.no (t := 20) rfl (congrArg Value.bool (decide_eq_true h2)) ?_
      refine XL.no (t := 20) rfl (congrArg Value.bool (decide_eq_true h2)) ?_
      refine XL.cons (XOp.pickT (.bool (true)) (congrArg Value.bool (decide_eq_true h2)) rfl ?_)
      refine XL.nil ?_
      refine X.condT rfl ?_
      refine X.seq ?_
      refine X.region ?_
      refine XL.cons (XOp.buildSlice (s := 1) [] [.int .i64 (0)] [] Try.runUnderlying22 Try.sizeOf2 Try.zeroValue2 rfl (by decide) rfl CellsAre.nil rfl ?_)
      intro v2 hv2
      refine XL.cons (XOp.assign (v2) rfl ?_)
      refine XL.cons (XOp.assign (.bool (false)) rfl ?_)
      refine XL.nil ?_
      show X _ _ _ _ _ _ (intsH 2 v2 ([] : List Int) :: cellsH b1 [arv, rsv] 36 :: L)
      refine X.freezeF [] _ _ rfl (fun F2 le2 hz2 => ?_)
      replace har := har.mono le2
      replace hrs := hrs.mono le2
      replace ht := ht.mono le2
      have hf2 : IntsF F2 v2 ([]) := intsH.fz (xs := []) hz2.fz
      refine X.ret (thenQ_ret (retEnd (L' := L) [v2, .bool (false)] (.tuple #[v2, .bool (false)]) (.tmp rfl (.tmp rfl .nil)) rfl le2 (FLe.refl _) (Sub.drop (Sub.refl _)) ?_))
      have hz0 : stepAtL ar rs t p r = none := by rw [stepAtL, if_neg (by unfold stepAtOk; cases hA : rightB ar rs t <;> simp_all <;> omega)]
      exact ⟨_, by rw [hz0]; rfl, by rw [hz0]; exact hf2, rfl⟩
    · refine XL.yes (t := 20) rfl (congrArg Value.bool (decide_eq_false h2)) (XOp.move (.int .i64 (r)) rfl ?_)
      refine XL.yes (t := 20) rfl (congrArg Value.bool (decide_eq_false h2)) (XOp.fieldP (b := b1) (1) Try.runUnderlying36 rfl Try.sizeOf34 (by decide) rfl rfl ?_)
      refine XL.yes (t := 20) rfl (congrArg Value.bool (decide_eq_false h2)) (XOp.load1 (v := rsv) Try.isAgg34 rfl (Rd.own [] rfl rfl) ?_)
      refine XL.yes (t := 20) rfl (congrArg Value.bool (decide_eq_false h2)) (XOp.lenS (v := rsv) (n := (rs).length) Try.runUnderlying34 rfl hrs.slv ?_)
      refine XL.yes (t := 20) rfl (congrArg Value.bool (decide_eq_false h2)) (XOp.subR (a := (((rs).length : Nat) : Int)) (b := 1) (((((rs).length : Nat) : Int)) - 1) rfl rfl (by omega) (by omega) ?_)
      refine XL.yes (t := 20) rfl (congrArg Value.bool (decide_eq_false h2)) (XOp.call (args := [.int .i64 (r), .int .i64 (0), .int .i64 (((((rs).length : Nat) : Int)) - 1)]) Try.call58 rfl (l1In_spec (n := r) (a := 0) (b := ((((rs).length : Nat) : Int)) - 1)) ?_)
      rintro _ _ _ _ ⟨rfl, rfl, rfl⟩
      refine XL.yes (t := 20) rfl (congrArg Value.bool (decide_eq_false h2)) (XOp.notD (p := 0 ≤ r ∧ r ≤ (((((rs).length : Nat) : Int)) - 1)) rfl ?_)
      refine XL.cons (XOp.pickF (.bool (decide (¬(0 ≤ r ∧ r ≤ (((((rs).length : Nat) : Int)) - 1))))) (congrArg Value.bool (decide_eq_false h2)) rfl ?_)
      refine XL.nil ?_
      refine X.condD (p := ¬(0 ≤ r ∧ r ≤ (((((rs).length : Nat) : Int)) - 1))) rfl (fun h3 => ?_) (fun h3 => ?_)
      · refine X.seq ?_
        refine X.region ?_
        refine XL.cons (XOp.buildSlice (s := 1) [] [.int .i64 (0)] [] Try.runUnderlying22 Try.sizeOf2 Try.zeroValue2 rfl (by decide) rfl CellsAre.nil rfl ?_)
        intro v3 hv3
        refine XL.cons (XOp.assign (v3) rfl ?_)
        refine XL.cons (XOp.assign (.bool (false)) rfl ?_)
        refine XL.nil ?_
        show X _ _ _ _ _ _ (intsH 2 v3 ([] : List Int) :: cellsH b1 [arv, rsv] 36 :: L)
        refine X.freezeF [] _ _ rfl (fun F3 le3 hz3 => ?_)
        replace har := har.mono le3
        replace hrs := hrs.mono le3
        replace ht := ht.mono le3
        have hf3 : IntsF F3 v3 ([]) := intsH.fz (xs := []) hz3.fz
        refine X.ret (thenQ_ret (retEnd (L' := L) [v3, .bool (false)] (.tuple #[v3, .bool (false)]) (.tmp rfl (.tmp rfl .nil)) rfl le3 (FLe.refl _) (Sub.drop (Sub.refl _)) ?_))
        have hz0 : stepAtL ar rs t p r = none := by rw [stepAtL, if_neg (by unfold stepAtOk; cases hA : rightB ar rs t <;> simp_all <;> omega)]
        exact ⟨_, by rw [hz0]; rfl, by rw [hz0]; exact hf3, rfl⟩
      · refine X.skip ?_
        refine X.seq ?_
        refine X.region ?_
        have hok : stepAtOk ar rs t p r = true := by unfold stepAtOk; cases hA : rightB ar rs t <;> simp_all <;> omega
        have hok2 := hok
        unfold stepAtOk rightB at hok2
        simp only [Bool.and_eq_true, decide_eq_true_eq] at hok2
        obtain ⟨⟨⟨hsys, ho⟩, hp1⟩, hr1⟩ := hok2
        refine XL.cons (XOp.loadN [arv, rsv] Try.isAgg36 Try.sizeOf36 rfl rfl (Rd.ownN [] rfl rfl) ?_)
        refine XL.cons (XOp.move (tv) rfl ?_)
        refine XL.cons (XOp.move (.int .i64 (p)) rfl ?_)
        refine XL.cons (XOp.move (.int .i64 (r)) rfl ?_)
        refine XL.cons (XOp.call (args := [.agg #[arv, rsv], tv, .int .i64 (((p).toNat : Nat) : Int), .int .i64 (((r).toNat : Nat) : Int)]) Try.call112 (by rw [show (((p).toNat : Nat) : Int) = p from by omega, show (((r).toNat : Nat) : Int) = r from by omega]; rfl) (l7Step_spec (p := (p).toNat) (r := (r).toNat) har hrs ht (hsys := (by first | assumption | rfl | omega | (left; simp; done) | (right; simp; done))) (ho := (by first | assumption | rfl | omega | (left; simp; done) | (right; simp; done))) (hp := (by first | assumption | rfl | omega | (left; simp; done) | (right; simp; done))) (hr := (by first | assumption | rfl | omega | (left; simp; done) | (right; simp; done)))) ?_)
        rintro _ F4 _ le4 ⟨x1, rfl, hr1, rfl⟩
        replace har := har.mono le4
        replace hrs := hrs.mono le4
        replace ht := ht.mono le4
        refine XL.cons (XOp.extract (x1) rfl rfl ?_)
        refine XL.cons (XOp.extract (.bool ((stepL ar rs t ((p).toNat) ((r).toNat)).isSome)) rfl rfl ?_)
        refine XL.cons (XOp.assign (x1) rfl ?_)
        refine XL.cons (XOp.assign (.bool ((stepL ar rs t ((p).toNat) ((r).toNat)).isSome)) rfl ?_)
        refine XL.nil ?_
        refine X.ret (retEnd (L' := L) [x1, .bool ((stepL ar rs t ((p).toNat) ((r).toNat)).isSome)] (.tuple #[x1, .bool ((stepL ar rs t ((p).toNat) ((r).toNat)).isSome)]) (.tmp rfl (.tmp rfl .nil)) rfl le4 (FLe.refl _) (Sub.drop (Sub.refl _)) ?_)
        have e := show stepAtL ar rs t p r = stepL ar rs t p.toNat r.toNat from by rw [stepAtL, if_pos hok]
        exact ⟨_, by rw [e], by rw [e]; exact hr1, rfl⟩
end Go.Proofs.Ytnloeeaidknblaa
