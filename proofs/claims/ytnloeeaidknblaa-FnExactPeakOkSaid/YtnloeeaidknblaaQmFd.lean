/-
  Walks: subterms, copies, rules, systems.
-/
import Derived.Test.YtnloeeaidknblaaQmFc
import Derived.Test.YtnloeeaidknblaaX13
set_option linter.unusedSimpArgs false
set_option linter.unusedVariables false
namespace Go.Proofs.Ytnloeeaidknblaa
open Go X M

/- impl.inside -/
theorem inside_spec {F : FH} {L : List HP} {arv : Value} {ar : List Int} (har : IntsF F arv ar) {tv : Value} {t : List Int} (ht : IntsF F tv t) {p : Nat} {q : Int} (ho : termOk ar t = true) (hp : p < t.length) :
    Does Try.prog 169 [.agg #[arv], tv, .int .i64 (((p : Nat) : Int)), .int .i64 (q)] F (L) (fun v F' L' => (.bool (decide ((p : Int) ≤ q ∧ q < (endN ar t p : Int))) : Value) = v ∧ F = F' ∧ L = L') := by
  refine Does.of_X Try.func169 rfl rfl rfl ?_
  have hsl := sigOk_spec (termOk_sig ho)
  have htl := termOk_len ho
  have hsig := termOk_sig ho
  refine X.seq ?_
  refine X.region ?_
  refine XL.cons (XOp.box [arv] rfl rfl ?_)
  intro b1
  refine XL.cons (XOp.assign (.bool (false)) rfl ?_)
  refine XL.nil ?_
  refine X.seq ?_
  refine X.region ?_
  refine XL.cons (XOp.move (.int .i64 (q)) rfl ?_)
  refine XL.cons (XOp.move (.int .i64 (((p : Nat) : Int))) rfl ?_)
  refine XL.cons (XOp.geq (a := q) (b := ((p : Nat) : Int)) rfl rfl ?_)
  refine XL.cons (XOp.move (.bool (decide ((q : Int) ≥ ((p : Nat) : Int)))) rfl ?_)
  by_cases h1 : (q : Int) ≥ ((p : Nat) : Int)
  · refine XL.yes (t := 12) rfl (congrArg Value.bool (decide_eq_true h1)) (XOp.move (.int .i64 (q)) rfl ?_)
    refine XL.yes (t := 12) rfl (congrArg Value.bool (decide_eq_true h1)) (XOp.loadN [arv] Try.isAgg33 Try.sizeOf33 rfl rfl (Rd.ownN [] rfl rfl) ?_)
    refine XL.yes (t := 12) rfl (congrArg Value.bool (decide_eq_true h1)) (XOp.move (tv) rfl ?_)
    refine XL.yes (t := 12) rfl (congrArg Value.bool (decide_eq_true h1)) (XOp.move (.int .i64 (((p : Nat) : Int))) rfl ?_)
    refine XL.yes (t := 12) rfl (congrArg Value.bool (decide_eq_true h1)) (XOp.call (args := [.agg #[arv], tv, .int .i64 ((p : Nat) : Int)]) Try.call139 rfl (endAt_ok (p := p) har ht (ho := (by first | assumption | rfl | omega | (left; simp; done) | (right; simp; done))) (hp := (by first | assumption | rfl | omega | (left; simp; done) | (right; simp; done)))) ?_)
    rintro _ _ _ _ ⟨rfl, rfl, rfl⟩
    refine XL.yes (t := 12) rfl (congrArg Value.bool (decide_eq_true h1)) (XOp.lss (a := q) (b := ((endN ar t p : Nat) : Int)) rfl rfl ?_)
    refine XL.cons (XOp.pickT (.bool (decide ((q : Int) < ((endN ar t p : Nat) : Int)))) (congrArg Value.bool (decide_eq_true h1)) rfl ?_)
    refine XL.cons (XOp.assign (.bool (decide ((q : Int) < ((endN ar t p : Nat) : Int)))) rfl ?_)
    refine XL.nil ?_
    refine X.ret (retEnd (L' := L) [.bool (decide ((q : Int) < ((endN ar t p : Nat) : Int)))] (.bool (decide ((q : Int) < ((endN ar t p : Nat) : Int)))) (.tmp rfl .nil) rfl (FLe.refl _) (FLe.refl _) (Sub.drop (Sub.refl _)) ?_)
    exact ⟨(congrArg Value.bool (decide_eq_decide.2 (by omega))), rfl, rfl⟩
  · refine XL.no (t := 12) rfl (congrArg Value.bool (decide_eq_false h1)) ?_
    refine XL.no (t := 12) rfl (congrArg Value.bool (decide_eq_false h1)) ?_
    refine XL.no (t := 12) rfl (congrArg Value.bool (decide_eq_false h1)) ?_
    refine XL.no (t := 12) rfl (congrArg Value.bool (decide_eq_false h1)) ?_
    refine XL.no (t := 12) rfl (congrArg Value.bool (decide_eq_false h1)) ?_
    refine XL.no (t := 12) rfl (congrArg Value.bool (decide_eq_false h1)) ?_
    refine XL.cons (XOp.pickF (.bool (false)) (congrArg Value.bool (decide_eq_false h1)) rfl ?_)
    refine XL.cons (XOp.assign (.bool (false)) rfl ?_)
    refine XL.nil ?_
    refine X.ret (retEnd (L' := L) [.bool (false)] (.bool (false)) (.tmp rfl .nil) rfl (FLe.refl _) (FLe.refl _) (Sub.drop (Sub.refl _)) ?_)
    exact ⟨(congrArg Value.bool (decide_eq_false (by omega))), rfl, rfl⟩

/- impl.subAt -/
theorem subAt_spec {F : FH} {L : List HP} {arv : Value} {ar : List Int} (har : IntsF F arv ar) {tv : Value} {t : List Int} (ht : IntsF F tv t) {p : Nat} (ho : termOk ar t = true) (hp : p < t.length) (hnn : isNil tv = false) :
    Does Try.prog 153 [.agg #[arv], tv, .int .i64 (((p : Nat) : Int))] F (L) (fun v F' L' => F = F' ∧ L = L' ∧ IntsF F v (sub ar t p) ∧ isNil v = false) := by
  refine Does.of_X Try.func153 rfl rfl rfl ?_
  have hsl := sigOk_spec (termOk_sig ho)
  have htl := termOk_len ho
  have hsig := termOk_sig ho
  have hee := endN_spec ho hp
  refine X.seq ?_
  refine X.region ?_
  refine XL.cons (XOp.box [arv] rfl rfl ?_)
  intro b1
  refine XL.cons (XOp.assign ((.slice none 0 0)) rfl ?_)
  refine XL.nil ?_
  refine X.seq ?_
  refine X.region ?_
  refine XL.cons (XOp.move (tv) rfl ?_)
  refine XL.cons (XOp.move (.int .i64 (((p : Nat) : Int))) rfl ?_)
  refine XL.cons (XOp.loadN [arv] Try.isAgg33 Try.sizeOf33 rfl rfl (Rd.ownN [] rfl rfl) ?_)
  refine XL.cons (XOp.move (tv) rfl ?_)
  refine XL.cons (XOp.move (.int .i64 (((p : Nat) : Int))) rfl ?_)
  refine XL.cons (XOp.call (args := [.agg #[arv], tv, .int .i64 ((p : Nat) : Int)]) Try.call139 rfl (endAt_ok (p := p) har ht (ho := (by first | assumption | rfl | omega | (left; simp; done) | (right; simp; done))) (hp := (by first | assumption | rfl | omega | (left; simp; done) | (right; simp; done)))) ?_)
  rintro _ _ _ _ ⟨rfl, rfl, rfl⟩
  refine XL.cons (XOp.sliceI p (endN ar t p) Try.runUnderlying22 Try.sizeOf2 rfl ht ⟨_, rfl⟩ ⟨_, rfl⟩ (by omega) (by omega) ?_)
  intro v1 hv1 hn1
  refine XL.cons (XOp.assign (v1) rfl ?_)
  refine XL.nil ?_
  refine X.ret (retEnd (L' := L) [v1] (v1) (.tmp rfl .nil) rfl (FLe.refl _) (FLe.refl _) (Sub.drop (Sub.refl _)) ?_)
  exact ⟨rfl, rfl, hv1, by rw [hn1]; exact hnn⟩

/- spec.l1Copy -/
theorem l1Copy_spec {F : FH} {L : List HP} {tv : Value} {t : List Int} (ht : IntsF F tv t) (hlt : t.length ≤ 4000000) :
    Does Try.prog 88 [tv] F (L) (fun v F' L' => F = F' ∧ IsSl v ∧ intsH 2 v t :: L = L') := by
  refine Does.of_X Try.func88 rfl rfl rfl ?_
  refine X.seq ?_
  refine X.region ?_
  refine XL.cons (XOp.assign ((.slice none 0 0)) rfl ?_)
  refine XL.nil ?_
  refine X.seq ?_
  refine X.region ?_
  refine XL.cons (XOp.buildSlice (s := 1) [] [.int .i64 (0)] [] Try.runUnderlying22 Try.sizeOf2 Try.zeroValue2 rfl (by decide) rfl CellsAre.nil rfl ?_)
  intro v1 hv1
  refine XL.cons (XOp.move (tv) rfl ?_)
  show XL _ _ _ _ _ _ _ (intsH 2 v1 ([] : List Int) :: L)
  refine XL.cons (XOp.appendI [] _ Try.runUnderlying22 Try.typeInfo2 rfl rfl rfl rfl rfl rfl ht (by (try simp only [List.length_append, List.length_nil, List.length_cons, List.length_singleton, List.length_take, List.length_drop]); omega) ?_)
  intro v2 hs1 hn1 hm1
  refine XL.cons (XOp.assign (v2) rfl ?_)
  refine XL.nil ?_
  refine X.ret (retEnd (L' := intsH 2 v2 (([] : List Int) ++ t) :: L) [v2] (v2) (.tmp rfl .nil) rfl (FLe.refl _) (FLe.refl _) (Sub.cons (Sub.refl _)) ?_)
  refine ⟨rfl, hs1, ?_⟩
  have hxs : (t : List Int) = ([] : List Int) ++ t := by simp
  exact congrArg (fun z => intsH 2 _ z :: L) hxs

/- slices.Clone[[]int64,int64] -/
theorem Clone_spec {F : FH} {L : List HP} {tv : Value} {t : List Int} (ht : IntsF F tv t) (hlt : t.length ≤ 4000000) :
    Does Try.prog 102 [tv] F (L) (fun v F' L' => F = F' ∧ IsSl v ∧ intsH 2 v t :: L = L') := by
  refine Does.of_X Try.func102 rfl rfl rfl ?_
  refine X.seq ?_
  refine X.region ?_
  refine XL.cons (XOp.assign ((.slice none 0 0)) rfl ?_)
  refine XL.nil ?_
  refine X.seq ?_
  refine X.seq ?_
  refine X.region ?_
  refine XL.cons (XOp.move (tv) rfl ?_)
  refine XL.cons (XOp.eqNil (v := tv) Try.runUnderlying22 rfl rfl (IntsF.isSl ht) ?_)
  refine XL.nil ?_
  refine X.cond (t := isNil tv) rfl (fun h1 => ?_) (fun h1 => ?_)
  · refine X.seq ?_
    refine X.region ?_
    refine XL.cons (XOp.assign ((.slice none 0 0)) rfl ?_)
    refine XL.nil ?_
    refine X.ret (thenQ_ret (retEnd (L' := intsH 2 ((.slice none 0 0)) ([]) :: L) [(.slice none 0 0)] ((.slice none 0 0)) (.tmp rfl .nil) rfl (FLe.refl _) (FLe.refl _) (Sub.trans (intsH.addNil 2 none _) (Sub.cons (Sub.refl _))) ?_))
    refine ⟨rfl, ⟨_, _, _, rfl⟩, ?_⟩
    have hxs : (t : List Int) = [] := by exact nil_of_isNil ht h1
    exact congrArg (fun z => intsH 2 _ z :: L) hxs
  · refine X.skip ?_
    refine X.seq ?_
    refine X.region ?_
    refine XL.cons (XOp.buildSlice (s := 1) [] [.int .i64 (0)] [] Try.runUnderlying22 Try.sizeOf2 Try.zeroValue2 rfl (by decide) rfl CellsAre.nil rfl ?_)
    intro v1 hv1
    refine XL.cons (XOp.move (tv) rfl ?_)
    show XL _ _ _ _ _ _ _ (intsH 2 v1 ([] : List Int) :: L)
    refine XL.cons (XOp.appendI [] _ Try.runUnderlying22 Try.typeInfo2 rfl rfl rfl rfl rfl rfl ht (by (try simp only [List.length_append, List.length_nil, List.length_cons, List.length_singleton, List.length_take, List.length_drop]); omega) ?_)
    intro v2 hs1 hn1 hm1
    refine XL.cons (XOp.assign (v2) rfl ?_)
    refine XL.nil ?_
    refine X.ret (retEnd (L' := intsH 2 v2 (([] : List Int) ++ t) :: L) [v2] (v2) (.tmp rfl .nil) rfl (FLe.refl _) (FLe.refl _) (Sub.cons (Sub.refl _)) ?_)
    refine ⟨rfl, hs1, ?_⟩
    have hxs : (t : List Int) = ([] : List Int) ++ t := by simp
    exact congrArg (fun z => intsH 2 _ z :: L) hxs

/- spec.l1Sub -/
theorem l1Sub_spec {F : FH} {L : List HP} {arv : Value} {ar : List Int} (har : IntsF F arv ar) {tv : Value} {t : List Int} (ht : IntsF F tv t) {p : Nat} (ho : termOk ar t = true) (hp : p < t.length) :
    Does Try.prog 149 [.agg #[arv], tv, .int .i64 (((p : Nat) : Int))] F (L) (fun v F' L' => F = F' ∧ IsSl v ∧ intsH 2 v (sub ar t p) :: L = L') := by
  refine Does.of_X Try.func149 rfl rfl rfl ?_
  have hsl := sigOk_spec (termOk_sig ho)
  have htl := termOk_len ho
  have hsig := termOk_sig ho
  have hee := endN_spec ho hp
  refine X.seq ?_
  refine X.region ?_
  refine XL.cons (XOp.box [arv] rfl rfl ?_)
  intro b1
  refine XL.cons (XOp.assign ((.slice none 0 0)) rfl ?_)
  refine XL.nil ?_
  refine X.seq ?_
  refine X.region ?_
  refine XL.cons (XOp.move (tv) rfl ?_)
  refine XL.cons (XOp.move (.int .i64 (((p : Nat) : Int))) rfl ?_)
  refine XL.cons (XOp.loadN [arv] Try.isAgg33 Try.sizeOf33 rfl rfl (Rd.ownN [] rfl rfl) ?_)
  refine XL.cons (XOp.move (tv) rfl ?_)
  refine XL.cons (XOp.move (.int .i64 (((p : Nat) : Int))) rfl ?_)
  refine XL.cons (XOp.call (args := [.agg #[arv], tv, .int .i64 ((p : Nat) : Int)]) Try.call136 rfl (l1End_ok (p := p) har ht (ho := (by first | assumption | rfl | omega | (left; simp; done) | (right; simp; done))) (hp := (by first | assumption | rfl | omega | (left; simp; done) | (right; simp; done)))) ?_)
  rintro _ _ _ _ ⟨rfl, rfl, rfl⟩
  refine XL.cons (XOp.sliceI p (endN ar t p) Try.runUnderlying22 Try.sizeOf2 rfl ht ⟨_, rfl⟩ ⟨_, rfl⟩ (by omega) (by omega) ?_)
  intro v1 hv1 hn1
  refine XL.cons (XOp.call (args := [v1]) Try.call88 rfl (l1Copy_spec hv1 (hlt := (by rw [List.length_take, List.length_drop]; omega))) ?_)
  rintro v2 _ _ _ ⟨rfl, hs1, rfl⟩
  refine XL.cons (XOp.assign (v2) rfl ?_)
  refine XL.nil ?_
  refine X.ret (retEnd (L' := intsH 2 v2 (((((t.drop p).take ((endN ar t p) - p))))) :: L) [v2] (v2) (.tmp rfl .nil) rfl (FLe.refl _) (FLe.refl _) (Sub.cons (Sub.drop (Sub.refl _))) ?_)
  refine ⟨rfl, hs1, ?_⟩
  have hxs : (sub ar t p : List Int) = ((((t.drop p).take ((endN ar t p) - p)))) := rfl
  exact congrArg (fun z => intsH 2 _ z :: L) hxs

/- impl.RuleOk -/
theorem RuleOk_spec {F : FH} {L : List HP} {arv : Value} {ar : List Int} (har : IntsF F arv ar) {lv : Value} {l : List Int} (hl : IntsF F lv l) {rv : Value} {r : List Int} (hr : IntsF F rv r) :
    Does Try.prog 119 [.agg #[arv], .agg #[lv, rv]] F (L) (fun v F' L' => (.bool (ruleOk ar l r) : Value) = v ∧ F = F' ∧ L = L') := by
  refine Does.of_X Try.func119 rfl rfl rfl ?_
  refine X.seq ?_
  refine X.region ?_
  refine XL.cons (XOp.box [arv] rfl rfl ?_)
  intro b1
  refine XL.cons (XOp.box [lv, rv] rfl rfl ?_)
  intro b2
  refine XL.cons (XOp.assign (.bool (false)) rfl ?_)
  refine XL.nil ?_
  refine X.seq ?_
  refine X.seq ?_
  refine X.region ?_
  refine XL.cons (XOp.loadN [arv] Try.isAgg33 Try.sizeOf33 rfl rfl (Rd.ownN [_] rfl rfl) ?_)
  refine XL.cons (XOp.fieldP (b := b2) (0) Try.runUnderlying98 rfl Try.sizeOf22 (by decide) rfl rfl ?_)
  refine XL.cons (XOp.load1 (v := lv) Try.isAgg22 rfl (Rd.own [] rfl rfl) ?_)
  refine XL.cons (XOp.call (args := [.agg #[arv], lv]) Try.call130 rfl (TermOk_spec har hl) ?_)
  rintro _ _ _ _ ⟨rfl, rfl, rfl⟩
  refine XL.cons (XOp.notB (b := termOk ar l) rfl ?_)
  refine XL.cons (XOp.move (.bool (!(termOk ar l))) rfl ?_)
  by_cases h1 : (!(termOk ar l)) = true
  · refine XL.no (t := 12) rfl (congrArg Value.bool h1) ?_
    refine XL.no (t := 12) rfl (congrArg Value.bool h1) ?_
    refine XL.no (t := 12) rfl (congrArg Value.bool h1) ?_
    refine XL.no (t := 12) rfl (congrArg Value.bool h1) ?_
    refine XL.no (t := 12) rfl (congrArg Value.bool h1) ?_
    refine XL.cons (XOp.pickT (.bool (true)) (congrArg Value.bool h1) rfl ?_)
    refine XL.cons (XOp.move (.bool (true)) rfl ?_)
    refine XL.no (t := 19) rfl rfl ?_
    refine XL.no (t := 19) rfl rfl ?_
    refine XL.no (t := 19) rfl rfl ?_
    refine XL.no (t := 19) rfl rfl ?_
    refine XL.no (t := 19) rfl rfl ?_
    refine XL.cons (XOp.pickT (.bool (true)) rfl rfl ?_)
    refine XL.nil ?_
    refine X.condT rfl ?_
    refine X.seq ?_
    refine X.region ?_
    refine XL.cons (XOp.assign (.bool (false)) rfl ?_)
    refine XL.nil ?_
    refine X.ret (thenQ_ret (retEnd (L' := L) [.bool (false)] (.bool (false)) (.tmp rfl .nil) rfl (FLe.refl _) (FLe.refl _) (Sub.drop (Sub.drop (Sub.refl _))) ?_))
    exact ⟨(congrArg Value.bool (ruleOk_false (fun h => by have := h.left; have := h.right; have := h.head; simp_all <;> omega))), rfl, rfl⟩
  · rw [Bool.not_eq_true] at h1
    have hlo : termOk ar l = true := by simpa using h1
    have hl60 := termOk_len hlo
    refine XL.yes (t := 12) rfl (congrArg Value.bool h1) (XOp.loadN [arv] Try.isAgg33 Try.sizeOf33 rfl rfl (Rd.ownN [_] rfl rfl) ?_)
    refine XL.yes (t := 12) rfl (congrArg Value.bool h1) (XOp.fieldP (b := b2) (1) Try.runUnderlying98 rfl Try.sizeOf22 (by decide) rfl rfl ?_)
    refine XL.yes (t := 12) rfl (congrArg Value.bool h1) (XOp.load1 (v := rv) Try.isAgg22 rfl (Rd.own [] rfl rfl) ?_)
    refine XL.yes (t := 12) rfl (congrArg Value.bool h1) (XOp.call (args := [.agg #[arv], rv]) Try.call130 rfl (TermOk_spec har hr) ?_)
    rintro _ _ _ _ ⟨rfl, rfl, rfl⟩
    refine XL.yes (t := 12) rfl (congrArg Value.bool h1) (XOp.notB (b := termOk ar r) rfl ?_)
    refine XL.cons (XOp.pickF (.bool (!(termOk ar r))) (congrArg Value.bool h1) rfl ?_)
    refine XL.cons (XOp.move (.bool (!(termOk ar r))) rfl ?_)
    by_cases h2 : (!(termOk ar r)) = true
    · refine XL.no (t := 19) rfl (congrArg Value.bool h2) ?_
      refine XL.no (t := 19) rfl (congrArg Value.bool h2) ?_
      refine XL.no (t := 19) rfl (congrArg Value.bool h2) ?_
      refine XL.no (t := 19) rfl (congrArg Value.bool h2) ?_
      refine XL.no (t := 19) rfl (congrArg Value.bool h2) ?_
      refine XL.cons (XOp.pickT (.bool (true)) (congrArg Value.bool h2) rfl ?_)
      refine XL.nil ?_
      refine X.condT rfl ?_
      refine X.seq ?_
      refine X.region ?_
      refine XL.cons (XOp.assign (.bool (false)) rfl ?_)
      refine XL.nil ?_
      refine X.ret (thenQ_ret (retEnd (L' := L) [.bool (false)] (.bool (false)) (.tmp rfl .nil) rfl (FLe.refl _) (FLe.refl _) (Sub.drop (Sub.drop (Sub.refl _))) ?_))
      exact ⟨(congrArg Value.bool (ruleOk_false (fun h => by have := h.left; have := h.right; have := h.head; simp_all <;> omega))), rfl, rfl⟩
    · rw [Bool.not_eq_true] at h2
      have hro : termOk ar r = true := by simpa using h2
      have hr60 := termOk_len hro
      refine XL.yes (t := 19) rfl (congrArg Value.bool h2) (XOp.fieldP (b := b2) (0) Try.runUnderlying98 rfl Try.sizeOf22 (by decide) rfl rfl ?_)
      refine XL.yes (t := 19) rfl (congrArg Value.bool h2) (XOp.load1 (v := lv) Try.isAgg22 rfl (Rd.own [] rfl rfl) ?_)
      refine XL.yes (t := 19) rfl (congrArg Value.bool h2) (XOp.indexS (v := lv) (i := 0) (n := (l).length) 0 Try.runUnderlying22 Try.sizeOf2 rfl rfl rfl hl.slv (by omega) (Nat.mul_one _) ?_)
      refine XL.yes (t := 19) rfl (congrArg Value.bool h2) (XOp.load1 (v := .int .i64 (l.getD 0 0)) Try.isAgg2 rfl (hl.rd (by omega)) ?_)
      refine XL.yes (t := 19) rfl (congrArg Value.bool h2) (XOp.lss (a := l.getD 0 0) (b := 0) rfl rfl ?_)
      refine XL.cons (XOp.pickF (.bool (decide ((l.getD 0 0 : Int) < 0))) (congrArg Value.bool h2) rfl ?_)
      refine XL.nil ?_
      refine X.condD (p := (l.getD 0 0 : Int) < 0) rfl (fun h3 => ?_) (fun h3 => ?_)
      · refine X.seq ?_
        refine X.region ?_
        refine XL.cons (XOp.assign (.bool (false)) rfl ?_)
        refine XL.nil ?_
        refine X.ret (thenQ_ret (retEnd (L' := L) [.bool (false)] (.bool (false)) (.tmp rfl .nil) rfl (FLe.refl _) (FLe.refl _) (Sub.drop (Sub.drop (Sub.refl _))) ?_))
        exact ⟨(congrArg Value.bool (ruleOk_false (fun h => by have := h.left; have := h.right; have := h.head; simp_all <;> omega))), rfl, rfl⟩
      · refine X.skip ?_
        refine X.seq ?_
        refine X.seq ?_
        refine X.region ?_
        refine XL.cons (XOp.fieldP (b := b2) (1) Try.runUnderlying98 rfl Try.sizeOf22 (by decide) rfl rfl ?_)
        refine XL.cons (XOp.load1 (v := rv) Try.isAgg22 rfl (Rd.own [] rfl rfl) ?_)
        refine XL.cons (XOp.lenS (v := rv) (n := (r).length) Try.runUnderlying22 rfl hr.slv ?_)
        refine XL.cons (XOp.move (.int .i64 (0)) rfl ?_)
        refine XL.nil ?_
        refine X.block ?_
        refine X.loop (α := Nat) (fun k => [(3, ptr b2 0), (27, rv), (28, .int .i64 ((((r).length : Nat) : Int))), (29, .int .i64 (((k : Nat) : Int)))]) (fun k => cellsH b2 [lv, rv] 98 :: cellsH b1 [arv] 33 :: L) (fun k F' => F = F' ∧ (k ≤ r.length) ∧ (∀ i, i < k → r.getD i 0 < 0 → r.getD i 0 ∈ l)) (fun k => r.length - k) 0 ⟨rfl, rfl, rfl, rfl, trivial⟩ (Sub.cons (Sub.cons (Sub.refl _))) ⟨rfl, (by omega), (fun i hi => absurd hi (by omega))⟩ ?_
        rintro k rE _ _ ⟨rfl, hk, hall⟩
        show X _ _ _ _ (envs [(3, ptr b2 0), (27, rv), (28, .int .i64 ((((r).length : Nat) : Int))), (29, .int .i64 (((k : Nat) : Int)))] rE) _ (cellsH b2 [lv, rv] 98 :: cellsH b1 [arv] 33 :: L)
        refine X.seq ?_
        refine X.region ?_
        refine XL.cons (XOp.lss (a := ((k : Nat) : Int)) (b := (((r).length : Nat) : Int)) rfl rfl ?_)
        refine XL.nil ?_
        refine X.seq ?_
        refine X.condD (p := (((k : Nat) : Int) : Int) < (((r).length : Nat) : Int)) rfl (fun h4 => ?_) (fun h4 => ?_)
        · refine X.skip ?_
          refine X.seq ?_
          refine X.block ?_
          refine X.seq ?_
          refine X.region ?_
          refine XL.cons (XOp.indexS (v := rv) (i := ((k : Nat) : Int)) (n := (r).length) k Try.runUnderlying22 Try.sizeOf2 rfl rfl rfl hr.slv (by omega) (Nat.mul_one _) ?_)
          refine XL.cons (XOp.load1 (v := .int .i64 (r.getD k 0)) Try.isAgg2 rfl (hr.rd (by omega)) ?_)
          refine XL.cons (XOp.assign (.int .i64 (r.getD k 0)) rfl ?_)
          refine XL.nil ?_
          refine X.seq ?_
          refine X.region ?_
          refine XL.cons (XOp.move (.int .i64 (r.getD k 0)) rfl ?_)
          refine XL.cons (XOp.lss (a := r.getD k 0) (b := 0) rfl rfl ?_)
          refine XL.cons (XOp.move (.bool (decide ((r.getD k 0 : Int) < 0))) rfl ?_)
          by_cases h5 : (r.getD k 0 : Int) < 0
          · refine XL.yes (t := 35) rfl (congrArg Value.bool (decide_eq_true h5)) (XOp.fieldP (b := b2) (0) Try.runUnderlying98 rfl Try.sizeOf22 (by decide) rfl rfl ?_)
            refine XL.yes (t := 35) rfl (congrArg Value.bool (decide_eq_true h5)) (XOp.load1 (v := lv) Try.isAgg22 rfl (Rd.own [] rfl rfl) ?_)
            refine XL.yes (t := 35) rfl (congrArg Value.bool (decide_eq_true h5)) (XOp.move (.int .i64 (r.getD k 0)) rfl ?_)
            refine XL.yes (t := 35) rfl (congrArg Value.bool (decide_eq_true h5)) (XOp.call (args := [lv, .int .i64 (r.getD k 0)]) Try.call165 rfl (Contains_spec (n := r.getD k 0) hl (hbd := (by first | assumption | rfl | omega | (left; simp; done) | (right; simp; done)))) ?_)
            rintro _ _ _ _ ⟨rfl, rfl, rfl⟩
            refine XL.yes (t := 35) rfl (congrArg Value.bool (decide_eq_true h5)) (XOp.notD (p := (r.getD k 0) ∈ l) rfl ?_)
            refine XL.cons (XOp.pickT (.bool (decide (¬((r.getD k 0) ∈ l)))) (congrArg Value.bool (decide_eq_true h5)) rfl ?_)
            refine XL.nil ?_
            refine X.condD (p := ¬((r.getD k 0) ∈ l)) rfl (fun h6 => ?_) (fun h6 => ?_)
            · refine X.seq ?_
              refine X.region ?_
              refine XL.cons (XOp.assign (.bool (false)) rfl ?_)
              refine XL.nil ?_
              refine X.ret (blockQ_ret (thenQ_ret (thenQ_ret (blockQ_ret (thenQ_ret (retEnd (L' := L) [.bool (false)] (.bool (false)) (.tmp rfl .nil) rfl (FLe.refl _) (FLe.refl _) (Sub.drop (Sub.drop (Sub.refl _))) ?_))))))
              exact ⟨(congrArg Value.bool (ruleOk_false (fun h => by have := h.vars (r.getD k 0) (mem_of_getD (k := k) (by omega) rfl); simp_all))), rfl, rfl⟩
            · refine X.skip ?_
              refine X.region ?_
              refine XL.cons (XOp.addR (a := ((k : Nat) : Int)) (b := 1) (((k + 1 : Nat) : Int)) rfl rfl (by omega) (by omega) ?_)
              refine XL.cons (XOp.move (.int .i64 (((k + 1 : Nat) : Int))) rfl ?_)
              refine XL.nil ?_
              exact ⟨k + 1, _, FLe.refl _, (FLe.refl _), ⟨rfl, rfl, rfl, rfl, trivial⟩, (Sub.cons (Sub.cons (Sub.refl _))), ⟨rfl, (by omega), (fun i hi h0 => (Nat.lt_or_ge i k).elim (fun h => hall i h h0) (fun h => by obtain rfl : i = k := (by omega); first | assumption | (exfalso; omega) | simp_all))⟩, (by omega)⟩
          · refine XL.no (t := 35) rfl (congrArg Value.bool (decide_eq_false h5)) ?_
            refine XL.no (t := 35) rfl (congrArg Value.bool (decide_eq_false h5)) ?_
            refine XL.no (t := 35) rfl (congrArg Value.bool (decide_eq_false h5)) ?_
            refine XL.no (t := 35) rfl (congrArg Value.bool (decide_eq_false h5)) ?_
            refine XL.no (t := 35) rfl (congrArg Value.bool (decide_eq_false h5)) ?_
            refine XL.cons (XOp.pickF (.bool (false)) (congrArg Value.bool (decide_eq_false h5)) rfl ?_)
            refine XL.nil ?_
            refine X.condF rfl ?_
            refine X.skip ?_
            refine X.region ?_
            refine XL.cons (XOp.addR (a := ((k : Nat) : Int)) (b := 1) (((k + 1 : Nat) : Int)) rfl rfl (by omega) (by omega) ?_)
            refine XL.cons (XOp.move (.int .i64 (((k + 1 : Nat) : Int))) rfl ?_)
            refine XL.nil ?_
            exact ⟨k + 1, _, FLe.refl _, (FLe.refl _), ⟨rfl, rfl, rfl, rfl, trivial⟩, (Sub.cons (Sub.cons (Sub.refl _))), ⟨rfl, (by omega), (fun i hi h0 => (Nat.lt_or_ge i k).elim (fun h => hall i h h0) (fun h => by obtain rfl : i = k := (by omega); first | assumption | (exfalso; omega) | simp_all))⟩, (by omega)⟩
        · refine X.exit (thenQ_exit (thenQ_exit (blockQ_exit ?_)))
          refine X.seq ?_
          refine X.region ?_
          refine XL.cons (XOp.assign (.bool (true)) rfl ?_)
          refine XL.nil ?_
          refine X.ret (retEnd (L' := L) [.bool (true)] (.bool (true)) (.tmp rfl .nil) rfl (FLe.refl _) (FLe.refl _) (Sub.drop (Sub.drop (Sub.refl _))) ?_)
          exact ⟨(congrArg Value.bool (ruleOk_iff.2 ⟨hlo, hro, by omega, fun n hn h0 => by obtain ⟨i, hi, rfl⟩ := List.getElem_of_mem hn; have := hall i (by omega); simp [List.getD, hi] at this; exact this h0⟩)), rfl, rfl⟩
end Go.Proofs.Ytnloeeaidknblaa
