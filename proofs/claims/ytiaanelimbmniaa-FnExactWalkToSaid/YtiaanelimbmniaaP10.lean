/-
  Plain mathematics: rewrite sequences inside a term.
-/
import Derived.Test.YtiaanelimbmniaaP9
set_option linter.unusedSimpArgs false
set_option linter.unusedVariables false
namespace Go.Proofs.Ytiaanelimbmniaa.M
section
variable {ar : List Int} {rs : Rules} {t f u : List Int} {ss acc : List StepL} {p : Nat} {k : Nat}
def insGo (ar t : List Int) (p : Nat) : List StepL → Option (List StepL)
  | [] => some []
  | s :: ss => match putL ar t p s.2.2 with
    | none => none
    | some u => (insGo ar t p ss).map (fun r => (s.1 + (p : Int), s.2.1, u) :: r)
def insB (ar : List Int) (rs : Rules) (f : List Int) (ss : List StepL) (t : List Int) (p : Int) : List Int × List StepL × Bool :=
  if walkOkL ar rs f ss = true ∧ posOk ar t p = true then
    match putL ar t p.toNat f, insGo ar t p.toNat ss with
    | some f', some ss' => (f', ss', true)
    | _, _ => ([], [], false)
  else ([], [], false)
/-- of what is right -/
def insR (ar : List Int) (f : List Int) (ss : List StepL) (t : List Int) (p : Nat) : List Int × List StepL × Bool :=
  match putL ar t p f, insGo ar t p ss with
  | some f', some ss' => (f', ss', true)
  | _, _ => ([], [], false)
theorem insB_R {p : Int} (hw : walkOkL ar rs f ss = true) (hp : posOk ar t p = true) : insB ar rs f ss t p = insR ar f ss t p.toNat := if_pos ⟨hw, hp⟩
theorem insR_from (h : (putL ar t p f).isSome = false) : insR ar f ss t p = ([], [], false) := by
  unfold insR
  cases hx : putL ar t p f with
  | none => rfl
  | some v => rw [hx] at h; cases h
theorem insR_steps (h : insGo ar t p ss = none) : insR ar f ss t p = ([], [], false) := by
  unfold insR
  rw [h]
  cases putL ar t p f <;> rfl
theorem insR_yes (h1 : (putL ar t p f).isSome = true) (h2 : insGo ar t p ss = some acc) : insR ar f ss t p = ((putL ar t p f).getD [], acc, true) := by
  obtain ⟨v, hv⟩ := Option.isSome_iff_exists.1 h1
  rw [insR, hv, h2]
  rfl
theorem insGo_next (hk : k < ss.length) (h : insGo ar t p ss = (insGo ar t p (ss.drop k)).map (fun r => acc ++ r)) (hu : (putL ar t p (ss.getD k (0, 0, [])).2.2).isSome = true) :
    insGo ar t p ss = (insGo ar t p (ss.drop (k + 1))).map (fun r => (acc ++ [((ss.getD k (0, 0, [])).1 + (p : Int), (ss.getD k (0, 0, [])).2.1, (putL ar t p (ss.getD k (0, 0, [])).2.2).getD [])]) ++ r) := by
  obtain ⟨v, hv⟩ := Option.isSome_iff_exists.1 hu
  rw [h, drop_get (0, 0, []) hk]
  show (match putL ar t p (ss.getD k (0, 0, [])).2.2 with | none => none | some u => (insGo ar t p (ss.drop (k + 1))).map (fun r => ((ss.getD k (0, 0, [])).1 + (p : Int), (ss.getD k (0, 0, [])).2.1, u) :: r)).map (fun r => acc ++ r) = _
  rw [hv]
  cases insGo ar t p (ss.drop (k + 1)) with
  | none => rfl
  | some r => simp
theorem insGo_fail (hk : k < ss.length) (h : insGo ar t p ss = (insGo ar t p (ss.drop k)).map (fun r => acc ++ r)) (hu : (putL ar t p (ss.getD k (0, 0, [])).2.2).isSome = false) : insGo ar t p ss = none := by
  rw [h, drop_get (0, 0, []) hk]
  show (match putL ar t p (ss.getD k (0, 0, [])).2.2 with | none => none | some u => (insGo ar t p (ss.drop (k + 1))).map (fun r => ((ss.getD k (0, 0, [])).1 + (p : Int), (ss.getD k (0, 0, [])).2.1, u) :: r)).map (fun r => acc ++ r) = _
  cases hx : putL ar t p (ss.getD k (0, 0, [])).2.2 with
  | none => rfl
  | some v => rw [hx] at hu; cases hu
theorem insGo_end (hk : ss.length ≤ k) (h : insGo ar t p ss = (insGo ar t p (ss.drop k)).map (fun r => acc ++ r)) : insGo ar t p ss = some acc := by
  rw [h, List.drop_eq_nil_of_le hk]
  simp [insGo]
theorem insGo_start : insGo ar t p ss = (insGo ar t p (ss.drop 0)).map (fun r => [] ++ r) := by
  simp
theorem insB_no {p : Int} (h : ¬ (walkOkL ar rs f ss = true ∧ posOk ar t p = true)) : insB ar rs f ss t p = ([], [], false) := if_neg h
theorem insB_from {p : Int} (h : (putL ar t p.toNat f).isSome = false) : insB ar rs f ss t p = ([], [], false) := by
  unfold insB
  cases hx : putL ar t p.toNat f with
  | none => simp
  | some v => rw [hx] at h; cases h
theorem insB_steps {p : Int} (h : insGo ar t p.toNat ss = none) : insB ar rs f ss t p = ([], [], false) := by
  unfold insB
  rw [h]
  cases putL ar t p.toNat f <;> simp
theorem insB_yes {p : Int} (hw : walkOkL ar rs f ss = true) (hp : posOk ar t p = true) (h1 : (putL ar t p.toNat f).isSome = true) (h2 : insGo ar t p.toNat ss = some acc) : insB ar rs f ss t p = ((putL ar t p.toNat f).getD [], acc, true) := by
  obtain ⟨v, hv⟩ := Option.isSome_iff_exists.1 h1
  rw [insB, if_pos ⟨hw, hp⟩, hv, h2]
  rfl
theorem walkOk_at (h : walkOkL ar rs f ss = true) (hk : k < ss.length) : 0 ≤ (ss.getD k (0, 0, [])).1 ∧ (ss.getD k (0, 0, [])).1 < 60 := by
  have h1 := walkOk_step h hk
  have h2 := (stepAtL_ok h1).2
  simp only [stepAtOk, Bool.and_eq_true, decide_eq_true_eq] at h2
  have h3 := termOk_len (right_iff.1 h2.1.1).2
  omega
theorem putL_len {v : List Int} (h : putL ar t p u = some v) (ho : termOk ar t = true) (hp : p < t.length) (hu : termOk ar u = true) : v.length ≤ 60 := (termOk_len (put_ok ho hp hu h)).2
theorem insGo_len : ∀ (ss : List StepL) (r : List StepL), insGo ar t p ss = some r → r.length = ss.length
  | [], r, h => by simp [insGo] at h; subst h; rfl
  | s :: ss, r, h => by
    unfold insGo at h
    split at h
    · cases h
    · obtain ⟨q, hq, rfl⟩ := Option.map_eq_some_iff.1 h
      simp [insGo_len ss q hq]
theorem insGo_to (ho : termOk ar t = true) (hp : p < t.length) : ∀ (ss : List StepL) (r : List StepL), (∀ i, i < ss.length → termOk ar (ss.getD i (0, 0, [])).2.2 = true) → insGo ar t p ss = some r → ∀ i, i < r.length → (r.getD i (0, 0, [])).2.2.length ≤ 60
  | [], r, _, h, i, hi => by simp [insGo] at h; subst h; simp at hi
  | s :: ss, r, hs, h, i, hi => by
    unfold insGo at h
    split at h
    · cases h
    · rename_i u hu
      obtain ⟨q, hq, rfl⟩ := Option.map_eq_some_iff.1 h
      cases i with
      | zero => exact putL_len hu ho hp (hs 0 (by simp))
      | succ i =>
        have := insGo_to ho hp ss q (fun j hj => hs (j + 1) (by simpa using hj)) hq i (by simpa using hi)
        simpa using this
theorem insB_bounds {p : Int} : (insB ar rs f ss t p).1.length ≤ 60 ∧ (∀ i, i < (insB ar rs f ss t p).2.1.length → ((insB ar rs f ss t p).2.1.getD i (0, 0, [])).2.2.length ≤ 60) ∧ ((insB ar rs f ss t p).2.1.flatMap flatStep).length ≤ 4000 ∧ (insB ar rs f ss t p).2.1.length ≤ 60 := by
  have nil : (([], [], false) : List Int × List StepL × Bool).1.length ≤ 60 ∧ (∀ i, i < (([], [], false) : List Int × List StepL × Bool).2.1.length → ((([], [], false) : List Int × List StepL × Bool).2.1.getD i (0, 0, [])).2.2.length ≤ 60) ∧ ((([], [], false) : List Int × List StepL × Bool).2.1.flatMap flatStep).length ≤ 4000 ∧ (([], [], false) : List Int × List StepL × Bool).2.1.length ≤ 60 :=
    ⟨by simp, fun i hi => by simp at hi, by simp, by simp⟩
  unfold insB
  split
  · rename_i h
    obtain ⟨hw, hpo⟩ := h
    simp only [posOk, Bool.and_eq_true, decide_eq_true_eq] at hpo
    obtain ⟨ho, hp⟩ := hpo
    split
    · rename_i f' ss' h1 h2
      have hf := walkOkL_iff.1 hw
      have e1 := putL_len h1 ho (by omega) (right_iff.1 hf.1).2
      have e2 := insGo_to ho (by omega) ss ss' (fun i hi => walkOk_to hw hi) h2
      have e3 := insGo_len ss ss' h2
      refine ⟨e1, e2, ?_, by show ss'.length ≤ 60; omega⟩
      have h4 := flatStep_len ss'
      have h5 := gTo_bound e2 _ (Nat.le_refl _)
      have h6 : ss'.length * 60 ≤ 60 * 60 := Nat.mul_le_mul_right 60 (by omega)
      show (ss'.flatMap flatStep).length ≤ 4000
      omega
    · exact nil
  · exact nil
end
end Go.Proofs.Ytiaanelimbmniaa.M
