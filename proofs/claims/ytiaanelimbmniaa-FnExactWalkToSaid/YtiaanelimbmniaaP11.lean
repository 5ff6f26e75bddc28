/-
  Plain mathematics: substitutions that are right; loops.
-/
import Derived.Test.YtiaanelimbmniaaP10
set_option linter.unusedSimpArgs false
set_option linter.unusedVariables false
namespace Go.Proofs.Ytiaanelimbmniaa.M
section
variable {ar : List Int} {rs : Rules} {t f : List Int} {ss : List StepL} {s : RowL} {p : Int}
def substOk (ar : List Int) (s : RowL) : Bool := sigOk ar && decide (s.length ≤ 24) && s.all (fun t => decide (t = []) || termOk ar t)
theorem substOk_iff : substOk ar s = true ↔ sigOk ar = true ∧ s.length ≤ 24 ∧ ∀ i, i < s.length → s.getD i [] = [] ∨ termOk ar (s.getD i []) = true := by
  unfold substOk
  simp only [Bool.and_eq_true, decide_eq_true_eq, List.all_eq_true, Bool.or_eq_true, and_assoc]
  refine and_congr_right fun _ => and_congr_right fun _ => ⟨fun h i hi => ?_, fun h x hx => ?_⟩
  · exact h _ (by simp [List.getD, hi])
  · obtain ⟨i, hi, rfl⟩ := List.getElem_of_mem hx
    simpa [List.getD, hi] using h i hi
theorem substOk_false (h : ¬ (sigOk ar = true ∧ s.length ≤ 24 ∧ ∀ i, i < s.length → s.getD i [] = [] ∨ termOk ar (s.getD i []) = true)) : substOk ar s = false := by
  cases hx : substOk ar s with
  | false => rfl
  | true => exact absurd (substOk_iff.1 hx) h
theorem substOk_rows (h : substOk ar s = true) : RowsOk ar s := fun i => by
  rcases Nat.lt_or_ge i s.length with hi | hi
  · exact (substOk_iff.1 h).2.2 i hi
  · left; rw [List.getD_eq_getElem?_getD, List.getElem?_eq_none hi]; rfl
theorem substOk_len (h : substOk ar s = true) (i : Nat) : (s.getD i []).length ≤ 60 := by
  rcases substOk_rows h i with h1 | h1
  · rw [h1]; simp
  · exact (termOk_len h1).2
def filledL (ar : List Int) (s : RowL) (t : List Int) : Option (List Int) := if substOk ar s = true ∧ termOk ar t = true then fillL s t else none
theorem len_nil {l : List Int} (h : ¬ ((l.length : Nat) : Int) > 0) : l = [] := List.eq_nil_of_length_eq_zero (by omega)
def loopOkL (ar : List Int) (rs : Rules) (f : List Int) (ss : List StepL) (p : Int) (s : RowL) : Bool :=
  decide (ss.length ≠ 0) && walkOkL ar rs f ss && posOk ar (endL f ss) p && substOk ar s && decide (fillL s f = some (sub ar (endL f ss) p.toNat))
theorem loopOkL_iff : loopOkL ar rs f ss p s = true ↔ ss.length ≠ 0 ∧ walkOkL ar rs f ss = true ∧ posOk ar (endL f ss) p = true ∧ substOk ar s = true ∧ fillL s f = some (sub ar (endL f ss) p.toNat) := by simp [loopOkL, and_assoc]
theorem loopOkL_no (h : ¬ (ss.length ≠ 0 ∧ walkOkL ar rs f ss = true ∧ posOk ar (endL f ss) p = true ∧ substOk ar s = true ∧ fillL s f = some (sub ar (endL f ss) p.toNat))) : loopOkL ar rs f ss p s = false := by
  cases hx : loopOkL ar rs f ss p s with
  | false => rfl
  | true => exact absurd (loopOkL_iff.1 hx) h
theorem posOk_iff : posOk ar t p = true ↔ termOk ar t = true ∧ 0 ≤ p ∧ p < (t.length : Int) := by simp [posOk]
theorem fill_none {v : List Int} (h : (fillL s f).isSome = false) : fillL s f ≠ some v := fun e => by rw [e] at h; cases h
theorem fill_eq {v : List Int} (h : (fillL s f).isSome = true) : fillL s f = some v ↔ (fillL s f).getD [] = v := by
  obtain ⟨x, hx⟩ := Option.isSome_iff_exists.1 h
  rw [hx]; simp
end
end Go.Proofs.Ytiaanelimbmniaa.M
