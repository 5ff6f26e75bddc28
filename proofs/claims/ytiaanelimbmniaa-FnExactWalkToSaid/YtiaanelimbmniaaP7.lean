/-
  Plain: how much of the bound is left.
-/
import Derived.Test.YtiaanelimbmniaaP6
set_option linter.unusedSimpArgs false
set_option linter.unusedVariables false
namespace Go.Proofs.Ytiaanelimbmniaa.M
/-- what is left of z when n are taken, or -1 -/
def dec (z : Int) (n : Nat) : Int := if z - n < 0 then -1 else z - n
theorem dec_neg {z : Int} {n : Nat} (h : z - n < 0) : dec z n = -1 := if_pos h
theorem dec_pos {z : Int} {n : Nat} (h : ¬ z - n < 0) : dec z n = z - n := if_neg h
theorem dec_dec {z : Int} {n m : Nat} (h : ¬ dec z n < 0) : dec (dec z n) m = dec z (n + m) := by
  unfold dec at *
  split at h
  · omega
  · rename_i h1
    rw [if_neg h1]
    by_cases h2 : z - n - m < 0
    · rw [if_pos h2, if_pos (by omega)]
    · rw [if_neg h2, if_neg (by omega)]; omega
theorem dec_out {z : Int} {n m : Nat} (h : dec z n < 0) : dec z (n + m) = -1 := by
  unfold dec at *
  split at h
  · rw [if_pos (by omega)]
  · omega
theorem dec_range (z : Int) (n : Nat) : -1 ≤ dec z n ∧ (0 ≤ z → dec z n ≤ z) := by
  unfold dec
  split <;> omega
theorem dec_mono {z : Int} {n m : Nat} (h : dec z n < 0) (hm : n ≤ m) : dec z m = -1 := by
  rw [show m = n + (m - n) from by omega]; exact dec_out h
def szTo (rs : Rules) (k : Nat) : Nat := ((rs.take k).map (fun r => r.1.length + r.2.length)).sum
theorem szTo_succ {rs : Rules} {k : Nat} (h : k < rs.length) : szTo rs k + ((rs.getD k ([], [])).1.length + (rs.getD k ([], [])).2.length) = szTo rs (k + 1) := by
  unfold szTo
  rw [take_succ_getD ([], []) h]
  simp
theorem szTo_le {rs : Rules} : ∀ (k j : Nat), k ≤ j → j ≤ rs.length → szTo rs k ≤ szTo rs j := by
  intro k j hkj
  induction j with
  | zero => intro _; rw [show k = 0 from by omega]; exact Nat.le_refl _
  | succ j ih =>
    intro hj
    rcases Nat.lt_or_ge k (j + 1) with h | h
    · have := ih (by omega) (by omega)
      rw [← szTo_succ (show j < rs.length by omega)]
      omega
    · rw [show k = j + 1 from by omega]; exact Nat.le_refl _
theorem take_set_next {l : List Int} {k : Nat} {v : Int} (h : k < l.length) (_ : k < l.length) : (l.set k v).take (k + 1) = l.take k ++ [v] := by
  rw [take_succ_getD 0 (by simpa using h)]
  congr 1
  · rw [List.take_set, List.set_eq_of_length_le (by simp; omega)]
  · simp [List.getD_eq_getElem?_getD, h]
theorem take_set_pair {l : Rules} {k : Nat} {v : List Int × List Int} (h : k < l.length) : (l.set k v).take (k + 1) = l.take k ++ [v] := by
  rw [take_succ_getD ([], []) (by simpa using h)]
  congr 1
  · rw [List.take_set, List.set_eq_of_length_le (by simp; omega)]
  · simp [List.getD_eq_getElem?_getD, h]
theorem ext_pair {a b : Rules} (hl : a.length = b.length) (h : ∀ i, i < a.length → a.getD i ([], []) = b.getD i ([], [])) : a = b := by
  apply List.ext_getElem hl
  intro i h1 h2
  have := h i h1
  simpa [List.getD_eq_getElem?_getD, h1, h2] using this
/-- how much a system takes of the bound -/
def szR (rs : Rules) : Nat := rs.length + szTo rs rs.length
theorem dec_le {z : Int} {n : Nat} (h : ¬ dec z n < 0) : (n : Int) ≤ z := by
  unfold dec at h
  split at h <;> omega
theorem szR_le {rs : Rules} : rs.length ≤ szR rs ∧ ∀ i, i < rs.length → (rs.getD i ([], [])).1.length ≤ szR rs ∧ (rs.getD i ([], [])).2.length ≤ szR rs := by
  refine ⟨by unfold szR; omega, fun i hi => ?_⟩
  have h1 := szTo_succ hi
  have h2 := szTo_le (rs := rs) (i + 1) rs.length (by omega) (Nat.le_refl _)
  unfold szR
  omega
end Go.Proofs.Ytiaanelimbmniaa.M
