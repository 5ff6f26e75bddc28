/-
  Plain: how many redexes there are.
-/
import Derived.Test.YtiaanelimbmniaaP5
set_option linter.unusedSimpArgs false
set_option linter.unusedVariables false
namespace Go.Proofs.Ytiaanelimbmniaa.M
section
variable {ar : List Int} {rs : Rules} {t : List Int} {p k j : Nat}
def cntR (ar : List Int) (rs : Rules) (t : List Int) (p k : Nat) : Nat := ((List.range k).filter (isRedex ar rs t p)).length
def cntP (ar : List Int) (rs : Rules) (t : List Int) (k : Nat) : Nat := ((List.range k).map (fun p => cntR ar rs t p rs.length)).sum
theorem cntR_yes {m : Nat} (h : isRedex ar rs t p k = true) : m + cntR ar rs t p k + 1 = m + cntR ar rs t p (k + 1) := by
  simp [cntR, List.range_succ, h]; omega
theorem cntR_no {m : Nat} (h : isRedex ar rs t p k = false) : m + cntR ar rs t p k = m + cntR ar rs t p (k + 1) := by
  simp [cntR, List.range_succ, h]
theorem cntR_le : cntR ar rs t p k ≤ k := by
  have := List.length_filter_le (isRedex ar rs t p) (List.range k)
  rwa [List.length_range] at this
theorem cntP_succ (h : j = rs.length) : cntP ar rs t k + cntR ar rs t k j = cntP ar rs t (k + 1) := by
  subst h; simp [cntP, List.range_succ]
theorem cntP_le (h : rs.length ≤ 12) : ∀ k, cntP ar rs t k ≤ k * 12
  | 0 => by simp [cntP]
  | k + 1 => by
    rw [← cntP_succ rfl]
    have := cntP_le h k
    have := cntR_le (ar := ar) (rs := rs) (t := t) (p := k) (k := rs.length)
    omega
theorem ruleAtGo_none : ∀ (n r : Nat), ruleAtGo ar rs t p n r = -1 → ∀ k, r ≤ k → k < r + n → isRedex ar rs t p k = false
  | 0, r, _, k, h1, h2 => by omega
  | n + 1, r, h, k, h1, h2 => by
    rw [ruleAtGo] at h
    split at h
    · omega
    · rename_i hr
      rcases Nat.lt_or_ge r k with h3 | h3
      · exact ruleAtGo_none n (r + 1) h k (by omega) (by omega)
      · obtain rfl : k = r := by omega
        simpa using hr
theorem cntR_zero : cntR ar rs t p rs.length = 0 ↔ ruleAtL ar rs t p < 0 := by
  unfold cntR
  rw [List.length_eq_zero_iff, List.filter_eq_nil_iff]
  simp only [List.mem_range]
  constructor
  · intro h
    rcases ruleAt_spec (ar := ar) (rs := rs) (t := t) (p := p) with h1 | ⟨k, h1, h2, h3⟩
    · omega
    · exact absurd h3 (h k h2)
  · intro h k hk
    have h1 : ruleAtL ar rs t p = -1 := by
      rcases ruleAt_spec (ar := ar) (rs := rs) (t := t) (p := p) with h1 | ⟨k, h1, _, _⟩
      · exact h1
      · omega
    rw [ruleAtGo_none rs.length 0 h1 k (by omega) (by omega)]
    simp
theorem cntP_zero : ∀ k, cntP ar rs t k = 0 ↔ ∀ p, p < k → ruleAtL ar rs t p < 0
  | 0 => by simp [cntP]
  | k + 1 => by
    rw [← cntP_succ rfl]
    have ih := cntP_zero k
    have hz := cntR_zero (ar := ar) (rs := rs) (t := t) (p := k)
    constructor
    · intro h p hp
      rcases Nat.lt_or_ge p k with h1 | h1
      · exact ih.1 (by omega) p h1
      · obtain rfl : p = k := by omega
        exact hz.1 (by omega)
    · intro h
      have h1 := ih.2 (fun p hp => h p (by omega))
      have h2 := hz.2 (h k (by omega))
      omega
theorem normal_cnt : normalL ar rs t = decide (cntP ar rs t t.length = 0) := by
  unfold normalL
  exact decide_eq_decide.2 (redL_nil.trans (cntP_zero t.length).symm)
end
end Go.Proofs.Ytiaanelimbmniaa.M
