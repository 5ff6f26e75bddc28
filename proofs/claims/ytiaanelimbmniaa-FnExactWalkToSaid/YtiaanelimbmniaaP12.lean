/-
  Plain mathematics: words that are equal by their normal forms.
-/
import Derived.Test.YtiaanelimbmniaaP9
set_option linter.unusedSimpArgs false
set_option linter.unusedVariables false
namespace Go.Proofs.Ytiaanelimbmniaa.M
section
variable {ar : List Int} {rs : Rules} {a b t : List Int} {ts : RowL} {n : Int} {m k : Nat}
def badIx (ar : List Int) (ts : RowL) : Int := match ts.findIdx? (fun t => !termOk ar t) with | some i => i | none => -1
theorem badIx_at (hk : k < ts.length) (h : termOk ar (ts.getD k []) = false) (hall : ∀ i, i < k → termOk ar (ts.getD i []) = true) : badIx ar ts = k := by
  unfold badIx
  have : ts.findIdx? (fun t => !termOk ar t) = some k := by
    rw [List.findIdx?_eq_some_iff_getElem]
    refine ⟨hk, by simpa [List.getD, hk] using h, fun j hj => ?_⟩
    have := hall j hj
    simpa [List.getD, Nat.lt_trans hj hk] using this
  rw [this]
theorem badIx_none (hall : ∀ i, i < ts.length → termOk ar (ts.getD i []) = true) : badIx ar ts = -1 := by
  unfold badIx
  have : ts.findIdx? (fun t => !termOk ar t) = none := by
    rw [List.findIdx?_eq_none_iff]
    intro x hx
    obtain ⟨i, hi, rfl⟩ := List.getElem_of_mem hx
    simpa [List.getD, hi] using hall i hi
  rw [this]
theorem badIx_iff : (badIx ar ts ≥ 0) ↔ ts.all (termOk ar) = false := by
  unfold badIx
  cases h : ts.findIdx? (fun t => !termOk ar t) with
  | none =>
    rw [List.findIdx?_eq_none_iff] at h
    have : ts.all (termOk ar) = true := List.all_eq_true.2 fun x hx => by simpa using h x hx
    simp [this]
  | some i =>
    rw [List.findIdx?_eq_some_iff_getElem] at h
    obtain ⟨hi, h1, _⟩ := h
    have : ts.all (termOk ar) = false := by
      rw [List.all_eq_false]
      exact ⟨_, List.getElem_mem hi, by simpa using h1⟩
    simp [this]
/-- what the comparison of two words answers -/
def eqN (ar : List Int) (rs : Rules) (a b : List Int) (m : Nat) : Int :=
  if (walkGo ar rs 1 m a).2 = true ∧ (walkGo ar rs 1 m b).2 = true then (if endL a (walkGo ar rs 1 m a).1 = endL b (walkGo ar rs 1 m b).1 then 1 else 0) else -1
def eqB (ar : List Int) (rs : Rules) (a b : List Int) (n : Int) : Int := if (rightB ar rs a = true ∧ rightB ar rs b = true) ∧ 0 ≤ n ∧ n ≤ 60 then eqN ar rs a b n.toNat else -1
def wordOkL (ar : List Int) (rs : Rules) (n : Int) (ts : RowL) : Bool := sysOk ar rs && decide (0 ≤ n ∧ n ≤ 60) && ts.all (termOk ar)
theorem normB_right (h : rightB ar rs a = true) (hn : 0 ≤ n ∧ n ≤ 60) : normB ar rs a 1 n = if (walkGo ar rs 1 n.toNat a).2 = true then (endL a (walkGo ar rs 1 n.toNat a).1, true) else ([], false) := by
  have hw : wOk ar rs a 1 n = true := by simp [wOk, h, hn]
  rw [normB, walkB_yes hw]
theorem eqFin (ha : rightB ar rs a = true) (hb : rightB ar rs b = true) (hn : 0 ≤ n ∧ n ≤ 60) (h1 : (normB ar rs a 1 n).2 = true) (h2 : (normB ar rs b 1 n).2 = true) :
    eqB ar rs a b n = if decide ((normB ar rs a 1 n).1 = (normB ar rs b 1 n).1) = true then 1 else 0 := by
  rw [eqB, if_pos ⟨⟨ha, hb⟩, hn⟩, eqN]
  rw [normB_right ha hn] at *
  rw [normB_right hb hn] at *
  split at h1
  · split at h2
    · rename_i g1 g2
      rw [if_pos ⟨g1, g2⟩, if_pos g1, if_pos g2]
      simp
    · cases h2
  · cases h1
end
end Go.Proofs.Ytiaanelimbmniaa.M
