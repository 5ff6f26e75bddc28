/-
  Plain mathematics: equations that hold.
-/
import Derived.Test.YtiaanelimbmniaaP12
set_option linter.unusedSimpArgs false
set_option linter.unusedVariables false
namespace Go.Proofs.Ytiaanelimbmniaa.M
section
variable {α : Type} {q : α → Bool} {l : List α} {d : α} {k : Nat}
def badG (q : α → Bool) (l : List α) : Int := match l.findIdx? (fun t => !q t) with | some i => i | none => -1
theorem badG_at (d : α) (hk : k < l.length) (h : q (l.getD k d) = false) (hall : ∀ i, i < k → q (l.getD i d) = true) : badG q l = k := by
  unfold badG
  have : l.findIdx? (fun t => !q t) = some k := by
    rw [List.findIdx?_eq_some_iff_getElem]
    refine ⟨hk, by simpa [List.getD, hk] using h, fun j hj => ?_⟩
    have := hall j hj
    simpa [List.getD, Nat.lt_trans hj hk] using this
  rw [this]
theorem badG_none (d : α) (hall : ∀ i, i < l.length → q (l.getD i d) = true) : badG q l = -1 := by
  unfold badG
  have : l.findIdx? (fun t => !q t) = none := by
    rw [List.findIdx?_eq_none_iff]
    intro x hx
    obtain ⟨i, hi, rfl⟩ := List.getElem_of_mem hx
    simpa [List.getD, hi] using hall i hi
  rw [this]
theorem badG_iff : (badG q l ≥ 0) ↔ l.all q = false := by
  unfold badG
  cases h : l.findIdx? (fun t => !q t) with
  | none =>
    rw [List.findIdx?_eq_none_iff] at h
    have : l.all q = true := List.all_eq_true.2 fun x hx => by simpa using h x hx
    simp [this]
  | some i =>
    rw [List.findIdx?_eq_some_iff_getElem] at h
    obtain ⟨hi, h1, _⟩ := h
    have : l.all q = false := by
      rw [List.all_eq_false]
      exact ⟨_, List.getElem_mem hi, by simpa using h1⟩
    simp [this]
theorem all_getD_iff (d : α) : l.all q = true ↔ ∀ i, i < l.length → q (l.getD i d) = true := by
  rw [List.all_eq_true]
  refine ⟨fun h i hi => h _ (by simp [List.getD, hi]), fun h x hx => ?_⟩
  obtain ⟨i, hi, rfl⟩ := List.getElem_of_mem hx
  simpa [List.getD, hi] using h i hi
theorem all_fail (d : α) (hk : k < l.length) (h : q (l.getD k d) = false) : l.all q = false := by
  cases hx : l.all q with
  | false => rfl
  | true => have := (all_getD_iff d).1 hx k hk; rw [h] at this; cases this
end
section
variable {ar : List Int} {rs es : Rules} {a b : List Int} {n : Int} {m k : Nat}
def eqOkL (ar : List Int) (e : List Int × List Int) : Bool := termOk ar e.1 && termOk ar e.2
def eqsOkL (ar : List Int) (es : Rules) : Bool := sigOk ar && decide (es.length ≤ 12) && es.all (eqOkL ar)
def eq1 (ar : List Int) (rs : Rules) (m : Nat) (e : List Int × List Int) : Bool := decide (eqN ar rs e.1 e.2 m = 1)
def holdL (ar : List Int) (rs es : Rules) (n : Int) : Bool := (sysOk ar rs && eqsOkL ar es) && decide (0 ≤ n ∧ n ≤ 60) && es.all (eq1 ar rs n.toNat)
def keepL (ar : List Int) (rs es : Rules) : Bool := (sysOk ar rs && eqsOkL ar es) && es.all (eq1 ar rs 60)
theorem holdL_word : holdL ar rs es n = ((wordOkL ar rs n [] && eqsOkL ar es) && es.all (eq1 ar rs n.toNat)) := by
  unfold holdL wordOkL
  cases sysOk ar rs <;> cases eqsOkL ar es <;> simp
theorem eqsOk_at (h : eqsOkL ar es = true) (hk : k < es.length) : termOk ar (es.getD k ([], [])).1 = true ∧ termOk ar (es.getD k ([], [])).2 = true := by
  unfold eqsOkL at h
  simp only [Bool.and_eq_true] at h
  have := (all_getD_iff ([], [])).1 h.2 k hk
  simpa [eqOkL] using this
theorem eqsOk_len (h : eqsOkL ar es = true) : es.length ≤ 12 := by
  unfold eqsOkL at h
  simp only [Bool.and_eq_true, decide_eq_true_eq] at h
  exact h.1.2
theorem eqB_eqN (ha : rightB ar rs a = true) (hb : rightB ar rs b = true) (hn : 0 ≤ n ∧ n ≤ 60) : eqB ar rs a b n = eqN ar rs a b n.toNat := by rw [eqB, if_pos ⟨⟨ha, hb⟩, hn⟩]
theorem eqN_norm (ha : rightB ar rs a = true) (hb : rightB ar rs b = true) : eqN ar rs a b 60 = 1 ↔ (normB ar rs a 1 60).2 = true ∧ (normB ar rs b 1 60).2 = true ∧ (normB ar rs a 1 60).1 = (normB ar rs b 1 60).1 := by
  rw [normB_right ha (by omega), normB_right hb (by omega), show (60 : Int).toNat = 60 from rfl]
  unfold eqN
  by_cases h1 : (walkGo ar rs 1 60 a).2 = true <;> by_cases h2 : (walkGo ar rs 1 60 b).2 = true <;> simp [h1, h2]
end
end Go.Proofs.Ytiaanelimbmniaa.M
