/-
  Plain mathematics: rewrite sequences under a substitution.
-/
import Derived.Test.YtnloeeaidknblaaP11
set_option linter.unusedSimpArgs false
set_option linter.unusedVariables false
namespace Go.Proofs.Ytnloeeaidknblaa.M
section
variable {ar : List Int} {rs : Rules} {t f now : List Int} {ss acc : List StepL} {s : RowL} {k : Nat}
def movedL (s : RowL) (t : List Int) (k : Nat) : Nat := ((t.take k).flatMap (lk s)).length
theorem movedL_zero : movedL s t 0 = 0 := rfl
theorem movedL_succ (h : k < t.length) : movedL s t (k + 1) = movedL s t k + (lk s (t.getD k 0)).length := by
  unfold movedL
  rw [take_succ_getD 0 h, List.flatMap_append, List.length_append]; simp
theorem movedL_le {N : Nat} (h1 : 1 ≤ N) (hs : ∀ i, (s.getD i []).length ≤ N) : ∀ k, k ≤ t.length → movedL s t k ≤ k * N
  | 0, _ => by simp [movedL_zero]
  | k + 1, hk => by
    have h2 := movedL_le h1 hs k (by omega)
    have h3 := lk_bound h1 hs (t.getD k 0)
    rw [movedL_succ (by omega), Nat.succ_mul]; omega
theorem take_getD {p : Nat} (h : k < p) : ((t.drop 0).take (p - 0)).getD k 0 = t.getD k 0 := by
  simp [List.getD_eq_getElem?_getD, List.getElem?_take, h]
theorem now_ok (hw : walkOkL ar rs f ss = true) (hk : k ≤ ss.length) (hn : now = nowL f ss k) : termOk ar now = true := by
  obtain ⟨h1, _, h3⟩ := walkOkL_iff.1 hw
  rw [hn]
  exact (right_iff.1 (goOk_now h3 h1 k hk).1).2
theorem walkOk_at2 (h : walkOkL ar rs f ss = true) (hk : k < ss.length) (hn : now = nowL f ss k) : 0 ≤ (ss.getD k (0, 0, [])).1 ∧ (ss.getD k (0, 0, [])).1 < (now.length : Int) := by
  have h1 := walkOk_step h hk
  have h2 := (stepAtL_ok h1).2
  simp only [stepAtOk, Bool.and_eq_true, decide_eq_true_eq] at h2
  rw [hn]
  omega
def undGo (s : RowL) : List Int → List StepL → Option (List StepL)
  | _, [] => some []
  | now, x :: ss => match fillL s x.2.2 with
    | none => none
    | some u => (undGo s x.2.2 ss).map (fun r => (((movedL s now x.1.toNat : Nat) : Int), x.2.1, u) :: r)
def undB (ar : List Int) (rs : Rules) (f : List Int) (ss : List StepL) (s : RowL) : List Int × List StepL × Bool :=
  if walkOkL ar rs f ss = true ∧ substOk ar s = true then
    match fillL s f, undGo s f ss with
    | some f', some ss' => (f', ss', true)
    | _, _ => ([], [], false)
  else ([], [], false)
theorem undGo_next (hk : k < ss.length) (h : undGo s f ss = (undGo s now (ss.drop k)).map (fun r => acc ++ r)) (hu : (fillL s (ss.getD k (0, 0, [])).2.2).isSome = true) :
    undGo s f ss = (undGo s (ss.getD k (0, 0, [])).2.2 (ss.drop (k + 1))).map (fun r => (acc ++ [(((movedL s now (ss.getD k (0, 0, [])).1.toNat : Nat) : Int), (ss.getD k (0, 0, [])).2.1, (fillL s (ss.getD k (0, 0, [])).2.2).getD [])]) ++ r) := by
  obtain ⟨v, hv⟩ := Option.isSome_iff_exists.1 hu
  rw [h, drop_get (0, 0, []) hk]
  show (match fillL s (ss.getD k (0, 0, [])).2.2 with | none => none | some u => (undGo s (ss.getD k (0, 0, [])).2.2 (ss.drop (k + 1))).map (fun r => (((movedL s now (ss.getD k (0, 0, [])).1.toNat : Nat) : Int), (ss.getD k (0, 0, [])).2.1, u) :: r)).map (fun r => acc ++ r) = _
  rw [hv]
  cases undGo s (ss.getD k (0, 0, [])).2.2 (ss.drop (k + 1)) with
  | none => rfl
  | some r => simp
theorem undGo_fail (hk : k < ss.length) (h : undGo s f ss = (undGo s now (ss.drop k)).map (fun r => acc ++ r)) (hu : (fillL s (ss.getD k (0, 0, [])).2.2).isSome = false) : undGo s f ss = none := by
  rw [h, drop_get (0, 0, []) hk]
  show (match fillL s (ss.getD k (0, 0, [])).2.2 with | none => none | some u => (undGo s (ss.getD k (0, 0, [])).2.2 (ss.drop (k + 1))).map (fun r => (((movedL s now (ss.getD k (0, 0, [])).1.toNat : Nat) : Int), (ss.getD k (0, 0, [])).2.1, u) :: r)).map (fun r => acc ++ r) = _
  cases hx : fillL s (ss.getD k (0, 0, [])).2.2 with
  | none => rfl
  | some v => rw [hx] at hu; cases hu
theorem undGo_end (hk : ss.length ≤ k) (h : undGo s f ss = (undGo s now (ss.drop k)).map (fun r => acc ++ r)) : undGo s f ss = some acc := by
  rw [h, List.drop_eq_nil_of_le hk]
  simp [undGo]
theorem undGo_start : undGo s f ss = (undGo s f (ss.drop 0)).map (fun r => [] ++ r) := by simp
theorem undB_no (h : ¬ (walkOkL ar rs f ss = true ∧ substOk ar s = true)) : undB ar rs f ss s = ([], [], false) := if_neg h
theorem undB_from (h : (fillL s f).isSome = false) : undB ar rs f ss s = ([], [], false) := by
  unfold undB
  cases hx : fillL s f with
  | none => simp
  | some v => rw [hx] at h; cases h
theorem undB_steps (h : undGo s f ss = none) : undB ar rs f ss s = ([], [], false) := by
  unfold undB
  rw [h]
  cases fillL s f <;> simp
theorem undB_yes (hw : walkOkL ar rs f ss = true) (hs : substOk ar s = true) (h1 : (fillL s f).isSome = true) (h2 : undGo s f ss = some acc) : undB ar rs f ss s = ((fillL s f).getD [], acc, true) := by
  obtain ⟨v, hv⟩ := Option.isSome_iff_exists.1 h1
  rw [undB, if_pos ⟨hw, hs⟩, hv, h2]
  rfl
theorem undGo_len : ∀ (now : List Int) (ss r : List StepL), undGo s now ss = some r → r.length = ss.length
  | _, [], r, h => by simp [undGo] at h; subst h; rfl
  | now, x :: ss, r, h => by
    unfold undGo at h
    split at h
    · cases h
    · obtain ⟨q, hq, rfl⟩ := Option.map_eq_some_iff.1 h
      simp [undGo_len _ ss q hq]
theorem undGo_to : ∀ (now : List Int) (ss r : List StepL), undGo s now ss = some r → ∀ i, i < r.length → (r.getD i (0, 0, [])).2.2.length ≤ 60
  | _, [], r, h, i, hi => by simp [undGo] at h; subst h; simp at hi
  | now, x :: ss, r, h, i, hi => by
    unfold undGo at h
    split at h
    · cases h
    · rename_i u hu
      obtain ⟨q, hq, rfl⟩ := Option.map_eq_some_iff.1 h
      cases i with
      | zero => exact (fillL_len hu).1
      | succ i =>
        have := undGo_to _ ss q hq i (by simpa using hi)
        simpa using this
theorem undB_bounds : (undB ar rs f ss s).1.length ≤ 60 ∧ (∀ i, i < (undB ar rs f ss s).2.1.length → ((undB ar rs f ss s).2.1.getD i (0, 0, [])).2.2.length ≤ 60) ∧ ((undB ar rs f ss s).2.1.flatMap flatStep).length ≤ 4000 ∧ (undB ar rs f ss s).2.1.length ≤ 60 := by
  have nil : (([], [], false) : List Int × List StepL × Bool).1.length ≤ 60 ∧ (∀ i, i < (([], [], false) : List Int × List StepL × Bool).2.1.length → ((([], [], false) : List Int × List StepL × Bool).2.1.getD i (0, 0, [])).2.2.length ≤ 60) ∧ ((([], [], false) : List Int × List StepL × Bool).2.1.flatMap flatStep).length ≤ 4000 ∧ (([], [], false) : List Int × List StepL × Bool).2.1.length ≤ 60 :=
    ⟨by simp, fun i hi => by simp at hi, by simp, by simp⟩
  unfold undB
  split
  · rename_i h
    obtain ⟨hw, _⟩ := h
    split
    · rename_i f' ss' h1 h2
      have hf := walkOkL_iff.1 hw
      have e2 := undGo_to f ss ss' h2
      have e3 := undGo_len f ss ss' h2
      refine ⟨(fillL_len h1).1, e2, ?_, by show ss'.length ≤ 60; omega⟩
      have h4 := flatStep_len ss'
      have h5 := gTo_bound e2 _ (Nat.le_refl _)
      have h6 : ss'.length * 60 ≤ 60 * 60 := Nat.mul_le_mul_right 60 (by omega)
      show (ss'.flatMap flatStep).length ≤ 4000
      omega
    · exact nil
  · exact nil
end
end Go.Proofs.Ytnloeeaidknblaa.M
