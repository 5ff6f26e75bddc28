/-
  Plain mathematics: sums over lists; strategies' walks are rewrite sequences.
-/
import Derived.Test.YtiaanelimbmniaaP8
set_option linter.unusedSimpArgs false
set_option linter.unusedVariables false
namespace Go.Proofs.Ytiaanelimbmniaa.M
/- 1. SUMS -/
section
variable {α : Type} {f : α → Nat} {l : List α} {k : Nat}
def gTo (f : α → Nat) (l : List α) (k : Nat) : Nat := ((l.take k).map f).sum
theorem gTo_succ (d : α) (h : k < l.length) : gTo f l k + f (l.getD k d) = gTo f l (k + 1) := by
  unfold gTo
  rw [take_succ_getD d h]
  simp
theorem gTo_le (d : α) : ∀ (k j : Nat), k ≤ j → j ≤ l.length → gTo f l k ≤ gTo f l j := by
  intro k j hkj
  induction j with
  | zero => intro _; rw [show k = 0 from by omega]; exact Nat.le_refl _
  | succ j ih =>
    intro hj
    rcases Nat.lt_or_ge k (j + 1) with h | h
    · have := ih (by omega) (by omega)
      rw [← gTo_succ d (show j < l.length by omega)]
      omega
    · rw [show k = j + 1 from by omega]; exact Nat.le_refl _
/-- how much a list takes of the bound -/
def szG (f : α → Nat) (l : List α) : Nat := l.length + gTo f l l.length
theorem szG_le (d : α) : l.length ≤ szG f l ∧ ∀ i, i < l.length → f (l.getD i d) ≤ szG f l := by
  refine ⟨by unfold szG; omega, fun i hi => ?_⟩
  have h1 := gTo_succ (f := f) d hi
  have h2 := gTo_le (f := f) (l := l) d (i + 1) l.length (by omega) (Nat.le_refl _)
  unfold szG
  omega
theorem ext_any {a b : List α} (d : α) (hl : a.length = b.length) (h : ∀ i, i < a.length → a.getD i d = b.getD i d) : a = b := by
  apply List.ext_getElem hl
  intro i h1 h2
  have := h i h1
  simpa [List.getD_eq_getElem?_getD, h1, h2] using this
end
theorem flatPair_len (rs : Rules) : (rs.flatMap flatPair).length ≤ szR rs := by
  unfold szR szTo
  rw [List.take_length, List.length_flatMap]
  have : (List.map (fun a => (flatPair a).length) rs) = rs.map (fun r => r.1.length + r.2.length) := List.map_congr_left fun r _ => by simp [flatPair]
  rw [this]; omega
theorem dec_le2 {z : Int} {n : Nat} (h : ¬ dec z n < 0) (hz : z ≤ 1048576) : (n : Int) ≤ 1048576 ∧ dec z n ≤ 1048576 ∧ 0 ≤ dec z n := by
  have h1 := dec_le h
  unfold dec at *
  split at h <;> omega
def lenS (s : StepL) : Nat := s.2.2.length
def lenR (r : List Int) : Nat := r.length
def lenP (r : List Int × List Int) : Nat := r.1.length + r.2.length
theorem flatStep_len (ss : List StepL) : (ss.flatMap flatStep).length ≤ 2 * ss.length + gTo lenS ss ss.length := by
  unfold gTo
  rw [List.take_length, List.length_flatMap]
  induction ss with
  | nil => simp
  | cons s ss ih => simp [flatStep, lenS] at ih ⊢; omega
theorem flatRow_len (l : List (List Int)) : (l.flatMap flatRow).length = gTo lenR l l.length := by
  unfold gTo
  rw [List.take_length, List.length_flatMap]; rfl

/- 2. REWRITE SEQUENCES -/
section
variable {ar : List Int} {rs : Rules} {t u f : List Int} {ss : List StepL} {st : Int} {m k : Nat}
theorem goOk_next (hk : k < ss.length) (h1 : (stepAtL ar rs t (ss.getD k (0, 0, [])).1 (ss.getD k (0, 0, [])).2.1).isSome = true) (h2 : (stepAtL ar rs t (ss.getD k (0, 0, [])).1 (ss.getD k (0, 0, [])).2.1).getD [] = (ss.getD k (0, 0, [])).2.2) :
    goOk ar rs t (ss.drop k) = goOk ar rs ((stepAtL ar rs t (ss.getD k (0, 0, [])).1 (ss.getD k (0, 0, [])).2.1).getD []) (ss.drop (k + 1)) := by
  rw [goOk_drop hk]
  obtain ⟨v, hv⟩ := Option.isSome_iff_exists.1 h1
  rw [hv] at h2 ⊢
  simp only [Option.getD_some] at h2 ⊢
  subst h2
  simp
theorem goOk_fail (hk : k < ss.length) (h : (stepAtL ar rs t (ss.getD k (0, 0, [])).1 (ss.getD k (0, 0, [])).2.1).isSome = false ∨ (stepAtL ar rs t (ss.getD k (0, 0, [])).1 (ss.getD k (0, 0, [])).2.1).getD [] ≠ (ss.getD k (0, 0, [])).2.2) : goOk ar rs t (ss.drop k) = false := by
  rw [goOk_drop hk, Bool.and_eq_false_iff]
  refine .inl (decide_eq_false fun e => ?_)
  rw [e] at h
  rcases h with h | h
  · cases h
  · exact h rfl
theorem stepAt_of {p r : Nat} (hr : rightB ar rs t = true) (hp : p < t.length) (hrl : r < rs.length) : stepAtL ar rs t p r = stepL ar rs t p r := by
  rw [stepAtL, if_pos (by simp [stepAtOk, hr, hp, hrl])]; rfl
theorem walkGo_ok : ∀ (m : Nat) (t : List Int), rightB ar rs t = true → goOk ar rs t (walkGo ar rs st m t).1 = true ∧ rightB ar rs (endL t (walkGo ar rs st m t).1) = true ∧ ((walkGo ar rs st m t).2 = true → redL ar rs (endL t (walkGo ar rs st m t).1) = [])
  | 0, t, hr => ⟨rfl, by simpa [walkGo, endL] using hr, fun h => by simpa [walkGo, endL] using h⟩
  | m + 1, t, hr => by
    by_cases he : redL ar rs t = []
    · rw [walk_nil he]; exact ⟨rfl, by simpa [endL] using hr, fun _ => by simpa [endL] using he⟩
    · cases hu : stepL ar rs t (pickL ar rs t st).toNat (ruleAtL ar rs t (pickL ar rs t st).toNat).toNat with
      | none => rw [walk_stuck (by omega) he (by rw [hu]; rfl)]; exact ⟨rfl, by simpa [endL] using hr, fun h => by cases h⟩
      | some u =>
        obtain ⟨q, hq1, hq2, hq3, _⟩ := (pick_spec (ar := ar) (rs := rs) (t := t) st).resolve_left (fun h => he h.2)
        have hqn : (pickL ar rs t st).toNat = q := by omega
        have hrr : 0 ≤ ruleAtL ar rs t (pickL ar rs t st).toNat := by rw [hqn]; simpa [hasR] using hq3
        obtain ⟨j, hj1, hj2, _⟩ := (ruleAt_spec (ar := ar) (rs := rs) (t := t) (p := (pickL ar rs t st).toNat)).resolve_left (by omega)
        have hjn : (ruleAtL ar rs t (pickL ar rs t st).toNat).toNat = j := by omega
        have hs := (right_iff.1 hr).1
        have huo : rightB ar rs u = true := right_iff.2 ⟨hs, stepL_ok hs (right_iff.1 hr).2 (by omega) (by omega) hu⟩
        have e : stepAtL ar rs t (pickL ar rs t st) (ruleAtL ar rs t (pickL ar rs t st).toNat) = some u := by
          rw [hj1, hq1, stepAt_of hr hq2 hj2, ← hu, hjn, hqn]
        obtain ⟨h1, h2, h3⟩ := walkGo_ok m u huo
        rw [walk_next (by omega) he hu, Nat.add_sub_cancel]
        have e2 : endL t ((pickL ar rs t st, ruleAtL ar rs t (pickL ar rs t st).toNat, u) :: (walkGo ar rs st m u).1) = endL u (walkGo ar rs st m u).1 := by
          unfold endL
          cases (walkGo ar rs st m u).1 with
          | nil => rfl
          | cons a l => simp
        refine ⟨?_, by rw [e2]; exact h2, fun h => by rw [e2]; exact h3 h⟩
        show (decide (stepAtL ar rs t _ _ = some u) && goOk ar rs u _) = true
        rw [decide_eq_true e, h1]; rfl
def normB (ar : List Int) (rs : Rules) (t : List Int) (st n : Int) : List Int × Bool := if (walkB ar rs t st n).2.2 = true then (endL (walkB ar rs t st n).1 (walkB ar rs t st n).2.1, true) else ([], false)
def endT (ar : List Int) (rs : Rules) (f : List Int) (ss : List StepL) : List Int := if walkOkL ar rs f ss = true then endL f ss else []
theorem walkB_ok {n : Int} (h : (walkB ar rs t st n).2.2 = true) : wOk ar rs t st n = true ∧ (walkB ar rs t st n).1 = t ∧ walkOkL ar rs t (walkB ar rs t st n).2.1 = true ∧ termOk ar (endL t (walkB ar rs t st n).2.1) = true := by
  cases hw : wOk ar rs t st n with
  | false => rw [walkB_no hw] at h; cases h
  | true =>
    have hr : rightB ar rs t = true := by simp only [wOk, Bool.and_eq_true] at hw; exact hw.1.1
    have hl := walkB_len (ar := ar) (rs := rs) (t := t) (st := st) (n := n)
    rw [walkB_yes hw] at h hl ⊢
    obtain ⟨h1, h2, h3⟩ := walkGo_ok (st := st) n.toNat t hr
    exact ⟨rfl, rfl, walkOkL_iff.2 ⟨hr, hl, h1⟩, (right_iff.1 h2).2⟩
theorem normB_len {n : Int} : (normB ar rs t st n).1.length ≤ 60 := by
  unfold normB
  split
  · rename_i h
    obtain ⟨_, h2, _, h4⟩ := walkB_ok h
    rw [h2]; exact (termOk_len h4).2
  · simp
theorem walkGo_to : ∀ (m : Nat) (t : List Int), rightB ar rs t = true → ∀ i, i < (walkGo ar rs st m t).1.length → ((walkGo ar rs st m t).1.getD i (0, 0, [])).2.2.length ≤ 60 := fun m t hr i hi => by
  have h1 := (walkGo_ok (st := st) m t hr).1
  have h2 := (goOk_now h1 hr (i + 1) (by omega)).1
  rw [nowL_succ hi] at h2
  exact (termOk_len (right_iff.1 h2).2).2
theorem gTo_bound {N : Nat} {l : List StepL} (h : ∀ i, i < l.length → (l.getD i (0, 0, [])).2.2.length ≤ N) : ∀ k, k ≤ l.length → gTo lenS l k ≤ k * N
  | 0, _ => by simp [gTo]
  | k + 1, hk => by
    have h1 := gTo_bound h k (by omega)
    have h2 := h k (by omega)
    rw [← gTo_succ ((0, 0, []) : StepL) (by omega), Nat.succ_mul]
    have : lenS (l.getD k (0, 0, [])) = (l.getD k (0, 0, [])).2.2.length := rfl
    omega
theorem walkB_bounds {n : Int} : (walkB ar rs t st n).1.length ≤ 60 ∧ (∀ i, i < (walkB ar rs t st n).2.1.length → ((walkB ar rs t st n).2.1.getD i (0, 0, [])).2.2.length ≤ 60) ∧ ((walkB ar rs t st n).2.1.flatMap flatStep).length ≤ 4000 := by
  have key : (walkB ar rs t st n).1.length ≤ 60 ∧ (∀ i, i < (walkB ar rs t st n).2.1.length → ((walkB ar rs t st n).2.1.getD i (0, 0, [])).2.2.length ≤ 60) := by
    cases hw : wOk ar rs t st n with
    | false => rw [walkB_no hw]; exact ⟨by simp, fun i hi => by simp at hi⟩
    | true =>
      have hr : rightB ar rs t = true := by simp only [wOk, Bool.and_eq_true] at hw; exact hw.1.1
      rw [walkB_yes hw]
      exact ⟨(termOk_len (right_iff.1 hr).2).2, walkGo_to n.toNat t hr⟩
  refine ⟨key.1, key.2, ?_⟩
  have h1 := flatStep_len (walkB ar rs t st n).2.1
  have h2 := gTo_bound key.2 _ (Nat.le_refl _)
  have h3 := walkB_len (ar := ar) (rs := rs) (t := t) (st := st) (n := n)
  have h4 : (walkB ar rs t st n).2.1.length * 60 ≤ 60 * 60 := Nat.mul_le_mul_right 60 h3
  omega
theorem endT_len : (endT ar rs f ss).length ≤ 60 := by
  unfold endT
  split
  · rename_i h; exact (termOk_len (right_iff.1 (walkOk_end h)).2).2
  · simp
theorem endL_len {N : Nat} (hf : f.length ≤ N) (hs : ∀ i, i < ss.length → (ss.getD i (0, 0, [])).2.2.length ≤ N) : (endL f ss).length ≤ N := by
  unfold endL
  split
  · exact hf
  · exact hs _ (by omega)
end
end Go.Proofs.Ytiaanelimbmniaa.M
