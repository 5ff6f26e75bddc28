/-
  Plain mathematics: running numbers; rewrite sequences.
-/
import Derived.Test.YtiaanelimbmniaaP7
set_option linter.unusedSimpArgs false
set_option linter.unusedVariables false
namespace Go.Proofs.Ytiaanelimbmniaa.M
/- 1. RUNNING NUMBERS -/
def iota (k : Int) (n : Nat) : List Int := (List.range n).map (fun (i : Nat) => k + (i : Int))
theorem iota_len (k : Int) (n : Nat) : (iota k n).length = n := by simp [iota]
theorem iota_get {k : Int} {n i : Nat} (h : i < n) : (iota k n).getD i 0 = k + i := by simp [iota, List.getD, h]
theorem iota_add (k : Int) (n m : Nat) : iota k (n + m) = iota k n ++ iota (k + n) m := by
  unfold iota
  rw [List.range_add, List.map_append, List.map_map]
  congr 1
  apply List.map_congr_left
  intro i _
  simp only [Function.comp, Int.natCast_add]
  omega
theorem iota_zero (k : Int) : iota k 0 = [] := rfl
theorem iota_one (k : Int) : iota k 1 = [k] := by simp [iota]
/-- What the check of running numbers answers. -/
def heldF (xs : List Int) (k : Int) : Int := if xs = iota k xs.length then k + xs.length else -1
theorem heldF_iota (k : Int) (n : Nat) : heldF (iota k n) k = k + n := by rw [heldF, iota_len, if_pos rfl]
theorem heldF_append {a b : List Int} {k : Int} (hk : 0 ≤ k) : heldF (a ++ b) k = if heldF a k < 0 then -1 else heldF b (heldF a k) := by
  unfold heldF
  rw [List.length_append, iota_add]
  by_cases h : a = iota k a.length
  · rw [if_pos h]
    have hn : ¬ k + (a.length : Int) < 0 := by omega
    rw [if_neg hn]
    by_cases h2 : b = iota (k + a.length) b.length
    · rw [if_pos h2, if_pos (by rw [← h, ← h2])]; omega
    · rw [if_neg h2, if_neg]
      intro e
      rw [← h] at e
      exact h2 (List.append_cancel_left e)
  · rw [if_neg h, if_pos (show (-1 : Int) < 0 by decide), if_neg]
    intro e
    have := congrArg (List.take a.length) e
    rw [List.take_left, List.take_left' (iota_len _ _)] at this
    exact h this
theorem heldF_neg {a : List Int} {k : Int} (hk : 0 ≤ k) : heldF a k < 0 ↔ a ≠ iota k a.length := by
  unfold heldF
  split
  · rename_i h; simp [h.symm]; omega
  · rename_i h; simp [h]
theorem heldF_pos {a : List Int} {k : Int} (h : ¬ heldF a k < 0) : heldF a k = k + a.length := by
  unfold heldF at *
  split at h
  · rw [if_pos (by assumption)]
  · omega
theorem held_all {x : List Int} {z : Int} {k : Nat} (h : x.length ≤ k) (hos : x.take k = iota z k) : heldF x z = z + k := by
  rw [List.take_of_length_le h] at hos
  have := congrArg List.length hos
  rw [iota_len] at this
  rw [heldF, if_pos (by rw [this]; exact hos), this]
theorem heldF_nil (k : Int) : heldF [] k = k := by simp [heldF, iota]
theorem heldF_snoc_no {xs : List Int} {k : Int} {i : Nat} (hi : i < xs.length) (h : xs.getD i 0 ≠ k + i) : heldF xs k = -1 := by
  rw [heldF, if_neg]
  intro e
  exact h (by rw [e, iota_get hi])
theorem iota_take {k : Int} {n i : Nat} (h : i ≤ n) : (iota k n).take i = iota k i := by
  obtain ⟨m, rfl⟩ : ∃ m, n = i + m := ⟨n - i, by omega⟩
  rw [iota_add, List.take_left' (iota_len _ _)]
theorem iota_succ (k : Int) (n : Nat) : iota k (n + 1) = iota k n ++ [k + n] := by rw [iota_add, iota_one]
def flatRow (r : List Int) : List Int := r
theorem iota_cons (z : Int) (n : Nat) : iota z (n + 1) = z :: iota (z + 1) n := by rw [Nat.add_comm, iota_add, iota_one]; rfl
def flatPair (r : List Int × List Int) : List Int := r.1 ++ r.2
def flatStep (s : Int × Int × List Int) : List Int := s.1 :: s.2.1 :: s.2.2
theorem flatMap_take_succ {α : Type} (f : α → List Int) {l : List α} {k : Nat} (d : α) (h : k < l.length) : (l.take (k + 1)).flatMap f = (l.take k).flatMap f ++ f (l.getD k d) := by
  rw [take_succ_getD d h, List.flatMap_append]; simp

theorem take_set_any {α : Type} {l : List α} {k : Nat} {v : α} (h : k < l.length) : (l.set k v).take (k + 1) = l.take k ++ [v] := by
  rw [List.take_set, List.take_succ_eq_append_getElem h, List.set_append_right _ _ (by simp; omega)]
  simp [Nat.min_eq_left (Nat.le_of_lt h)]
theorem iota_set {z : Int} {x : List Int} {k : Nat} (hk : k < x.length) : (iota z k ++ x.drop k).set k (z + k) = iota z (k + 1) ++ x.drop (k + 1) := by
  rw [List.set_append_right _ _ (by rw [iota_len]; omega), iota_len, Nat.sub_self, drop_get 0 hk, List.set_cons_zero, iota_succ, List.append_assoc]; rfl
theorem app_getD {α : Type} {d : α} {os l : List α} {k : Nat} (h : os.length = k) : (os ++ l.drop k).getD k d = l.getD k d := by
  subst h
  rw [List.getD_eq_getElem?_getD, List.getD_eq_getElem?_getD, List.getElem?_append_right (Nat.le_refl _), List.getElem?_drop]; simp
theorem app_set {α : Type} {os l : List α} {k : Nat} {x : α} (h : os.length = k) (hk : k < l.length) : (os ++ l.drop k).set k x = (os ++ [x]) ++ l.drop (k + 1) := by
  subst h
  rw [List.set_append_right _ _ (Nat.le_refl _), Nat.sub_self, List.drop_eq_getElem_cons hk, List.set_cons_zero, List.append_assoc]; rfl
theorem app_all {α : Type} {os l : List α} {k : Nat} (h : l.length ≤ k) : os ++ l.drop k = os := by rw [List.drop_eq_nil_of_le h, List.append_nil]
theorem marked {α : Type} {f : α → List Int} {os l : List α} {d x : α} {z : Int} {k : Nat} (hk : k < l.length) (h : os.flatMap f = iota z ((l.take k).flatMap f).length) (hx : f x = iota (z + ((l.take k).flatMap f).length) (f (l.getD k d)).length) :
    (os ++ [x]).flatMap f = iota z ((l.take (k + 1)).flatMap f).length := by
  rw [List.flatMap_append, h, flatMap_take_succ f d hk, List.length_append, iota_add, List.flatMap_cons, List.flatMap_nil, List.append_nil, hx]
theorem flat_take_le {α : Type} {f : α → List Int} {l : List α} {k : Nat} (d : α) (hk : k < l.length) : ((l.take k).flatMap f).length + (f (l.getD k d)).length ≤ (l.flatMap f).length := by
  have := flatMap_take_succ f d hk
  have e : l.flatMap f = (l.take (k + 1)).flatMap f ++ (l.drop (k + 1)).flatMap f := by rw [← List.flatMap_append, List.take_append_drop]
  rw [e, List.length_append, this, List.length_append]; omega
theorem flat_take_all {α : Type} {f : α → List Int} {l : List α} {k : Nat} (hk : l.length ≤ k) : (l.take k).flatMap f = l.flatMap f := by rw [List.take_of_length_le hk]
theorem flat_take_le' {α : Type} {f : α → List Int} {l : List α} {k : Nat} : ((l.take k).flatMap f).length ≤ (l.flatMap f).length := by
  have e : l.flatMap f = (l.take k).flatMap f ++ (l.drop k).flatMap f := by rw [← List.flatMap_append, List.take_append_drop]
  rw [e, List.length_append]; omega
theorem heldF_range {xs : List Int} {k : Int} (hk : 0 ≤ k) : -1 ≤ heldF xs k ∧ heldF xs k ≤ k + xs.length := by
  unfold heldF; split <;> omega
theorem heldF_cons {a : Int} {l : List Int} {k : Int} (hk : 0 ≤ k) : heldF (a :: l) k = if a = k then heldF l (k + 1) else -1 := by
  have := heldF_append (a := [a]) (b := l) hk
  rw [show [a] ++ l = a :: l from rfl] at this
  rw [this]
  by_cases h : a = k
  · have e : heldF [a] k = k + 1 := by simp [heldF, iota, h]
    rw [e, if_neg (by omega), if_pos h]
  · have e : heldF [a] k = -1 := by simp [heldF, iota, h]
    rw [e, if_pos (by omega), if_neg h]
theorem held_next {α : Type} {f : α → List Int} {l : List α} {z : Int} {k : Nat} (d : α) (hz : 0 ≤ z) (hk : k < l.length) (h : ¬ heldF ((l.take k).flatMap f) z < 0) :
    heldF ((l.take (k + 1)).flatMap f) z = heldF (f (l.getD k d)) (heldF ((l.take k).flatMap f) z) := by
  rw [flatMap_take_succ f d hk, heldF_append hz, if_neg h]
theorem held_fail {α : Type} {f : α → List Int} {l : List α} {z : Int} {k : Nat} (d : α) (hz : 0 ≤ z) (hk : k < l.length) (h : heldF ((l.take (k + 1)).flatMap f) z < 0) : heldF (l.flatMap f) z = -1 := by
  have e : l.flatMap f = (l.take (k + 1)).flatMap f ++ (l.drop (k + 1)).flatMap f := by rw [← List.flatMap_append, List.take_append_drop]
  rw [e, heldF_append hz, if_pos h]

/- 2. REWRITE SEQUENCES -/
abbrev StepL := Int × Int × List Int
def stepAtOk (ar : List Int) (rs : Rules) (t : List Int) (p r : Int) : Bool := rightB ar rs t && decide (0 ≤ p ∧ p < (t.length : Int)) && decide (0 ≤ r ∧ r < (rs.length : Int))
def stepAtL (ar : List Int) (rs : Rules) (t : List Int) (p r : Int) : Option (List Int) := if stepAtOk ar rs t p r = true then stepL ar rs t p.toNat r.toNat else none
def goOk (ar : List Int) (rs : Rules) : List Int → List StepL → Bool
  | _, [] => true
  | t, s :: ss => decide (stepAtL ar rs t s.1 s.2.1 = some s.2.2) && goOk ar rs s.2.2 ss
def endL (f : List Int) (ss : List StepL) : List Int := if ss.length = 0 then f else (ss.getD (ss.length - 1) (0, 0, [])).2.2
def walkOkL (ar : List Int) (rs : Rules) (f : List Int) (ss : List StepL) : Bool := rightB ar rs f && decide (ss.length ≤ 60) && goOk ar rs f ss
variable {ar : List Int} {rs : Rules} {t f : List Int} {ss : List StepL}
theorem walkOkL_iff : walkOkL ar rs f ss = true ↔ rightB ar rs f = true ∧ ss.length ≤ 60 ∧ goOk ar rs f ss = true := by simp [walkOkL, and_assoc]
theorem stepAtL_ok {p r : Int} {u : List Int} (h : stepAtL ar rs t p r = some u) : rightB ar rs u = true ∧ stepAtOk ar rs t p r = true := by
  unfold stepAtL at h
  split at h
  · rename_i hk
    have hk' := hk
    simp only [stepAtOk, Bool.and_eq_true, decide_eq_true_eq] at hk
    obtain ⟨⟨h1, h2⟩, h3⟩ := hk
    have hs := (right_iff.1 h1).1
    exact ⟨right_iff.2 ⟨hs, stepL_ok hs (right_iff.1 h1).2 (by omega) (by omega) h⟩, hk'⟩
  · cases h
def nowL (f : List Int) (ss : List StepL) (k : Nat) : List Int := endL f (ss.take k)
theorem nowL_zero : nowL f ss 0 = f := by simp [nowL, endL]
theorem nowL_succ {k : Nat} (h : k < ss.length) : nowL f ss (k + 1) = (ss.getD k (0, 0, [])).2.2 := by
  have hl : (ss.take (k + 1)).length = k + 1 := by rw [List.length_take]; omega
  unfold nowL endL
  rw [hl, if_neg (by omega)]
  congr 2
  simp [List.getD, h]
theorem nowL_all : nowL f ss ss.length = endL f ss := by rw [nowL, List.take_length]
theorem goOk_drop {k : Nat} (h : k < ss.length) : goOk ar rs t (ss.drop k) = (decide (stepAtL ar rs t (ss.getD k (0, 0, [])).1 (ss.getD k (0, 0, [])).2.1 = some (ss.getD k (0, 0, [])).2.2) && goOk ar rs (ss.getD k (0, 0, [])).2.2 (ss.drop (k + 1))) := by
  rw [drop_get (0, 0, []) h]; rfl
theorem goOk_end {k : Nat} (h : ss.length ≤ k) : goOk ar rs t (ss.drop k) = true := by rw [List.drop_eq_nil_of_le h]; rfl
theorem goOk_now (h : goOk ar rs f ss = true) (hr : rightB ar rs f = true) : ∀ k, k ≤ ss.length → rightB ar rs (nowL f ss k) = true ∧ goOk ar rs (nowL f ss k) (ss.drop k) = true
  | 0, _ => by rw [nowL_zero]; exact ⟨hr, h⟩
  | k + 1, hk => by
    obtain ⟨h1, h2⟩ := goOk_now h hr k (by omega)
    rw [goOk_drop (by omega), Bool.and_eq_true, decide_eq_true_eq] at h2
    rw [nowL_succ (by omega)]
    exact ⟨(stepAtL_ok h2.1).1, h2.2⟩
theorem walkOk_end (h : walkOkL ar rs f ss = true) : rightB ar rs (endL f ss) = true := by
  obtain ⟨h1, _, h3⟩ := walkOkL_iff.1 h
  have := (goOk_now h3 h1 ss.length (Nat.le_refl _)).1
  rwa [nowL_all] at this
theorem walkOk_step (h : walkOkL ar rs f ss = true) {k : Nat} (hk : k < ss.length) : stepAtL ar rs (nowL f ss k) (ss.getD k (0, 0, [])).1 (ss.getD k (0, 0, [])).2.1 = some (ss.getD k (0, 0, [])).2.2 := by
  obtain ⟨h1, _, h3⟩ := walkOkL_iff.1 h
  have := (goOk_now h3 h1 k (by omega)).2
  rw [goOk_drop hk, Bool.and_eq_true, decide_eq_true_eq] at this
  exact this.1
theorem walkOk_to (h : walkOkL ar rs f ss = true) {k : Nat} (hk : k < ss.length) : termOk ar (ss.getD k (0, 0, [])).2.2 = true := (right_iff.1 (stepAtL_ok (walkOk_step h hk)).1).2
end Go.Proofs.Ytiaanelimbmniaa.M
