/-
  Plain: redexes.
-/
import Derived.Test.YtiaanelimbmniaaP3
set_option linter.unusedSimpArgs false
set_option linter.unusedVariables false
namespace Go.Proofs.Ytiaanelimbmniaa.M

theorem lk_bound {s : RowL} {N : Nat} (h1 : 1 ≤ N) (h : ∀ i, (s.getD i []).length ≤ N) (n : Int) : (lk s n).length ≤ N := by
  by_cases e : lkN s n = []
  · rw [lk_of_nil e]; simpa using h1
  · rw [lk_of_ne e]; exact lkN_bound h
theorem put_three {t u : List Int} {p e : Nat} : ((t.drop 0).take (p - 0) ++ u) ++ (t.drop e).take (t.length - e) = t.take p ++ u ++ t.drop e := by
  have h : (t.drop e).take (t.length - e) = t.drop e := List.take_of_length_le (by rw [List.length_drop]; exact Nat.le_refl _)
  rw [h]
  simp
section
variable {ar : List Int} {rs : Rules} {t : List Int} {p r k : Nat}
theorem sub_head (h : termOk ar t = true) (hp : p < t.length) : (sub ar t p).getD 0 0 = t.getD p 0 := by
  have h1 := endN_spec h hp
  unfold sub
  rw [List.getD_eq_getElem?_getD, List.getElem?_take, if_pos (by omega), List.getElem?_drop, Nat.add_zero, ← List.getD_eq_getElem?_getD]
theorem isRedex_var (hs : sysOk ar rs = true) (h : termOk ar t = true) (hp : p < t.length) (hv : t.getD p 0 < 0) (hr : r < rs.length) : isRedex ar rs t p r = false := by
  have hR := ruleOk_iff.1 ((sysOk_iff.1 hs).2.2 r hr)
  have hl := termOk_len hR.left
  have e : matchB ar (rs.getD r ([], [])).1 (sub ar t p) = none := by
    have h2 := sub_length h hp
    have h3 := endN_spec h hp
    have := mGo_ne (ar := ar) (t := sub ar t p) (p := (rs.getD r ([], [])).1) (k := 0) (i := 0) (b := List.replicate 24 []) (by omega) (by omega) hR.head (by rw [sub_head h hp]; have := hR.head; omega)
    rwa [List.drop_zero] at this
  unfold isRedex; rw [e]; rfl
theorem ruleAt_var (hs : sysOk ar rs = true) (h : termOk ar t = true) (hp : p < t.length) (hv : t.getD p 0 < 0) : ruleAtL ar rs t p = -1 := by
  rcases ruleAt_spec (ar := ar) (rs := rs) (t := t) (p := p) with h1 | ⟨k, _, h2, h3⟩
  · exact h1
  · rw [isRedex_var hs h hp hv h2] at h3; cases h3
def hasR (ar : List Int) (rs : Rules) (t : List Int) (p : Nat) : Bool := decide (0 ≤ ruleAtL ar rs t p)
def redTo (ar : List Int) (rs : Rules) (t : List Int) (k : Nat) : List Int := ((List.range k).filter (hasR ar rs t)).map Int.ofNat
def redL (ar : List Int) (rs : Rules) (t : List Int) : List Int := redTo ar rs t t.length
theorem redTo_yes (h : 0 ≤ ruleAtL ar rs t k) : redTo ar rs t (k + 1) = redTo ar rs t k ++ [(k : Int)] := by
  simp [redTo, List.range_succ, hasR, h]
theorem redTo_no (h : ¬ 0 ≤ ruleAtL ar rs t k) : redTo ar rs t (k + 1) = redTo ar rs t k := by
  simp [redTo, List.range_succ, hasR, h]
theorem redTo_len : (redTo ar rs t k).length ≤ k := by
  unfold redTo
  rw [List.length_map]
  have := List.length_filter_le (hasR ar rs t) (List.range k)
  rwa [List.length_range] at this
theorem redL_len : (redL ar rs t).length ≤ t.length := redTo_len
theorem redTo_spec : ∀ (k i : Nat), i < (redTo ar rs t k).length → ∃ p : Nat, (redTo ar rs t k).getD i 0 = p ∧ p < k ∧ hasR ar rs t p = true := by
  intro k i hi
  unfold redTo at hi ⊢
  rw [List.length_map] at hi
  refine ⟨((List.range k).filter (hasR ar rs t)).getD i 0, ?_, ?_, ?_⟩
  · simp [List.getD_eq_getElem?_getD, hi]
  · have : ((List.range k).filter (hasR ar rs t)).getD i 0 ∈ (List.range k).filter (hasR ar rs t) := by
      rw [List.getD_eq_getElem?_getD, List.getElem?_eq_getElem hi]; exact List.getElem_mem hi
    have := (List.mem_filter.1 this).1
    exact List.mem_range.1 this
  · have : ((List.range k).filter (hasR ar rs t)).getD i 0 ∈ (List.range k).filter (hasR ar rs t) := by
      rw [List.getD_eq_getElem?_getD, List.getElem?_eq_getElem hi]; exact List.getElem_mem hi
    exact (List.mem_filter.1 this).2
theorem redL_spec (k i : Nat) (hi : i < (redL ar rs t).length) : ∃ p : Nat, (redL ar rs t).getD i 0 = p ∧ p < t.length ∧ hasR ar rs t p = true := redTo_spec _ _ hi
theorem redTo_asc : ∀ (k i : Nat), i + 1 < (redTo ar rs t k).length → (redTo ar rs t k).getD i 0 < (redTo ar rs t k).getD (i + 1) 0
  | 0, i, hi => by simp [redTo] at hi
  | k + 1, i, hi => by
    by_cases h : 0 ≤ ruleAtL ar rs t k
    · rw [redTo_yes h] at hi ⊢
      simp only [List.length_append, List.length_singleton] at hi
      rcases Nat.lt_or_ge (i + 1) (redTo ar rs t k).length with h1 | h1
      · have := redTo_asc k i h1
        simp only [List.getD_eq_getElem?_getD] at this ⊢
        rw [List.getElem?_append_left (by omega), List.getElem?_append_left h1]
        exact this
      · obtain ⟨p, hp, hlt, _⟩ := redTo_spec (ar := ar) (rs := rs) (t := t) k i (by omega)
        have e2 : i + 1 = (redTo ar rs t k).length := by omega
        simp only [List.getD_eq_getElem?_getD] at hp ⊢
        rw [List.getElem?_append_left (by omega), hp, e2, List.getElem?_append_right (Nat.le_refl _)]
        simp; omega
    · rw [redTo_no h] at hi ⊢
      exact redTo_asc k i hi
theorem redL_asc {i : Nat} (hi : i + 1 < (redL ar rs t).length) : (redL ar rs t).getD i 0 < (redL ar rs t).getD (i + 1) 0 := redTo_asc _ i hi
theorem redL_nil : redL ar rs t = [] ↔ ∀ p, p < t.length → ruleAtL ar rs t p < 0 := by
  unfold redL redTo
  rw [List.map_eq_nil_iff, List.filter_eq_nil_iff]
  simp only [List.mem_range, hasR, decide_eq_true_eq]
  exact ⟨fun h p hp => by have := h p hp; omega, fun h p hp => by have := h p hp; omega⟩
def normalL (ar : List Int) (rs : Rules) (t : List Int) : Bool := decide (redL ar rs t = [])
theorem normal_no (hp : p < t.length) (h : 0 ≤ ruleAtL ar rs t p) : normalL ar rs t = false := decide_eq_false (fun e => by have := redL_nil.1 e p hp; omega)
theorem normal_yes (h : ∀ p, p < t.length → ruleAtL ar rs t p < 0) : normalL ar rs t = true := decide_eq_true (redL_nil.2 h)

/-- the redexes below which there is none -/
def inOk (ar t all : List Int) (i : Nat) : Bool := decide (i + 1 = all.length ∨ (endN ar t (all.getD i 0).toNat : Int) ≤ all.getD (i + 1) 0)
def inTo (ar t all : List Int) (k : Nat) : List Int := ((List.range k).filter (inOk ar t all)).map (fun i => all.getD i 0)
def inL (ar : List Int) (rs : Rules) (t : List Int) : List Int := inTo ar t (redL ar rs t) (redL ar rs t).length
theorem inTo_yes {all : List Int} (h : inOk ar t all k = true) : inTo ar t all (k + 1) = inTo ar t all k ++ [all.getD k 0] := by simp [inTo, List.range_succ, h]
theorem inTo_no {all : List Int} (h : inOk ar t all k = false) : inTo ar t all (k + 1) = inTo ar t all k := by simp [inTo, List.range_succ, h]
theorem inTo_len {all : List Int} : (inTo ar t all k).length ≤ k := by
  unfold inTo
  rw [List.length_map]
  have := List.length_filter_le (inOk ar t all) (List.range k)
  rwa [List.length_range] at this
theorem inL_pos (h : redL ar rs t ≠ []) : 0 < (inL ar rs t).length := by
  have h0 : 0 < (redL ar rs t).length := by cases hr : redL ar rs t with | nil => exact absurd hr h | cons a l => simp
  unfold inL
  have : inTo ar t (redL ar rs t) (((redL ar rs t).length - 1) + 1) = inTo ar t (redL ar rs t) ((redL ar rs t).length - 1) ++ [_] := inTo_yes (by simp [inOk]; omega)
  rw [show (redL ar rs t).length = ((redL ar rs t).length - 1) + 1 from by omega, this]
  simp
def rightB (ar : List Int) (rs : Rules) (t : List Int) : Bool := sysOk ar rs && termOk ar t
theorem right_iff : rightB ar rs t = true ↔ sysOk ar rs = true ∧ termOk ar t = true := by simp [rightB]
def redS (ar : List Int) (rs : Rules) (t : List Int) : List Int := if rightB ar rs t = true then redL ar rs t else []
def inS (ar : List Int) (rs : Rules) (t : List Int) : List Int := if rightB ar rs t = true then inL ar rs t else []
theorem redS_right (h : k < (redS ar rs t).length) : rightB ar rs t = true := by
  unfold redS at h
  split at h
  · assumption
  · simp at h
theorem redS_eq (h : rightB ar rs t = true) : redS ar rs t = redL ar rs t := by rw [redS, if_pos h]
theorem inS_eq : inS ar rs t = inTo ar t (redS ar rs t) (redS ar rs t).length := by
  unfold inS redS
  split
  · rfl
  · rfl
theorem redS_facts (h : k < (redS ar rs t).length) : sysOk ar rs = true ∧ termOk ar t = true ∧ ∃ p : Nat, (redS ar rs t).getD k 0 = p ∧ p < t.length ∧ hasR ar rs t p = true := by
  have hr := redS_right h
  rw [redS_eq hr] at h ⊢
  exact ⟨(right_iff.1 hr).1, (right_iff.1 hr).2, redL_spec 0 k h⟩
theorem redS_len {n : Nat} (h : t.length ≤ n) : (redS ar rs t).length ≤ n := by
  unfold redS
  split
  · have := redL_len (ar := ar) (rs := rs) (t := t); omega
  · simp
def lastL (l : List Int) : List Int := (l.drop (l.length - 1)).take (l.length - (l.length - 1))
theorem lastL_pos {l : List Int} (h : 0 < l.length) : lastL l = (l.drop (l.length - 1)).take (l.length - (l.length - 1)) := rfl
theorem lastL_nil {l : List Int} (h : ¬ 0 < l.length) : lastL l = l := by
  have : l = [] := List.eq_nil_of_length_eq_zero (by omega)
  subst this; rfl
def placesL (ar : List Int) (rs : Rules) (t : List Int) (st : Int) : List Int := if st = 1 then inS ar rs t else if st = 2 then redS ar rs t else lastL (redS ar rs t)
def pickL (ar : List Int) (rs : Rules) (t : List Int) (st : Int) : Int :=
  if redL ar rs t = [] then -1 else if st = 1 then (inL ar rs t).getD 0 0 else if st = 2 then (redL ar rs t).getD 0 0 else (redL ar rs t).getD ((redL ar rs t).length - 1) 0
theorem inTo_mem {all : List Int} {x : Int} (h : x ∈ inTo ar t all k) : ∃ i, i < k ∧ x = all.getD i 0 := by
  unfold inTo at h
  obtain ⟨i, hi, rfl⟩ := List.mem_map.1 h
  exact ⟨i, List.mem_range.1 (List.mem_filter.1 hi).1, rfl⟩
theorem pick_spec (st : Int) : pickL ar rs t st = -1 ∧ redL ar rs t = [] ∨ ∃ p : Nat, pickL ar rs t st = p ∧ p < t.length ∧ hasR ar rs t p = true ∧ redL ar rs t ≠ [] := by
  by_cases h : redL ar rs t = []
  · exact .inl ⟨by simp [pickL, h], h⟩
  · have h0 : 0 < (redL ar rs t).length := by cases hr : redL ar rs t with | nil => exact absurd hr h | cons a l => simp
    right
    unfold pickL
    rw [if_neg h]
    split
    · have hp := inL_pos h
      have hm : (inL ar rs t).getD 0 0 ∈ inL ar rs t := by
        rw [List.getD_eq_getElem?_getD, List.getElem?_eq_getElem hp]; exact List.getElem_mem hp
      obtain ⟨i, hi, e⟩ := inTo_mem hm
      obtain ⟨p, h1, h2, h3⟩ := redL_spec (ar := ar) (rs := rs) (t := t) 0 i hi
      exact ⟨p, by rw [e, h1], h2, h3, h⟩
    · split
      · obtain ⟨p, h1, h2, h3⟩ := redL_spec (ar := ar) (rs := rs) (t := t) 0 0 h0
        exact ⟨p, h1, h2, h3, h⟩
      · obtain ⟨p, h1, h2, h3⟩ := redL_spec (ar := ar) (rs := rs) (t := t) 0 ((redL ar rs t).length - 1) (by omega)
        exact ⟨p, h1, h2, h3, h⟩
theorem inL_nil (h : redL ar rs t = []) : inL ar rs t = [] := by unfold inL; rw [h]; rfl
theorem places_nil (st : Int) (hr : rightB ar rs t = true) : placesL ar rs t st = [] ↔ redL ar rs t = [] := by
  constructor
  · intro h
    rcases Classical.em (redL ar rs t = []) with e | e
    · exact e
    · exfalso
      have h0 := inL_pos e
      have h1 : 0 < (redL ar rs t).length := List.length_pos_iff.2 e
      unfold placesL at h
      rw [redS_eq hr] at h
      split at h
      · rw [inS, if_pos hr] at h; rw [h] at h0; simp at h0
      · split at h
        · exact e h
        · have := congrArg List.length h
          simp [lastL] at this
          omega
  · intro h
    unfold placesL
    rw [redS_eq hr, inS, if_pos hr, inL_nil h, h]
    split
    · rfl
    · split <;> rfl
theorem places_pick (st : Int) (hr : rightB ar rs t = true) (h : redL ar rs t ≠ []) : (placesL ar rs t st).getD 0 0 = pickL ar rs t st := by
  have h1 : 0 < (redL ar rs t).length := List.length_pos_iff.2 h
  unfold placesL pickL
  rw [redS_eq hr, inS, if_pos hr, if_neg h]
  split
  · rfl
  · split
    · rfl
    · unfold lastL
      rw [List.getD_eq_getElem?_getD, List.getElem?_take, if_pos (by omega), List.getElem?_drop, Nat.add_zero, ← List.getD_eq_getElem?_getD]
/-- is there a place to work at -/
def pickB (ar : List Int) (rs : Rules) (t : List Int) (st : Int) : Bool := (rightB ar rs t && decide (1 ≤ st ∧ st ≤ 3)) && !decide (redL ar rs t = [])
theorem pickB_iff {st : Int} : pickB ar rs t st = true ↔ rightB ar rs t = true ∧ (1 ≤ st ∧ st ≤ 3) ∧ redL ar rs t ≠ [] := by simp [pickB, and_assoc]
theorem pickB_no {st : Int} (h : ¬ (rightB ar rs t = true ∧ (1 ≤ st ∧ st ≤ 3) ∧ redL ar rs t ≠ [])) : pickB ar rs t st = false := by
  cases hp : pickB ar rs t st with
  | false => rfl
  | true => exact absurd (pickB_iff.1 hp) h
def pickAt (ar : List Int) (rs : Rules) (t : List Int) (st : Int) : Int := if pickB ar rs t st = true then pickL ar rs t st else 0
def pickRule (ar : List Int) (rs : Rules) (t : List Int) (st : Int) : Int := if pickB ar rs t st = true then ruleAtL ar rs t (pickL ar rs t st).toNat else 0
end
end Go.Proofs.Ytiaanelimbmniaa.M
