/-
  The plain meaning of terms: arities, where a term ends. No program in sight.
-/
set_option linter.unusedSimpArgs false
set_option linter.unusedVariables false
namespace Go.Proofs.Ytiaanelimbmniaa.M

/-- how many arguments a number has -/
def arity (ar : List Int) (n : Int) : Int := if n < 0 then 0 else ar.getD n.toNat 0

def sigOk (ar : List Int) : Bool := decide (1 ≤ ar.length ∧ ar.length ≤ 8) && ar.all fun n => decide (0 ≤ n ∧ n ≤ 3)

theorem sigOk_spec {ar : List Int} (h : sigOk ar = true) : 1 ≤ ar.length ∧ ar.length ≤ 8 ∧ ∀ i, i < ar.length → 0 ≤ ar.getD i 0 ∧ ar.getD i 0 ≤ 3 := by
  simp only [sigOk, Bool.and_eq_true, decide_eq_true_eq, List.all_eq_true] at h
  refine ⟨h.1.1, h.1.2, fun i hi => ?_⟩
  have := h.2 (ar[i]) (List.getElem_mem hi)
  simpa [List.getD, hi] using this
theorem sigOk_of {ar : List Int} (h1 : 1 ≤ ar.length) (h8 : ar.length ≤ 8) (h : ∀ i, i < ar.length → 0 ≤ ar.getD i 0 ∧ ar.getD i 0 ≤ 3) : sigOk ar = true := by
  simp only [sigOk, Bool.and_eq_true, decide_eq_true_eq, List.all_eq_true]
  refine ⟨⟨h1, h8⟩, fun n hn => ?_⟩
  obtain ⟨i, hi, rfl⟩ := List.getElem_of_mem hn
  have := h i hi
  simpa [List.getD, hi] using this
theorem sigOk_bad {ar : List Int} {i : Nat} (hi : i < ar.length) (h : ¬ (0 ≤ ar.getD i 0 ∧ ar.getD i 0 ≤ 3)) : sigOk ar = false := by
  cases hs : sigOk ar with
  | false => rfl
  | true => exact absurd ((sigOk_spec hs).2.2 i hi) h
theorem sigOk_short {ar : List Int} (h : ¬ (1 ≤ ar.length ∧ ar.length ≤ 8)) : sigOk ar = false := by
  cases hs : sigOk ar with
  | false => rfl
  | true => exact absurd ⟨(sigOk_spec hs).1, (sigOk_spec hs).2.1⟩ h

theorem arity_le {ar : List Int} (h : sigOk ar = true) {n : Int} (hn : n < ar.length) : 0 ≤ arity ar n ∧ arity ar n ≤ 3 := by
  unfold arity
  split
  · omega
  · exact (sigOk_spec h).2.2 n.toNat (by omega)

/-- so many numbers of r are k terms, one behind the other -/
def endGo (ar : List Int) : List Int → Nat → Option Nat
  | _, 0 => some 0
  | [], _ + 1 => none
  | x :: r, n + 1 => if x < ar.length then (endGo ar r (n + (arity ar x).toNat)).map (· + 1) else none

theorem endGo_le {ar : List Int} : ∀ {r : List Int} {n e : Nat}, endGo ar r n = some e → e ≤ r.length
  | r, 0, e, h => by simp [endGo] at h; omega
  | [], n + 1, e, h => by simp [endGo] at h
  | x :: r, n + 1, e, h => by
    simp only [endGo] at h
    split at h
    · cases hr : endGo ar r (n + (arity ar x).toNat) with
      | none => rw [hr] at h; simp at h
      | some q => rw [hr] at h; simp at h; have := endGo_le hr; simp; omega
    · cases h

/-- the index behind the term that begins at a place -/
def endAt (ar t : List Int) (at' : Nat) : Option Nat := (endGo ar (t.drop at') 1).map (at' + ·)
def endZ (ar t : List Int) (at' : Nat) : Int := match endAt ar t at' with | some e => e | none => -1

theorem drop_cons {t : List Int} {p : Nat} (h : p < t.length) : t.drop p = t.getD p 0 :: t.drop (p + 1) := by
  rw [List.drop_eq_getElem_cons h]
  simp [List.getD, h]

/-- one step of the cursor -/
theorem endGo_step {ar t : List Int} {p k : Nat} (hk : 0 < k) (hp : p < t.length) (hx : t.getD p 0 < ar.length) :
    endGo ar (t.drop p) k = (endGo ar (t.drop (p + 1)) (k - 1 + (arity ar (t.getD p 0)).toNat)).map (· + 1) := by
  obtain ⟨k', rfl⟩ : ∃ k', k = k' + 1 := ⟨k - 1, by omega⟩
  rw [drop_cons hp]
  simp only [endGo, hx, if_true, Nat.add_sub_cancel]
theorem endGo_none {ar t : List Int} {p k : Nat} (hk : 0 < k) (h : ¬ (p < t.length ∧ t.getD p 0 < ar.length)) : endGo ar (t.drop p) k = none := by
  obtain ⟨k', rfl⟩ : ∃ k', k = k' + 1 := ⟨k - 1, by omega⟩
  by_cases hp : p < t.length
  · rw [drop_cons hp]
    simp only [endGo]
    rw [if_neg (fun hx => h ⟨hp, hx⟩)]
  · rw [List.drop_eq_nil_of_le (by omega)]
    rfl
theorem endZ_none {ar t : List Int} {p : Nat} (h : (endGo ar (t.drop p) 1).isSome = false) : endZ ar t p = -1 := by
  cases he : endGo ar (t.drop p) 1 with
  | none => simp [endZ, endAt, he]
  | some e => rw [he] at h; cases h
theorem endZ_some {ar t : List Int} {p q : Nat} (hq : ∀ e, endGo ar (t.drop p) 1 = some e → q = p + e) (h : (endGo ar (t.drop p) 1).isSome = true) : endZ ar t p = (q : Int) := by
  cases he : endGo ar (t.drop p) 1 with
  | none => rw [he] at h; cases h
  | some e => simp [endZ, endAt, he, hq e he]

/- lists -/
theorem ext_getD {a b : List Int} (h : a.length = b.length) (k : ∀ i, i < a.length → a.getD i 0 = b.getD i 0) : a = b := by
  apply List.ext_getElem h
  intro i h1 h2
  have := k i h1
  simpa [List.getD, h1, h2] using this
theorem ne_of_getD {a b : List Int} {i : Nat} (h : a.getD i 0 ≠ b.getD i 0) : ¬ a = b := fun e => h (by rw [e])

def mn (m x : Int) : Int := if x < m then x else m
def minL (xs : List Int) : Int := (xs.drop 1).foldl mn (xs.getD 0 0)
theorem minL_step {xs : List Int} {k : Nat} (h0 : 1 ≤ k) (hk : k < xs.length) : minL (xs.take (k + 1)) = (if xs.getD k 0 < minL (xs.take k) then xs.getD k 0 else minL (xs.take k)) := by
  have e : (xs.take (k + 1)).drop 1 = (xs.take k).drop 1 ++ [xs.getD k 0] := by
    rw [List.take_succ_eq_append_getElem hk, List.drop_append_of_le_length (by simp; omega)]
    simp [List.getD, hk]
  have e0 : (xs.take (k + 1)).getD 0 0 = xs.getD 0 0 := by simp [List.getD, List.getElem?_take]
  have e1 : (xs.take k).getD 0 0 = xs.getD 0 0 := by cases k with
    | zero => omega
    | succ k => simp [List.getD, List.getElem?_take]
  unfold minL
  rw [e, List.foldl_append, e0, e1]
  rfl
theorem minL_take1 {xs : List Int} (h : 1 ≤ xs.length) : minL (xs.take 1) = xs.getD 0 0 := by
  cases xs with
  | nil => simp at h
  | cons x r => simp [minL]
theorem minL_take_all {xs : List Int} {k : Nat} (h : xs.length ≤ k) : minL (xs.take k) = minL xs := by rw [List.take_of_length_le h]
theorem foldl_min_le : ∀ (r : List Int) (m : Int), (r.foldl mn m ≤ m) ∧ (∀ x ∈ r, r.foldl mn m ≤ x) ∧ (r.foldl mn m = m ∨ r.foldl mn m ∈ r)
  | [], m => by simp
  | x :: r, m => by
    obtain ⟨h1, h2, h3⟩ := foldl_min_le r (mn m x)
    have hm : mn m x ≤ m ∧ mn m x ≤ x ∧ (mn m x = m ∨ mn m x = x) := by
      unfold mn
      split
      · exact ⟨by omega, by omega, .inr rfl⟩
      · exact ⟨by omega, by omega, .inl rfl⟩
    simp only [List.foldl_cons]
    refine ⟨by omega, ?_, ?_⟩
    · intro y hy
      rcases List.mem_cons.1 hy with rfl | hy
      · omega
      · exact h2 y hy
    · rcases h3 with h3 | h3
      · rw [h3]
        rcases hm.2.2 with h | h
        · left; exact h
        · right; rw [h]; simp
      · right; exact List.mem_cons_of_mem _ h3
theorem minL_ge {xs : List Int} (h : 1 ≤ xs.length) (b : Int) : b ≤ minL xs ↔ ∀ x ∈ xs, b ≤ x := by
  cases xs with
  | nil => simp at h
  | cons x r =>
    obtain ⟨h1, h2, h3⟩ := foldl_min_le r x
    have e : minL (x :: r) = r.foldl mn x := by simp [minL]
    rw [e]
    constructor
    · intro hb y hy
      rcases List.mem_cons.1 hy with rfl | hy
      · omega
      · have := h2 y hy; omega
    · intro hb
      rcases h3 with h3 | h3
      · rw [h3]; exact hb x (by simp)
      · exact hb _ (List.mem_cons_of_mem _ h3)

def indexZ (xs : List Int) (n : Int) : Int := match xs.findIdx? (fun x => decide (x = n)) with | some i => i | none => -1
theorem indexZ_some {xs : List Int} {n : Int} {k : Nat} (hk : k < xs.length) (he : xs.getD k 0 = n) (hall : ∀ i, i < k → xs.getD i 0 ≠ n) : indexZ xs n = k := by
  have : xs.findIdx? (fun x => decide (x = n)) = some k := by
    rw [List.findIdx?_eq_some_iff_getElem]
    refine ⟨hk, by simpa [List.getD, hk] using he, fun j hj => ?_⟩
    have := hall j hj
    simpa [List.getD, show j < xs.length by omega] using this
  simp [indexZ, this]
theorem indexZ_none {xs : List Int} {n : Int} (hall : ∀ i, i < xs.length → xs.getD i 0 ≠ n) : indexZ xs n = -1 := by
  have : xs.findIdx? (fun x => decide (x = n)) = none := by
    rw [List.findIdx?_eq_none_iff]
    intro x hx
    obtain ⟨i, hi, rfl⟩ := List.getElem_of_mem hx
    have := hall i hi
    simpa [List.getD, hi] using this
  simp [indexZ, this]
theorem indexZ_mem {xs : List Int} {n : Int} : 0 ≤ indexZ xs n ↔ n ∈ xs := by
  unfold indexZ
  cases h : xs.findIdx? (fun x => decide (x = n)) with
  | none =>
    simp only []
    rw [List.findIdx?_eq_none_iff] at h
    constructor
    · intro h'; omega
    · intro hm; have := h n hm; simp at this
  | some i =>
    simp only []
    rw [List.findIdx?_eq_some_iff_getElem] at h
    obtain ⟨hi, he, _⟩ := h
    simp at he
    constructor
    · intro _; rw [← he]; exact List.getElem_mem hi
    · intro _; omega
theorem mem_of_getD {xs : List Int} {n : Int} {k : Nat} (hk : k < xs.length) (he : xs.getD k 0 = n) : n ∈ xs := by
  rw [← he]; simp [List.getD, hk]
theorem not_mem_of_getD {xs : List Int} {n : Int} (hall : ∀ i, i < xs.length → xs.getD i 0 ≠ n) : ¬ n ∈ xs := by
  intro hm
  obtain ⟨i, hi, rfl⟩ := List.getElem_of_mem hm
  exact hall i hi (by simp [List.getD, hi])
theorem all_getD {xs : List Int} {p : Int → Prop} (h : ∀ i, i < xs.length → p (xs.getD i 0)) : ∀ x ∈ xs, p x := by
  intro x hx
  obtain ⟨i, hi, rfl⟩ := List.getElem_of_mem hx
  have := h i hi
  simpa [List.getD, hi] using this
theorem getD_all {xs : List Int} {p : Int → Prop} (h : ∀ x ∈ xs, p x) {i : Nat} (hi : i < xs.length) : p (xs.getD i 0) := h _ (by simp [List.getD, hi])
end Go.Proofs.Ytiaanelimbmniaa.M
