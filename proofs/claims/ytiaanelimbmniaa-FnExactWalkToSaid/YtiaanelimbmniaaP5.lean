/-
  Plain: a step keeps terms valid; walks.
-/
import Derived.Test.YtiaanelimbmniaaP4
set_option linter.unusedSimpArgs false
set_option linter.unusedVariables false
namespace Go.Proofs.Ytiaanelimbmniaa.M

/-- n terms, one behind the other -/
def Forest (ar l : List Int) (n : Nat) : Prop := endGo ar l n = some l.length
theorem endGo_more {ar : List Int} : ∀ {a b : List Int} {n e : Nat}, endGo ar a n = some e → endGo ar (a ++ b) n = some e
  | a, b, 0, e, h => by simp [endGo] at h; subst h; simp [endGo]
  | [], b, n + 1, e, h => by simp [endGo] at h
  | x :: a, b, n + 1, e, h => by
    simp only [endGo, List.cons_append] at h ⊢
    split at h
    · rename_i hx
      rw [if_pos hx]
      cases hr : endGo ar a (n + (arity ar x).toNat) with
      | none => rw [hr] at h; simp at h
      | some q => rw [hr] at h; rw [endGo_more hr]; exact h
    · cases h
theorem Forest.append {ar a b : List Int} {n m : Nat} (h : Forest ar a n) (k : Forest ar b m) : Forest ar (a ++ b) (n + m) := by
  unfold Forest at *
  have h1 := endGo_more (b := b) h
  have := endGo_join (m := m) (e2 := b.length) h1 (by rw [List.drop_left]; exact k)
  rw [this, List.length_append]
theorem Forest.cons {ar r : List Int} {x : Int} {n : Nat} (hx : x < ar.length) : Forest ar (x :: r) (n + 1) ↔ Forest ar r (n + (arity ar x).toNat) := by
  unfold Forest
  simp only [endGo, if_pos hx, List.length_cons]
  cases endGo ar r (n + (arity ar x).toNat) <;> simp
theorem Forest.lt {ar r : List Int} {x : Int} {n : Nat} (h : Forest ar (x :: r) n) : ∃ m, n = m + 1 ∧ x < ar.length := by
  unfold Forest at h
  cases n with
  | zero => simp [endGo] at h
  | succ m =>
    refine ⟨m, rfl, ?_⟩
    simp only [endGo] at h
    split at h
    · assumption
    · cases h
theorem arity_var {ar : List Int} {x : Int} (h : x < 0) : arity ar x = 0 := by simp [arity]; omega
theorem Forest.fill {ar : List Int} {s : RowL} (hs : ∀ x : Int, x < 0 → Forest ar (lk s x) 1) : ∀ (t : List Int) (n : Nat), Forest ar t n → Forest ar (t.flatMap (lk s)) n
  | [], n, h => h
  | x :: t, n, h => by
    obtain ⟨m, rfl, hx⟩ := h.lt
    have h1 := (Forest.cons hx).1 h
    rw [List.flatMap_cons]
    by_cases h0 : x < 0
    · rw [arity_var h0] at h1
      rw [Nat.add_comm]
      exact (hs x h0).append (Forest.fill hs t m (by simpa using h1))
    · rw [lk_sym (by omega)]
      exact (Forest.cons hx).2 (Forest.fill hs t _ h1)
theorem fillGo_flat {s : RowL} : ∀ (t acc u : List Int), fillGo s t acc = some u → u = acc ++ t.flatMap (lk s)
  | [], acc, u, h => by simp [fillGo] at h; simp [h]
  | n :: t, acc, u, h => by
    rw [fillGo] at h
    split at h
    · cases h
    · rw [fillGo_flat t _ u h, List.flatMap_cons, List.append_assoc]
theorem fillL_flat {s : RowL} {t u : List Int} (h : fillL s t = some u) : u = t.flatMap (lk s) := by
  have := fillGo_flat t [] u h
  simpa using this
/-- rows that are terms or nothing -/
def RowsOk (ar : List Int) (s : RowL) : Prop := ∀ i, s.getD i [] = [] ∨ termOk ar (s.getD i []) = true
theorem lk_forest {ar : List Int} {s : RowL} (h : RowsOk ar s) (hs : sigOk ar = true) (x : Int) (hx : x < 0) : Forest ar (lk s x) 1 := by
  unfold lk
  rw [if_neg (by omega)]
  split
  · have : Forest ar [x] (0 + 1) := (Forest.cons (by have := sigOk_spec hs; omega)).2 (by rw [arity_var hx]; rfl)
    exact this
  · rename_i e
    exact (termOk_iff.1 ((h (varIx x)).resolve_left e)).whole
theorem lk_ge {ar : List Int} {s : RowL} (h : RowsOk ar s) {x : Int} (hx : -24 ≤ x) : ∀ y ∈ lk s x, -24 ≤ y := by
  intro y hy
  unfold lk at hy
  split at hy
  · simp at hy; omega
  · split at hy
    · simp at hy; omega
    · rename_i e; exact (termOk_iff.1 ((h (varIx x)).resolve_left e)).ge y hy
theorem fill_ok {ar : List Int} {s : RowL} {t u : List Int} (h : RowsOk ar s) (ht : termOk ar t = true) (hu : fillL s t = some u) : termOk ar u = true := by
  have hT := termOk_iff.1 ht
  have hl := fillL_len hu
  have hf := Forest.fill (lk_forest h hT.sig) t 1 hT.whole
  rw [← fillL_flat hu] at hf
  refine termOk_iff.2 ⟨hT.sig, by have := hT.pos; omega, hl.1, ?_, hf⟩
  rw [fillL_flat hu]
  intro y hy
  obtain ⟨x, hx, hy⟩ := List.mem_flatMap.1 hy
  exact lk_ge h (hT.ge x hx) y hy
theorem mGo_ok {ar t : List Int} (ht : termOk ar t = true) : ∀ (p : List Int) (i : Nat) (b r : RowL), mGo ar t p i b = some r → RowsOk ar b → RowsOk ar r
  | [], i, b, r, h, hb => by simp [mGo] at h; subst h; exact hb
  | n :: p, i, b, r, h, hb => by
    rw [mGo] at h
    split at h
    · cases h
    · rename_i hi
      split at h
      · split at h
        · exact mGo_ok ht p _ _ _ h hb
        · cases h
      · split at h
        · refine mGo_ok ht p _ _ _ h (fun k => ?_)
          by_cases e : varIx n = k
          · subst e
            rcases Nat.lt_or_ge (varIx n) b.length with hl | hl
            · have : (b.set (varIx n) (sub ar t i)).getD (varIx n) [] = sub ar t i := by simp [List.getD_eq_getElem?_getD, hl]
              rw [this]; exact .inr (sub_ok ht (by omega))
            · rw [List.set_eq_of_length_le hl]; exact hb _
          · rw [List.getD_eq_getElem?_getD, List.getElem?_set_ne e, ← List.getD_eq_getElem?_getD]; exact hb k
        · split at h
          · exact mGo_ok ht p _ _ _ h hb
          · cases h
theorem matchB_ok {ar p t : List Int} {b : RowL} (ht : termOk ar t = true) (h : matchB ar p t = some b) : RowsOk ar b := by
  refine mGo_ok ht p 0 _ b h (fun k => .inl ?_)
  rw [List.getD_eq_getElem?_getD, List.getElem?_replicate]
  split <;> rfl

theorem Forest.swap {ar S U B : List Int} (hS : Forest ar S 1) (hU : Forest ar U 1) (hp : S ≠ []) : ∀ (A : List Int) (n : Nat), Forest ar (A ++ S ++ B) n → Forest ar (A ++ U ++ B) n
  | [], n, h => by
    simp only [List.nil_append] at h ⊢
    cases S with
    | nil => exact absurd rfl hp
    | cons x S =>
      obtain ⟨m, rfl, _⟩ := Forest.lt h
      unfold Forest at h
      rw [Nat.add_comm] at h
      obtain ⟨e1, e2, h1, h2, h3⟩ := endGo_split h
      have h4 := endGo_more (b := B) hS
      rw [h4] at h1
      cases h1
      rw [List.drop_left] at h2
      have hB : Forest ar B m := by
        unfold Forest
        rw [h2]
        rw [List.length_append] at h3
        congr 1; omega
      rw [Nat.add_comm]
      exact hU.append hB
  | x :: A, n, h => by
    obtain ⟨m, rfl, hx⟩ := Forest.lt h
    exact (Forest.cons hx).2 (Forest.swap hS hU hp A _ ((Forest.cons hx).1 h))
theorem parts {ar t : List Int} {p : Nat} (ht : termOk ar t = true) (hp : p < t.length) : t = t.take p ++ sub ar t p ++ t.drop (endN ar t p) := by
  have he := endN_spec ht hp
  have : sub ar t p ++ t.drop (endN ar t p) = t.drop p := by
    unfold sub
    have e : t.drop (endN ar t p) = (t.drop p).drop (endN ar t p - p) := by rw [List.drop_drop]; congr 1; omega
    rw [e, List.take_append_drop]
  rw [List.append_assoc, this, List.take_append_drop]
theorem put_ok {ar t u v : List Int} {p : Nat} (ht : termOk ar t = true) (hp : p < t.length) (hu : termOk ar u = true) (h : putL ar t p u = some v) : termOk ar v = true := by
  unfold putL at h
  split at h
  · cases h
  · rename_i hl
    cases h
    have hT := termOk_iff.1 ht
    have hU := termOk_iff.1 hu
    refine termOk_iff.2 ⟨hT.sig, by have := hU.pos; simp; omega, by omega, ?_, ?_⟩
    · intro x hx
      simp only [List.mem_append] at hx
      rcases hx with (hx | hx) | hx
      · exact hT.ge x (List.mem_of_mem_take hx)
      · exact hU.ge x hx
      · exact hT.ge x (List.mem_of_mem_drop hx)
    · have h1 : Forest ar (t.take p ++ sub ar t p ++ t.drop (endN ar t p)) 1 := by rw [← parts ht hp]; exact hT.whole
      exact Forest.swap (termOk_iff.1 (sub_ok ht hp)).whole hU.whole (sub_ne ht hp) _ _ h1
theorem stepL_ok {ar : List Int} {rs : Rules} {t u : List Int} {p r : Nat} (hs : sysOk ar rs = true) (ht : termOk ar t = true) (hp : p < t.length) (hr : r < rs.length) (h : stepL ar rs t p r = some u) : termOk ar u = true := by
  have hR := ruleOk_iff.1 ((sysOk_iff.1 hs).2.2 r hr)
  unfold stepL at h
  split at h
  · cases h
  · rename_i b hb
    split at h
    · cases h
    · rename_i w hw
      exact put_ok ht hp (fill_ok (matchB_ok (sub_ok ht hp) hb) hR.right hw) h

/-- the steps of a strategy, and whether there is nothing left to do -/
def walkGo (ar : List Int) (rs : Rules) (st : Int) : Nat → List Int → List (Int × Int × List Int) × Bool
  | 0, t => ([], decide (redL ar rs t = []))
  | n + 1, t => if redL ar rs t = [] then ([], true) else
    match stepL ar rs t (pickL ar rs t st).toNat (ruleAtL ar rs t (pickL ar rs t st).toNat).toNat with
    | none => ([], false)
    | some u => ((pickL ar rs t st, ruleAtL ar rs t (pickL ar rs t st).toNat, u) :: (walkGo ar rs st n u).1, (walkGo ar rs st n u).2)
section
variable {ar : List Int} {rs : Rules} {t u : List Int} {st : Int} {m : Nat}
theorem pick_neg (h : pickL ar rs t st < 0) : redL ar rs t = [] := by
  rcases pick_spec (ar := ar) (rs := rs) (t := t) st with h1 | ⟨q, hq, _⟩
  · exact h1.2
  · omega
theorem walk_nil (h : redL ar rs t = []) : walkGo ar rs st m t = ([], true) := by
  cases m with
  | zero => simp [walkGo, h]
  | succ m => rw [walkGo, if_pos h]
theorem walk_zero (hm : m = 0) (h : redL ar rs t ≠ []) : walkGo ar rs st m t = ([], false) := by
  subst hm; simp [walkGo, h]
theorem walk_stuck (hm : 0 < m) (h : redL ar rs t ≠ []) (hu : (stepL ar rs t (pickL ar rs t st).toNat (ruleAtL ar rs t (pickL ar rs t st).toNat).toNat).isSome = false) : walkGo ar rs st m t = ([], false) := by
  obtain ⟨k, rfl⟩ : ∃ k, m = k + 1 := ⟨m - 1, by omega⟩
  rw [walkGo, if_neg h]
  cases hx : stepL ar rs t (pickL ar rs t st).toNat (ruleAtL ar rs t (pickL ar rs t st).toNat).toNat with
  | none => rfl
  | some v => rw [hx] at hu; cases hu
theorem walk_next (hm : 0 < m) (h : redL ar rs t ≠ []) (hu : stepL ar rs t (pickL ar rs t st).toNat (ruleAtL ar rs t (pickL ar rs t st).toNat).toNat = some u) :
    walkGo ar rs st m t = ((pickL ar rs t st, ruleAtL ar rs t (pickL ar rs t st).toNat, u) :: (walkGo ar rs st (m - 1) u).1, (walkGo ar rs st (m - 1) u).2) := by
  obtain ⟨k, rfl⟩ : ∃ k, m = k + 1 := ⟨m - 1, by omega⟩
  rw [walkGo, if_neg h, hu]
  rfl
def wOk (ar : List Int) (rs : Rules) (t : List Int) (st n : Int) : Bool := (rightB ar rs t && decide (1 ≤ st ∧ st ≤ 3)) && decide (0 ≤ n ∧ n ≤ 60)
/-- a walk that a strategy makes: where from, its steps, whether the end is a normal form -/
def walkB (ar : List Int) (rs : Rules) (t : List Int) (st n : Int) : List Int × List (Int × Int × List Int) × Bool :=
  if wOk ar rs t st n = true then (t, walkGo ar rs st n.toNat t) else ([], [], false)
theorem walkB_no {n : Int} (h : wOk ar rs t st n = false) : walkB ar rs t st n = ([], [], false) := by rw [walkB, if_neg (by rw [h]; simp)]
theorem walkB_yes {n : Int} (h : wOk ar rs t st n = true) : walkB ar rs t st n = (t, walkGo ar rs st n.toNat t) := by rw [walkB, if_pos h]
def countB (ar : List Int) (rs : Rules) (t : List Int) (st n : Int) : Int := if (walkB ar rs t st n).2.2 = true then ((walkB ar rs t st n).2.1.length : Int) else -1
theorem walkGo_len : ∀ (m : Nat) (t : List Int), (walkGo ar rs st m t).1.length ≤ m
  | 0, t => by simp [walkGo]
  | m + 1, t => by
    rw [walkGo]
    split
    · simp
    · split
      · simp
      · rename_i u _
        have := walkGo_len m u
        simp; omega
theorem walkB_len {n : Int} : (walkB ar rs t st n).2.1.length ≤ 60 := by
  unfold walkB
  split
  · rename_i h
    have := walkGo_len (ar := ar) (rs := rs) (st := st) n.toNat t
    simp only [wOk, Bool.and_eq_true, decide_eq_true_eq] at h
    simp only
    omega
  · simp
end
end Go.Proofs.Ytiaanelimbmniaa.M
