/-
  What the walks rest on (part 2).
-/
import Derived.Orders
import Derived.Tactics
import Derived.Below
import Derived.Laws.CopyRow
import Derived.Laws.AppendOwn
import Derived.IntWalk
import Derived.Lib.AppendZeros
import Derived.OrdersIn
import Derived.TacticsIn
import Derived.RangeFuncSeq
import Derived.RangeFuncRecord
import Derived.RangeFuncLeaves
import Derived.Scope
import Derived.Laws.Append
import Derived.WalkKit
import Derived.ProofKit
import Derived.OpenShut
import Derived.JoinedCond
import Derived.Carry
import Derived.Deep.Slices
import Derived.Test.YtnloeeaidknblaaQAL0
set_option linter.unusedSimpArgs false
set_option linter.unusedVariables false
namespace Go.Proofs.Ytnloeeaidknblaa.M
def Forest (ar l : List Int) (n : Nat) : Prop := endGo ar l n = some l.length
theorem endGo_more {ar : List Int} : ∀ {a b : List Int} {n e : Nat}, endGo ar a n = some e → endGo ar (a ++ b) n = some e
  | a, b, 0, e, h => by simp [endGo] at h; subst h; simp [endGo]
  | [], b, n + 1, e, h => by simp [endGo] at h
  | x :: a, b, n + 1, e, h => by
    simp only [endGo, List.cons_append] at h ⊢
    split at h
    · rename_i hx
      rw [if_pos hx]
      cases hr : endGo ar a (n + (arity ar x).toNat) with
      | none => rw [hr] at h; simp at h
      | some q => rw [hr] at h; rw [endGo_more hr]; exact h
    · cases h
theorem Forest.append {ar a b : List Int} {n m : Nat} (h : Forest ar a n) (k : Forest ar b m) : Forest ar (a ++ b) (n + m) := by
  unfold Forest at *
  have h1 := endGo_more (b := b) h
  have := endGo_join (m := m) (e2 := b.length) h1 (by rw [List.drop_left]; exact k)
  rw [this, List.length_append]
theorem Forest.cons {ar r : List Int} {x : Int} {n : Nat} (hx : x < ar.length) : Forest ar (x :: r) (n + 1) ↔ Forest ar r (n + (arity ar x).toNat) := by
  unfold Forest
  simp only [endGo, if_pos hx, List.length_cons]
  cases endGo ar r (n + (arity ar x).toNat) <;> simp
theorem Forest.lt {ar r : List Int} {x : Int} {n : Nat} (h : Forest ar (x :: r) n) : ∃ m, n = m + 1 ∧ x < ar.length := by
  unfold Forest at h
  cases n with
  | zero => simp [endGo] at h
  | succ m =>
    refine ⟨m, rfl, ?_⟩
    simp only [endGo] at h
    split at h
    · assumption
    · cases h
theorem arity_var {ar : List Int} {x : Int} (h : x < 0) : arity ar x = 0 := by simp [arity]; omega
theorem Forest.fill {ar : List Int} {s : RowL} (hs : ∀ x : Int, x < 0 → Forest ar (lk s x) 1) : ∀ (t : List Int) (n : Nat), Forest ar t n → Forest ar (t.flatMap (lk s)) n
  | [], n, h => h
  | x :: t, n, h => by
    obtain ⟨m, rfl, hx⟩ := h.lt
    have h1 := (Forest.cons hx).1 h
    rw [List.flatMap_cons]
    by_cases h0 : x < 0
    · rw [arity_var h0] at h1
      rw [Nat.add_comm]
      exact (hs x h0).append (Forest.fill hs t m (by simpa using h1))
    · rw [lk_sym (by omega)]
      exact (Forest.cons hx).2 (Forest.fill hs t _ h1)
theorem fillGo_flat {s : RowL} : ∀ (t acc u : List Int), fillGo s t acc = some u → u = acc ++ t.flatMap (lk s)
  | [], acc, u, h => by simp [fillGo] at h; simp [h]
  | n :: t, acc, u, h => by
    rw [fillGo] at h
    split at h
    · cases h
    · rw [fillGo_flat t _ u h, List.flatMap_cons, List.append_assoc]
theorem fillL_flat {s : RowL} {t u : List Int} (h : fillL s t = some u) : u = t.flatMap (lk s) := by
  have := fillGo_flat t [] u h
  simpa using this
def RowsOk (ar : List Int) (s : RowL) : Prop := ∀ i, s.getD i [] = [] ∨ termOk ar (s.getD i []) = true
theorem lk_forest {ar : List Int} {s : RowL} (h : RowsOk ar s) (hs : sigOk ar = true) (x : Int) (hx : x < 0) : Forest ar (lk s x) 1 := by
  unfold lk
  rw [if_neg (by omega)]
  split
  · have : Forest ar [x] (0 + 1) := (Forest.cons (by have := sigOk_spec hs; omega)).2 (by rw [arity_var hx]; rfl)
    exact this
  · rename_i e
    exact (termOk_iff.1 ((h (varIx x)).resolve_left e)).whole
theorem lk_ge {ar : List Int} {s : RowL} (h : RowsOk ar s) {x : Int} (hx : -24 ≤ x) : ∀ y ∈ lk s x, -24 ≤ y := by
  intro y hy
  unfold lk at hy
  split at hy
  · simp at hy; omega
  · split at hy
    · simp at hy; omega
    · rename_i e; exact (termOk_iff.1 ((h (varIx x)).resolve_left e)).ge y hy
theorem fill_ok {ar : List Int} {s : RowL} {t u : List Int} (h : RowsOk ar s) (ht : termOk ar t = true) (hu : fillL s t = some u) : termOk ar u = true := by
  have hT := termOk_iff.1 ht
  have hl := fillL_len hu
  have hf := Forest.fill (lk_forest h hT.sig) t 1 hT.whole
  rw [← fillL_flat hu] at hf
  refine termOk_iff.2 ⟨hT.sig, by have := hT.pos; omega, hl.1, ?_, hf⟩
  rw [fillL_flat hu]
  intro y hy
  obtain ⟨x, hx, hy⟩ := List.mem_flatMap.1 hy
  exact lk_ge h (hT.ge x hx) y hy
theorem mGo_ok {ar t : List Int} (ht : termOk ar t = true) : ∀ (p : List Int) (i : Nat) (b r : RowL), mGo ar t p i b = some r → RowsOk ar b → RowsOk ar r
  | [], i, b, r, h, hb => by simp [mGo] at h; subst h; exact hb
  | n :: p, i, b, r, h, hb => by
    rw [mGo] at h
    split at h
    · cases h
    · rename_i hi
      split at h
      · split at h
        · exact mGo_ok ht p _ _ _ h hb
        · cases h
      · split at h
        · refine mGo_ok ht p _ _ _ h (fun k => ?_)
          by_cases e : varIx n = k
          · subst e
            rcases Nat.lt_or_ge (varIx n) b.length with hl | hl
            · have : (b.set (varIx n) (sub ar t i)).getD (varIx n) [] = sub ar t i := by simp [List.getD_eq_getElem?_getD, hl]
              rw [this]; exact .inr (sub_ok ht (by omega))
            · rw [List.set_eq_of_length_le hl]; exact hb _
          · rw [List.getD_eq_getElem?_getD, List.getElem?_set_ne e, ← List.getD_eq_getElem?_getD]; exact hb k
        · split at h
          · exact mGo_ok ht p _ _ _ h hb
          · cases h
theorem matchB_ok {ar p t : List Int} {b : RowL} (ht : termOk ar t = true) (h : matchB ar p t = some b) : RowsOk ar b := by
  refine mGo_ok ht p 0 _ b h (fun k => .inl ?_)
  rw [List.getD_eq_getElem?_getD, List.getElem?_replicate]
  split <;> rfl
theorem Forest.swap {ar S U B : List Int} (hS : Forest ar S 1) (hU : Forest ar U 1) (hp : S ≠ []) : ∀ (A : List Int) (n : Nat), Forest ar (A ++ S ++ B) n → Forest ar (A ++ U ++ B) n
  | [], n, h => by
    simp only [List.nil_append] at h ⊢
    cases S with
    | nil => exact absurd rfl hp
    | cons x S =>
      obtain ⟨m, rfl, _⟩ := Forest.lt h
      unfold Forest at h
      rw [Nat.add_comm] at h
      obtain ⟨e1, e2, h1, h2, h3⟩ := endGo_split h
      have h4 := endGo_more (b := B) hS
      rw [h4] at h1
      cases h1
      rw [List.drop_left] at h2
      have hB : Forest ar B m := by
        unfold Forest
        rw [h2]
        rw [List.length_append] at h3
        congr 1; omega
      rw [Nat.add_comm]
      exact hU.append hB
  | x :: A, n, h => by
    obtain ⟨m, rfl, hx⟩ := Forest.lt h
    exact (Forest.cons hx).2 (Forest.swap hS hU hp A _ ((Forest.cons hx).1 h))
theorem parts {ar t : List Int} {p : Nat} (ht : termOk ar t = true) (hp : p < t.length) : t = t.take p ++ sub ar t p ++ t.drop (endN ar t p) := by
  have he := endN_spec ht hp
  have : sub ar t p ++ t.drop (endN ar t p) = t.drop p := by
    unfold sub
    have e : t.drop (endN ar t p) = (t.drop p).drop (endN ar t p - p) := by rw [List.drop_drop]; congr 1; omega
    rw [e, List.take_append_drop]
  rw [List.append_assoc, this, List.take_append_drop]
theorem put_ok {ar t u v : List Int} {p : Nat} (ht : termOk ar t = true) (hp : p < t.length) (hu : termOk ar u = true) (h : putL ar t p u = some v) : termOk ar v = true := by
  unfold putL at h
  split at h
  · cases h
  · rename_i hl
    cases h
    have hT := termOk_iff.1 ht
    have hU := termOk_iff.1 hu
    refine termOk_iff.2 ⟨hT.sig, by have := hU.pos; simp; omega, by omega, ?_, ?_⟩
    · intro x hx
      simp only [List.mem_append] at hx
      rcases hx with (hx | hx) | hx
      · exact hT.ge x (List.mem_of_mem_take hx)
      · exact hU.ge x hx
      · exact hT.ge x (List.mem_of_mem_drop hx)
    · have h1 : Forest ar (t.take p ++ sub ar t p ++ t.drop (endN ar t p)) 1 := by rw [← parts ht hp]; exact hT.whole
      exact Forest.swap (termOk_iff.1 (sub_ok ht hp)).whole hU.whole (sub_ne ht hp) _ _ h1
theorem stepL_ok {ar : List Int} {rs : Rules} {t u : List Int} {p r : Nat} (hs : sysOk ar rs = true) (ht : termOk ar t = true) (hp : p < t.length) (hr : r < rs.length) (h : stepL ar rs t p r = some u) : termOk ar u = true := by
  have hR := ruleOk_iff.1 ((sysOk_iff.1 hs).2.2 r hr)
  unfold stepL at h
  split at h
  · cases h
  · rename_i b hb
    split at h
    · cases h
    · rename_i w hw
      exact put_ok ht hp (fill_ok (matchB_ok (sub_ok ht hp) hb) hR.right hw) h
section
variable {ar : List Int} {rs : Rules} {t u : List Int} {st : Int} {m : Nat}
end
end Go.Proofs.Ytnloeeaidknblaa.M
set_option linter.unusedSimpArgs false
set_option linter.unusedVariables false
namespace Go.Proofs.Ytnloeeaidknblaa.M
section
variable {ar : List Int} {rs : Rules} {t : List Int} {p k j : Nat}
end
end Go.Proofs.Ytnloeeaidknblaa.M
set_option linter.unusedSimpArgs false
set_option linter.unusedVariables false
namespace Go.Proofs.Ytnloeeaidknblaa.M
def dec (z : Int) (n : Nat) : Int := if z - n < 0 then -1 else z - n
theorem dec_neg {z : Int} {n : Nat} (h : z - n < 0) : dec z n = -1 := if_pos h
theorem dec_pos {z : Int} {n : Nat} (h : ¬ z - n < 0) : dec z n = z - n := if_neg h
theorem dec_dec {z : Int} {n m : Nat} (h : ¬ dec z n < 0) : dec (dec z n) m = dec z (n + m) := by
  unfold dec at *
  split at h
  · omega
  · rename_i h1
    rw [if_neg h1]
    by_cases h2 : z - n - m < 0
    · rw [if_pos h2, if_pos (by omega)]
    · rw [if_neg h2, if_neg (by omega)]; omega
theorem dec_out {z : Int} {n m : Nat} (h : dec z n < 0) : dec z (n + m) = -1 := by
  unfold dec at *
  split at h
  · rw [if_pos (by omega)]
  · omega
theorem dec_range (z : Int) (n : Nat) : -1 ≤ dec z n ∧ (0 ≤ z → dec z n ≤ z) := by
  unfold dec
  split <;> omega
theorem dec_mono {z : Int} {n m : Nat} (h : dec z n < 0) (hm : n ≤ m) : dec z m = -1 := by
  rw [show m = n + (m - n) from by omega]; exact dec_out h
def szTo (rs : Rules) (k : Nat) : Nat := ((rs.take k).map (fun r => r.1.length + r.2.length)).sum
theorem szTo_succ {rs : Rules} {k : Nat} (h : k < rs.length) : szTo rs k + ((rs.getD k ([], [])).1.length + (rs.getD k ([], [])).2.length) = szTo rs (k + 1) := by
  unfold szTo
  rw [take_succ_getD ([], []) h]
  simp
theorem szTo_le {rs : Rules} : ∀ (k j : Nat), k ≤ j → j ≤ rs.length → szTo rs k ≤ szTo rs j := by
  intro k j hkj
  induction j with
  | zero => intro _; rw [show k = 0 from by omega]; exact Nat.le_refl _
  | succ j ih =>
    intro hj
    rcases Nat.lt_or_ge k (j + 1) with h | h
    · have := ih (by omega) (by omega)
      rw [← szTo_succ (show j < rs.length by omega)]
      omega
    · rw [show k = j + 1 from by omega]; exact Nat.le_refl _
theorem take_set_next {l : List Int} {k : Nat} {v : Int} (h : k < l.length) (_ : k < l.length) : (l.set k v).take (k + 1) = l.take k ++ [v] := by
  rw [take_succ_getD 0 (by simpa using h)]
  congr 1
  · rw [List.take_set, List.set_eq_of_length_le (by simp; omega)]
  · simp [List.getD_eq_getElem?_getD, h]
theorem ext_pair {a b : Rules} (hl : a.length = b.length) (h : ∀ i, i < a.length → a.getD i ([], []) = b.getD i ([], [])) : a = b := by
  apply List.ext_getElem hl
  intro i h1 h2
  have := h i h1
  simpa [List.getD_eq_getElem?_getD, h1, h2] using this
def szR (rs : Rules) : Nat := rs.length + szTo rs rs.length
theorem dec_le {z : Int} {n : Nat} (h : ¬ dec z n < 0) : (n : Int) ≤ z := by
  unfold dec at h
  split at h <;> omega
theorem szR_le {rs : Rules} : rs.length ≤ szR rs ∧ ∀ i, i < rs.length → (rs.getD i ([], [])).1.length ≤ szR rs ∧ (rs.getD i ([], [])).2.length ≤ szR rs := by
  refine ⟨by unfold szR; omega, fun i hi => ?_⟩
  have h1 := szTo_succ hi
  have h2 := szTo_le (rs := rs) (i + 1) rs.length (by omega) (Nat.le_refl _)
  unfold szR
  omega
end Go.Proofs.Ytnloeeaidknblaa.M
set_option linter.unusedSimpArgs false
set_option linter.unusedVariables false
namespace Go.Proofs.Ytnloeeaidknblaa.M
def iota (k : Int) (n : Nat) : List Int := (List.range n).map (fun (i : Nat) => k + (i : Int))
theorem iota_len (k : Int) (n : Nat) : (iota k n).length = n := by simp [iota]
theorem iota_get {k : Int} {n i : Nat} (h : i < n) : (iota k n).getD i 0 = k + i := by simp [iota, List.getD, h]
theorem iota_add (k : Int) (n m : Nat) : iota k (n + m) = iota k n ++ iota (k + n) m := by
  unfold iota
  rw [List.range_add, List.map_append, List.map_map]
  congr 1
  apply List.map_congr_left
  intro i _
  simp only [Function.comp, Int.natCast_add]
  omega
theorem iota_zero (k : Int) : iota k 0 = [] := rfl
theorem iota_one (k : Int) : iota k 1 = [k] := by simp [iota]
def heldF (xs : List Int) (k : Int) : Int := if xs = iota k xs.length then k + xs.length else -1
theorem heldF_iota (k : Int) (n : Nat) : heldF (iota k n) k = k + n := by rw [heldF, iota_len, if_pos rfl]
theorem heldF_append {a b : List Int} {k : Int} (hk : 0 ≤ k) : heldF (a ++ b) k = if heldF a k < 0 then -1 else heldF b (heldF a k) := by
  unfold heldF
  rw [List.length_append, iota_add]
  by_cases h : a = iota k a.length
  · rw [if_pos h]
    have hn : ¬ k + (a.length : Int) < 0 := by omega
    rw [if_neg hn]
    by_cases h2 : b = iota (k + a.length) b.length
    · rw [if_pos h2, if_pos (by rw [← h, ← h2])]; omega
    · rw [if_neg h2, if_neg]
      intro e
      rw [← h] at e
      exact h2 (List.append_cancel_left e)
  · rw [if_neg h, if_pos (show (-1 : Int) < 0 by decide), if_neg]
    intro e
    have := congrArg (List.take a.length) e
    rw [List.take_left, List.take_left' (iota_len _ _)] at this
    exact h this
theorem heldF_pos {a : List Int} {k : Int} (h : ¬ heldF a k < 0) : heldF a k = k + a.length := by
  unfold heldF at *
  split at h
  · rw [if_pos (by assumption)]
  · omega
theorem held_all {x : List Int} {z : Int} {k : Nat} (h : x.length ≤ k) (hos : x.take k = iota z k) : heldF x z = z + k := by
  rw [List.take_of_length_le h] at hos
  have := congrArg List.length hos
  rw [iota_len] at this
  rw [heldF, if_pos (by rw [this]; exact hos), this]
theorem heldF_nil (k : Int) : heldF [] k = k := by simp [heldF, iota]
theorem heldF_snoc_no {xs : List Int} {k : Int} {i : Nat} (hi : i < xs.length) (h : xs.getD i 0 ≠ k + i) : heldF xs k = -1 := by
  rw [heldF, if_neg]
  intro e
  exact h (by rw [e, iota_get hi])
theorem iota_succ (k : Int) (n : Nat) : iota k (n + 1) = iota k n ++ [k + n] := by rw [iota_add, iota_one]
theorem iota_cons (z : Int) (n : Nat) : iota z (n + 1) = z :: iota (z + 1) n := by rw [Nat.add_comm, iota_add, iota_one]; rfl
def flatPair (r : List Int × List Int) : List Int := r.1 ++ r.2
def flatStep (s : Int × Int × List Int) : List Int := s.1 :: s.2.1 :: s.2.2
theorem flatMap_take_succ {α : Type} (f : α → List Int) {l : List α} {k : Nat} (d : α) (h : k < l.length) : (l.take (k + 1)).flatMap f = (l.take k).flatMap f ++ f (l.getD k d) := by
  rw [take_succ_getD d h, List.flatMap_append]; simp
theorem take_set_any {α : Type} {l : List α} {k : Nat} {v : α} (h : k < l.length) : (l.set k v).take (k + 1) = l.take k ++ [v] := by
  rw [List.take_set, List.take_succ_eq_append_getElem h, List.set_append_right _ _ (by simp; omega)]
  simp [Nat.min_eq_left (Nat.le_of_lt h)]
theorem iota_set {z : Int} {x : List Int} {k : Nat} (hk : k < x.length) : (iota z k ++ x.drop k).set k (z + k) = iota z (k + 1) ++ x.drop (k + 1) := by
  rw [List.set_append_right _ _ (by rw [iota_len]; omega), iota_len, Nat.sub_self, drop_get 0 hk, List.set_cons_zero, iota_succ, List.append_assoc]; rfl
theorem app_getD {α : Type} {d : α} {os l : List α} {k : Nat} (h : os.length = k) : (os ++ l.drop k).getD k d = l.getD k d := by
  subst h
  rw [List.getD_eq_getElem?_getD, List.getD_eq_getElem?_getD, List.getElem?_append_right (Nat.le_refl _), List.getElem?_drop]; simp
theorem app_set {α : Type} {os l : List α} {k : Nat} {x : α} (h : os.length = k) (hk : k < l.length) : (os ++ l.drop k).set k x = (os ++ [x]) ++ l.drop (k + 1) := by
  subst h
  rw [List.set_append_right _ _ (Nat.le_refl _), Nat.sub_self, List.drop_eq_getElem_cons hk, List.set_cons_zero, List.append_assoc]; rfl
theorem app_all {α : Type} {os l : List α} {k : Nat} (h : l.length ≤ k) : os ++ l.drop k = os := by rw [List.drop_eq_nil_of_le h, List.append_nil]
theorem marked {α : Type} {f : α → List Int} {os l : List α} {d x : α} {z : Int} {k : Nat} (hk : k < l.length) (h : os.flatMap f = iota z ((l.take k).flatMap f).length) (hx : f x = iota (z + ((l.take k).flatMap f).length) (f (l.getD k d)).length) :
    (os ++ [x]).flatMap f = iota z ((l.take (k + 1)).flatMap f).length := by
  rw [List.flatMap_append, h, flatMap_take_succ f d hk, List.length_append, iota_add, List.flatMap_cons, List.flatMap_nil, List.append_nil, hx]
theorem flat_take_le {α : Type} {f : α → List Int} {l : List α} {k : Nat} (d : α) (hk : k < l.length) : ((l.take k).flatMap f).length + (f (l.getD k d)).length ≤ (l.flatMap f).length := by
  have := flatMap_take_succ f d hk
  have e : l.flatMap f = (l.take (k + 1)).flatMap f ++ (l.drop (k + 1)).flatMap f := by rw [← List.flatMap_append, List.take_append_drop]
  rw [e, List.length_append, this, List.length_append]; omega
theorem heldF_range {xs : List Int} {k : Int} (hk : 0 ≤ k) : -1 ≤ heldF xs k ∧ heldF xs k ≤ k + xs.length := by
  unfold heldF; split <;> omega
theorem heldF_cons {a : Int} {l : List Int} {k : Int} (hk : 0 ≤ k) : heldF (a :: l) k = if a = k then heldF l (k + 1) else -1 := by
  have := heldF_append (a := [a]) (b := l) hk
  rw [show [a] ++ l = a :: l from rfl] at this
  rw [this]
  by_cases h : a = k
  · have e : heldF [a] k = k + 1 := by simp [heldF, iota, h]
    rw [e, if_neg (by omega), if_pos h]
  · have e : heldF [a] k = -1 := by simp [heldF, iota, h]
    rw [e, if_pos (by omega), if_neg h]
theorem held_next {α : Type} {f : α → List Int} {l : List α} {z : Int} {k : Nat} (d : α) (hz : 0 ≤ z) (hk : k < l.length) (h : ¬ heldF ((l.take k).flatMap f) z < 0) :
    heldF ((l.take (k + 1)).flatMap f) z = heldF (f (l.getD k d)) (heldF ((l.take k).flatMap f) z) := by
  rw [flatMap_take_succ f d hk, heldF_append hz, if_neg h]
theorem held_fail {α : Type} {f : α → List Int} {l : List α} {z : Int} {k : Nat} (d : α) (hz : 0 ≤ z) (hk : k < l.length) (h : heldF ((l.take (k + 1)).flatMap f) z < 0) : heldF (l.flatMap f) z = -1 := by
  have e : l.flatMap f = (l.take (k + 1)).flatMap f ++ (l.drop (k + 1)).flatMap f := by rw [← List.flatMap_append, List.take_append_drop]
  rw [e, heldF_append hz, if_pos h]
abbrev StepL := Int × Int × List Int
def stepAtOk (ar : List Int) (rs : Rules) (t : List Int) (p r : Int) : Bool := rightB ar rs t && decide (0 ≤ p ∧ p < (t.length : Int)) && decide (0 ≤ r ∧ r < (rs.length : Int))
def stepAtL (ar : List Int) (rs : Rules) (t : List Int) (p r : Int) : Option (List Int) := if stepAtOk ar rs t p r = true then stepL ar rs t p.toNat r.toNat else none
def goOk (ar : List Int) (rs : Rules) : List Int → List StepL → Bool
  | _, [] => true
  | t, s :: ss => decide (stepAtL ar rs t s.1 s.2.1 = some s.2.2) && goOk ar rs s.2.2 ss
def endL (f : List Int) (ss : List StepL) : List Int := if ss.length = 0 then f else (ss.getD (ss.length - 1) (0, 0, [])).2.2
def walkOkL (ar : List Int) (rs : Rules) (f : List Int) (ss : List StepL) : Bool := rightB ar rs f && decide (ss.length ≤ 60) && goOk ar rs f ss
variable {ar : List Int} {rs : Rules} {t f : List Int} {ss : List StepL}
theorem walkOkL_iff : walkOkL ar rs f ss = true ↔ rightB ar rs f = true ∧ ss.length ≤ 60 ∧ goOk ar rs f ss = true := by simp [walkOkL, and_assoc]
theorem stepAtL_ok {p r : Int} {u : List Int} (h : stepAtL ar rs t p r = some u) : rightB ar rs u = true ∧ stepAtOk ar rs t p r = true := by
  unfold stepAtL at h
  split at h
  · rename_i hk
    have hk' := hk
    simp only [stepAtOk, Bool.and_eq_true, decide_eq_true_eq] at hk
    obtain ⟨⟨h1, h2⟩, h3⟩ := hk
    have hs := (right_iff.1 h1).1
    exact ⟨right_iff.2 ⟨hs, stepL_ok hs (right_iff.1 h1).2 (by omega) (by omega) h⟩, hk'⟩
  · cases h
def nowL (f : List Int) (ss : List StepL) (k : Nat) : List Int := endL f (ss.take k)
theorem nowL_zero : nowL f ss 0 = f := by simp [nowL, endL]
theorem nowL_succ {k : Nat} (h : k < ss.length) : nowL f ss (k + 1) = (ss.getD k (0, 0, [])).2.2 := by
  have hl : (ss.take (k + 1)).length = k + 1 := by rw [List.length_take]; omega
  unfold nowL endL
  rw [hl, if_neg (by omega)]
  congr 2
  simp [List.getD, h]
theorem nowL_all : nowL f ss ss.length = endL f ss := by rw [nowL, List.take_length]
theorem goOk_drop {k : Nat} (h : k < ss.length) : goOk ar rs t (ss.drop k) = (decide (stepAtL ar rs t (ss.getD k (0, 0, [])).1 (ss.getD k (0, 0, [])).2.1 = some (ss.getD k (0, 0, [])).2.2) && goOk ar rs (ss.getD k (0, 0, [])).2.2 (ss.drop (k + 1))) := by
  rw [drop_get (0, 0, []) h]; rfl
theorem goOk_end {k : Nat} (h : ss.length ≤ k) : goOk ar rs t (ss.drop k) = true := by rw [List.drop_eq_nil_of_le h]; rfl
theorem goOk_now (h : goOk ar rs f ss = true) (hr : rightB ar rs f = true) : ∀ k, k ≤ ss.length → rightB ar rs (nowL f ss k) = true ∧ goOk ar rs (nowL f ss k) (ss.drop k) = true
  | 0, _ => by rw [nowL_zero]; exact ⟨hr, h⟩
  | k + 1, hk => by
    obtain ⟨h1, h2⟩ := goOk_now h hr k (by omega)
    rw [goOk_drop (by omega), Bool.and_eq_true, decide_eq_true_eq] at h2
    rw [nowL_succ (by omega)]
    exact ⟨(stepAtL_ok h2.1).1, h2.2⟩
theorem walkOk_end (h : walkOkL ar rs f ss = true) : rightB ar rs (endL f ss) = true := by
  obtain ⟨h1, _, h3⟩ := walkOkL_iff.1 h
  have := (goOk_now h3 h1 ss.length (Nat.le_refl _)).1
  rwa [nowL_all] at this
theorem walkOk_step (h : walkOkL ar rs f ss = true) {k : Nat} (hk : k < ss.length) : stepAtL ar rs (nowL f ss k) (ss.getD k (0, 0, [])).1 (ss.getD k (0, 0, [])).2.1 = some (ss.getD k (0, 0, [])).2.2 := by
  obtain ⟨h1, _, h3⟩ := walkOkL_iff.1 h
  have := (goOk_now h3 h1 k (by omega)).2
  rw [goOk_drop hk, Bool.and_eq_true, decide_eq_true_eq] at this
  exact this.1
theorem walkOk_to (h : walkOkL ar rs f ss = true) {k : Nat} (hk : k < ss.length) : termOk ar (ss.getD k (0, 0, [])).2.2 = true := (right_iff.1 (stepAtL_ok (walkOk_step h hk)).1).2
end Go.Proofs.Ytnloeeaidknblaa.M
set_option linter.unusedSimpArgs false
set_option linter.unusedVariables false
namespace Go.Proofs.Ytnloeeaidknblaa.M
section
variable {α : Type} {f : α → Nat} {l : List α} {k : Nat}
def gTo (f : α → Nat) (l : List α) (k : Nat) : Nat := ((l.take k).map f).sum
theorem gTo_succ (d : α) (h : k < l.length) : gTo f l k + f (l.getD k d) = gTo f l (k + 1) := by
  unfold gTo
  rw [take_succ_getD d h]
  simp
theorem gTo_le (d : α) : ∀ (k j : Nat), k ≤ j → j ≤ l.length → gTo f l k ≤ gTo f l j := by
  intro k j hkj
  induction j with
  | zero => intro _; rw [show k = 0 from by omega]; exact Nat.le_refl _
  | succ j ih =>
    intro hj
    rcases Nat.lt_or_ge k (j + 1) with h | h
    · have := ih (by omega) (by omega)
      rw [← gTo_succ d (show j < l.length by omega)]
      omega
    · rw [show k = j + 1 from by omega]; exact Nat.le_refl _
def szG (f : α → Nat) (l : List α) : Nat := l.length + gTo f l l.length
theorem szG_le (d : α) : l.length ≤ szG f l ∧ ∀ i, i < l.length → f (l.getD i d) ≤ szG f l := by
  refine ⟨by unfold szG; omega, fun i hi => ?_⟩
  have h1 := gTo_succ (f := f) d hi
  have h2 := gTo_le (f := f) (l := l) d (i + 1) l.length (by omega) (Nat.le_refl _)
  unfold szG
  omega
theorem ext_any {a b : List α} (d : α) (hl : a.length = b.length) (h : ∀ i, i < a.length → a.getD i d = b.getD i d) : a = b := by
  apply List.ext_getElem hl
  intro i h1 h2
  have := h i h1
  simpa [List.getD_eq_getElem?_getD, h1, h2] using this
end
theorem flatPair_len (rs : Rules) : (rs.flatMap flatPair).length ≤ szR rs := by
  unfold szR szTo
  rw [List.take_length, List.length_flatMap]
  have : (List.map (fun a => (flatPair a).length) rs) = rs.map (fun r => r.1.length + r.2.length) := List.map_congr_left fun r _ => by simp [flatPair]
  rw [this]; omega
theorem dec_le2 {z : Int} {n : Nat} (h : ¬ dec z n < 0) (hz : z ≤ 1048576) : (n : Int) ≤ 1048576 ∧ dec z n ≤ 1048576 ∧ 0 ≤ dec z n := by
  have h1 := dec_le h
  unfold dec at *
  split at h <;> omega
def lenS (s : StepL) : Nat := s.2.2.length
theorem flatStep_len (ss : List StepL) : (ss.flatMap flatStep).length ≤ 2 * ss.length + gTo lenS ss ss.length := by
  unfold gTo
  rw [List.take_length, List.length_flatMap]
  induction ss with
  | nil => simp
  | cons s ss ih => simp [flatStep, lenS] at ih ⊢; omega
section
variable {ar : List Int} {rs : Rules} {t u f : List Int} {ss : List StepL} {st : Int} {m k : Nat}
theorem goOk_next (hk : k < ss.length) (h1 : (stepAtL ar rs t (ss.getD k (0, 0, [])).1 (ss.getD k (0, 0, [])).2.1).isSome = true) (h2 : (stepAtL ar rs t (ss.getD k (0, 0, [])).1 (ss.getD k (0, 0, [])).2.1).getD [] = (ss.getD k (0, 0, [])).2.2) :
    goOk ar rs t (ss.drop k) = goOk ar rs ((stepAtL ar rs t (ss.getD k (0, 0, [])).1 (ss.getD k (0, 0, [])).2.1).getD []) (ss.drop (k + 1)) := by
  rw [goOk_drop hk]
  obtain ⟨v, hv⟩ := Option.isSome_iff_exists.1 h1
  rw [hv] at h2 ⊢
  simp only [Option.getD_some] at h2 ⊢
  subst h2
  simp
theorem goOk_fail (hk : k < ss.length) (h : (stepAtL ar rs t (ss.getD k (0, 0, [])).1 (ss.getD k (0, 0, [])).2.1).isSome = false ∨ (stepAtL ar rs t (ss.getD k (0, 0, [])).1 (ss.getD k (0, 0, [])).2.1).getD [] ≠ (ss.getD k (0, 0, [])).2.2) : goOk ar rs t (ss.drop k) = false := by
  rw [goOk_drop hk, Bool.and_eq_false_iff]
  refine .inl (decide_eq_false fun e => ?_)
  rw [e] at h
  rcases h with h | h
  · cases h
  · exact h rfl
theorem gTo_bound {N : Nat} {l : List StepL} (h : ∀ i, i < l.length → (l.getD i (0, 0, [])).2.2.length ≤ N) : ∀ k, k ≤ l.length → gTo lenS l k ≤ k * N
  | 0, _ => by simp [gTo]
  | k + 1, hk => by
    have h1 := gTo_bound h k (by omega)
    have h2 := h k (by omega)
    rw [← gTo_succ ((0, 0, []) : StepL) (by omega), Nat.succ_mul]
    have : lenS (l.getD k (0, 0, [])) = (l.getD k (0, 0, [])).2.2.length := rfl
    omega
end
end Go.Proofs.Ytnloeeaidknblaa.M
set_option linter.unusedSimpArgs false
set_option linter.unusedVariables false
namespace Go.Proofs.Ytnloeeaidknblaa.M
section
variable {ar : List Int} {rs : Rules} {t f u : List Int} {ss acc : List StepL} {p : Nat} {k : Nat}
end
end Go.Proofs.Ytnloeeaidknblaa.M
set_option linter.unusedSimpArgs false
set_option linter.unusedVariables false
namespace Go.Proofs.Ytnloeeaidknblaa.M
section
variable {ar : List Int} {rs : Rules} {t f : List Int} {ss : List StepL} {s : RowL} {p : Int}
theorem fill_eq {v : List Int} (h : (fillL s f).isSome = true) : fillL s f = some v ↔ (fillL s f).getD [] = v := by
  obtain ⟨x, hx⟩ := Option.isSome_iff_exists.1 h
  rw [hx]; simp
end
end Go.Proofs.Ytnloeeaidknblaa.M
set_option linter.unusedSimpArgs false
set_option linter.unusedVariables false
namespace Go.Proofs.Ytnloeeaidknblaa.X
open Go
def stepsT (P : Program) (l : List Oper) (ρ : Env) (F : FH) (Bs : List HP) (phi : Nat → FH → List Value → Value → Prop) (own : Nat → List Value → Value → List HP) (tb : Nat → List HP) (uses cls tk : List (List Nat)) : List Oper → Nat → Prop
  | [], _ => True
  | o :: r, i => (∀ (vals : Nat → Value) (F1 : FH) (R : List HP), F ≤ F1 → (∀ j ∈ cls.getD i [], phi j F1 ((uses.getD j []).map vals) (vals j)) →
      XG P l.toArray o (canon vals (l.take i) 0 ρ) F1 (takenBy own uses tk vals i ++ (tb i ++ (Bs ++ R))) fun v F' L' => phi i F' ((uses.getD i []).map vals) v ∧ L' = own i ((uses.getD i []).map vals) v ++ (Bs ++ R)) ∧
    stepsT P l ρ F Bs phi own tb uses cls tk r (i + 1)
theorem stepsT_get {P : Program} {l : List Oper} {ρ : Env} {F : FH} {Bs : List HP} {phi : Nat → FH → List Value → Value → Prop} {own : Nat → List Value → Value → List HP} {tb : Nat → List HP} {uses cls tk : List (List Nat)} :
    ∀ (r : List Oper) (i : Nat), stepsT P l ρ F Bs phi own tb uses cls tk r i → ∀ (k : Nat) (o : Oper), r[k]? = some o → ∀ (vals : Nat → Value) (F1 : FH) (R : List HP), F ≤ F1 → (∀ j ∈ cls.getD (i + k) [], phi j F1 ((uses.getD j []).map vals) (vals j)) →
      XG P l.toArray o (canon vals (l.take (i + k)) 0 ρ) F1 (takenBy own uses tk vals (i + k) ++ (tb (i + k) ++ (Bs ++ R))) fun v F' L' => phi (i + k) F' ((uses.getD (i + k) []).map vals) v ∧ L' = own (i + k) ((uses.getD (i + k) []).map vals) v ++ (Bs ++ R)
  | [], _, _, k, o, h => by simp at h
  | q :: r, i, ⟨h1, h2⟩, 0, o, h => by simp at h; subst h; exact h1
  | q :: r, i, ⟨h1, h2⟩, k + 1, o, h => by
    have := stepsT_get r (i + 1) h2 k o (by simpa using h)
    rw [show i + (k + 1) = i + 1 + k from by omega]
    exact this
theorem stepsT.nil {P : Program} {l : List Oper} {ρ : Env} {F : FH} {Bs : List HP} {phi : Nat → FH → List Value → Value → Prop} {own : Nat → List Value → Value → List HP} {tb : Nat → List HP} {uses cls tk : List (List Nat)} {i : Nat} : stepsT P l ρ F Bs phi own tb uses cls tk [] i := trivial
theorem stepsT.cons {P : Program} {l : List Oper} {ρ : Env} {F : FH} {Bs : List HP} {phi : Nat → FH → List Value → Value → Prop} {own : Nat → List Value → Value → List HP} {tb : Nat → List HP} {uses cls tk : List (List Nat)} {i : Nat} {o : Oper} {r : List Oper}
    (h : ∀ (vals : Nat → Value) (F1 : FH) (R : List HP), F ≤ F1 → (∀ j ∈ cls.getD i [], phi j F1 ((uses.getD j []).map vals) (vals j)) →
      XG P l.toArray o (canon vals (l.take i) 0 ρ) F1 (takenBy own uses tk vals i ++ (tb i ++ (Bs ++ R))) fun v F' L' => phi i F' ((uses.getD i []).map vals) v ∧ L' = own i ((uses.getD i []).map vals) v ++ (Bs ++ R))
    (k : stepsT P l ρ F Bs phi own tb uses cls tk r (i + 1)) : stepsT P l ρ F Bs phi own tb uses cls tk (o :: r) i := ⟨h, k⟩
def restH (tb : Nat → List HP) (m : Nat) (ex : List Nat) : List HP := ((List.range m).filter fun i => !ex.contains i).flatMap tb
theorem restH_nil {tb : Nat → List HP} {m : Nat} {ex : List Nat} (h : ∀ i, i < m → i ∈ ex) : restH tb m ex = [] := by
  have : (List.range m).filter (fun i => !ex.contains i) = [] := by
    rw [List.filter_eq_nil_iff]
    intro i hi
    simpa using h i (List.mem_range.1 hi)
  rw [restH, this]; rfl
theorem restH_all {tb : Nat → List HP} {m : Nat} : restH tb m [] = (List.range m).flatMap tb := by
  rw [restH, List.filter_eq_self.2 (by simp)]
theorem restH_split {tb : Nat → List HP} {m i : Nat} {ex : List Nat} (hi : i < m) (hn : i ∉ ex) : (restH tb m ex).Perm (tb i ++ restH tb m (i :: ex)) := by
  have hp : ((List.range m).filter fun k => !ex.contains k).Perm (i :: (List.range m).filter fun k => !(i :: ex).contains k) := by
    refine perm_of_mem (List.nodup_range.filter _) (List.nodup_cons.2 ⟨by simp, List.nodup_range.filter _⟩) fun k => ?_
    simp only [List.mem_filter, List.mem_range, List.mem_cons, List.contains_eq_mem, Bool.not_eq_true', decide_eq_false_iff_not]
    constructor
    · rintro ⟨h1, h2⟩
      rcases Classical.em (k = i) with e | e
      · exact .inl e
      · exact .inr ⟨h1, fun h => h.elim e h2⟩
    · rintro (rfl | ⟨h1, h2⟩)
      · exact ⟨hi, hn⟩
      · exact ⟨h1, fun h => h2 (.inr h)⟩
  exact hp.flatMap_right tb
theorem perm3 {α : Type} {A B C : List α} : (A ++ (B ++ C)).Perm (B ++ (A ++ C)) := by
  rw [← List.append_assoc, ← List.append_assoc]
  exact List.perm_append_comm.append_right C
theorem permH {α : Type} {M T W B R S R' Z : List α} (p1 : M.Perm (T ++ W)) (p2 : R.Perm (S ++ R')) : (M ++ (B ++ (R ++ Z))).Perm (T ++ (S ++ (B ++ (W ++ (R' ++ Z))))) := by
  have q1 : (R ++ Z).Perm (S ++ (R' ++ Z)) := by rw [← List.append_assoc]; exact p2.append_right Z
  have q2 : (W ++ (B ++ (S ++ (R' ++ Z)))).Perm (S ++ (B ++ (W ++ (R' ++ Z)))) := by
    have a1 : (W ++ (B ++ (S ++ (R' ++ Z)))).Perm (W ++ (S ++ (B ++ (R' ++ Z)))) := List.Perm.append_left _ perm3
    have a2 : (W ++ (S ++ (B ++ (R' ++ Z)))).Perm (S ++ (W ++ (B ++ (R' ++ Z)))) := perm3
    have a3 : (W ++ (B ++ (R' ++ Z))).Perm (B ++ (W ++ (R' ++ Z))) := perm3
    exact a1.trans (a2.trans (List.Perm.append_left _ a3))
  refine (p1.append_right _).trans ?_
  rw [List.append_assoc]
  exact List.Perm.append_left _ ((List.Perm.append_left _ (List.Perm.append_left _ q1)).trans q2)
theorem X.drawH {P : Program} {n id : Nat} {Q : QX} {ρ : Env} {F : FH} {L : List HP} {l : List Oper} (Bs L0 : List HP) (m : Nat) (uses cls tk : List (List Nat)) (phi : Nat → FH → List Value → Value → Prop) (own : Nat → List Value → Value → List HP) (tb : Nat → List HP)
    (hmix : P.follows .mixedOrders = true) (hL : L = (List.range m).flatMap tb ++ (Bs ++ L0)) (hm : Nat.ble m l.length = true) (hok : drawOk l m uses cls = true) (htk : takeOk l m tk = true)
    (hmono : ∀ i F F' us v, F ≤ F' → phi i F us v → phi i F' us v)
    (hstep : stepsT P l ρ F Bs phi own tb uses cls tk (l.take m) 0)
    (hend : ∀ (vals : Nat → Value) (F1 : FH), F ≤ F1 → (∀ i, i < m → phi i F1 ((uses.getD i []).map vals) (vals i)) → XL P n l.toArray (l.drop m) Q (canon vals (l.take m) 0 ρ) F1 (madeG own uses tk vals (List.range m) ++ (Bs ++ L0))) :
    X P n (.region id l.toArray true) Q ρ F L := by
  subst hL
  have hm' : m ≤ l.length := Nat.le_of_ble_eq_true hm
  have ok := drawOk_spec hok
  obtain ⟨tk1, tk2, tk3⟩ := takeOk_spec htk
  intro cok a w r H
  have cok' : opsOk n l = true := by simpa [cOk] using cok
  refine wp_region_any hmix ?_
  have H1 : Holds F (Bs ++ (restH tb m [] ++ L0)) { w with drawn := w.drawn + 1 } := by
    refine Sub.holds (Sub.perm ?_) H.drew
    rw [restH_all, ← List.append_assoc, ← List.append_assoc]
    exact List.perm_append_comm.append_right L0
  generalize { w with drawn := w.drawn + 1 } = w0 at H1
  -- the tail, in its text's order
  have tailP : ∀ (k : Nat) (fuel : Nat) (listed : Array Bool) (a : Act) (w : World), fuel + k = l.length → m ≤ k → listed.size = l.length → (∀ i, i < k → listed.getD i true = true) → (∀ i, k ≤ i → i < l.length → listed.getD i true = false) →
      wpList P l.toArray (low n F Q) (l.drop k) a w → wpAny P .any l.toArray (low n F Q) fuel listed a w := by
    intro k fuel
    induction fuel generalizing k with
    | zero =>
      intro listed a w hk hmk hsz hin hout h
      have hk' : k = l.length := by omega
      subst hk'
      rw [List.drop_length] at h
      refine ⟨?_, h⟩
      unfold Region.ready
      rw [List.filter_eq_nil_iff]
      intro i hi
      have hi' : i < l.length := by simpa using hi
      simp [hin i hi']
    | succ fuel ih =>
      intro listed a w hk hmk hsz hin hout h
      have hkl : k < l.length := by omega
      obtain ⟨o, ho⟩ : ∃ o, l[k]? = some o := ⟨l[k], List.getElem?_eq_getElem hkl⟩
      have hready : ∀ i, i ∈ Region.ready .any l.toArray listed → i = k := by
        intro i hi
        obtain ⟨hun, oi, hoi, hall⟩ := mem_ready.1 hi
        have hoi' : l[i]? = some oi := by simpa using hoi
        have hil : i < l.length := (List.getElem?_eq_some_iff.1 hoi').1
        have hki : k ≤ i := by
          rcases Nat.lt_or_ge i k with h' | h'
          · have := hin i h'; rw [this] at hun; cases hun
          · exact h'
        rcases Nat.lt_or_ge k i with h' | h'
        · -- k is ahead of i: so some edge of i's leads to k, which is not listed
          exfalso
          have hmem := ok.tail i (by omega) hil k h'
          have key : ∀ (t j : Nat), (∀ oj : Oper, l[j]? = some oj → ∀ e ∈ oj.after, Region.binds .any e = true → listed.getD e.on false = true) → j ≤ t → k ∈ clo l j → (j < l.length) → False := by
            intro t
            induction t with
            | zero =>
              intro j hj hjt hkj hjl
              obtain ⟨e, he, hb, hlt, _⟩ := mem_clo (List.getElem?_eq_getElem hjl) hkj
              omega
            | succ t iht =>
              intro j hj hjt hkj hjl
              obtain ⟨e, he, hb, hlt, hor⟩ := mem_clo (List.getElem?_eq_getElem hjl) hkj
              have hl := hj _ (List.getElem?_eq_getElem hjl) e (by simpa using he) hb
              rcases hor with rfl | hmem
              · have := hout _ (Nat.le_refl _) hkl
                simp only [Array.getD_eq_getD_getElem?] at this hl
                rw [Array.getElem?_eq_getElem (by omega)] at this hl
                simp at this hl
                rw [this] at hl; cases hl
              · have hon : e.on < k := by
                  rcases Nat.lt_or_ge e.on k with h'' | h''
                  · exact h''
                  · have := hout e.on h'' (by omega)
                    simp only [Array.getD_eq_getD_getElem?] at this hl
                    rw [Array.getElem?_eq_getElem (by omega)] at this hl
                    simp at this hl
                    rw [this] at hl; cases hl
                -- below k everything in the closure is below k
                obtain ⟨e2, he2, hb2, hlt2, hor2⟩ := mem_clo (List.getElem?_eq_getElem (show e.on < l.length by omega)) hmem
                have low : ∀ (t j : Nat), j ≤ t → j < k → k ∈ clo l j → False := by
                  intro t
                  induction t with
                  | zero => intro j hjt hjk hkj; obtain ⟨e, _, _, hlt, _⟩ := mem_clo (List.getElem?_eq_getElem (show j < l.length by omega)) hkj; omega
                  | succ t iht2 =>
                    intro j hjt hjk hkj
                    obtain ⟨e, _, _, hlt, hor⟩ := mem_clo (List.getElem?_eq_getElem (show j < l.length by omega)) hkj
                    rcases hor with rfl | hmem
                    · omega
                    · exact iht2 e.on (by omega) (by omega) hmem
                exact low _ _ (Nat.le_refl _) hon hmem
          refine key i i (fun oj hoj e he hb => ?_) (Nat.le_refl _) hmem hil
          rw [hoi'] at hoj; cases hoj
          exact hall e he hb
        · omega
      have hkready : k ∈ Region.ready .any l.toArray listed := by
        refine mem_ready.2 ⟨hout k (Nat.le_refl _) hkl, o, by simpa using ho, fun e he hb => ?_⟩
        have hlt := ok.back k o ho e (by simpa using he) hb
        have := hin e.on hlt
        simp only [Array.getD_eq_getD_getElem?] at this ⊢
        rw [Array.getElem?_eq_getElem (by omega)] at this ⊢
        simpa using this
      refine ⟨fun h0 => (by rw [h0] at hkready; cases hkready), fun i hi => ?_⟩
      obtain rfl := hready i hi
      have hdrop : l.drop i = o :: l.drop (i + 1) := by
        rw [List.drop_eq_getElem_cons hkl]
        have := (List.getElem?_eq_some_iff.1 ho).2
        rw [this]
      rw [hdrop] at h
      unfold wpList at h
      unfold wpOp
      have hoA : l.toArray[i]? = some o := by simpa using ho
      rw [hoA]
      have nxt : ∀ a' w', wpList P l.toArray (low n F Q) (l.drop (i + 1)) a' w' → wpAny P .any l.toArray (low n F Q) fuel (listed.setIfInBounds i true) a' w' := by
        intro a' w' h'
        refine ih (i + 1) (listed.setIfInBounds i true) a' w' (by omega) (by omega) (by simp [hsz]) ?_ ?_ h'
        · intro j hj
          simp only [Array.getD_eq_getD_getElem?, Array.getElem?_setIfInBounds]
          by_cases hij : i = j
          · subst hij; simp [hsz, hkl]
          · simp only [hij, if_false]
            have := hin j (by omega)
            simpa [Array.getD_eq_getD_getElem?] using this
        · intro j hj hjl
          simp only [Array.getD_eq_getD_getElem?, Array.getElem?_setIfInBounds]
          have hij : ¬ i = j := by omega
          simp only [hij, if_false]
          have := hout j (by omega) hjl
          simpa [Array.getD_eq_getD_getElem?] using this
      show (if Region.wanted o (yielded l.toArray a.tmps) = true then _ else _)
      split
      · rename_i hw
        rw [if_pos hw] at h
        exact h.imp (Oper.wp_mono nxt) (fun q => q)
      · rename_i hw
        rw [if_neg hw] at h
        exact nxt _ _ h
  -- all of the head is done
  have finish : ∀ (fuel : Nat) (F1 : FH) (le1 : F ≤ F1) (listed : Array Bool) (ex : List Nat) (vals : Nat → Value) (a : Act) (w : World), fuel + ex.length = l.length → listed.size = l.length → ex.Nodup → (∀ i, i ∈ ex ↔ i < m) →
      (∀ i, i < l.length → (listed.getD i true = true ↔ i ∈ ex)) → (∀ i ∈ ex, phi i F1 ((uses.getD i []).map vals) (vals i)) →
      a.tmps.size = n → a.defers = [] → (∀ i ∈ ex, ∀ o : Oper, l[i]? = some o → ∀ s, o.dst = some s → a.tmps.getD s undef = vals i) → (∀ s, (∀ i ∈ ex, ∀ o : Oper, l[i]? = some o → o.dst ≠ some s) → a.tmps.getD s undef = ρ s) →
      Holds F1 (madeG own uses tk vals ex ++ (Bs ++ (restH tb m ex ++ L0))) w → wpAny P .any l.toArray (low n F Q) fuel listed a w := by
    intro fuel F1 le1 listed ex vals a w hf hsz hnd hmem hlist hphi hsize hdef hs1 hs2 HH
    have hperm : ex.Perm (List.range m) := perm_of_mem hnd List.nodup_range (fun i => by rw [hmem]; simp)
    have hlen : ex.length = m := by rw [hperm.length_eq]; simp
    rw [restH_nil (fun i hi => (hmem i).2 hi), List.nil_append] at HH
    have hX := hend vals F1 le1 (fun i hi => hphi i ((hmem i).2 hi))
    have hone : ∀ (i j : Nat) (o q : Oper), (l.take m)[i]? = some o → (l.take m)[j]? = some q → ∀ d, o.dst = some d → q.dst = some d → i = j := by
      intro i j o q ho hq d hd hqd
      rw [List.getElem?_take] at ho hq
      split at ho
      · split at hq
        · rename_i h1 h2
          exact ok.one i j o q h1 h2 ho hq d hd hqd
        · cases hq
      · cases ho
    have rep : Rep n a (canon vals (l.take m) 0 ρ) := by
      refine ⟨hsize, hdef, fun s => ?_⟩
      obtain ⟨c1, c2⟩ := canon_get vals (l.take m) 0 ρ s hone
      by_cases hw : ∃ i o, i < m ∧ l[i]? = some o ∧ o.dst = some s
      · obtain ⟨i, o, hi, ho, hd⟩ := hw
        rw [hs1 i ((hmem i).2 hi) o ho s hd, c1 i o (by rw [List.getElem?_take, if_pos hi]; exact ho) hd, Nat.zero_add]
      · rw [hs2 s (fun i hi o ho hd => hw ⟨i, o, (hmem i).1 hi, ho, hd⟩), c2 (fun i o ho hd => by
          rw [List.getElem?_take] at ho
          split at ho
          · rename_i hi; exact hw ⟨i, o, hi, ho, hd⟩
          · cases ho)]
    have hsub : Sub (madeG own uses tk vals ex ++ (Bs ++ L0)) (madeG own uses tk vals (List.range m) ++ (Bs ++ L0)) :=
      Sub.append (Sub.perm (madeG_perm hperm)) (Sub.refl _)
    have hwp := wpList_mono (fun _ _ _ => low_le le1) _ _ _ (hX (by
      simp only [opsOk, List.all_eq_true] at cok' ⊢
      exact fun o ho => cok' o (List.mem_of_mem_drop ho)) a w rep (hsub.holds HH))
    exact tailP m fuel listed a w (by omega) (Nat.le_refl _) hsz (fun i hi => (hlist i (by omega)).2 ((hmem i).2 hi)) (fun i hi hil => by
      cases hb : listed.getD i true with
      | false => rfl
      | true => have := (hmem i).1 ((hlist i hil).1 hb); omega) hwp
  -- the head, in any order
  have headP : ∀ (fuel : Nat) (F1 : FH) (le1 : F ≤ F1) (listed : Array Bool) (ex : List Nat) (vals : Nat → Value) (a : Act) (w : World), fuel + ex.length = l.length → listed.size = l.length → ex.Nodup → (∀ i, i ∈ ex → i < m) →
      (∀ i, i < l.length → (listed.getD i true = true ↔ i ∈ ex)) → (∀ i ∈ ex, ∀ j ∈ clo l i, j ∈ ex) → (∀ i ∈ ex, phi i F1 ((uses.getD i []).map vals) (vals i)) →
      a.tmps.size = n → a.defers = [] → (∀ i ∈ ex, ∀ o : Oper, l[i]? = some o → ∀ s, o.dst = some s → a.tmps.getD s undef = vals i) → (∀ s, (∀ i ∈ ex, ∀ o : Oper, l[i]? = some o → o.dst ≠ some s) → a.tmps.getD s undef = ρ s) →
      Holds F1 (madeG own uses tk vals ex ++ (Bs ++ (restH tb m ex ++ L0))) w → wpAny P .any l.toArray (low n F Q) fuel listed a w := by
    intro fuel
    induction fuel with
    | zero =>
      intro F1 le1 listed ex vals a w hf hsz hnd hlt hlist hdown hphi hsize hdef hs1 hs2 HH
      have hall : ∀ i, i ∈ ex ↔ i < m := by
        intro i
        refine ⟨hlt i, fun hi => ?_⟩
        rcases Classical.em (i ∈ ex) with h' | h'
        · exact h'
        · have := nodup_lt m (i :: ex) (List.nodup_cons.2 ⟨h', hnd⟩) (fun k hk => by
            rcases List.mem_cons.1 hk with rfl | hk
            · exact hi
            · exact hlt k hk)
          simp at this
          omega
      exact finish 0 F1 le1 listed ex vals a w hf hsz hnd hall hlist hphi hsize hdef hs1 hs2 HH
    | succ fuel ih =>
      intro F1 le1 listed ex vals a w hf hsz hnd hlt hlist hdown hphi hsize hdef hs1 hs2 HH
      by_cases hcov : ∀ i, i < m → i ∈ ex
      · exact finish (fuel + 1) F1 le1 listed ex vals a w hf hsz hnd (fun i => ⟨hlt i, hcov i⟩) hlist hphi hsize hdef hs1 hs2 HH
      -- an operation that is ready: what stands ahead of it is done
      have ahead : ∀ i ∈ Region.ready .any l.toArray listed, i < l.length ∧ i ∉ ex ∧ ∀ j ∈ clo l i, j ∈ ex := by
        intro i hi
        obtain ⟨hun, o, ho, hall⟩ := mem_ready.1 hi
        have ho' : l[i]? = some o := by simpa using ho
        have hil : i < l.length := (List.getElem?_eq_some_iff.1 ho').1
        refine ⟨hil, fun hm => ?_, fun j hj => ?_⟩
        · rw [(hlist i hil).2 hm] at hun; cases hun
        · obtain ⟨e, he, hb, hlt', hor⟩ := mem_clo ho' hj
          have hl := hall e (by simpa using he) hb
          have hex : e.on ∈ ex := by
            refine (hlist e.on (by omega)).1 ?_
            simp only [Array.getD_eq_getD_getElem?] at hl ⊢
            rw [Array.getElem?_eq_getElem (by omega)] at hl ⊢
            simpa using hl
          rcases hor with rfl | hj'
          · exact hex
          · exact hdown _ hex _ hj'
      have small : ∀ i ∈ Region.ready .any l.toArray listed, i < m := by
        intro i hi
        obtain ⟨hil, _, hc⟩ := ahead i hi
        rcases Nat.lt_or_ge i m with h' | h'
        · exact h'
        · exact absurd (fun j hj => hc j (ok.tail i h' hil j (by omega))) hcov
      refine ⟨fun h0 => ?_, fun i hi => ?_⟩
      · -- not all is done, so something is ready: the least that is not listed
        exfalso
        apply hcov
        intro i
        induction i using Nat.strongRecOn with
        | _ i ihs =>
          intro him
          rcases Classical.em (i ∈ ex) with h' | h'
          · exact h'
          · exfalso
            have hil : i < l.length := by omega
            have : i ∈ Region.ready .any l.toArray listed := by
              refine mem_ready.2 ⟨?_, l[i], by simp [hil], fun e he hb => ?_⟩
              · cases hb : listed.getD i true with
                | false => rfl
                | true => exact absurd ((hlist i hil).1 hb) h'
              · have hlt' := ok.back i l[i] (List.getElem?_eq_getElem hil) e (by simpa using he) hb
                have := (hlist e.on (by omega)).2 (ihs e.on hlt' (by omega))
                simp only [Array.getD_eq_getD_getElem?] at this ⊢
                rw [Array.getElem?_eq_getElem (by omega)] at this ⊢
                simpa using this
            rw [h0] at this
            cases this
      · obtain ⟨hil, hnex, hclo⟩ := ahead i hi
        have him := small i hi
        obtain ⟨o, ho⟩ : ∃ o, l[i]? = some o := ⟨l[i], List.getElem?_eq_getElem hil⟩
        have hG := stepsT_get (l.take m) 0 hstep i o (by rw [List.getElem?_take, if_pos him]; exact ho) vals F1 (madeW own uses tk vals i ex ++ (restH tb m (i :: ex) ++ L0)) le1 (fun j hj => hphi j (hclo j (ok.cls i hil j (by simpa using hj))))
        rw [Nat.zero_add] at hG
        have H2 : Holds F1 (takenBy own uses tk vals i ++ (tb i ++ (Bs ++ (madeW own uses tk vals i ex ++ (restH tb m (i :: ex) ++ L0))))) w :=
          Sub.holds (Sub.perm (permH (madeG_split (own := own) (uses := uses) (vals := vals) hnd (tk3 i him) (fun j hj => hclo j (tk1 i him j hj)) (fun j hj k hk e => hnex (by rw [← tk2 k i (hlt k hk) him j e hj]; exact hk))) (restH_split him hnex))) HH
        have hone : ∀ (k j : Nat) (o q : Oper), (l.take i)[k]? = some o → (l.take i)[j]? = some q → ∀ d, o.dst = some d → q.dst = some d → k = j := by
          intro k j o q ho hq d hd hqd
          rw [List.getElem?_take] at ho hq
          split at ho
          · split at hq
            · rename_i h1 h2
              exact ok.one k j o q (by omega) (by omega) ho hq d hd hqd
            · cases hq
          · cases ho
        have slot : ∀ s ∈ o.looksAt l.toArray, a.tmps.getD s undef = canon vals (l.take i) 0 ρ s := by
          intro s hs
          obtain ⟨c1, c2⟩ := canon_get vals (l.take i) 0 ρ s hone
          by_cases hw : ∃ j q, j < m ∧ l[j]? = some q ∧ q.dst = some s
          · obtain ⟨j, q, hj, hq, hd⟩ := hw
            obtain ⟨hjc, hji⟩ := ok.read i j o q him hj ho hq s hs hd
            rw [hs1 j (hclo j hjc) q hq s hd, c1 j q (by rw [List.getElem?_take, if_pos hji]; exact hq) hd, Nat.zero_add]
          · rw [hs2 s (fun j hj q hq hd => hw ⟨j, q, hlt j hj, hq, hd⟩), c2 (fun j q hq hd => by
              rw [List.getElem?_take] at hq
              split at hq
              · rename_i hj; exact hw ⟨j, q, by omega, hq, hd⟩
              · cases hq)]
        have hev : execOp a.eval o = execOp (evO (canon vals (l.take i) 0 ρ)) o := by
          refine execOp_congr o (ok.sel i o ho) fun x hx => ?_
          cases x with
          | tmp t => exact slot t (List.mem_append_left _ (List.mem_filterMap.2 ⟨.tmp t, by simpa using hx, rfl⟩))
          | _ => rfl
        have hus : ∀ j ∈ uses.getD i [], j ≠ i := fun j hj e => hnex (hclo i (e ▸ ok.uses i hil j hj))
        have husx : ∀ k ∈ ex, i ∉ uses.getD k [] := fun k hk hm => hnex (hdown k hk i (ok.uses k (by have := hlt k hk; omega) i hm))
        have hdo : dOk n o.dst = true := by
          simp only [opsOk, List.all_eq_true] at cok'
          exact cok' o (List.mem_of_getElem? ho)
        have next : ∀ v F2 w', F1 ≤ F2 → Holds F2 (own i ((uses.getD i []).map vals) v ++ (Bs ++ (madeW own uses tk vals i ex ++ (restH tb m (i :: ex) ++ L0)))) w' → phi i F2 ((uses.getD i []).map vals) v → wpAny P .any l.toArray (low n F Q) fuel (listed.setIfInBounds i true) (a.put o.dst v) w' := by
          intro v F2 w' le2 H3 hp
          have hi' : (uses.getD i []).map (fun j => if j = i then v else vals j) = (uses.getD i []).map vals := map_upd (fun h => hus i h rfl)
          have hx' : ∀ k ∈ ex, (uses.getD k []).map (fun j => if j = i then v else vals j) = (uses.getD k []).map vals := fun k hk => map_upd (husx k hk)
          have hki : ∀ k ∈ ex, k ≠ i := fun k hk e => hnex (e ▸ hk)
          have hself : (i :: ex).any (fun k => (tk.getD k []).contains i) = false := by
            rw [List.any_eq_false]
            intro k hk hc
            have hc' : i ∈ tk.getD k [] := by simpa using hc
            rcases List.mem_cons.1 hk with rfl | hk
            · exact clo_irrefl ok (by omega) (tk1 k him k hc')
            · exact hnex (hdown k hk i (tk1 k (hlt k hk) i hc'))
          have hmade : madeG own uses tk (fun j => if j = i then v else vals j) (i :: ex) = own i ((uses.getD i []).map vals) v ++ madeW own uses tk vals i ex := by
            simp only [madeG, madeW, List.flatMap_cons, hi', if_true]
            rw [hself]
            simp only [Bool.false_eq_true, if_false]
            congr 1
            rw [List.flatMap_def, List.flatMap_def]
            congr 1
            apply List.map_congr_left
            intro k hk
            rw [hx' k hk, if_neg (hki k hk), List.any_cons]
          refine ih F2 (FLe.trans le1 le2) (listed.setIfInBounds i true) (i :: ex) (fun j => if j = i then v else vals j) _ w' (by simp; omega) (by simp [hsz]) (List.nodup_cons.2 ⟨hnex, hnd⟩) ?_ ?_ ?_ ?_ ?_ ?_ ?_ ?_ ?_
          · intro k hk; rcases List.mem_cons.1 hk with rfl | hk
            · exact him
            · exact hlt k hk
          · intro k hk
            simp only [Array.getD_eq_getD_getElem?, Array.getElem?_setIfInBounds, List.mem_cons]
            by_cases hik : i = k
            · subst hik; simp [hsz, hil]
            · have := hlist k hk
              simp only [Array.getD_eq_getD_getElem?] at this
              simp only [hik, if_false, this]
              constructor
              · exact fun h => .inr h
              · rintro (rfl | h)
                · exact absurd rfl hik
                · exact h
          · intro k hk j hj
            rcases List.mem_cons.1 hk with rfl | hk
            · exact List.mem_cons_of_mem _ (hclo j hj)
            · exact List.mem_cons_of_mem _ (hdown k hk j hj)
          · intro k hk
            rcases List.mem_cons.1 hk with rfl | hk
            · rw [hi', if_pos rfl]; exact hp
            · rw [hx' k hk, if_neg (hki k hk)]; exact hmono _ _ _ _ _ le2 (hphi k hk)
          · cases o.dst <;> simp [Act.put, hsize]
          · cases o.dst <;> simp [Act.put, hdef]
          · intro k hk q hq s hd
            rcases List.mem_cons.1 hk with rfl | hk
            · rw [ho] at hq; cases hq
              rw [if_pos rfl, hd]
              have hsn : s < n := by rw [hd] at hdo; exact Nat.le_of_ble_eq_true hdo
              simp [Act.put, Array.getD_eq_getD_getElem?, Array.getElem?_setIfInBounds, hsize, hsn]
            · rw [if_neg (hki k hk)]
              have hne : o.dst ≠ some s := fun e => hki k hk (ok.one k i q o (hlt k hk) him hq ho s hd e)
              have := hs1 k hk q hq s hd
              cases hod : o.dst with
              | none => simpa [Act.put] using this
              | some d =>
                have hds : d ≠ s := fun e => hne (by rw [hod, e])
                simp only [Act.put, Array.getD_eq_getD_getElem?, Array.getElem?_setIfInBounds_ne hds] at this ⊢
                exact this
          · intro s hno
            have hne : o.dst ≠ some s := hno i List.mem_cons_self o ho
            have := hs2 s (fun k hk q hq => hno k (List.mem_cons_of_mem _ hk) q hq)
            cases hod : o.dst with
            | none => simpa [Act.put] using this
            | some d =>
              have hds : d ≠ s := fun e => hne (by rw [hod, e])
              simp only [Act.put, Array.getD_eq_getD_getElem?, Array.getElem?_setIfInBounds_ne hds] at this ⊢
              exact this
          · rw [hmade]
            refine Sub.holds (Sub.perm ?_) H3
            rw [List.append_assoc]
            exact List.Perm.append_left _ perm3
        have opwp : XOp P o (canon vals (l.take i) 0 ρ) F1 (takenBy own uses tk vals i ++ (tb i ++ (Bs ++ (madeW own uses tk vals i ex ++ (restH tb m (i :: ex) ++ L0))))) (fun v F' L' => phi i F' ((uses.getD i []).map vals) v ∧ L' = own i ((uses.getD i []).map vals) v ++ (Bs ++ (madeW own uses tk vals i ex ++ (restH tb m (i :: ex) ++ L0)))) →
            o.wp P a w (wpAny P .any l.toArray (low n F Q) fuel (listed.setIfInBounds i true)) (low n F Q) := by
          intro hop
          unfold Oper.wp
          rw [hev]
          rcases hop w H2 with ⟨v, w', F', L', h1, h4, h3, hp, rfl⟩ | ⟨w', F', L', h1, h4, h3, hp, rfl⟩ | ⟨f, args, w', h1, h2⟩
          · rw [h1]; exact next v F' w' h4 h3 hp
          · rw [h1]; exact next undef F' w' h4 h3 hp
          · rw [h1]
            refine h2.mono fun e w'' ⟨v, F', L', he, h4, hH, hk⟩ => ?_
            obtain ⟨hp, rfl⟩ := hk
            subst he
            exact next v F' w'' h4 hH hp
        unfold wpOp
        have hoA : l.toArray[i]? = some o := by simpa using ho
        rw [hoA]
        show (if Region.wanted o (yielded l.toArray a.tmps) = true then _ else _)
        unfold XG at hG
        cases hg : o.guard with
        | none =>
          rw [hg] at hG
          rw [if_pos (by simp [Region.wanted, hg])]
          exact .inl (opwp hG)
        | some gw =>
          obtain ⟨j, want⟩ := gw
          rw [hg] at hG
          obtain ⟨t, b, ht, hv, hif⟩ := hG
          have hy : yielded l.toArray a.tmps j = some b := by
            unfold yielded
            rw [ht]
            have hts := slot t (List.mem_append_right _ (by simp only [hg]; simpa using ht))
            rw [hv, Array.getD_eq_getD_getElem?] at hts
            cases hx : a.tmps[t]? with
            | none => rw [hx] at hts; simp [undef] at hts
            | some x => rw [hx] at hts; simp at hts; subst hts; simp [hx]
          by_cases hb : b = want
          · rw [if_pos hb] at hif
            rw [if_pos (by simp [Region.wanted, hg, hy, hb])]
            exact .inl (opwp hif)
          · rw [if_neg hb] at hif
            rw [if_neg (by simp [Region.wanted, hg, hy, hb])]
            obtain ⟨hp, hL'⟩ := hif
            exact next undef F1 w (FLe.refl _) (by rw [← hL']; exact H2) hp
  refine headP l.toArray.size F (FLe.refl F) (Array.replicate l.toArray.size false) [] (fun _ => undef) a w0 (by simp) (by simp) List.nodup_nil (by simp) ?_ (by simp) (by simp) r.size r.defers (by simp) (fun s _ => r.get s) H1
  intro i hi
  simp only [Array.getD_eq_getD_getElem?, Array.getElem?_replicate]
  simp [hi]
end Go.Proofs.Ytnloeeaidknblaa.X
set_option linter.unusedSimpArgs false
set_option linter.unusedVariables false
namespace Go.Proofs.Ytnloeeaidknblaa.X
open Go
def FR (r : Option Nat) : Fence := { Fence.wide with round := r }
theorem callsIn_FR {r : Option Nat} {n : Nat} {P : Program} {f : FuncId} {args : Array Value} {w : World} {R : Ending → World → Prop} (h : Calls P f args w R) : CallsIn (FR r) n P f args w R := by
  have h1 : CallsIn Fence.wide n P f args w R := callsIn_wide.2 h
  exact h1
structure RepD (n : Nat) (d : List Deferred) (a : Act) (ρ : Env) : Prop where
  size : a.tmps.size = n
  defers : a.defers = d
  get : ∀ i, a.tmps.getD i undef = ρ i
theorem RepD.eval {n : Nat} {d : List Deferred} {a : Act} {ρ : Env} (h : RepD n d a ρ) : a.eval = evO ρ := by
  funext x
  cases x <;> first | rfl | exact h.get _
theorem RepD.put {n : Nat} {ds : List Deferred} {a : Act} {ρ : Env} (h : RepD n ds a ρ) {d : Option Tmp} (hd : dOk n d = true) (v : Value) : RepD n ds (a.put d v) (putE ρ d v) := by
  have h' : Rep n { a with defers := [] } ρ := ⟨h.size, rfl, h.get⟩
  have := h'.put hd v
  refine ⟨?_, ?_, ?_⟩
  · have := this.size; cases d <;> exact this
  · cases d <;> exact h.defers
  · have := this.get; cases d <;> exact this
section
variable {P : Program} {n : Nat} {r0 : Option Nat} {d0 : List Deferred} {ops : Array Oper} {l : List Oper} {Q : QX} {ρ : Env} {F : FH} {L : List HP}
theorem wpIn_of_XOp {o : Oper} {K : Post} {a : Act} {w : World} {Q : Exit → Act → World → Prop} {N : Act → World → Prop}
    (h : XOp P o ρ F L K) (r : RepD n d0 a ρ) (H : Holds F L w) (hd : dOk n o.dst = true) (hn : ∀ c, o.op ≠ .defer c)
    (hN : ∀ v F' L' w', F ≤ F' → Holds F' L' w' → K v F' L' → RepD n d0 (a.put o.dst v) (putE ρ o.dst v) → N (a.put o.dst v) w') : o.wpIn (FR r0) 9 P a w N Q := by
  refine ⟨fun _ _ => trivial, ?_⟩
  rw [Oper.semAt_eq _ _ _ hn, r.eval]
  rcases h w H with ⟨v, w', F', L', h1, h2, h3, h4⟩ | ⟨w', F', L', h1, h2, h3, h4⟩ | ⟨f, args, w', h1, h2⟩
  · rw [h1]; exact hN v F' L' w' h2 h3 h4 (r.put hd v)
  · rw [h1]; exact hN undef F' L' w' h2 h3 h4 (r.put hd undef)
  · rw [h1]
    refine ⟨fun _ => by decide, callsIn_FR (h2.mono fun e w'' ⟨v, F', L', he, hle, hH, hk⟩ => ?_)⟩
    subst he
    exact hN v F' L' w'' hle hH hk (r.put hd v)
def Yld (P : Program) (l : Nat) (args : List Value) (F : FH) (L : List HP) (K : Post) : Prop :=
  ∀ w, Holds F L w → YieldAt Fence.wide 9 P l args.toArray w fun e w' => ∃ v F' L', e = .returned v ∧ F ≤ F' ∧ Holds F' L' w' ∧ K v F' L'
theorem Yld.mono {k : Nat} {args : List Value} {K K' : Post} (h : Yld P k args F L K) (hk : ∀ v F' L', F ≤ F' → K v F' L' → K' v F' L') : Yld P k args F L K' := by
  intro w H
  obtain ⟨fn, tmps, assign, body, hy, hr⟩ := h w H
  exact ⟨fn, tmps, assign, body, hy, hr.mono fun e w' ⟨v, F', L', a, b, c, d⟩ => ⟨v, F', L', a, b, c, hk _ _ _ b d⟩⟩
theorem Yld.weaken {k : Nat} {args : List Value} {K : Post} {L' : List HP} (s : Sub L L') (h : Yld P k args F L' K) : Yld P k args F L K := fun w H => h w (s.holds H)
end
section
variable {P : Program} {n : Nat} {r0 : Option Nat} {d0 : List Deferred} {Q : QX} {ρ : Env} {F : FH} {L : List HP}
end
section
variable {P : Program} {fn : Func} {Q : Post} {ρ : Env} {F F0 : FH} {L : List HP}
end
end Go.Proofs.Ytnloeeaidknblaa.X
set_option linter.unusedSimpArgs false
set_option linter.unusedVariables false
namespace Go.Proofs.Ytnloeeaidknblaa.X
open Go
end Go.Proofs.Ytnloeeaidknblaa.X
set_option linter.unusedSimpArgs false
set_option linter.unusedVariables false
namespace Go.Proofs.Ytnloeeaidknblaa.X
open Go
abbrev FoundT := List Int × Int × StepT × Int
def FoundF (F : FH) (es : List Value) (x : FoundT) : Prop := ∃ a0 a4, es = [a0, .int .i64 x.2.1, .int .i64 x.2.2.1.1, .int .i64 x.2.2.1.2.1, a4, .int .i64 x.2.2.2] ∧ IntsF F a0 x.1 ∧ IntsF F a4 x.2.2.1.2.2
theorem FoundF.mono {F F' : FH} (le : F ≤ F') (es : List Value) (x : FoundT) (h : FoundF F es x) : FoundF F' es x := by
  obtain ⟨a0, a4, e, h0, h4⟩ := h
  exact ⟨a0, a4, e, h0.mono le, h4.mono le⟩
def FoundsF (F : FH) (v : Value) (xs : List FoundT) (cs : List Value) : Prop := ArrF F 6 v xs.length cs ∧ CO 6 FoundF ([], 0, (0, 0, []), 0) F cs xs
theorem FoundsF.mono {F F' : FH} {v : Value} {xs : List FoundT} {cs : List Value} (h : FoundsF F v xs cs) (le : F ≤ F') : FoundsF F' v xs cs := ⟨h.1.mono le, CO.mono (FoundF.mono le) h.2⟩
theorem FoundsF.slv {F : FH} {L : List HP} {v : Value} {xs : List FoundT} {cs : List Value} (h : FoundsF F v xs cs) : SlV F L v xs.length := SlV.arr h.1
theorem FoundsF.isSl {F : FH} {v : Value} {xs : List FoundT} {cs : List Value} (h : FoundsF F v xs cs) : IsSl v := h.1.isSl
theorem FoundsF.rd {F : FH} {v : Value} {xs : List FoundT} {cs : List Value} (h : FoundsF F v xs cs) {i : Nat} (hi : i < xs.length) : ∃ a0 a4, IntsF F a0 (xs.getD i ([], 0, (0, 0, []), 0)).1 ∧ IntsF F a4 (xs.getD i ([], 0, (0, 0, []), 0)).2.2.1.2.2 ∧ (∀ L j u, ([a0, .int .i64 (xs.getD i ([], 0, (0, 0, []), 0)).2.1, .int .i64 (xs.getD i ([], 0, (0, 0, []), 0)).2.2.1.1, .int .i64 (xs.getD i ([], 0, (0, 0, []), 0)).2.2.1.2.1, a4, .int .i64 (xs.getD i ([], 0, (0, 0, []), 0)).2.2.2] : List Value)[j]? = some u → Rd F L (elemA v (i * 6 + j)) u) ∧ (∀ j u, ([a0, .int .i64 (xs.getD i ([], 0, (0, 0, []), 0)).2.1, .int .i64 (xs.getD i ([], 0, (0, 0, []), 0)).2.2.1.1, .int .i64 (xs.getD i ([], 0, (0, 0, []), 0)).2.2.1.2.1, a4, .int .i64 (xs.getD i ([], 0, (0, 0, []), 0)).2.2.2] : List Value)[j]? = some u → cs[i * 6 + j]? = some u) := by
  obtain ⟨es, h1, h2, a0, a4, rfl, h0, h4⟩ := h.2.2 i hi
  refine ⟨a0, a4, h0, h4, fun L j u hu => ?_, fun j u hu => ?_⟩
  · have := Rd.arrN (L := L) (k := i * 6) (vs := [a0, .int .i64 (xs.getD i ([], 0, (0, 0, []), 0)).2.1, .int .i64 (xs.getD i ([], 0, (0, 0, []), 0)).2.2.1.1, .int .i64 (xs.getD i ([], 0, (0, 0, []), 0)).2.2.1.2.1, a4, .int .i64 (xs.getD i ([], 0, (0, 0, []), 0)).2.2.2]) h.1 (by rw [h1]; exact h2) j u hu
    rwa [elemA_add] at this
  · rw [← h2, List.getElem?_take] at hu
    split at hu
    · rwa [List.getElem?_drop] at hu
    · cases hu
def FoundsC (F : FH) (cs : List Value) (xs : List FoundT) : Prop := CO 6 FoundF ([], 0, (0, 0, []), 0) F cs xs
theorem FoundsC.mono {F F' : FH} {cs : List Value} {xs : List FoundT} (h : FoundsC F cs xs) (le : F ≤ F') : FoundsC F' cs xs := CO.mono (FoundF.mono le) h
theorem FoundsC.snoc {F : FH} {cs : List Value} {xs : List FoundT} {a0 a4 : Value} {y0 : List Int} {y1 : Int} {y2 : Int} {y3 : Int} {y4 : List Int} {y5 : Int} (h : FoundsC F cs xs) (h0 : IntsF F a0 y0) (h4 : IntsF F a4 y4) : FoundsC F (cs ++ [a0, .int .i64 y1, .int .i64 y2, .int .i64 y3, a4, .int .i64 y5]) (xs ++ [(y0, y1, (y2, y3, y4), y5)]) := CO.snoc h rfl ⟨a0, a4, rfl, h0, h4⟩
theorem FoundsC.get {F : FH} {cs : List Value} {xs : List FoundT} (h : FoundsC F cs xs) {i : Nat} (hi : i < xs.length) : ∃ a0 a4, IntsF F a0 (xs.getD i ([], 0, (0, 0, []), 0)).1 ∧ IntsF F a4 (xs.getD i ([], 0, (0, 0, []), 0)).2.2.1.2.2 ∧ (∀ j u, ([a0, .int .i64 (xs.getD i ([], 0, (0, 0, []), 0)).2.1, .int .i64 (xs.getD i ([], 0, (0, 0, []), 0)).2.2.1.1, .int .i64 (xs.getD i ([], 0, (0, 0, []), 0)).2.2.1.2.1, a4, .int .i64 (xs.getD i ([], 0, (0, 0, []), 0)).2.2.2] : List Value)[j]? = some u → cs[i * 6 + j]? = some u) := by
  obtain ⟨es, hl, ⟨a0, a4, rfl, h0, h4⟩, hr⟩ := CO.get h hi
  exact ⟨a0, a4, h0, h4, hr⟩
theorem FoundsC.fz {F : FH} {cs : List Value} {xs : List FoundT} {E : TypeId} {v : Value} {n : Nat} (h : FoundsC F cs xs) (hn : n = xs.length) (hf : Fz (slH E 6 v n cs) F) : FoundsF F v xs cs := by
  subst hn
  exact ⟨hf.sl, h⟩
abbrev MoveT := Int × Int × Bool × List Int
def MoveF (F : FH) (es : List Value) (x : MoveT) : Prop := ∃ a3, es = [.int .i64 x.1, .int .i64 x.2.1, .bool x.2.2.1, a3] ∧ IntsF F a3 x.2.2.2
theorem MoveF.mono {F F' : FH} (le : F ≤ F') (es : List Value) (x : MoveT) (h : MoveF F es x) : MoveF F' es x := by
  obtain ⟨a3, e, h3⟩ := h
  exact ⟨a3, e, h3.mono le⟩
def MovesF : FH → Value → List MoveT → Prop := SlOf 4 MoveF (0, 0, false, [])
theorem MovesF.mono {F F' : FH} {v : Value} {xs : List MoveT} (h : MovesF F v xs) (le : F ≤ F') : MovesF F' v xs := SlOf.mono (MoveF.mono le) h le
theorem MovesF.slv {F : FH} {L : List HP} {v : Value} {xs : List MoveT} (h : MovesF F v xs) : SlV F L v xs.length := SlOf.slv h
theorem MovesF.isSl {F : FH} {v : Value} {xs : List MoveT} (h : MovesF F v xs) : IsSl v := by obtain ⟨_, h, _⟩ := h; exact h.isSl
theorem MovesF.rd {F : FH} {v : Value} {xs : List MoveT} (h : MovesF F v xs) {i : Nat} (hi : i < xs.length) : ∃ a3, IntsF F a3 (xs.getD i (0, 0, false, [])).2.2.2 ∧ (∀ L j u, ([.int .i64 (xs.getD i (0, 0, false, [])).1, .int .i64 (xs.getD i (0, 0, false, [])).2.1, .bool (xs.getD i (0, 0, false, [])).2.2.1, a3] : List Value)[j]? = some u → Rd F L (elemA v (i * 4 + j)) u) ∧ True := by
  obtain ⟨es, hl, ⟨a3, rfl, h3⟩, hr⟩ := SlOf.get h hi
  exact ⟨a3, h3, hr, trivial⟩
def MovesC (F : FH) (cs : List Value) (xs : List MoveT) : Prop := CO 4 MoveF (0, 0, false, []) F cs xs
theorem MovesC.mono {F F' : FH} {cs : List Value} {xs : List MoveT} (h : MovesC F cs xs) (le : F ≤ F') : MovesC F' cs xs := CO.mono (MoveF.mono le) h
theorem MovesC.snoc {F : FH} {cs : List Value} {xs : List MoveT} {a3 : Value} {y0 : Int} {y1 : Int} {y2 : Bool} {y3 : List Int} (h : MovesC F cs xs) (h3 : IntsF F a3 y3) : MovesC F (cs ++ [.int .i64 y0, .int .i64 y1, .bool y2, a3]) (xs ++ [(y0, y1, y2, y3)]) := CO.snoc h rfl ⟨a3, rfl, h3⟩
theorem MovesC.get {F : FH} {cs : List Value} {xs : List MoveT} (h : MovesC F cs xs) {i : Nat} (hi : i < xs.length) : ∃ a3, IntsF F a3 (xs.getD i (0, 0, false, [])).2.2.2 ∧ (∀ j u, ([.int .i64 (xs.getD i (0, 0, false, [])).1, .int .i64 (xs.getD i (0, 0, false, [])).2.1, .bool (xs.getD i (0, 0, false, [])).2.2.1, a3] : List Value)[j]? = some u → cs[i * 4 + j]? = some u) := by
  obtain ⟨es, hl, ⟨a3, rfl, h3⟩, hr⟩ := CO.get h hi
  exact ⟨a3, h3, hr⟩
abbrev PolyT := Int × List Int
def PolyF (F : FH) (es : List Value) (x : PolyT) : Prop := ∃ a1, es = [.int .i64 x.1, a1] ∧ IntsF F a1 x.2
theorem PolyF.mono {F F' : FH} (le : F ≤ F') (es : List Value) (x : PolyT) (h : PolyF F es x) : PolyF F' es x := by
  obtain ⟨a1, e, h1⟩ := h
  exact ⟨a1, e, h1.mono le⟩
def PolysF : FH → Value → List PolyT → Prop := SlOf 2 PolyF (0, [])
theorem PolysF.mono {F F' : FH} {v : Value} {xs : List PolyT} (h : PolysF F v xs) (le : F ≤ F') : PolysF F' v xs := SlOf.mono (PolyF.mono le) h le
theorem PolysF.slv {F : FH} {L : List HP} {v : Value} {xs : List PolyT} (h : PolysF F v xs) : SlV F L v xs.length := SlOf.slv h
theorem PolysF.isSl {F : FH} {v : Value} {xs : List PolyT} (h : PolysF F v xs) : IsSl v := by obtain ⟨_, h, _⟩ := h; exact h.isSl
theorem PolysF.rd {F : FH} {v : Value} {xs : List PolyT} (h : PolysF F v xs) {i : Nat} (hi : i < xs.length) : ∃ a1, IntsF F a1 (xs.getD i (0, [])).2 ∧ (∀ L j u, ([.int .i64 (xs.getD i (0, [])).1, a1] : List Value)[j]? = some u → Rd F L (elemA v (i * 2 + j)) u) ∧ True := by
  obtain ⟨es, hl, ⟨a1, rfl, h1⟩, hr⟩ := SlOf.get h hi
  exact ⟨a1, h1, hr, trivial⟩
def PolysC (F : FH) (cs : List Value) (xs : List PolyT) : Prop := CO 2 PolyF (0, []) F cs xs
theorem PolysC.mono {F F' : FH} {cs : List Value} {xs : List PolyT} (h : PolysC F cs xs) (le : F ≤ F') : PolysC F' cs xs := CO.mono (PolyF.mono le) h
theorem PolysC.snoc {F : FH} {cs : List Value} {xs : List PolyT} {a1 : Value} {y0 : Int} {y1 : List Int} (h : PolysC F cs xs) (h1 : IntsF F a1 y1) : PolysC F (cs ++ [.int .i64 y0, a1]) (xs ++ [(y0, y1)]) := CO.snoc h rfl ⟨a1, rfl, h1⟩
theorem PolysC.get {F : FH} {cs : List Value} {xs : List PolyT} (h : PolysC F cs xs) {i : Nat} (hi : i < xs.length) : ∃ a1, IntsF F a1 (xs.getD i (0, [])).2 ∧ (∀ j u, ([.int .i64 (xs.getD i (0, [])).1, a1] : List Value)[j]? = some u → cs[i * 2 + j]? = some u) := by
  obtain ⟨es, hl, ⟨a1, rfl, h1⟩, hr⟩ := CO.get h hi
  exact ⟨a1, h1, hr⟩
abbrev LineT := Int × List (List Int) × List Int
def LineF (F : FH) (es : List Value) (x : LineT) : Prop := ∃ a1 a2, es = [.int .i64 x.1, a1, a2] ∧ RowsF F a1 x.2.1 ∧ IntsF F a2 x.2.2
theorem LineF.mono {F F' : FH} (le : F ≤ F') (es : List Value) (x : LineT) (h : LineF F es x) : LineF F' es x := by
  obtain ⟨a1, a2, e, h1, h2⟩ := h
  exact ⟨a1, a2, e, h1.mono le, h2.mono le⟩
def LinesF : FH → Value → List LineT → Prop := SlOf 3 LineF (0, [], [])
theorem LinesF.mono {F F' : FH} {v : Value} {xs : List LineT} (h : LinesF F v xs) (le : F ≤ F') : LinesF F' v xs := SlOf.mono (LineF.mono le) h le
theorem LinesF.slv {F : FH} {L : List HP} {v : Value} {xs : List LineT} (h : LinesF F v xs) : SlV F L v xs.length := SlOf.slv h
theorem LinesF.isSl {F : FH} {v : Value} {xs : List LineT} (h : LinesF F v xs) : IsSl v := by obtain ⟨_, h, _⟩ := h; exact h.isSl
theorem LinesF.rd {F : FH} {v : Value} {xs : List LineT} (h : LinesF F v xs) {i : Nat} (hi : i < xs.length) : ∃ a1 a2, RowsF F a1 (xs.getD i (0, [], [])).2.1 ∧ IntsF F a2 (xs.getD i (0, [], [])).2.2 ∧ (∀ L j u, ([.int .i64 (xs.getD i (0, [], [])).1, a1, a2] : List Value)[j]? = some u → Rd F L (elemA v (i * 3 + j)) u) ∧ True := by
  obtain ⟨es, hl, ⟨a1, a2, rfl, h1, h2⟩, hr⟩ := SlOf.get h hi
  exact ⟨a1, a2, h1, h2, hr, trivial⟩
def LinesC (F : FH) (cs : List Value) (xs : List LineT) : Prop := CO 3 LineF (0, [], []) F cs xs
theorem LinesC.mono {F F' : FH} {cs : List Value} {xs : List LineT} (h : LinesC F cs xs) (le : F ≤ F') : LinesC F' cs xs := CO.mono (LineF.mono le) h
theorem LinesC.snoc {F : FH} {cs : List Value} {xs : List LineT} {a1 a2 : Value} {y0 : Int} {y1 : List (List Int)} {y2 : List Int} (h : LinesC F cs xs) (h1 : RowsF F a1 y1) (h2 : IntsF F a2 y2) : LinesC F (cs ++ [.int .i64 y0, a1, a2]) (xs ++ [(y0, y1, y2)]) := CO.snoc h rfl ⟨a1, a2, rfl, h1, h2⟩
theorem LinesC.get {F : FH} {cs : List Value} {xs : List LineT} (h : LinesC F cs xs) {i : Nat} (hi : i < xs.length) : ∃ a1 a2, RowsF F a1 (xs.getD i (0, [], [])).2.1 ∧ IntsF F a2 (xs.getD i (0, [], [])).2.2 ∧ (∀ j u, ([.int .i64 (xs.getD i (0, [], [])).1, a1, a2] : List Value)[j]? = some u → cs[i * 3 + j]? = some u) := by
  obtain ⟨es, hl, ⟨a1, a2, rfl, h1, h2⟩, hr⟩ := CO.get h hi
  exact ⟨a1, a2, h1, h2, hr⟩
abbrev CRuleT := List Int × List Int × List (List Int × List Int)
def CRuleF (F : FH) (es : List Value) (x : CRuleT) : Prop := ∃ a0 a1 a2, es = [a0, a1, a2] ∧ IntsF F a0 x.1 ∧ IntsF F a1 x.2.1 ∧ PairsF F a2 x.2.2
theorem CRuleF.mono {F F' : FH} (le : F ≤ F') (es : List Value) (x : CRuleT) (h : CRuleF F es x) : CRuleF F' es x := by
  obtain ⟨a0, a1, a2, e, h0, h1, h2⟩ := h
  exact ⟨a0, a1, a2, e, h0.mono le, h1.mono le, h2.mono le⟩
def CRulesF : FH → Value → List CRuleT → Prop := SlOf 3 CRuleF ([], [], [])
theorem CRulesF.mono {F F' : FH} {v : Value} {xs : List CRuleT} (h : CRulesF F v xs) (le : F ≤ F') : CRulesF F' v xs := SlOf.mono (CRuleF.mono le) h le
theorem CRulesF.slv {F : FH} {L : List HP} {v : Value} {xs : List CRuleT} (h : CRulesF F v xs) : SlV F L v xs.length := SlOf.slv h
theorem CRulesF.isSl {F : FH} {v : Value} {xs : List CRuleT} (h : CRulesF F v xs) : IsSl v := by obtain ⟨_, h, _⟩ := h; exact h.isSl
theorem CRulesF.rd {F : FH} {v : Value} {xs : List CRuleT} (h : CRulesF F v xs) {i : Nat} (hi : i < xs.length) : ∃ a0 a1 a2, IntsF F a0 (xs.getD i ([], [], [])).1 ∧ IntsF F a1 (xs.getD i ([], [], [])).2.1 ∧ PairsF F a2 (xs.getD i ([], [], [])).2.2 ∧ (∀ L j u, ([a0, a1, a2] : List Value)[j]? = some u → Rd F L (elemA v (i * 3 + j)) u) ∧ True := by
  obtain ⟨es, hl, ⟨a0, a1, a2, rfl, h0, h1, h2⟩, hr⟩ := SlOf.get h hi
  exact ⟨a0, a1, a2, h0, h1, h2, hr, trivial⟩
def CRulesC (F : FH) (cs : List Value) (xs : List CRuleT) : Prop := CO 3 CRuleF ([], [], []) F cs xs
theorem CRulesC.mono {F F' : FH} {cs : List Value} {xs : List CRuleT} (h : CRulesC F cs xs) (le : F ≤ F') : CRulesC F' cs xs := CO.mono (CRuleF.mono le) h
theorem CRulesC.snoc {F : FH} {cs : List Value} {xs : List CRuleT} {a0 a1 a2 : Value} {y0 : List Int} {y1 : List Int} {y2 : List (List Int × List Int)} (h : CRulesC F cs xs) (h0 : IntsF F a0 y0) (h1 : IntsF F a1 y1) (h2 : PairsF F a2 y2) : CRulesC F (cs ++ [a0, a1, a2]) (xs ++ [(y0, y1, y2)]) := CO.snoc h rfl ⟨a0, a1, a2, rfl, h0, h1, h2⟩
theorem CRulesC.get {F : FH} {cs : List Value} {xs : List CRuleT} (h : CRulesC F cs xs) {i : Nat} (hi : i < xs.length) : ∃ a0 a1 a2, IntsF F a0 (xs.getD i ([], [], [])).1 ∧ IntsF F a1 (xs.getD i ([], [], [])).2.1 ∧ PairsF F a2 (xs.getD i ([], [], [])).2.2 ∧ (∀ j u, ([a0, a1, a2] : List Value)[j]? = some u → cs[i * 3 + j]? = some u) := by
  obtain ⟨es, hl, ⟨a0, a1, a2, rfl, h0, h1, h2⟩, hr⟩ := CO.get h hi
  exact ⟨a0, a1, a2, h0, h1, h2, hr⟩
end Go.Proofs.Ytnloeeaidknblaa.X
set_option linter.unusedSimpArgs false
set_option linter.unusedVariables false
namespace Go.Proofs.Ytnloeeaidknblaa.X
open Go
def XStepsF (F : FH) (v : Value) (xs : List StepT) (cs : List Value) : Prop := ArrF F 3 v xs.length cs ∧ StepsC F cs xs
theorem XStepsF.mono {F F' : FH} {v : Value} {xs : List StepT} {cs : List Value} (h : XStepsF F v xs cs) (le : F ≤ F') : XStepsF F' v xs cs := ⟨h.1.mono le, h.2.mono le⟩
theorem XStepsF.steps {F : FH} {v : Value} {xs : List StepT} {cs : List Value} (h : XStepsF F v xs cs) : StepsF F v xs := ⟨cs, h.1, h.2.2⟩
theorem XStepsF.slv {F : FH} {L : List HP} {v : Value} {xs : List StepT} {cs : List Value} (h : XStepsF F v xs cs) : SlV F L v xs.length := SlV.arr h.1
theorem XStepsF.isSl {F : FH} {v : Value} {xs : List StepT} {cs : List Value} (h : XStepsF F v xs cs) : IsSl v := h.1.isSl
theorem XStepsF.rd {F : FH} {v : Value} {xs : List StepT} {cs : List Value} (h : XStepsF F v xs cs) {i : Nat} (hi : i < xs.length) : ∃ c, IntsF F c (xs.getD i (0, 0, [])).2.2 ∧ (∀ L, Rd F L (elemA v (i * 3)) (.int .i64 (xs.getD i (0, 0, [])).1)) ∧ (∀ L, Rd F L (elemA v (i * 3 + 1)) (.int .i64 (xs.getD i (0, 0, [])).2.1)) ∧ (∀ L, Rd F L (elemA v (i * 3 + 2)) c) ∧ cs[i * 3 + 2]? = some c := by
  obtain ⟨es, h1, h2, c, rfl, hc⟩ := h.2.2 i hi
  have hq : ∀ j u, ([.int .i64 (xs.getD i (0, 0, [])).1, .int .i64 (xs.getD i (0, 0, [])).2.1, c] : List Value)[j]? = some u → cs[i * 3 + j]? = some u := by
    intro j u hu
    rw [← h2, List.getElem?_take] at hu
    split at hu
    · rwa [List.getElem?_drop] at hu
    · cases hu
  have hr : ∀ L j u, ([.int .i64 (xs.getD i (0, 0, [])).1, .int .i64 (xs.getD i (0, 0, [])).2.1, c] : List Value)[j]? = some u → Rd F L (elemA v (i * 3 + j)) u := by
    intro L j u hu
    have := Rd.arrN (L := L) (k := i * 3) (vs := [.int .i64 (xs.getD i (0, 0, [])).1, .int .i64 (xs.getD i (0, 0, [])).2.1, c]) h.1 (by rw [h1]; exact h2) j u hu
    rwa [elemA_add] at this
  exact ⟨c, hc, fun L => by simpa using hr L 0 _ rfl, fun L => hr L 1 _ rfl, fun L => hr L 2 _ rfl, hq 2 _ rfl⟩
section
variable {F F' : FH} {A B M : List HP} {h : HP}
theorem Fresh.none (k : Fresh F F' (star (A ++ B))) : Fresh F F' (star A) := by
  obtain ⟨m, hm, nd, hp⟩ := k
  obtain ⟨a, b, ha, hb, rfl⟩ := star_append.1 hm
  refine ⟨a, ha, ?_, fun p h' => hp p (List.mem_append_left _ h')⟩
  rw [List.map_append] at nd
  exact (List.nodup_append.1 nd).1
end
def FrStepsF (F0 F : FH) (e : TypeId) (v : Value) (xs : List StepT) : Prop := ∃ acs Ls, XStepsF F v xs acs ∧ DeepL 3 (StepO e) acs xs Ls ∧ Fresh F0 F (star Ls)
theorem FrStepsF.mono {F0 F F' : FH} {e : TypeId} {v : Value} {xs : List StepT} (h : FrStepsF F0 F e v xs) (le : F ≤ F') : FrStepsF F0 F' e v xs := by
  obtain ⟨acs, Ls, h1, h2, h3⟩ := h
  exact ⟨acs, Ls, h1.mono le, h2, h3.mono le⟩
theorem FrStepsF.base {F0 F F1 : FH} {e : TypeId} {v : Value} {xs : List StepT} (h : FrStepsF F1 F e v xs) (le : F0 ≤ F1) : FrStepsF F0 F e v xs := by
  obtain ⟨acs, Ls, h1, h2, h3⟩ := h
  exact ⟨acs, Ls, h1, h2, h3.base le⟩
theorem FrStepsF.isSl {F0 F : FH} {e : TypeId} {v : Value} {xs : List StepT} (h : FrStepsF F0 F e v xs) : IsSl v := by
  obtain ⟨acs, Ls, h1, _, _⟩ := h
  exact h1.isSl
theorem FrStepsF.steps {F0 F : FH} {e : TypeId} {v : Value} {xs : List StepT} (h : FrStepsF F0 F e v xs) : StepsF F v xs := by
  obtain ⟨acs, Ls, h1, _, _⟩ := h
  exact h1.steps
end Go.Proofs.Ytnloeeaidknblaa.X
set_option linter.unusedSimpArgs false
set_option linter.unusedVariables false
namespace Go.Proofs.Ytnloeeaidknblaa.M
section
variable {ar : List Int} {rs : Rules} {a b t : List Int} {ts : RowL} {n : Int} {m k : Nat}
end
end Go.Proofs.Ytnloeeaidknblaa.M
set_option linter.unusedSimpArgs false
set_option linter.unusedVariables false
namespace Go.Proofs.Ytnloeeaidknblaa.M
section
variable {α : Type} {q : α → Bool} {l : List α} {d : α} {k : Nat}
end
section
variable {ar : List Int} {rs es : Rules} {a b : List Int} {n : Int} {m k : Nat}
end
end Go.Proofs.Ytnloeeaidknblaa.M
set_option linter.unusedSimpArgs false
set_option linter.unusedVariables false
namespace Go.Proofs.Ytnloeeaidknblaa.M
abbrev StepV := Int × Int × List Int
section
variable {ar t : List Int} {rs : Rules} {p r k : Nat} {u : List Int}
end
abbrev FoundV := List Int × Int × StepV × Int
def isIn (all : List FoundV) (t : List Int) : Bool := all.any fun x => decide (x.1 = t)
section
variable {ar t : List Int} {rs : Rules} {n d : Int} {k f : Nat} {all : List FoundV} {ss : List StepV}
abbrev EL (all : List FoundV) (k : Nat) : FoundV := all.getD k ([], 0, (0, 0, []), 0)
def AllOk (ar : List Int) (all : List FoundV) : Prop := ∀ i, i < all.length → termOk ar (EL all i).1 = true
theorem AllOk.snoc {x : FoundV} (h : AllOk ar all) (hx : termOk ar x.1 = true) : AllOk ar (all ++ [x]) := by
  intro i hi
  rw [List.length_append, List.length_singleton] at hi
  rcases Nat.lt_or_ge i all.length with h1 | h1
  · have := h i h1; unfold EL at *; rwa [List.getD_eq_getElem?_getD, List.getElem?_append_left h1, ← List.getD_eq_getElem?_getD]
  · obtain rfl : i = all.length := by omega
    unfold EL; simp [List.getD]; exact hx
def DeepOk (n : Int) (all : List FoundV) : Prop := ∀ i, i < all.length → 0 ≤ (EL all i).2.2.2 ∧ (EL all i).2.2.2 ≤ n
theorem DeepOk.snoc {x : FoundV} (h : DeepOk n all) (hx : 0 ≤ x.2.2.2 ∧ x.2.2.2 ≤ n) : DeepOk n (all ++ [x]) := by
  intro i hi
  rw [List.length_append, List.length_singleton] at hi
  rcases Nat.lt_or_ge i all.length with h1 | h1
  · have := h i h1; unfold EL at *; rwa [List.getD_eq_getElem?_getD, List.getElem?_append_left h1, ← List.getD_eq_getElem?_getD]
  · obtain rfl : i = all.length := by omega
    unfold EL; simp [List.getD]; exact hx
theorem isIn_some {i : Nat} {u : List Int} (hi : i < all.length) (h : (EL all i).1 = u) : isIn all u = true := by
  unfold isIn
  rw [List.any_eq_true]
  refine ⟨EL all i, ?_, by simpa using h⟩
  unfold EL; simp [List.getD, hi]
end
section
variable {all : List FoundV} {x : FoundV} {i : Nat}
theorem EL_snoc {k : Nat} (hk : k < all.length) : EL (all ++ [x]) k = EL all k := by unfold EL; rw [List.getD_eq_getElem?_getD, List.getElem?_append_left hk, ← List.getD_eq_getElem?_getD]
end
end Go.Proofs.Ytnloeeaidknblaa.M
set_option linter.unusedSimpArgs false
set_option linter.unusedVariables false
namespace Go.Proofs.Ytnloeeaidknblaa.X
open Go
def FrIntsF (F0 F : FH) (e : TypeId) (v : Value) (xs : List Int) : Prop := Fresh F0 F (intsH e v xs)
theorem FrIntsF.mono {F0 F F' : FH} {e : TypeId} {v : Value} {xs : List Int} (h : FrIntsF F0 F e v xs) (le : F ≤ F') : FrIntsF F0 F' e v xs := Fresh.mono h le
theorem FrIntsF.base {F0 F F1 : FH} {e : TypeId} {v : Value} {xs : List Int} (h : FrIntsF F1 F e v xs) (le : F0 ≤ F1) : FrIntsF F0 F e v xs := Fresh.base h le
end Go.Proofs.Ytnloeeaidknblaa.X
set_option linter.unusedSimpArgs false
set_option linter.unusedVariables false
namespace Go.Proofs.Ytnloeeaidknblaa.X
open Go
end Go.Proofs.Ytnloeeaidknblaa.X
set_option linter.unusedSimpArgs false
set_option linter.unusedVariables false
namespace Go.Proofs.Ytnloeeaidknblaa.M
def Link (all : List FoundV) : Prop := (0 < all.length ∧ (EL all 0).2.1 = -1 ∧ (EL all 0).2.2.2 = 0) ∧ ∀ i, 0 < i → i < all.length → 0 ≤ (EL all i).2.1 ∧ (EL all i).2.1 < (i : Int) ∧ (EL all i).2.2.2 = (EL all (EL all i).2.1.toNat).2.2.2 + 1 ∧ (EL all i).2.2.1.2.2 = (EL all i).1
def Dist (all : List FoundV) : Prop := ∀ i j, i < j → j < all.length → (EL all i).1 ≠ (EL all j).1
section
variable {ar t : List Int} {rs : Rules} {n : Int} {all : List FoundV}
theorem EL_last {x : FoundV} : EL (all ++ [x]) all.length = x := by unfold EL; simp [List.getD]
theorem Link.snoc {k : Nat} {s : StepV} {d : Int} (h : Link all) (hk : k < all.length) (hd : d = (EL all k).2.2.2) : Link (all ++ [(s.2.2, (k : Int), s, d + 1)]) := by
  obtain ⟨⟨h0, h2, h3⟩, h4⟩ := h
  refine ⟨⟨by simp, by rw [EL_snoc h0]; exact h2, by rw [EL_snoc h0]; exact h3⟩, fun i hi hl => ?_⟩
  rw [List.length_append, List.length_singleton] at hl
  rcases Nat.lt_or_ge i all.length with h | h
  · obtain ⟨a, b, c, d⟩ := h4 i hi h
    rw [EL_snoc h]
    exact ⟨a, b, by rw [EL_snoc (by omega)]; exact c, d⟩
  · obtain rfl : i = all.length := by omega
    rw [EL_last]
    refine ⟨by dsimp only; omega, by dsimp only; omega, ?_, rfl⟩
    dsimp only
    rw [show ((k : Int)).toNat = k from by omega, EL_snoc hk, hd]
theorem Dist.snoc {x : FoundV} (h : Dist all) (hx : isIn all x.1 = false) : Dist (all ++ [x]) := by
  intro i j hij hj
  rw [List.length_append, List.length_singleton] at hj
  rcases Nat.lt_or_ge j all.length with h1 | h1
  · rw [EL_snoc h1, EL_snoc (by omega)]; exact h i j hij h1
  · obtain rfl : j = all.length := by omega
    rw [EL_last, EL_snoc hij]
    intro he
    rw [isIn_some hij he] at hx
    cases hx
end
end Go.Proofs.Ytnloeeaidknblaa.M
set_option linter.unusedSimpArgs false
set_option linter.unusedVariables false
namespace Go.Proofs.Ytnloeeaidknblaa.X
open Go
section
variable {F F' G F1 F2 : FH} {D D' : HP} {L M : List HP} {P : Program} {o : Oper} {ρ : Env} {K : Post} {e E : TypeId}
theorem Fresh.perm {A B : List HP} (h : Fresh F F' (star A)) (p : A.Perm B) : Fresh F F' (star B) := by
  obtain ⟨m, hm, nd, hp⟩ := h
  obtain ⟨l, hl, pl⟩ := star_perm p m hm
  exact ⟨l, hl, ((pl.map Prod.fst).nodup_iff).2 nd, fun q hq => hp q (pl.mem_iff.1 hq)⟩
theorem Fresh.deepM {s n : Nat} {α : Type} {R : List Value → α → List HP → Prop} {v : Value} {cs : List Value} {xs : List α} {Ls : List HP} (hd : DeepL s R cs xs Ls) (h : Fresh F G (star (M ++ Ls))) (le0 : F ≤ G) (k : Fresh G F' (slH E s v n cs)) (hn : n = xs.length) (le : G ≤ F') : Fresh F F' (star (M ++ [deepH s R E v xs])) := by
  subst hn
  obtain ⟨m, hm, nd, hp⟩ := Fresh.cons h le0 k le
  obtain ⟨p, r, h1, h2, rfl⟩ := hm
  obtain ⟨x, q, hx, hq, rfl⟩ := star_append.1 h2
  have hpm : (p ++ (x ++ q)).Perm (x ++ ((p ++ q) ++ [])) := by
    rw [List.append_nil, ← List.append_assoc, ← List.append_assoc]
    exact List.perm_append_comm.append_right q
  exact ⟨x ++ ((p ++ q) ++ []), star_append.2 ⟨x, (p ++ q) ++ [], hx, ⟨p ++ q, [], ⟨cs, Ls, hd, p, q, h1, hq, rfl⟩, rfl, rfl⟩, rfl⟩, ((hpm.map Prod.fst).nodup_iff).1 nd, fun w hw => hp w (hpm.mem_iff.2 hw)⟩
theorem Fresh.left {A B : List HP} (h : Fresh F F' (star (A ++ B))) : Fresh F F' (star A) := h.none
theorem Fresh.right {A B : List HP} (h : Fresh F F' (star (A ++ B))) : Fresh F F' (star B) := (h.perm List.perm_append_comm).none
theorem StepsC.get {F : FH} {cs : List Value} {xs : List StepT} (h : StepsC F cs xs) {i : Nat} (hi : i < xs.length) :
    ∃ a, IntsF F a (xs.getD i (0, 0, [])).2.2 ∧ cs[i * 3]? = some (.int .i64 (xs.getD i (0, 0, [])).1) ∧ cs[i * 3 + 1]? = some (.int .i64 (xs.getD i (0, 0, [])).2.1) ∧ cs[i * 3 + 2]? = some a := by
  obtain ⟨es, _, ⟨a, rfl, ha⟩, hg⟩ := CO.get h hi
  exact ⟨a, ha, by simpa using hg 0 _ rfl, hg 1 _ rfl, hg 2 _ rfl⟩
def FreshsF (F0 F : FH) (D : HP) : Prop := Fresh F0 F D
theorem FreshsF.mono {F0 F F' : FH} {D : HP} (h : FreshsF F0 F D) (le : F ≤ F') : FreshsF F0 F' D := Fresh.mono h le
theorem slH.isSl {s n : Nat} {v : Value} {cs : List Value} {l : OH} (h : slH E s v n cs l) : IsSl v := by
  rcases h.2 with ⟨b, rfl, _⟩ | ⟨b, c, sp, rfl, _⟩
  · exact ⟨_, _, _, rfl⟩
  · exact ⟨_, _, _, rfl⟩
theorem Holds.openD {α : Type} {s : Nat} {R : List Value → α → List HP → Prop} {v : Value} {xs : List α} {A B : List HP} {w : World} (H : Holds F (A ++ deepH s R E v xs :: B) w) :
    ∃ cs Ls F2, F ≤ F2 ∧ IsSl v ∧ DeepL s R cs xs Ls ∧ Fresh F F2 (star Ls) ∧ Holds F2 (A ++ slH E s v xs.length cs :: B) w := by
  obtain ⟨h1, h2, h3, h4, l, hl, nd, hp⟩ := H
  obtain ⟨a, m, c, ha, ⟨cs, Ls, hd, x, y, hx, hy, rfl⟩, hc, rfl⟩ := star_mid.1 hl
  have H2 : Holds F ((A ++ [slH E s v xs.length cs]) ++ star Ls :: B) w := ⟨h1, h2, h3, h4, (a ++ x) ++ (y ++ c), star_append.2 ⟨a ++ x, y ++ c, star_append.2 ⟨a, x, ha, ⟨x, [], hx, rfl, by simp⟩, rfl⟩, ⟨y, c, hy, hc, rfl⟩, rfl⟩, by simpa using nd, fun p hq => hp p (by simpa using hq)⟩
  obtain ⟨F2, le, hz, H3, _⟩ := H2.lendF
  exact ⟨cs, Ls, F2, le, hx.isSl, hd, hz, by simpa using H3⟩
theorem XL.openD {n : Nat} {ops : Array Oper} {l : List Oper} {Q : QX} {α : Type} {s : Nat} {R : List Value → α → List HP → Prop} {v : Value} {xs : List α} (A B : List HP) (hL : L = A ++ deepH s R E v xs :: B)
    (H : ∀ cs Ls F2, F ≤ F2 → IsSl v → DeepL s R cs xs Ls → Fresh F F2 (star Ls) → XL P n ops l Q ρ F2 (A ++ slH E s v xs.length cs :: B)) : XL P n ops l Q ρ F L := by
  subst hL
  intro ok a w r Hw
  obtain ⟨cs, Ls, F2, le, hs, hd, hz, H'⟩ := Hw.openD
  exact wpList_mono (fun _ _ _ q => low_le le q) _ _ _ (H cs Ls F2 le hs hd hz ok a w r H')
end
end Go.Proofs.Ytnloeeaidknblaa.X
set_option linter.unusedSimpArgs false
set_option linter.unusedVariables false
namespace Go.Proofs.Ytnloeeaidknblaa.X
open Go
section
variable {F F' G : FH} {e E : TypeId} {v : Value}
def MoveO (e : TypeId) (es : List Value) (x : MoveT) (K : List HP) : Prop := ∃ c, es = [.int .i64 x.1, .int .i64 x.2.1, .bool x.2.2.1, c] ∧ K = [intsH e c x.2.2.2]
abbrev movesD (e E : TypeId) (v : Value) (xs : List MoveT) : HP := deepH 4 (MoveO e) E v xs
theorem MoveO.fz (es : List Value) (x : MoveT) (K : List HP) (h : MoveO e es x K) (hz : ∃ l, star K l ∧ ∀ p ∈ l, F.cells p.1 = some p.2) : MoveF F es x := by
  obtain ⟨c, rfl, rfl⟩ := h
  exact ⟨c, rfl, intsH.fz (E := e) (frozen_star hz _ (by simp))⟩
theorem movesD.fz {xs : List MoveT} (h : Fz (movesD e E v xs) F) : MovesF F v xs := deepH.fz MoveO.fz h
theorem DeepL.moves {cs : List Value} {xs : List MoveT} {L : List HP} (h : DeepL 4 (MoveO e) cs xs L) (hz : Fresh G F (star L)) : MovesC F cs xs := h.co MoveO.fz (let ⟨m, h1, _, h3⟩ := hz; ⟨m, h1, fun p hp => (h3 p hp).2⟩)
theorem DeepL.movesNil {cs : List Value} {xs : List MoveT} {L : List HP} (h : DeepL 4 (MoveO e) cs xs L) (hz : star L []) : MovesC F cs xs := h.co MoveO.fz ⟨[], hz, fun p hp => absurd hp (by simp)⟩
theorem nilChain : star [intsH e (.slice none 0 0) [], movesD e E (.slice none 0 0) []] [] := ⟨[], [], nilLeaf, ⟨[], [], ⟨[], [], DeepL.nil, [], [], slH_nil E 4 none, rfl, rfl⟩, rfl, rfl⟩, rfl⟩
end
def WJM (F0 : FH) (e ES T : TypeId) (bw : Nat) (fv : Value) (tk : Nat → List MoveT) (tl : List HP) (k : Nat) (Fy : FH) (Ly : List HP) : Prop :=
  ∃ (sv : Value) (ms : List MoveT) (cs : List Value) (Ls : List HP) (m : Nat), IsSl sv ∧ MovesC Fy cs ms ∧ m = ms.length ∧ DeepL 4 (MoveO e) cs ms Ls ∧ Fresh F0 Fy (star Ls) ∧ ms = tk k ∧ Ly = cellsH bw [fv, sv] T :: slH ES 4 sv m cs :: tl
theorem WJM.start {F0 F : FH} {e ES T : TypeId} {bw k : Nat} {fv : Value} {tk : Nat → List MoveT} {tl : List HP} {b : Option Addr} (h : tk k = []) : WJM F0 e ES T bw fv tk tl k F (cellsH bw [fv, .slice b 0 0] T :: slH ES 4 (.slice b 0 0) 0 [] :: tl) :=
  ⟨_, [], [], [], 0, ⟨_, _, _, rfl⟩, CO.nil, rfl, .nil, .nilL, h.symm, rfl⟩
def FullN (n : Nat) (v : Value) : Prop := ∃ b, v = .slice b n n
section
variable {P : Program} {ρ : Env} {F : FH} {L : List HP} {K : Post} {d : Option Tmp} {ty : TypeId} {pos : String} {af : Array Edge} {g : Option (Nat × Bool)}
theorem XOp.slice3 {α : Type} {R : FH → List Value → α → Prop} {dd : α} {x lo hi : Operand} {t e : TypeId} {s : Nat} {v : Value} {xs : List α} {k1 k2 : IntKind}
    (hu : ∀ w, (underlying t).run P w = .ok (.slice e) w) (hs : ∀ w, (sizeOf e).run P w = .ok s w) (hx : evO ρ x = v) (hv : SlOf s R dd F v xs) (hhi : evO ρ lo = .int k1 (xs.length : Int)) (hmx : evO ρ hi = .int k2 (xs.length : Int))
    (k : ∀ v', SlOf s R dd F v' xs → FullN xs.length v' → K v' F L) : XOp P ⟨d, .slice t x none (some lo) (some hi), ty, pos, af, g⟩ ρ F L K := by
  intro w H
  obtain ⟨cs, ⟨hl, base, cap, rfl, hc, hb, hcell⟩, hr⟩ := hv
  have b1 := bound_run (P := P) (w := w) (k := k2) (l := xs.length) (y := cap) .slice3Acap hc
  have b2 := bound_run (P := P) (w := w) (k := k1) (l := xs.length) (y := xs.length) .slice3B (Nat.le_refl _)
  have hb' : base = none → xs.length = 0 := fun h => by have := hb h; omega
  refine .inl ⟨.slice base xs.length xs.length, w, F, L, ?_, FLe.refl F, H, k _ ⟨cs, ⟨hl, base, xs.length, rfl, Nat.le_refl _, hb', hcell⟩, hr⟩ ⟨_, rfl⟩⟩
  cases base with
  | none =>
    have h0 := hb' rfl
    simp only [h0, Int.natCast_zero] at b1 b2 hhi hmx ⊢
    simp [execOp, hx, hhi, hmx, Instr.sliceAt, Instr.slice, hu, hs, Instr.sliceBounds, b1, b2]
  | some a => simp [execOp, hx, hhi, hmx, Instr.sliceAt, Instr.slice, hu, hs, Instr.sliceBounds, b1, b2, Addr.add]
theorem XOp.appendFull {α : Type} {R : FH → List Value → α → Prop} (hR : ∀ F F' es x, F ≤ F' → R F es x → R F' es x) {dd : α} {x y : Operand} {t E : TypeId} {i : TypeInfo} {z : Value} {s bytes : Nat} {v v2 : Value} {xs ys : List α}
    (ht : ∀ w, (underlying t).run P w = .ok (.slice E) w) (hi : ∀ w, (typeInfo E).run P w = .ok i w) (hz : i.zero = some z) (hs : i.size = s) (hby : i.bytes = bytes) (hzs : z.cells.size = s)
    (hx : evO ρ x = v) (hy : evO ρ y = v2) (hv : SlOf s R dd F v xs) (hf : FullN xs.length v) (hv2 : SlOf s R dd F v2 ys)
    (h63 : xs.length + ys.length ≤ 1152921504606846976) (hbytes : (xs.length + ys.length) * bytes ≤ 140737488355328)
    (k : ∀ v' F', F ≤ F' → SlOf s R dd F' v' (xs ++ ys) → K v' F' L) :
    XOp P ⟨d, .call { callee := .builtin .append, args := #[x, y], argTypes := #[t, t] }, ty, pos, af, g⟩ ρ F L K := by
  intro w H
  have ht' := underlying_of_run ht
  have hi' := info_of_run hi
  obtain ⟨cs, ⟨hl, base, cap, rfl, hc, hb, hcell⟩, hr⟩ := hv
  obtain ⟨b0, hb0⟩ := hf
  obtain rfl : cap = xs.length := (Value.slice.inj hb0).2.2
  obtain ⟨ds, ⟨hl2, base2, cap2, rfl, hc2, hb2, hcell2⟩, hr2⟩ := hv2
  subst hs hby
  by_cases hm : ys.length = 0
  · have hys : ys = [] := List.eq_nil_of_length_eq_zero hm
    subst hys
    have hds : ds = [] := List.eq_nil_of_length_eq_zero (by simpa using hl2)
    subst hds
    have hf : (Builtin.firstCells i.size 0 (.slice base2 0 cap2)).run P w = .ok #[] w := by cases base2 <;> simp [Builtin.firstCells, loadCells, loadCellsFrom]
    have hrun : (Builtin.append_ #[t, t] ty #[.slice base xs.length xs.length, .slice base2 0 cap2]).run P w = .ok (.slice base xs.length xs.length) w := by
      cases base <;> simp [Builtin.append_, run_underlying ht', sizeOf, typeInfo, hi', Builtin.lenOf, hf, storeCells]
    refine .inl ⟨.slice base xs.length xs.length, w, F, L, ?_, FLe.refl F, H, k _ F (FLe.refl F) ?_⟩
    · simp [execOp, resolve, invoke, builtin, hx, hy, hrun]
    · rw [List.append_nil]; exact ⟨cs, ⟨hl, base, xs.length, rfl, Nat.le_refl _, hb, hcell⟩, hr⟩
  · cases base2 with
    | none => have := hb2 rfl; omega
    | some a2 =>
      have hnews : ∀ j u, ds[j]? = some u → w.cell? (a2.add j) = some u := fun j u hu => H.cell (hcell2 a2 rfl j u hu)
      have key : ∃ cap', xs.length + ys.length ≤ cap' ∧ (Builtin.append_ #[t, t] ty #[.slice base xs.length xs.length, .slice (some a2) ys.length cap2]).run P w =
          .ok (.slice (some ⟨w.heap.size, 0, none⟩) (xs.length + ys.length) cap') (w.drew.alloc (.cells ((cs ++ ds) ++ (Builtin.zeroCells z.cells (cap' - (xs.length + ys.length))).toList).toArray E)) := by
        cases base with
        | none =>
          have h0 := hb rfl
          have hcs : cs = [] := List.eq_nil_of_length_eq_zero (by rw [hl, h0, Nat.zero_mul])
          have hr0 := run_append_nil (P := P) (w := w) t ty E i z ht' hi' hz a2 ys.length cap2 ds hl2 hnews (by omega) (by omega) (by rw [h0, Nat.zero_add] at hbytes; omega)
          refine ⟨grownCap w ys.length 0 E, by have := grownCap_ge w ys.length 0 E; omega, ?_⟩
          rw [h0, hcs, Nat.zero_add, hr0]
          congr 3
          apply Array.ext'; simp
        | some b =>
          have holds : ∀ j u, cs[j]? = some u → w.cell? (b.add j) = some u := fun j u hu => H.cell (hcell b rfl j u hu)
          have hr1 := run_append_grow (P := P) (w := w) t ty E i z ht' hi' hz b xs.length xs.length cs hl holds a2 ys.length cap2 ds hl2 hnews (by omega) (by omega) (growslice_fits (by omega) hbytes)
          refine ⟨grownCap w (xs.length + ys.length) xs.length E, grownCap_ge _ _ _ _, ?_⟩
          rw [hr1]
          congr 3
          apply Array.ext'; simp
      obtain ⟨cap', hge, hrun⟩ := key
      have H1 := (show Holds F L w.drew from H.drew).new (.cells ((cs ++ ds) ++ (Builtin.zeroCells z.cells (cap' - (xs.length + ys.length))).toList).toArray E)
      have hlen2 : (cs ++ ds).length = (xs.length + ys.length) * i.size := by rw [List.length_append, hl, hl2, Nat.add_mul]
      have H2 := (Sub.mkSl (A := []) (B := L) (spare := (Builtin.zeroCells z.cells (cap' - (xs.length + ys.length))).toList) hlen2 hge (by simp [size_zeroCells, hzs])).holds H1
      obtain ⟨F2, le2, hz2, H3, _⟩ := Holds.lendF (A := []) (B := L) H2
      have hco : CO i.size R dd F2 (cs ++ ds) (xs ++ ys) := CO.append (CO.mono (fun es x h => hR F F2 es x le2 h) ⟨hl, hr⟩) (CO.mono (fun es x h => hR F F2 es x le2 h) ⟨hl2, hr2⟩)
      refine .inl ⟨_, _, F2, L, ?_, le2, H3, k _ F2 le2 (hco.fz (by rw [List.length_append]) hz2.fz)⟩
      simp [execOp, resolve, invoke, builtin, hx, hy, hrun]
theorem XOp.remC {x y : Operand} {t u : TypeId} {k : IntKind} {a b : Int} (hx : evO ρ x = .int k a) (hy : evO ρ y = .int k b) (h0 : 0 ≤ a) (hb : b ≠ 0) (kk : K (.int k (a % b)) F L) : XOp P ⟨d, .binOp .rem t x y u, ty, pos, af, g⟩ ρ F L K :=
  XOp.value (fun w _ => by simp [execOp, hx, hy, eqGuard, binOp, Op.intDiv, hb, IntWalk.rem_in _ _ h0]) kk
end
theorem StepsC.ones {F : FH} {cs : List Value} {xs : List StepT} (h : StepsC F cs xs) : ∀ u ∈ cs, u.oneCell' = true := by
  intro u hu
  obtain ⟨q, hq, rfl⟩ := List.getElem_of_mem hu
  have hl := h.1
  obtain ⟨es, h1, ⟨c, rfl, hc⟩, hg⟩ := CO.get h (i := q / 3) (by omega)
  have hj : q % 3 < 3 := Nat.mod_lt _ (by decide)
  have e : q / 3 * 3 + q % 3 = q := by omega
  have hx : ∀ v, [Value.int .i64 (xs.getD (q / 3) (0, 0, [])).1, .int .i64 (xs.getD (q / 3) (0, 0, [])).2.1, c][q % 3]? = some v → cs[q] = v := fun v hv => by
    have := hg (q % 3) v hv
    rw [e, List.getElem?_eq_getElem hq] at this
    exact Option.some.inj this
  obtain ⟨b, n, k, rfl⟩ := IntsF.isSl hc
  match hm : q % 3, hj with
  | 0, _ => rw [hx _ (by rw [hm]; rfl)]; rfl
  | 1, _ => rw [hx _ (by rw [hm]; rfl)]; rfl
  | 2, _ => rw [hx _ (by rw [hm]; rfl)]; rfl
theorem XOp.appendSteps {P : Program} {ρ : Env} {F : FH} {L : List HP} {K : Post} {d : Option Tmp} {ty : TypeId} {pos : String} {af : Array Edge} {g : Option (Nat × Bool)} {x y : Operand} {t E : TypeId} {i : TypeInfo} {z : Value} {n bytes : Nat} {v v2 : Value} {cs : List Value} {xs ys : List StepT} (A B : List HP)
    (ht : ∀ w, (underlying t).run P w = .ok (.slice E) w) (hi : ∀ w, (typeInfo E).run P w = .ok i w) (hz : i.zero = some z) (hs : i.size = 3) (hby : i.bytes = bytes) (hzs : z.cells.size = 3)
    (hx : evO ρ x = v) (hy : evO ρ y = v2) (hL : L = A ++ slH E 3 v n cs :: B) (hC : StepsC F cs xs) (hv2 : StepsF F v2 ys) (h63 : n + ys.length ≤ 1152921504606846976) (hbytes : (n + ys.length) * bytes ≤ 140737488355328)
    (k : ∀ v' ds, IsSl v' → StepsC F (cs ++ ds) (xs ++ ys) → K v' F (A ++ slH E 3 v' (n + ys.length) (cs ++ ds) :: B)) :
    XOp P ⟨d, .call { callee := .builtin .append, args := #[x, y], argTypes := #[t, t] }, ty, pos, af, g⟩ ρ F L K := by
  obtain ⟨ds, hA, hc2⟩ := SlOf.open hv2
  exact XOp.append A B ds ht hi hz hs hby hzs hx hy hL (SlV.arr hA) hc2.1 (fun j u hu => Rd.arr hA hu) (StepsC.ones hc2) h63 hbytes fun v' h1 _ _ => k v' ds h1 (CO.append hC hc2)
theorem set_four {cs : List Value} {k : Nat} {a b c d a' b' c' : Value} (h0 : cs[k * 4 + 0]? = some a) (h1 : cs[k * 4 + 1]? = some b) (h2 : cs[k * 4 + 2]? = some c) (h3 : cs[k * 4 + 3]? = some d) :
    ((cs.set (k * 4) a').set (k * 4 + 1) b').set (k * 4 + 2) c' = cs.take (k * 4) ++ [a', b', c', d] ++ cs.drop (k * 4 + 4) := by
  have hl3 := (List.getElem?_eq_some_iff.1 h3).1
  have e : cs.drop (k * 4) = [a, b, c, d] ++ cs.drop (k * 4 + 4) := by
    rw [List.drop_eq_getElem_cons (by omega), List.drop_eq_getElem_cons (i := k * 4 + 1) (by omega), List.drop_eq_getElem_cons (i := k * 4 + 1 + 1) (by omega), List.drop_eq_getElem_cons (i := k * 4 + 1 + 1 + 1) (by omega)]
    have g0 : cs[k * 4] = a := (List.getElem?_eq_some_iff.1 h0).2
    have g1 : cs[k * 4 + 1] = b := (List.getElem?_eq_some_iff.1 h1).2
    have g2 : cs[k * 4 + 1 + 1] = c := (List.getElem?_eq_some_iff.1 h2).2
    have g3 : cs[k * 4 + 1 + 1 + 1] = d := (List.getElem?_eq_some_iff.1 h3).2
    rw [g0, g1, g2, g3]
    rfl
  have hA : (cs.take (k * 4)).length = k * 4 := by rw [List.length_take]; omega
  have e2 : cs = cs.take (k * 4) ++ ([a, b, c, d] ++ cs.drop (k * 4 + 4)) := by rw [← e, List.take_append_drop]
  generalize cs.drop (k * 4 + 4) = B at *
  generalize cs.take (k * 4) = A at *
  subst e2
  rw [← hA, List.set_append_right _ _ (Nat.le_refl _), List.set_append_right _ _ (by omega), List.set_append_right _ _ (by omega), show A.length + 1 - A.length = 1 from by omega, show A.length + 2 - A.length = 2 from by omega, Nat.sub_self]
  simp
end Go.Proofs.Ytnloeeaidknblaa.X
set_option linter.unusedSimpArgs false
set_option linter.unusedVariables false
namespace Go.Proofs.Ytnloeeaidknblaa.M
def WalkB (f : List Int) (ss : List StepV) : Prop := f.length ≤ 60 ∧ ss.length ≤ 60 ∧ (∀ i, i < ss.length → (ss.getD i (0, 0, [])).2.2.length ≤ 60) ∧ (ss.flatMap flatStep).length ≤ 4000
theorem WalkB.nil : WalkB [] [] := ⟨by simp, by simp, fun i hi => by simp at hi, by simp⟩
theorem WalkB.mk {f : List Int} {ss : List StepV} (hf : f.length ≤ 60) (hs : ss.length ≤ 60) (h : ∀ s ∈ ss, s.2.2.length ≤ 60) : WalkB f ss := by
  have h0 : ∀ i, i < ss.length → (ss.getD i (0, 0, [])).2.2.length ≤ 60 := fun i hi => h _ (by simp [List.getD, hi])
  refine ⟨hf, hs, h0, ?_⟩
  have h1 := flatStep_len ss
  have h2 := gTo_bound h0 _ (Nat.le_refl _)
  have h4 : ss.length * 60 ≤ 60 * 60 := Nat.mul_le_mul_right 60 hs
  omega
section
variable {ar t u a b : List Int} {rs : Rules} {n : Int} {all : List FoundV} {k : Nat}
end
end Go.Proofs.Ytnloeeaidknblaa.M
set_option linter.unusedSimpArgs false
set_option linter.unusedVariables false
namespace Go.Proofs.Ytnloeeaidknblaa.M
section
variable {ar f g : List Int} {rs : Rules} {xs ys : List StepV}
abbrev WalkV := List Int × List StepV × Bool
def joinW (f : List Int) (xs : List StepV) (g : List Int) (ys : List StepV) : WalkV := if endL f xs = g ∧ xs.length + ys.length ≤ 60 then (f, xs ++ ys, true) else ([], [], false)
theorem joinW_yes (h : endL f xs = g) (hl : xs.length + ys.length ≤ 60) : joinW f xs g ys = (f, xs ++ ys, true) := if_pos ⟨h, hl⟩
theorem joinW_no (h : endL f xs ≠ g) : joinW f xs g ys = ([], [], false) := if_neg (fun hc => h hc.1)
theorem joinW_long (h : ¬ xs.length + ys.length ≤ 60) : joinW f xs g ys = ([], [], false) := if_neg (fun hc => h hc.2)
def joinedF (ar : List Int) (rs : Rules) (f : List Int) (xs : List StepV) (g : List Int) (ys : List StepV) : WalkV := if walkOkL ar rs f xs = true ∧ walkOkL ar rs g ys = true then joinW f xs g ys else ([], [], false)
theorem joinedF_yes (h : walkOkL ar rs f xs = true) (h2 : walkOkL ar rs g ys = true) : joinedF ar rs f xs g ys = joinW f xs g ys := if_pos ⟨h, h2⟩
theorem joinedF_no (h : ¬ (walkOkL ar rs f xs = true ∧ walkOkL ar rs g ys = true)) : joinedF ar rs f xs g ys = ([], [], false) := if_neg h
theorem walkOk_bnd (h : walkOkL ar rs f xs = true) : f.length ≤ 60 ∧ xs.length ≤ 60 ∧ ∀ i, i < xs.length → (xs.getD i (0, 0, [])).2.2.length ≤ 60 :=
  have h1 := walkOkL_iff.1 h
  ⟨(termOk_len (right_iff.1 h1.1).2).2, h1.2.1, fun i hi => (termOk_len (walkOk_to h hi)).2⟩
theorem mem_of_getD_le (h : ∀ i, i < xs.length → (xs.getD i (0, 0, [])).2.2.length ≤ 60) : ∀ s ∈ xs, s.2.2.length ≤ 60 := by
  intro s hs
  obtain ⟨i, hi, rfl⟩ := List.getElem_of_mem hs
  have := h i hi
  simpa [List.getD, hi] using this
theorem joinedF_bound : WalkB (joinedF ar rs f xs g ys).1 (joinedF ar rs f xs g ys).2.1 := by
  unfold joinedF
  split
  · rename_i h
    have h1 := walkOk_bnd h.1
    have h2 := walkOk_bnd h.2
    unfold joinW
    split
    · rename_i hl
      refine .mk h1.1 (by rw [List.length_append]; exact hl.2) (fun s hs => ?_)
      rcases List.mem_append.1 hs with hs | hs
      · exact mem_of_getD_le h1.2.2 s hs
      · exact mem_of_getD_le h2.2.2 s hs
    · exact .nil
  · exact .nil
end
end Go.Proofs.Ytnloeeaidknblaa.M
set_option linter.unusedSimpArgs false
set_option linter.unusedVariables false
namespace Go.Proofs.Ytnloeeaidknblaa.X
open Go Go.WideShapes Go.ChangeShapes Go.RowKit
def fhOf (w : World) : FH := ⟨fun b => w.heap[b]?, w.os, w.output, w.tape⟩
theorem holds_fhOf (w : World) : Holds (fhOf w) [] w := ⟨rfl, rfl, rfl, fun _ _ h => h, [], rfl, List.nodup_nil, fun p hp => absurd hp (by simp)⟩
theorem cell_fhOf (w : World) (a : Addr) : (fhOf w).cell? a = w.cell? a := by
  unfold FH.cell? World.cell? fhOf
  rfl
theorem below_of_holds {w w' : World} {F' : FH} {L' : List HP} (le : fhOf w ≤ F') (h : Holds F' L' w') : Below w.heap.size w w' := by
  have key : ∀ k o, w.heap[k]? = some o → w'.heap[k]? = some o := fun k o hk => h.cells k o (le.cells k o hk)
  refine ⟨h.os.trans le.os, h.tape.trans le.tape, h.output.trans le.output, ?_, fun k hk => ?_⟩
  · rcases Nat.eq_zero_or_pos w.heap.size with h0 | h0
    · omega
    · have h1 : w.heap[w.heap.size - 1]? = some (w.heap[w.heap.size - 1]'(by omega)) := Array.getElem?_eq_getElem (by omega)
      have h2 := (Array.getElem?_eq_some_iff.1 (key _ _ h1)).1
      omega
  · have h1 : w.heap[k]? = some (w.heap[k]'hk) := Array.getElem?_eq_getElem hk
    rw [h1]
    exact key _ _ h1
def Opens (P : Program) (t : TypeId) {α : Type} (R : FH → List Value → α → Prop) (B : α → Prop) : Prop :=
  ∀ (H : Type) (enc : TypeId × Value → H) (w : World) (base : Nat) (spare : Nat → Bool) (held : Bool) (fuel : Nat) (cs : List Value) (x : DataW H × List MemPlace),
    DataW.trod enc P w base spare held fuel t cs = some x → ∃ a, R (fhOf w) cs a ∧ B a
variable {P : Program} {t e : TypeId}
theorem opens_int {k : IntKind} (ht : P.underlying t = some (.int k)) : Opens P t (fun _ cs (n : Int) => cs = [.int k n]) (fun n => (Lit.int k n).wf = true) := by
  intro H enc w base spare held fuel cs x h
  obtain ⟨n, rfl, _, hw⟩ := DataW.trod_int ht h
  exact ⟨n, rfl, hw⟩
theorem opens_ints (ht : P.underlying t = some (.slice e)) (he : P.underlying e = some (.int .i64)) (hc : P.cellsOf e = 1) : Opens P t RowF (fun xs => xs.length ≤ 9223372036854775807) := by
  intro H enc w base spare held fuel cs x h
  rcases open_ints ht he hc h with ⟨rfl, _⟩ | ⟨a, len, cap, zs, rfl, hb, hl, hm, hz, _, hcell, _⟩
  · exact ⟨[], ⟨_, rfl, by simp, none, 0, rfl, by simp, fun _ => rfl, fun a h => by cases h⟩, by simp⟩
  · have hlz : len ≤ zs.length := by rw [hz]; split <;> omega
    have e1 : (zs.take len).length = len := by rw [List.length_take]; omega
    refine ⟨zs.take len, ⟨_, rfl, by simp, some a, cap, by rw [e1], by omega, (fun h => by cases h), ?_⟩, by unfold maxLen at hm; omega⟩
    intro a' ha i u hu
    obtain rfl := Option.some.inj ha
    have hi : i < len := by have := (List.getElem?_eq_some_iff.1 hu).1; simp at this; omega
    rw [cell_fhOf, hcell i (by omega)]
    rw [List.getElem?_map, List.getElem?_take, if_pos hi, List.getElem?_eq_getElem (by omega)] at hu
    simp only [Option.map_some, Option.some.injEq] at hu
    rw [← hu]
    simp [List.getD, List.getElem?_eq_getElem (show i < zs.length by omega)]
theorem opens_slice {α : Type} {R : FH → List Value → α → Prop} {B : α → Prop} {s : Nat} (d : α) (ht : P.underlying t = some (.slice e)) (hc : P.cellsOf e = s) (ho : Opens P e R B) :
    Opens P t (fun F cs (xs : List α) => ∃ v, cs = [v] ∧ SlOf s R d F v xs) (fun xs => xs.length ≤ 9223372036854775807 ∧ ∀ i, i < xs.length → B (xs.getD i d)) := by
  intro H enc w base spare held fuel cs x h
  rcases Go.Deep.open_slice ht h with ⟨rfl, _⟩ | ⟨a, len, cap, m, n, D, Pl, rfl, hb, hl, hm, hmm, _, hx⟩
  · exact ⟨[], ⟨_, rfl, [], ⟨by simp, none, 0, rfl, by simp, fun _ => rfl, fun a h => by cases h⟩, fun i hi => by simp at hi⟩, by simp, fun i hi => by simp at hi⟩
  · have hlm : len ≤ m := by rw [hmm]; split <;> omega
    rw [hc] at hx
    have each : ∀ i, i < len → ∃ q : α, ∃ cs' : List Value, cs'.length = s ∧ (∀ r, r < s → w.cell? (a.add (i * s + r)) = cs'[r]?) ∧ R (fhOf w) cs' q ∧ B q := by
      intro i hi
      obtain ⟨cs', h1, h2⟩ := hx i (by omega)
      obtain ⟨_, hlen, hcell⟩ := World.cells?_some h1
      obtain ⟨q, hq, hbq⟩ := ho H enc w base spare held n cs' _ h2
      exact ⟨q, cs', hlen, fun r hr => by rw [← hcell r hr, add_add], hq, hbq⟩
    have ⟨q, hq⟩ : ∃ q : Nat → α, ∀ i, i < len → ∃ cs' : List Value, cs'.length = s ∧ (∀ r, r < s → w.cell? (a.add (i * s + r)) = cs'[r]?) ∧ R (fhOf w) cs' (q i) ∧ B (q i) := by
      haveI : Inhabited α := ⟨d⟩
      exact Go.Deep.choose_lt each
    let V : Nat → Value := fun j => (w.cell? (a.add j)).getD undef
    have hV : ∀ j, j < len * s → w.cell? (a.add j) = some (V j) := by
      intro j hj
      have hs : 0 < s := by rcases Nat.eq_zero_or_pos s with h0 | h0; subst h0; simp at hj; exact h0
      have hdiv : j / s < len := (Nat.div_lt_iff_lt_mul hs).2 hj
      obtain ⟨cs', hl', hcell, _⟩ := hq (j / s) hdiv
      have hr := hcell (j % s) (Nat.mod_lt _ hs)
      have e1 : j / s * s + j % s = j := by rw [Nat.mul_comm]; exact Nat.div_add_mod j s
      rw [e1] at hr
      have hlt : j % s < cs'.length := by rw [hl']; exact Nat.mod_lt _ hs
      rw [List.getElem?_eq_getElem hlt] at hr
      show w.cell? (a.add j) = some ((w.cell? (a.add j)).getD undef)
      rw [hr]; rfl
    have hxl : ((List.range len).map q).length = len := by simp
    have hgd : ∀ i, i < len → ((List.range len).map q).getD i d = q i := fun i hi => by simp [List.getD, hi]
    refine ⟨(List.range len).map q, ⟨_, rfl, (List.range (len * s)).map V, ⟨by simp, some a, cap, by rw [hxl], by omega, (fun h => by cases h), ?_⟩, ?_⟩, by rw [hxl]; unfold maxLen at hm; omega, fun i hi => ?_⟩
    · intro a' ha i u hu
      obtain rfl := Option.some.inj ha
      have hi : i < len * s := by have := (List.getElem?_eq_some_iff.1 hu).1; simpa using this
      rw [cell_fhOf, hV i hi]
      rw [List.getElem?_map, List.getElem?_range hi] at hu
      exact hu
    · intro i hi
      rw [hxl] at hi
      obtain ⟨cs', hl', hcell, hR, _⟩ := hq i hi
      refine ⟨cs', hl', ?_, by rw [hgd i hi]; exact hR⟩
      have hle : i * s + s ≤ len * s := by
        have : (i + 1) * s ≤ len * s := Nat.mul_le_mul_right s hi
        rwa [Nat.succ_mul] at this
      apply List.ext_getElem?
      intro r
      rcases Nat.lt_or_ge r s with hr | hr
      · rw [List.getElem?_take, if_pos hr, List.getElem?_drop, List.getElem?_map, List.getElem?_range (by omega), ← hcell r hr, hV _ (by omega)]; rfl
      · rw [List.getElem?_eq_none (by simp; omega), List.getElem?_eq_none (by omega)]
    · rw [hxl] at hi
      obtain ⟨_, _, _, _, hB⟩ := hq i hi
      rw [hgd i hi]
      exact hB
theorem opens_struct1 {α : Type} {R : FH → List Value → α → Prop} {B : α → Prop} {f0 : Field} (ht : P.underlying t = some (.struct #[f0])) (ho : f0.offset = 0) (hc : P.cellsOf f0.type = P.cellsOf t) (h0 : Opens P f0.type R B) : Opens P t R B := by
  intro H enc w base spare held fuel cs x h
  obtain ⟨y0, n, _, hl, h⟩ := trod_struct1 ht h
  rw [ho, hc, List.drop_zero, ← hl, List.take_length] at h
  exact h0 H enc w base spare held n cs _ h
theorem opens_struct2 {α β : Type} {R0 : FH → List Value → α → Prop} {B0 : α → Prop} {R1 : FH → List Value → β → Prop} {B1 : β → Prop} {f0 f1 : Field} (ht : P.underlying t = some (.struct #[f0, f1])) (o0 : f0.offset = 0) (o1 : f1.offset = P.cellsOf f0.type)
    (hc : P.cellsOf f0.type + P.cellsOf f1.type = P.cellsOf t) (h0 : Opens P f0.type R0 B0) (h1 : Opens P f1.type R1 B1) : Opens P t (fun F cs (x : α × β) => ∃ a b, cs = a ++ b ∧ R0 F a x.1 ∧ R1 F b x.2) (fun x => B0 x.1 ∧ B1 x.2) := by
  intro H enc w base spare held fuel cs x h
  obtain ⟨y0, y1, n, _, hl, g0, g1⟩ := trod_struct2 ht h
  rw [o0, List.drop_zero] at g0
  rw [o1] at g1
  obtain ⟨a, ha, ba⟩ := h0 H enc w base spare held n _ _ g0
  obtain ⟨b, hb, bb⟩ := h1 H enc w base spare held n _ _ g1
  refine ⟨(a, b), ⟨_, _, ?_, ha, hb⟩, ba, bb⟩
  rw [List.take_of_length_le (l := cs.drop _) (by rw [List.length_drop]; omega), List.take_append_drop]
theorem opens_struct3 {α β γ : Type} {R0 : FH → List Value → α → Prop} {B0 : α → Prop} {R1 : FH → List Value → β → Prop} {B1 : β → Prop} {R2 : FH → List Value → γ → Prop} {B2 : γ → Prop} {f0 f1 f2 : Field} (ht : P.underlying t = some (.struct #[f0, f1, f2]))
    (o0 : f0.offset = 0) (o1 : f1.offset = P.cellsOf f0.type) (o2 : f2.offset = P.cellsOf f0.type + P.cellsOf f1.type) (hc : P.cellsOf f0.type + P.cellsOf f1.type + P.cellsOf f2.type = P.cellsOf t)
    (h0 : Opens P f0.type R0 B0) (h1 : Opens P f1.type R1 B1) (h2 : Opens P f2.type R2 B2) : Opens P t (fun F cs (x : α × β × γ) => ∃ a b c, cs = a ++ (b ++ c) ∧ R0 F a x.1 ∧ R1 F b x.2.1 ∧ R2 F c x.2.2) (fun x => B0 x.1 ∧ B1 x.2.1 ∧ B2 x.2.2) := by
  intro H enc w base spare held fuel cs x h
  obtain ⟨xs, n, _, _, hl, hlen, hf⟩ := DataW.trod_struct ht h
  match xs, hlen with
  | [y0, y1, y2], _ =>
    have g0 := hf 0 f0 rfl
    have g1 := hf 1 f1 rfl
    have g2 := hf 2 f2 rfl
    rw [o0, List.drop_zero] at g0
    rw [o1] at g1
    rw [o2] at g2
    obtain ⟨a, ha, ba⟩ := h0 H enc w base spare held n _ _ g0
    obtain ⟨b, hb, bb⟩ := h1 H enc w base spare held n _ _ g1
    obtain ⟨c, hc', bc⟩ := h2 H enc w base spare held n _ _ g2
    refine ⟨(a, b, c), ⟨_, _, _, ?_, ha, hb, hc'⟩, ba, bb, bc⟩
    rw [List.take_of_length_le (l := cs.drop (P.cellsOf f0.type + P.cellsOf f1.type)) (by rw [List.length_drop]; omega), ← List.drop_drop, List.take_append_drop, List.take_append_drop]
theorem Opens.mono {α : Type} {R R' : FH → List Value → α → Prop} {B B' : α → Prop} (h : Opens P t R B) (hR : ∀ F cs a, R F cs a → R' F cs a) (hB : ∀ a, B a → B' a) : Opens P t R' B' := fun H enc w base spare held fuel cs x hx =>
  let ⟨a, h1, h2⟩ := h H enc w base spare held fuel cs x hx
  ⟨a, hR _ _ _ h1, hB _ h2⟩
abbrev M63 : Nat := 9223372036854775807
theorem opens_pairs {f0 f1 : Field} {q0 q1 : TypeId} (ht : P.underlying t = some (.slice e)) (he : P.underlying e = some (.struct #[f0, f1])) (ce : P.cellsOf e = 2) (o0 : f0.offset = 0) (o1 : f1.offset = 1)
    (c0 : P.cellsOf f0.type = 1) (c1 : P.cellsOf f1.type = 1) (u0 : P.underlying f0.type = some (.slice q0)) (u1 : P.underlying f1.type = some (.slice q1)) (w0 : P.underlying q0 = some (.int .i64)) (w1 : P.underlying q1 = some (.int .i64))
    (k0 : P.cellsOf q0 = 1) (k1 : P.cellsOf q1 = 1) :
    Opens P t (fun F cs (xs : List (List Int × List Int)) => ∃ v, cs = [v] ∧ PairsF F v xs) (fun xs => xs.length ≤ M63 ∧ ∀ i, i < xs.length → (xs.getD i ([], [])).1.length ≤ M63 ∧ (xs.getD i ([], [])).2.length ≤ M63) :=
  opens_slice ([], []) ht ce ((opens_struct2 he o0 (by rw [o1, c0]) (by rw [c0, c1, ce]) (opens_ints u0 w0 k0) (opens_ints u1 w1 k1)).mono
    (by rintro F cs x ⟨_, _, rfl, ⟨a, rfl, ha⟩, ⟨b, rfl, hb⟩⟩; exact ⟨a, b, rfl, ha, hb⟩) (fun _ h => h))
theorem opens_steps {f0 f1 f2 : Field} {q2 : TypeId} (ht : P.underlying t = some (.slice e)) (he : P.underlying e = some (.struct #[f0, f1, f2])) (ce : P.cellsOf e = 3) (o0 : f0.offset = 0) (o1 : f1.offset = 1) (o2 : f2.offset = 2)
    (c0 : P.cellsOf f0.type = 1) (c1 : P.cellsOf f1.type = 1) (c2 : P.cellsOf f2.type = 1) (u0 : P.underlying f0.type = some (.int .i64)) (u1 : P.underlying f1.type = some (.int .i64)) (u2 : P.underlying f2.type = some (.slice q2))
    (w2 : P.underlying q2 = some (.int .i64)) (k2 : P.cellsOf q2 = 1) :
    Opens P t (fun F cs (xs : List StepT) => ∃ v, cs = [v] ∧ StepsF F v xs) (fun xs => xs.length ≤ M63 ∧ ∀ i, i < xs.length → (xs.getD i (0, 0, [])).2.2.length ≤ M63 ∧ (Lit.int .i64 (xs.getD i (0, 0, [])).1).wf = true ∧ (Lit.int .i64 (xs.getD i (0, 0, [])).2.1).wf = true) :=
  opens_slice (R := StepF) (B := fun x : StepT => x.2.2.length ≤ M63 ∧ (Lit.int .i64 x.1).wf = true ∧ (Lit.int .i64 x.2.1).wf = true) ((0 : Int), (0 : Int), ([] : List Int)) ht ce ((opens_struct3 he o0 (by rw [o1, c0]) (by rw [o2, c0, c1]) (by rw [c0, c1, c2, ce]) (opens_int u0) (opens_int u1) (opens_ints u2 w2 k2)).mono
    (by rintro F cs x ⟨_, _, _, rfl, rfl, rfl, ⟨c, rfl, hc⟩⟩; exact ⟨c, rfl, hc⟩) (fun _ h => ⟨h.2.2, h.1, h.2.1⟩))
theorem opens_s1 {t0 : TypeId} {n : Nat} {α : Type} {R : FH → List Value → α → Prop} {B : α → Prop} {f0 : Field} (ht : P.underlying t = some (.struct #[f0])) (e0 : f0.type = t0) (o0 : f0.offset = 0) (c0 : P.cellsOf t0 = n) (ct : P.cellsOf t = n) (h0 : Opens P t0 R B) : Opens P t R B := by
  subst e0
  exact opens_struct1 ht o0 (c0.trans ct.symm) h0
theorem opens_s2 {t0 t1 : TypeId} {n0 n1 n : Nat} {α β : Type} {R0 : FH → List Value → α → Prop} {B0 : α → Prop} {R1 : FH → List Value → β → Prop} {B1 : β → Prop} {f0 f1 : Field} (ht : P.underlying t = some (.struct #[f0, f1]))
    (e0 : f0.type = t0) (e1 : f1.type = t1) (o0 : f0.offset = 0) (o1 : f1.offset = n0) (c0 : P.cellsOf t0 = n0) (c1 : P.cellsOf t1 = n1) (ct : P.cellsOf t = n) (hn : n0 + n1 = n) (h0 : Opens P t0 R0 B0) (h1 : Opens P t1 R1 B1) :
    Opens P t (fun F cs (x : α × β) => ∃ a b, cs = a ++ b ∧ R0 F a x.1 ∧ R1 F b x.2) (fun x => B0 x.1 ∧ B1 x.2) := by
  subst e0 e1
  exact opens_struct2 ht o0 (o1.trans c0.symm) (by rw [c0, c1, ct, hn]) h0 h1
theorem opens_ps {t0 t1 : TypeId} {f0 f1 : Field} {q0 q1 : TypeId} (ht : P.underlying t = some (.slice e)) (he : P.underlying e = some (.struct #[f0, f1])) (e0 : f0.type = t0) (e1 : f1.type = t1) (o0 : f0.offset = 0) (o1 : f1.offset = 1) (ce : P.cellsOf e = 2)
    (c0 : P.cellsOf t0 = 1) (c1 : P.cellsOf t1 = 1) (u0 : P.underlying t0 = some (.slice q0)) (u1 : P.underlying t1 = some (.slice q1)) (w0 : P.underlying q0 = some (.int .i64)) (w1 : P.underlying q1 = some (.int .i64)) (k0 : P.cellsOf q0 = 1) (k1 : P.cellsOf q1 = 1) :
    Opens P t (fun F cs (xs : List (List Int × List Int)) => ∃ v, cs = [v] ∧ PairsF F v xs) (fun xs => xs.length ≤ M63 ∧ ∀ i, i < xs.length → (xs.getD i ([], [])).1.length ≤ M63 ∧ (xs.getD i ([], [])).2.length ≤ M63) := by
  subst e0 e1
  exact opens_pairs ht he ce o0 o1 c0 c1 u0 u1 w0 w1 k0 k1
theorem opens_ss {t0 t1 t2 : TypeId} {f0 f1 f2 : Field} {q2 : TypeId} (ht : P.underlying t = some (.slice e)) (he : P.underlying e = some (.struct #[f0, f1, f2])) (e0 : f0.type = t0) (e1 : f1.type = t1) (e2 : f2.type = t2) (o0 : f0.offset = 0) (o1 : f1.offset = 1) (o2 : f2.offset = 2) (ce : P.cellsOf e = 3)
    (c0 : P.cellsOf t0 = 1) (c1 : P.cellsOf t1 = 1) (c2 : P.cellsOf t2 = 1) (u0 : P.underlying t0 = some (.int .i64)) (u1 : P.underlying t1 = some (.int .i64)) (u2 : P.underlying t2 = some (.slice q2)) (w2 : P.underlying q2 = some (.int .i64)) (k2 : P.cellsOf q2 = 1) :
    Opens P t (fun F cs (xs : List StepT) => ∃ v, cs = [v] ∧ StepsF F v xs) (fun xs => xs.length ≤ M63 ∧ ∀ i, i < xs.length → (xs.getD i (0, 0, [])).2.2.length ≤ M63 ∧ (Lit.int .i64 (xs.getD i (0, 0, [])).1).wf = true ∧ (Lit.int .i64 (xs.getD i (0, 0, [])).2.1).wf = true) := by
  subst e0 e1 e2
  exact opens_steps ht he ce o0 o1 o2 c0 c1 c2 u0 u1 u2 w2 k2
theorem Opens.slv {α : Type} {R : FH → List Value → α → Prop} {B : α → Prop} (h : Opens P t R B) (ht : P.underlying t = some (.slice e)) {H : Type} {enc : TypeId × Value → H} {w : World} {r : Reach} {base b0 : Nat} {spare : Nat → Bool} {held : Bool} {v : Value} {d : DataW H} {ps : List MemPlace}
    (hv : Value.okWide P w r b0 t v) (ht' : DataW.Trod enc P w base spare held t v d ps) : ∃ a, R (fhOf w) [v] a ∧ B a := by
  obtain ⟨a, l, c, rfl⟩ := okWide_slice ht hv
  obtain ⟨n, hn⟩ := ht'
  exact h H enc w base spare held n _ _ hn
theorem Opens.agg {α : Type} {R : FH → List Value → α → Prop} {B : α → Prop} (h : Opens P t R B) {fs : Array Field} (ht : P.underlying t = some (.struct fs)) {H : Type} {enc : TypeId × Value → H} {w : World} {r : Reach} {base b0 : Nat} {spare : Nat → Bool} {held : Bool} {v : Value} {d : DataW H} {ps : List MemPlace}
    (hv : Value.okWide P w r b0 t v) (ht' : DataW.Trod enc P w base spare held t v d ps) : ∃ cs : List Value, v = .agg cs.toArray ∧ ∃ a, R (fhOf w) cs a ∧ B a := by
  obtain ⟨cs, rfl, _⟩ := okWide_struct ht hv
  obtain ⟨n, hn⟩ := ht'
  exact ⟨cs.toList, by simp, h H enc w base spare held n _ _ hn⟩
theorem Opens.int {k : IntKind} (ht : P.underlying t = some (.int k)) {H : Type} {enc : TypeId × Value → H} {w : World} {r : Reach} {base b0 : Nat} {spare : Nat → Bool} {held : Bool} {v : Value} {d : DataW H} {ps : List MemPlace}
    (hv : Value.okWide P w r b0 t v) (ht' : DataW.Trod enc P w base spare held t v d ps) : ∃ n, v = .int k n ∧ (Lit.int k n).wf = true := by
  obtain ⟨n, rfl, _, _, hw⟩ := open_int ht hv ht'
  exact ⟨n, rfl, hw⟩
theorem trodAll_below {H : Type} {enc : TypeId × Value → H} (hl : laidOutB P = true) {W W' : World} (hb : Below W.heap.size W W') {sp : Nat → Bool} :
    ∀ {ts : List TypeId} {vs : List Value} {ds : List (DataW H)} {ps : List MemPlace}, (ts.all fun t => P.readableRec t && decide (t < P.types.size)) = true → DataW.TrodAll enc P W 0 (fun _ => true) true ts vs ds ps →
      (∀ x ∈ ps, x.block < W.heap.size) → (∀ p ∈ ps, sp p.block = true) → DataW.TrodAll enc P W' 0 sp true ts vs ds ps
  | [], [], [], _, _, h, _, _ => h
  | [], _ :: _, _, _, _, h, _, _ => by cases h
  | [], [], _ :: _, _, _, h, _, _ => by cases h
  | _ :: _, [], _, _, _, h, _, _ => by cases h
  | _ :: _, _ :: _, [], _, _, h, _, _ => by cases h
  | t :: ts, v :: vs, d :: ds, ps, hr, h, hlt, hsp => by
    obtain ⟨p, q, h1, h2, rfl⟩ := h
    simp only [List.all_cons, Bool.and_eq_true, decide_eq_true_eq] at hr
    exact ⟨p, q, Go.WideElems.Trod_stays hl hr.1.1 hr.1.2 h1 (fun x hx => hb.same (hlt x (List.mem_append_left _ hx))) (fun x hx => hsp x (List.mem_append_left _ hx)),
      trodAll_below hl hb hr.2 h2 (fun x hx => hlt x (List.mem_append_right _ hx)) (fun x hx => hsp x (List.mem_append_right _ hx)), rfl⟩
theorem post_of_law {H : Type} {enc : TypeId × Value → H} {f : Func} {s : ChangeSpec} {apart fresh handsOn : Bool} {W W' : World} {args : Array Value} {ds gs : List (DataW H)} {before : List MemPlace} {tb : TypeId}
    (hs : s.vars = []) (hfn : s.fn H (ds ++ gs) = { results := [.lit (.bool true)], args := ds }) (hl : laidOutB P = true) (hr : (f.params.toList.all fun t => P.readableRec t && decide (t < P.types.size)) = true)
    (hres : f.resultTypes = #[tb]) (htb : P.underlying tb = some .bool) (hW : DataW.Whole enc P f.params.toList s.vars apart W args.toList ds gs before) (hb : Below W.heap.size W W') : s.post enc P f apart fresh handsOn false W args (.bool true) W' := by
  have hlt := hW.lt
  have hW' := hW
  obtain ⟨p, q, hA, hV, rfl, _, _⟩ := hW
  rw [hs] at hV
  obtain ⟨rfl, rfl⟩ := trodVars_none hV
  refine ⟨ds, [], p ++ [], [], p, [], hW', ?_, ?_, ?_, ?_, fun h => by cases h⟩
  · rw [hfn, hres]
    exact trodAll_cons_mk (shut_bool htb _) trodAll_mk0
  · rw [hfn]
    exact trodAll_below hl hb hr hA (fun x hx => hlt x (by simpa using hx)) (fun x hx => by simpa using hlt x (by simpa using hx))
  · rw [hfn, hs]; rfl
  · exact World.keptBut_mono (fun x hx => ⟨hx, .inr (.inl (by simpa using hx))⟩) (hb.frame (· ∈ p ++ []))
theorem Does.atTop {f : FuncId} {args : List Value} {W : World} (h : Does P f args (fhOf W) [] fun v _ _ => v = .bool true) : Calls P f args.toArray W fun e W' => e = .returned (.bool true) ∧ Below W.heap.size W W' :=
  (h W (holds_fhOf W)).mono fun _ _ ⟨_, _, _, he, le, H, hv⟩ => ⟨by rw [he, hv], below_of_holds le H⟩
end Go.Proofs.Ytnloeeaidknblaa.X
set_option linter.unusedSimpArgs false
set_option linter.unusedVariables false
namespace Go.Proofs.Ytnloeeaidknblaa.X
open Go Go.WideShapes Go.ChangeShapes Go.RowKit
variable {P : Program} {t e : TypeId}
end Go.Proofs.Ytnloeeaidknblaa.X
